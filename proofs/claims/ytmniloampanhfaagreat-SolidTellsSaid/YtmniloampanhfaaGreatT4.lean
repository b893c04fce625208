/- What the functions compute that the law reaches, part 4 -/
import Derived.Test.YtmniloampanhfaaGreatT3
namespace Go.Proofs.YtmniloampanhfaaGreat
open Go.Gb
set_option linter.unusedVariables false
set_option linter.unusedSimpArgs false
set_option maxRecDepth 100000
def ref06_Form_L1 (x1 : (List Int)) (s1 : (List Rect) × (List Int) × Int × Int) (s2 : (List Rect) × Int) : Option (Flow ((List Rect) × Int) ((List Rect))) :=
 if (decide (s2.2 < (s2.1.length : Int))) then
  (addI s1.2.2.2 1).bind fun x2 =>
  (getI x1 x2).bind fun x3 =>
  (getI s2.1 s2.2).bind fun x4 =>
  (some (s2.1.set (s2.2).toNat ({ x4 with X1 := x3 }))).bind fun x5 =>
  (addI s2.2 1).bind fun x6 =>
  some (.go (x5, x6))
 else
  some (.ex 2 (s2.1, s2.2))
def ref06_Form_L2 (x1 : (List Int)) (s1 : (List Rect) × (List Int) × Int × Int) (x2 : (List Int)) (s2 : (List Rect) × Int) : Option (Flow ((List Rect) × Int) ((List Rect))) :=
 (addI s2.2 1).bind fun x3 =>
 if (decide (x3 < (x2.length : Int))) then
  (getI x1 s1.2.2.2).bind fun x4 =>
  (getI x2 s2.2).bind fun x5 =>
  (addI s1.2.2.2 1).bind fun x6 =>
  (getI x1 x6).bind fun x7 =>
  (addI s2.2 1).bind fun x8 =>
  (getI x2 x8).bind fun x9 =>
  (appI s2.1 ([(⟨x4, x5, x7, x9⟩ : Rect)])).bind fun x10 =>
  (addI s2.2 2).bind fun x11 =>
  some (.go (x10, x11))
 else
  some (.ex 4 (s2.1, s2.2))
def ref06_Form_L0 (a_ : (List Rect)) (b_ : (List Rect)) (op_ : Int) (x1 : (List Int)) (s1 : (List Rect) × (List Int) × Int × Int) : Option (Flow ((List Rect) × (List Int) × Int × Int) ((List Rect))) :=
 (addI s1.2.2.2 1).bind fun x2 =>
 if (decide (x2 < (x1.length : Int))) then
  ((getI x1 s1.2.2.2).bind fun x3 =>
  (ref06_column a_ x3).bind fun x4 =>
  (getI x1 s1.2.2.2).bind fun x5 =>
  (ref06_column b_ x5).bind fun x6 =>
  (ref06_combine x4 x6 op_).bind fun x7 =>
  (if ((decide (0 < s1.2.2.2)) && (decide (0 < (x7.length : Int)))) then
   (ref06_ints x7 s1.2.1).bind fun x8 =>
   some x8
  else
   some false).bind fun x9 =>
  if x9 then
   (iterL (ref06_Form_L1 x1 s1) (a_.length + b_.length + s1.1.length + x1.length + s1.2.1.length + 1) (s1.1, s1.2.2.1)).bind fun f1 => match f1 with
    | .go _ => none
    | .ex _ s2 =>
     some (s2.1, s1.2.1, s1.2.2.1)
    | .ret r1 => none
  else
   (iterL (ref06_Form_L2 x1 s1 x7) (a_.length + b_.length + s1.1.length + x1.length + x7.length + x7.length + 1) (s1.1, 0)).bind fun f2 => match f2 with
    | .go _ => none
    | .ex _ s3 =>
     some (s3.1, x7, (s1.1.length : Int))
    | .ret r2 => none).bind fun s4 =>
  (addI s1.2.2.2 1).bind fun x10 =>
  some (.go (s4.1, s4.2.1, s4.2.2, x10))
 else
  some (.ex 0 (s1.1, s1.2.1, s1.2.2.1, s1.2.2.2))
def ref06_Form (a_ : (List Rect)) (b_ : (List Rect)) (op_ : Int) : Option ((List Rect)) :=
 (ref06_edges a_ b_).bind fun x1 =>
 (iterL (ref06_Form_L0 a_ b_ op_ x1) (a_.length + b_.length + ([] : List Rect).length + x1.length + ([] : List Int).length + 1) (([] : List Rect), ([] : List Int), 0, 0)).bind fun f1 => match f1 with
  | .go _ => none
  | .ex _ s1 =>
   some s1.1
  | .ret r1 => some r1
noncomputable def k41 := mk 41 [.list (.st 0), .list (.st 0), .int] [.list (.st 0)] (fun x => ref06_Form x.1 x.2.1 x.2.2) [k67, k69, k68, k70] [7, 77, 98] Tryz.f41 (.s .n (.s .n (.s .n (.s .n (.s .n (.s (.s .n (.l [] [(7, .o 33 (.st 0)), (9, .v (.list .int)), (10, .v .int), (11, .v .int)] [(0, [9, 10, 11], [])] (fL [0, 1, 7, 8, 9]) (.s .n (.s (.j [] [(7, .o 33 (.st 0)), (9, .v (.list .int)), (10, .v .int)] ([], []) (.s .n (.s (.s .n (.s (.s (.s .n (.l [] [(7, .o 33 (.st 0)), (13, .v .int)] [(2, [13], [])] (fL [0, 1, 7, 8, 9]) .n)) .n) .n)) (.s .n (.s .n (.s .n (.l [] [(7, .o 33 (.st 0)), (14, .v .int)] [(4, [14], [])] (fL [0, 1, 7, 8, 9, 12]) .n))))))) .n)))) (.s (.f [7] .n) .n))))))) Tryz.func41 Tryz.call41 rfl rfl fun x => by kernel_rfl
theorem ref06_Form_ok {k0 : K} {v0 v1 v2 : Value} {x0 : (List Rect)} {x1 : (List Rect)} {x2 : Int} {r : (List Rect)} (i0 : IsV x0 v0 k0) (i1 : IsV x1 v1 k0) (i2 : IsV x2 v2 k0) (hr : ref06_Form x0 x1 x2 = some r) : Calls Tryz.prog 41 #[v0, v1, v2] k0.w (Ret k0 (IsV r)) := (k41.ok.ok k0 [v0, v1, v2] (x0, x1, x2) r ⟨i0, i1, i2⟩ hr)
def ref06_Of_L0 (l_ : (List Rect)) (s1 : Int) : Option (Flow (Int) ((List Rect) × Int)) :=
 if (decide (s1 < (l_.length : Int))) then
  (getI l_ s1).bind fun x1 =>
  (ref06_RightRect x1).bind fun x2 =>
  if (!x2) then
   some (.ret (([] : List Rect), 1))
  else
   (addI s1 1).bind fun x3 =>
   some (.go x3)
 else
  some (.ex 0 s1)
def ref06_Of (l_ : (List Rect)) : Option ((List Rect) × Int) :=
 (iterL (ref06_Of_L0 l_) (l_.length + 1) 0).bind fun f1 => match f1 with
  | .go _ => none
  | .ex _ _ =>
   if (decide (400 < (l_.length : Int))) then
    some (([] : List Rect), 6)
   else
    (ref06_Form l_ ([] : List Rect) 0).bind fun x1 =>
    if (decide (200 < (x1.length : Int))) then
     some (([] : List Rect), 6)
    else
     some (x1, 0)
  | .ret r1 => some r1
noncomputable def k80 := mk 80 [.list (.st 0)] [.list (.st 0), .int] (fun x => ref06_Of x) [k66, k41] [] Tryz.f80 (.s .n (.s (.s .n (.l [] [(4, .v .int)] [(0, [4], [])] (fL [0]) .n)) .n)) Tryz.func80 Tryz.call80 rfl rfl fun x => by kernel_rfl
def ref06_Right (a_ : (List Rect)) : Option (Bool) :=
 (ref06_Of a_).bind fun x1 =>
 (if (x1.2 == 0) then
  (ref06_Same x1.1 a_).bind fun x2 =>
  some x2
 else
  some false).bind fun x3 =>
 some x3
noncomputable def k58 := mk 58 [.list (.st 0)] [.bool] (fun x => ref06_Right x) [k80, k43] [] Tryz.f58 (.n) Tryz.func58 Tryz.call58 rfl rfl fun x => by kernel_rfl
def ref09_Right_L0 (s_ : (List Slab)) (s1 : Int) : Option (Flow (Int) (Bool)) :=
 if (decide (s1 < (s_.length : Int))) then
  (getI s_ s1).bind fun x1 =>
  (if (decide (x1.Z0 < 0)) then
   some true
  else
   (getI s_ s1).bind fun x2 =>
   (getI s_ s1).bind fun x3 =>
   some (decide (x3.Z1 ≤ x2.Z0))).bind fun x4 =>
  (if x4 then
   some true
  else
   (getI s_ s1).bind fun x5 =>
   some (decide (4096 < x5.Z1))).bind fun x6 =>
  (if x6 then
   some true
  else
   (getI s_ s1).bind fun x7 =>
   some ((x7.Area.length : Int) == 0)).bind fun x8 =>
  (if x8 then
   some true
  else
   (getI s_ s1).bind fun x9 =>
   (ref06_Right x9.Area).bind fun x10 =>
   some (!x10)).bind fun x11 =>
  if x11 then
   some (.ret false)
  else
   (if (decide (0 < s1)) then
    (subI s1 1).bind fun x12 =>
    (getI s_ x12).bind fun x13 =>
    (getI s_ s1).bind fun x14 =>
    (if (decide (x14.Z0 < x13.Z1)) then
     some true
    else
     (subI s1 1).bind fun x15 =>
     (getI s_ x15).bind fun x16 =>
     (getI s_ s1).bind fun x17 =>
     (if (x16.Z1 == x17.Z0) then
      (subI s1 1).bind fun x18 =>
      (getI s_ x18).bind fun x19 =>
      (getI s_ s1).bind fun x20 =>
      (ref06_Same x19.Area x20.Area).bind fun x21 =>
      some x21
     else
      some false).bind fun x22 =>
     some x22).bind fun x23 =>
    some x23
   else
    some false).bind fun x24 =>
   if x24 then
    some (.ret false)
   else
    (addI s1 1).bind fun x25 =>
    some (.go x25)
 else
  some (.ex 0 s1)
def ref09_Right (s_ : (List Slab)) : Option (Bool) :=
 if (decide (80 < (s_.length : Int))) then
  some false
 else
  (iterL (ref09_Right_L0 s_) (s_.length + 1) 0).bind fun f1 => match f1 with
   | .go _ => none
   | .ex _ _ =>
    some true
   | .ret r1 => some r1
noncomputable def k26 := mk 26 [.list (.st 3)] [.bool] (fun x => ref09_Right x) [k58, k43] [] Tryz.f26 (.s .n (.s .n (.s (.s .n (.l [] [(3, .v .int)] [(0, [3], [])] (fL [0]) .n)) .n))) Tryz.func26 Tryz.call26 rfl rfl fun x => by kernel_rfl
theorem ref09_Right_ok {k0 : K} {v0 : Value} {x0 : (List Slab)} {r : Bool} (i0 : IsV x0 v0 k0) (hr : ref09_Right x0 = some r) : Calls Tryz.prog 26 #[v0] k0.w (Ret k0 (IsV r)) := (k26.ok.ok k0 [v0] x0 r i0 hr)
def ref09_insert_L0 (l_ : (List Int)) (n_ : Int) (s1 : Int) : Option (Flow (Int) ((List Int))) :=
 (if (decide (s1 < (l_.length : Int))) then
  (getI l_ s1).bind fun x1 =>
  some (decide (x1 < n_))
 else
  some false).bind fun x2 =>
 if x2 then
  (addI s1 1).bind fun x3 =>
  some (.go x3)
 else
  some (.ex 0 s1)
def ref09_insert (l_ : (List Int)) (n_ : Int) : Option ((List Int)) :=
 (iterL (ref09_insert_L0 l_ n_) (l_.length + 1) 0).bind fun f1 => match f1 with
  | .go _ => none
  | .ex _ s1 =>
   (if (decide (s1 < (l_.length : Int))) then
    (getI l_ s1).bind fun x1 =>
    some (x1 == n_)
   else
    some false).bind fun x2 =>
   if x2 then
    some l_
   else
    (sliceI l_ 0 s1).bind fun x3 =>
    (appI [] x3).bind fun x4 =>
    (appI x4 ([n_])).bind fun x5 =>
    (sliceI l_ s1 (l_.length : Int)).bind fun x6 =>
    (appI x5 x6).bind fun x7 =>
    some x7
  | .ret r1 => some r1
noncomputable def k39 := mk 39 [.list .int, .int] [.list .int] (fun x => ref09_insert x.1 x.2) [] [6, 34, 38, 39, 42, 43] Tryz.f39 (.s .n (.s .n (.s (.l [] [(5, .v .int)] [(0, [], [])] (fL [0]) .n) .n))) Tryz.func39 Tryz.call39 rfl rfl fun x => by kernel_rfl
theorem ref09_insert_ok {k0 : K} {v0 v1 : Value} {x0 : (List Int)} {x1 : Int} {r : (List Int)} (i0 : IsV x0 v0 k0) (i1 : IsV x1 v1 k0) (hr : ref09_insert x0 x1 = some r) : Calls Tryz.prog 39 #[v0, v1] k0.w (Ret k0 (IsV r)) := (k39.ok.ok k0 [v0, v1] (x0, x1) r ⟨i0, i1⟩ hr)
def ref09_section_L0 (s_ : (List Slab)) (z_ : Int) (s1 : Int) : Option (Flow (Int) ((List Rect))) :=
 if (decide (s1 < (s_.length : Int))) then
  (getI s_ s1).bind fun x1 =>
  (if (decide (x1.Z0 ≤ z_)) then
   (getI s_ s1).bind fun x2 =>
   some (decide (z_ < x2.Z1))
  else
   some false).bind fun x3 =>
  if x3 then
   (getI s_ s1).bind fun x4 =>
   (appI [] x4.Area).bind fun x5 =>
   some (.ret x5)
  else
   (addI s1 1).bind fun x6 =>
   some (.go x6)
 else
  some (.ex 0 s1)
def ref09_section (s_ : (List Slab)) (z_ : Int) : Option ((List Rect)) :=
 (iterL (ref09_section_L0 s_ z_) (s_.length + 1) 0).bind fun f1 => match f1 with
  | .go _ => none
  | .ex _ _ =>
   some ([] : List Rect)
  | .ret r1 => some r1
noncomputable def k57 := mk 57 [.list (.st 3), .int] [.list (.st 0)] (fun x => ref09_section x.1 x.2) [] [28] Tryz.f57 (.s .n (.s (.s .n (.l [] [(5, .v .int)] [(0, [5], [])] (fL [0]) .n)) .n)) Tryz.func57 Tryz.call57 rfl rfl fun x => by kernel_rfl
theorem ref09_section_ok {k0 : K} {v0 v1 : Value} {x0 : (List Slab)} {x1 : Int} {r : (List Rect)} (i0 : IsV x0 v0 k0) (i1 : IsV x1 v1 k0) (hr : ref09_section x0 x1 = some r) : Calls Tryz.prog 57 #[v0, v1] k0.w (Ret k0 (IsV r)) := (k57.ok.ok k0 [v0, v1] (x0, x1) r ⟨i0, i1⟩ hr)
def ref09_add (out_ : (List Slab)) (from_ : Int) (to_ : Int) (area_ : (List Rect)) : Option ((List Slab)) :=
 if ((area_.length : Int) == 0) then
  some out_
 else
  (if (decide (0 < (out_.length : Int))) then
   (subI (out_.length : Int) 1).bind fun x1 =>
   (getI out_ x1).bind fun x2 =>
   some (x2.Z1 == from_)
  else
   some false).bind fun x3 =>
  (if x3 then
   (subI (out_.length : Int) 1).bind fun x4 =>
   (getI out_ x4).bind fun x5 =>
   (ref06_Same x5.Area area_).bind fun x6 =>
   some x6
  else
   some false).bind fun x7 =>
  if x7 then
   (subI (out_.length : Int) 1).bind fun x8 =>
   (getI out_ x8).bind fun x9 =>
   (some (out_.set (x8).toNat ({ x9 with Z1 := to_ }))).bind fun x10 =>
   some x10
  else
   (appI out_ ([(⟨from_, to_, area_⟩ : Slab)])).bind fun x11 =>
   some x11
theorem ref09_add_ok {k0 : K} {v0 v1 v2 v3 : Value} {out_ : (List Slab)} {from_ : Int} {to_ : Int} {area_ : (List Rect)} {r : (List Slab)} (i0 : (IsOwn 0 40 out_) v0 k0) (i1 : (IsV from_) v1 k0) (i2 : (IsV to_) v2 k0) (i3 : (IsV area_) v3 k0) (hr : ref09_add out_ from_ to_ area_ = some r) :
  Calls Tryz.prog 40 #[v0, v1, v2, v3] k0.w (RetC (obF v0) k0 (IsOwnW v0 k0 40 r)) := by
 unfold ref09_add at hr
 refine enterK Tryz.func40 rfl Tryz.ntmps40 (show 4 ≤ 52 by decide) fun a k hk0 hs hd ha => ?_
 obtain ⟨e0, e1, e2, e3, _⟩ := ha
 replace i0 : (IsOwn 0 40 out_) (a.get 0) k := by rw [e0, hk0]; exact i0
 replace i1 : (IsV from_) (a.get 1) k := by rw [e1, hk0]; exact i1
 replace i2 : (IsV to_) (a.get 2) k := by rw [e2, hk0]; exact i2
 replace i3 : (IsV area_) (a.get 3) k := by rw [e3, hk0]; exact i3
 have n0 : Wr (obF v0) k0 (obF (a.get 0)) := fun b h => .inl (by rwa [e0] at h)
 have hQ : Gb.LetsOut (bodyPost Tryz.prog Tryz.f40 (RetC (obF v0) k0 (IsOwnW v0 k0 40 r))) := letsOutC
 have hg : Chg (obF v0) k0 k := by rw [hk0]; exact Chg.refl _ k0
 refine cutS (fun c l => Bs (obF v0) k0 52 c l ∧ IsOwn 0 40 out_ (c.get 0) l ∧ Wr (obF v0) k0 (obF (c.get 0)) ∧ IsV from_ (c.get 1) l ∧ IsV to_ (c.get 2) l ∧ IsV area_ (c.get 3) l ∧ True) ?_ ?_
 ·intro Q1 W1 w1
  refine gS 1 (⟨some IsE0, []⟩ :: []) hs (by kernel_rfl) ⟨ob1 rfl fun b q h n => ok_assign rfl isE0_nil, trivial⟩ W1 fun b q p => ?_
  exact tail_done (k := q) (w1 _ _ ⟨Bs.post ⟨hg, hs, hd⟩ p, p.ke 0 rfl i0, (by rw [p.old 0 rfl]; exact n0), p.ke 1 rfl i1, p.ke 2 rfl i2, p.ke 3 rfl i3, trivial⟩)
 rintro a k ⟨⟨hg, hs, hd⟩, i0, n0, i1, i2, i3, _⟩
 refine wp_seq ?_
 refine cutS (fun c l => Bs (obF v0) k0 52 c l ∧ IsOwn 0 40 out_ (c.get 0) l ∧ Wr (obF v0) k0 (obF (c.get 0)) ∧ IsV from_ (c.get 1) l ∧ IsV to_ (c.get 2) l ∧ IsV area_ (c.get 3) l ∧ IsV ((area_.length : Int) == 0) (c.get 12) l ∧ True) ?_ ?_
 ·intro Q2 W2 w2
  refine gS 3 (_ :: _ :: _ :: []) hs (by kernel_rfl) ⟨mu rfl i3, o1 [(10, some 0)] rfl fun _ _ h n => ok_len rfl rfl Tryz.underlying37 (IsV.rd n.1), o1 [(11, some 1)] rfl fun _ _ h n => ok_eqI rfl n.1 (cI rfl), trivial⟩ W2 fun b q p => ?_
  exact tail_done (k := q) (w2 _ _ ⟨Bs.post ⟨hg, hs, hd⟩ p, p.ke 0 rfl i0, (by rw [p.old 0 rfl]; exact n0), p.ke 1 rfl i1, p.ke 2 rfl i2, p.ke 3 rfl i3, p.ou 2 12 rfl, trivial⟩)
 rintro a k ⟨⟨hg, hs, hd⟩, i0, n0, i1, i2, i3, i12, _⟩
 refine wp_cond_split (isBool i12) (fun hc2365 => ?_) (fun hc2365 => ?_)
 ·rw [if_pos hc2365] at hr
  refine cutS (fun c l => Bs (obF v0) k0 52 c l ∧ IsOwn 0 40 out_ (c.get 8) l ∧ Wr (obF v0) k0 (obF (c.get 8)) ∧ True) ?_ ?_
  ·intro Q3 W3 w3
   refine gS 2 (⟨some (OwnAt (a.get 0) 0 40 out_), [(0, none)]⟩ :: ⟨some (OwnAt (a.get 0) 0 40 out_), [(13, some 0)]⟩ :: []) hs (by kernel_rfl) ⟨ob1 rfl fun _ _ h n => ok_moveOA (.inl rfl) (ownAt n.1 (up i0 h n.1)), ob1 rfl fun _ _ h n => ok_moveOA (.inr rfl) n.1, trivial⟩ W3 fun b q p => ?_
   have hgq := hg.then p.grow
   have hsb := p.size.trans hs
   have hdb := p.defers.trans hd
   have e8 : b.get 8 = a.get 0 := (p.ou 1 8 rfl).1
   have j8 : IsOwn 0 40 out_ (b.get 8) q := (p.ou 1 8 rfl).2
   have y8 : Wr (obF v0) k0 (obF (b.get 8)) := by rw [e8]; exact n0
   exact tail_done (k := q) (w3 _ _ ⟨⟨hgq, hsb, hdb⟩, j8, y8, trivial⟩)
  rintro a k ⟨⟨hg, hs, hd⟩, i8, n8, _⟩
  refine wp_ret ?_
  obtain rfl := Option.some.inj hr
  exact retC1 rfl hd hg (show ResOk _ _ _ (.tmp 8) (IsOwnW _ _ _ _) from ⟨i8, n8⟩)
 rw [if_neg (by rw [hc2365]; decide)] at hr
 refine wp_skip ?_
 refine cutS (fun c l => Bs (obF v0) k0 52 c l ∧ IsOwn 0 40 out_ (c.get 0) l ∧ Wr (obF v0) k0 (obF (c.get 0)) ∧ IsV from_ (c.get 1) l ∧ IsV to_ (c.get 2) l ∧ IsV area_ (c.get 3) l ∧ IsL out_ (c.get 9) l ∧ True) ?_ ?_
 ·intro Q4 W4 w4
  refine gS 3 (⟨some (OwnAt (a.get 0) 0 40 out_), [(0, none)]⟩ :: _ :: _ :: []) hs (by kernel_rfl) ⟨ob1 rfl fun _ _ h n => ok_moveOA (.inl rfl) (ownAt n.1 (up i0 h n.1)), o1 [(14, some 0)] rfl fun _ _ h n => ok_len rfl rfl Tryz.underlying22 (IsOwn.rd (n.1).2), cp 1 rfl rfl, trivial⟩ W4 fun b q p => ?_
  exact tail_done (k := q) (w4 _ _ ⟨Bs.post ⟨hg, hs, hd⟩ p, p.ke 0 rfl i0, (by rw [p.old 0 rfl]; exact n0), p.ke 1 rfl i1, p.ke 2 rfl i2, p.ke 3 rfl i3, p.ou 2 9 rfl, trivial⟩)
 rintro a k ⟨⟨hg, hs, hd⟩, i0, n0, i1, i2, i3, i9, _⟩
 refine wp_seq ?_
 refine wp_seq ?_
 obtain ⟨x1, hx1, hr⟩ := bind_some hr
 obtain ⟨x2, hx2, hx1⟩ := ite_bind hx1
 obtain ⟨x3, hx3, hx1⟩ := ite_bind hx1
 obtain ⟨x4, hx4, hr⟩ := bind_some hr
 obtain ⟨x5, hx5, hx4⟩ := ite_bind hx4
 obtain ⟨x6, hx6, hx4⟩ := ite_bind hx4
 obtain ⟨x7, hx7, hx4⟩ := ite_bind hx4
 refine cut (fun a' k' => Bs (obF v0) k0 52 a' k' ∧ IsOwn 0 40 out_ (a'.get 0) k' ∧ Wr (obF v0) k0 (obF (a'.get 0)) ∧ (IsV from_) (a'.get 1) k' ∧ (IsV to_) (a'.get 2) k' ∧ (IsV area_) (a'.get 3) k' ∧ (IsL out_) (a'.get 9) k' ∧ (IsV x4) (a'.get 37) k' ∧ True) ?_ hQ ?_
 ·intro Q5 W5 w5
  refine gS 22 (_ :: _ :: _ :: ⟨some (Gd ((decide (0 < (out_.length : Int))) = true) (OwnAt (a.get 0) 0 40 out_)), [(0, none)]⟩ :: _ :: _ :: _ :: _ :: _ :: _ :: _ :: _ :: _ :: ⟨some (Gd (x1 = true) (OwnAt (a.get 0) 0 40 out_)), [(0, none)]⟩ :: _ :: _ :: _ :: _ :: _ :: _ :: _ :: _ :: []) hs (by kernel_rfl) ⟨mu rfl i9, o1 [(16, some 0)] rfl fun _ _ h n => ok_gtr rfl n.1 (cI rfl), cm 1 rfl rfl, gdT rfl rfl fun hp _ _ h n => ok_moveOA (.inl rfl) (ownAt n.1 (up i0 h n.1)), mT rfl rfl i9, gT [(20, some 4)] rfl rfl fun hp _ _ h n => ok_sub rfl (Gd.get n.1 hp) (cI rfl) (hx2 hp), gT [(19, some 3), (21, some 5)] rfl rfl fun hp _ _ h n => ok_indexAddr rfl Tryz.underlying22 ty40 (IsOwn.rd ((Gd.get n.1 hp)).2) (Gd.get n.2.1 hp) (hx3 hp), gT [(22, some 6)] rfl rfl fun hp _ _ h n => ok_fieldAddr rfl fo40_1 (at_Slab_1 _) (Gd.get n.1 hp), gT [(23, some 7)] rfl rfl fun hp _ _ h n => ok_load rfl ty3 (Gd.get n.1 hp), mT rfl rfl i1, gT [(24, some 8), (25, some 9)] rfl rfl fun hp _ _ h n => ok_eqI rfl (Gd.get n.1 hp) (Gd.get n.2.1 hp), o1 [(18, some 2), (26, some 10)] rfl fun _ _ h n => ok_pickM rfl n.1 hx1 (Gd.get n.2.1) (cB rfl), cm 11 rfl rfl, gdT rfl rfl fun hp _ _ h n => ok_moveOA (.inl rfl) (ownAt n.1 (up i0 h n.1)), mT rfl rfl i9, gT [(30, some 14)] rfl rfl fun hp _ _ h n => ok_sub rfl (Gd.get n.1 hp) (cI rfl) (hx5 hp), gT [(29, some 13), (31, some 15)] rfl rfl fun hp _ _ h n => ok_indexAddr rfl Tryz.underlying22 ty40 (IsOwn.rd ((Gd.get n.1 hp)).2) (Gd.get n.2.1 hp) (hx6 hp), gT [(32, some 16)] rfl rfl fun hp _ _ h n => ok_fieldAddr rfl fo40_2 (at_Slab_2 _) (Gd.get n.1 hp), gT [(33, some 17)] rfl rfl fun hp _ _ h n => ok_load rfl ty37 (Gd.get n.1 hp), mT rfl rfl i3, gT [(34, some 18), (35, some 19)] rfl rfl fun hp _ _ h n => ok_call rfl Tryz.call43 (ref06_Same_ok (Gd.get n.1 hp) (Gd.get n.2.1 hp) (hx7 hp)), o1 [(28, some 12), (36, some 20)] rfl fun _ _ h n => ok_pickM rfl n.1 hx4 (Gd.get n.2.1) (cB rfl), trivial⟩ W5 fun b q p => ?_
  exact tail_done (k := q) (w5 _ _ ⟨Bs.post ⟨hg, hs, hd⟩ p, p.ke 0 rfl i0, (by rw [p.old 0 rfl]; exact n0), p.ke 1 rfl i1, p.ke 2 rfl i2, p.ke 3 rfl i3, p.ke 9 rfl i9, p.ou 21 37 rfl, trivial⟩)
 rintro a k ⟨⟨hg, hs, hd⟩, i0, n0, i1, i2, i3, i9, i37, _⟩
 refine wp_cond_split (isBool i37) (fun hc2360 => ?_) (fun hc2360 => ?_)
 ·rw [if_pos hc2360] at hr
  refine wp_seq ?_
  obtain ⟨x8, hx8, hr⟩ := bind_some hr
  obtain ⟨x9, hx9, hr⟩ := bind_some hr
  obtain ⟨x10, hx10, hr⟩ := bind_some hr
  refine cut (fun a' k' => Bs (obF v0) k0 52 a' k' ∧ IsOwn 0 40 x10 (a'.get 0) k' ∧ Wr (obF v0) k0 (obF (a'.get 0)) ∧ True) ?_ hQ ?_
  ·intro Q6 W6 w6
   refine gS 6 (⟨some (OwnAt (a.get 0) 0 40 out_), [(0, none)]⟩ :: _ :: _ :: _ :: ⟨some (IsAdrO (a.get 0) ((x8).toNat * Enc.sz Slab)), [(38, some 0), (40, some 2)]⟩ :: _ :: []) hs (by kernel_rfl) ⟨ob1 rfl fun _ _ h n => ok_moveOA (.inl rfl) (ownAt n.1 (up i0 h n.1)), mu rfl i9, o1 [(39, some 1)] rfl fun _ _ h n => ok_sub rfl n.1 (cI rfl) hx8, mu rfl i2, ob1 rfl fun _ _ h n => ok_indexO rfl Tryz.underlying22 ty40 n.1 n.2.1 hx9, o1 [(42, some 4)] rfl fun _ _ h n => ok_fieldAdrO rfl fo40_1 n.1, trivial⟩ W6 fun b q p => ?_
   have hgq := hg.then p.grow
   have hsb := p.size.trans hs
   have hdb := p.defers.trans hd
   have j0 := p.ke 0 rfl i0
   have y0 : Wr (obF v0) k0 (obF (b.get 0)) := by rw [p.old 0 rfl]; exact n0
   have j41 : (IsV to_) (b.get 41) q := p.ou 3 41 rfl
   have j43 : IsAdrO (a.get 0) ((x8).toNat * Enc.sz Slab + 1) (b.get 43) q := p.ou 5 43 rfl
   have eo : b.get 0 = a.get 0 := p.old 0 rfl
   have hns := j0.nshF
   refine tail_storeS (i := 6) (u := b.get 0) (m := (x8).toNat) (off := 0 + 1) rfl rfl rfl rfl szf3 upd_F40_1 (by rw [eo]; exact j43) j0 (getI_spec hx9).2.1 j41 fun q2 hch hz => ?_
   replace hgq := hgq.step hch y0
   have hle := hch.le hns
   replace j41 := Pers.pers hle j41
   replace j43 := Pers.pers hle j43
   replace j0 := hz
   rw [Option.some.inj hx10] at j0
   clear hns hle hch eo hz
   obtain ⟨q, hqq⟩ : ∃ q, q = q2 := ⟨q2, rfl⟩
   subst hqq
   exact tail_done (k := q) (w6 _ _ ⟨⟨hgq, hsb, hdb⟩, j0, y0, trivial⟩)
  rintro a k ⟨⟨hg, hs, hd⟩, i0, n0, _⟩
  refine cutS (fun c l => Bs (obF v0) k0 52 c l ∧ IsOwn 0 40 x10 (c.get 8) l ∧ Wr (obF v0) k0 (obF (c.get 8)) ∧ True) ?_ ?_
  ·intro Q7 W7 w7
   refine gS 2 (⟨some (OwnAt (a.get 0) 0 40 x10), [(0, none)]⟩ :: ⟨some (OwnAt (a.get 0) 0 40 x10), [(44, some 0)]⟩ :: []) hs (by kernel_rfl) ⟨ob1 rfl fun _ _ h n => ok_moveOA (.inl rfl) (ownAt n.1 (up i0 h n.1)), ob1 rfl fun _ _ h n => ok_moveOA (.inr rfl) n.1, trivial⟩ W7 fun b q p => ?_
   have hgq := hg.then p.grow
   have hsb := p.size.trans hs
   have hdb := p.defers.trans hd
   have e8 : b.get 8 = a.get 0 := (p.ou 1 8 rfl).1
   have j8 : IsOwn 0 40 x10 (b.get 8) q := (p.ou 1 8 rfl).2
   have y8 : Wr (obF v0) k0 (obF (b.get 8)) := by rw [e8]; exact n0
   exact tail_done (k := q) (w7 _ _ ⟨⟨hgq, hsb, hdb⟩, j8, y8, trivial⟩)
  rintro a k ⟨⟨hg, hs, hd⟩, i8, n8, _⟩
  refine wp_ret ?_
  obtain rfl := Option.some.inj hr
  exact retC1 rfl hd hg (show ResOk _ _ _ (.tmp 8) (IsOwnW _ _ _ _) from ⟨i8, n8⟩)
 rw [if_neg (by rw [hc2360]; decide)] at hr
 refine wp_skip ?_
 refine wp_seq ?_
 obtain ⟨x11, hx11, hr⟩ := bind_some hr
 refine cut (fun a' k' => Bs (obF v0) k0 52 a' k' ∧ IsOwn 0 40 x11 (a'.get 8) k' ∧ Wr (obF v0) k0 (obF (a'.get 8)) ∧ True) ?_ hQ ?_
 ·intro Q8 W8 w8
  refine gS 6 (⟨some (OwnAt (a.get 0) 0 40 out_), [(0, none)]⟩ :: _ :: _ :: _ :: ⟨some (IsV (⟨from_, to_, area_⟩ : Slab)), [(46, some 1), (47, some 2), (48, some 3)]⟩ :: ⟨some (IsV (α := (List Slab)) ([(⟨from_, to_, area_⟩ : Slab)])), [(49, some 4)]⟩ :: []) hs (by kernel_rfl) ⟨ob1 rfl fun _ _ h n => ok_moveOA (.inl rfl) (ownAt n.1 (up i0 h n.1)), mu rfl i1, mu rfl i2, mu rfl i3, ob1 rfl fun _ _ h n => ok_build rfl (bld40_0_1_2 n.1 n.2.1 n.2.2.1), ob1 rfl fun _ _ h n => ok_buildSlice rfl Tryz.underlying22 eo40 rfl (by decide) (by decide) ⟨rfl, n.1, trivial⟩, trivial⟩ W8 fun b q p => ?_
  have hgq := hg.then p.grow
  have hsb := p.size.trans hs
  have hdb := p.defers.trans hd
  have e45 : b.get 45 = a.get 0 := (p.ou 0 45 rfl).1
  have j45 : IsOwn 0 40 out_ (b.get 45) q := (p.ou 0 45 rfl).2
  have y45 : Wr (obF v0) k0 (obF (b.get 45)) := by rw [e45]; exact n0
  have j50 : (IsV (α := (List Slab)) ([(⟨from_, to_, area_⟩ : Slab)])) (b.get 50) q := p.ou 5 50 rfl
  have hns := j45.nshF
  refine tail_appendS (i := 6) (d := 51) rfl rfl rfl rfl (by rw [hsb]; decide) (e := 40) Tryz.underlying22 eo40 j45 (IsV.rd j50) hx11 fun b2 q2 hsz hdf hoth hch hown hob => ?_
  have hle := hch.le hns
  have yn : Wr (obF v0) k0 (obF (b2.get 51)) := y45.app hgq hob
  replace j50 := Pers.pers hle j50
  replace hgq := hgq.step hch y45
  rw [← hoth 50 (by decide)] at j50
  have j51 := hown
  have y51 := yn
  replace hsb := hsz.trans hsb
  replace hdb := hdf.trans hdb
  clear hle hch hown hob hns yn hsz hdf hoth
  obtain ⟨b, hbb⟩ : ∃ b, b = b2 := ⟨b2, rfl⟩
  subst hbb
  obtain ⟨q, hqq⟩ : ∃ q, q = q2 := ⟨q2, rfl⟩
  subst hqq
  refine tail_assign (i := 7) (d := 8) rfl rfl (.inl rfl) rfl (by rw [hsb]; decide) fun b2 hsz hdf hnew hoth => ?_
  have jn : (IsOwn 0 40 x11) (b2.get 8) q := by rw [hnew]; exact j51
  have yn : Wr (obF v0) k0 (obF (b2.get 8)) := by rw [hnew]; exact y51
  rw [← hoth 50 (by decide)] at j50
  have j8 := jn
  have y8 := yn
  replace hsb := hsz.trans hsb
  replace hdb := hdf.trans hdb
  clear hsz hdf hoth
  obtain ⟨b, hbb⟩ : ∃ b, b = b2 := ⟨b2, rfl⟩
  subst hbb
  exact tail_done (k := q) (w8 _ _ ⟨⟨hgq, hsb, hdb⟩, j8, y8, trivial⟩)
 rintro a k ⟨⟨hg, hs, hd⟩, i8, n8, _⟩
 refine wp_ret ?_
 obtain rfl := Option.some.inj hr
 exact retC1 rfl hd hg (show ResOk _ _ _ (.tmp 8) (IsOwnW _ _ _ _) from ⟨i8, n8⟩)
def ref09_end_L0 (out_ : (List Slab)) (s1 : Int) : Option (Flow (Int) ((List Slab) × Int)) :=
 if (decide (s1 < (out_.length : Int))) then
  (getI out_ s1).bind fun x1 =>
  if (decide (200 < (x1.Area.length : Int))) then
   some (.ret (([] : List Slab), 6))
  else
   (addI s1 1).bind fun x2 =>
   some (.go x2)
 else
  some (.ex 0 s1)
def ref09_end (out_ : (List Slab)) : Option ((List Slab) × Int) :=
 (iterL (ref09_end_L0 out_) (out_.length + 1) 0).bind fun f1 => match f1 with
  | .go _ => none
  | .ex _ _ =>
   if (decide (80 < (out_.length : Int))) then
    some (([] : List Slab), 6)
   else
    some (out_, 0)
  | .ret r1 => some r1
noncomputable def k42 := mk 42 [.list (.st 3)] [.list (.st 3), .int] (fun x => ref09_end x) [] [] Tryz.f42 (.s .n (.s (.s .n (.l [] [(4, .v .int)] [(0, [4], [])] (fL [0]) .n)) .n)) Tryz.func42 Tryz.call42 rfl rfl fun x => by kernel_rfl
theorem ref09_end_ok {k0 : K} {v0 : Value} {x0 : (List Slab)} {r : (List Slab) × Int} (i0 : IsV x0 v0 k0) (hr : ref09_end x0 = some r) : Calls Tryz.prog 42 #[v0] k0.w (Ret k0 (IsTup2 (IsV r.1) (IsV r.2))) := ret2T (T := tb) (k42.ok.ok k0 [v0] x0 r i0 hr)
def ref09_combine_L0 (a_ : (List Slab)) (s1 : (List Int) × Int) : Option (Flow ((List Int) × Int) ((List Slab) × Int)) :=
 if (decide (s1.2 < (a_.length : Int))) then
  (getI a_ s1.2).bind fun x1 =>
  (ref09_insert s1.1 x1.Z0).bind fun x2 =>
  (getI a_ s1.2).bind fun x3 =>
  (ref09_insert x2 x3.Z1).bind fun x4 =>
  (addI s1.2 1).bind fun x5 =>
  some (.go (x4, x5))
 else
  some (.ex 0 (s1.1, s1.2))
def ref09_combine_L1 (b_ : (List Slab)) (s1 : (List Int) × Int) : Option (Flow ((List Int) × Int) ((List Slab) × Int)) :=
 if (decide (s1.2 < (b_.length : Int))) then
  (getI b_ s1.2).bind fun x1 =>
  (ref09_insert s1.1 x1.Z0).bind fun x2 =>
  (getI b_ s1.2).bind fun x3 =>
  (ref09_insert x2 x3.Z1).bind fun x4 =>
  (addI s1.2 1).bind fun x5 =>
  some (.go (x4, x5))
 else
  some (.ex 2 (s1.1, s1.2))
def ref09_combine_L2 (a_ : (List Slab)) (b_ : (List Slab)) (op_ : Int) (s1 : (List Int) × Int) (s2 : (List Slab) × Int) : Option (Flow ((List Slab) × Int) ((List Slab) × Int)) :=
 (addI s2.2 1).bind fun x1 =>
 if (decide (x1 < (s1.1.length : Int))) then
  (getI s1.1 s2.2).bind fun x2 =>
  (addI s2.2 1).bind fun x3 =>
  (getI s1.1 x3).bind fun x4 =>
  (getI s1.1 s2.2).bind fun x5 =>
  (ref09_section a_ x5).bind fun x6 =>
  (getI s1.1 s2.2).bind fun x7 =>
  (ref09_section b_ x7).bind fun x8 =>
  (ref06_Form x6 x8 op_).bind fun x9 =>
  (ref09_add s2.1 x2 x4 x9).bind fun x10 =>
  (addI s2.2 1).bind fun x11 =>
  some (.go (x10, x11))
 else
  some (.ex 4 (s2.1, s2.2))
def ref09_combine (a_ : (List Slab)) (b_ : (List Slab)) (op_ : Int) : Option ((List Slab) × Int) :=
 (ref09_Right a_).bind fun x1 =>
 (if (!x1) then
  some true
 else
  (ref09_Right b_).bind fun x2 =>
  some (!x2)).bind fun x3 =>
 if x3 then
  some (([] : List Slab), 1)
 else
  (iterL (ref09_combine_L0 a_) (a_.length + b_.length + ([] : List Int).length + 1) (([] : List Int), 0)).bind fun f1 => match f1 with
   | .go _ => none
   | .ex _ s1 =>
    (iterL (ref09_combine_L1 b_) (a_.length + b_.length + s1.1.length + 1) (s1.1, 0)).bind fun f2 => match f2 with
     | .go _ => none
     | .ex _ s2 =>
      (iterL (ref09_combine_L2 a_ b_ op_ s2) (a_.length + b_.length + s2.1.length + ([] : List Slab).length + 1) (([] : List Slab), 0)).bind fun f3 => match f3 with
       | .go _ => none
       | .ex _ s3 =>
        (ref09_end s3.1).bind fun x4 =>
        some (x4.1, x4.2)
       | .ret r1 => some r1
     | .ret r2 => some r2
   | .ret r3 => some r3
theorem ref09_combine_ok {k0 : K} {v0 v1 v2 : Value} {a_ : (List Slab)} {b_ : (List Slab)} {op_ : Int} {r : (List Slab) × Int} (i0 : (IsV a_) v0 k0) (i1 : (IsV b_) v1 k0) (i2 : (IsV op_) v2 k0) (hr : ref09_combine a_ b_ op_ = some r) :
  Calls Tryz.prog 55 #[v0, v1, v2] k0.w (Ret k0 (IsTup2 (IsV r.1) (IsV r.2))) := by
 unfold ref09_combine at hr
 refine Ret.ofC ?_
 refine enterK Tryz.func55 rfl Tryz.ntmps55 (show 3 ≤ 100 by decide) fun a k hk0 hs hd ha => ?_
 obtain ⟨e0, e1, e2, _⟩ := ha
 replace i0 : (IsV a_) (a.get 0) k := by rw [e0, hk0]; exact i0
 replace i1 : (IsV b_) (a.get 1) k := by rw [e1, hk0]; exact i1
 replace i2 : (IsV op_) (a.get 2) k := by rw [e2, hk0]; exact i2
 have hQ : Gb.LetsOut (bodyPost Tryz.prog Tryz.f55 (RetC noF k0 (IsTup2 (IsV r.1) (IsV r.2)))) := letsOutC
 have hg : Chg noF k0 k := by rw [hk0]; exact Chg.refl _ k0
 refine stepL 2 (⟨some IsE0, []⟩ :: ⟨some (IsI 0), []⟩ :: []) rfl ⟨hg, hs, hd⟩ (by kernel_rfl) ⟨ob1 rfl fun b q h n => ok_assign rfl isE0_nil, aI rfl rfl, trivial⟩ [⟨_, _⟩, ⟨_, _⟩, ⟨_, _⟩] (fun b q p => ⟨p.ke 0 rfl i0, p.ke 1 rfl i1, p.ke 2 rfl i2, trivial⟩) ?_
 rintro a k ⟨⟨hg, hs, hd⟩, i0, i1, i2, _⟩
 refine wp_seq ?_
 refine wp_seq ?_
 obtain ⟨x1, hx1, hr⟩ := bind_some hr
 obtain ⟨x2, hx2, hr⟩ := bind_some hr
 obtain ⟨x3, hx3, hx2⟩ := ite_bindF hx2
 refine cut (fun a' k' => Bs noF k0 100 a' k' ∧ (IsV a_) (a'.get 0) k' ∧ (IsV b_) (a'.get 1) k' ∧ (IsV op_) (a'.get 2) k' ∧ (IsV x2) (a'.get 22) k' ∧ True) ?_ hQ ?_
 ·intro Q1 W1 w1
  refine gS 8 (_ :: _ :: _ :: _ :: _ :: _ :: _ :: _ :: []) hs (by kernel_rfl) ⟨mu rfl i0, o1 [(15, some 0)] rfl fun _ _ h n => ok_call rfl Tryz.call26 (ref09_Right_ok n.1 hx1), o1 [(16, some 1)] rfl fun _ _ h n => ok_not rfl n.1, cm 2 rfl rfl, mF rfl rfl i1, gF [(19, some 4)] rfl rfl fun hp _ _ h n => ok_call rfl Tryz.call26 (ref09_Right_ok (Gd.get n.1 hp) (hx3 hp)), gF [(20, some 5)] rfl rfl fun hp _ _ h n => ok_not rfl (Gd.get n.1 hp), o1 [(18, some 3), (21, some 6)] rfl fun _ _ h n => ok_pickM rfl n.1 hx2 (cB rfl) (Gd.get n.2.1), trivial⟩ W1 fun b q p => ?_
  exact tail_done (k := q) (w1 _ _ ⟨Bs.post ⟨hg, hs, hd⟩ p, p.ke 0 rfl i0, p.ke 1 rfl i1, p.ke 2 rfl i2, p.ou 7 22 rfl, trivial⟩)
 rintro a k ⟨⟨hg, hs, hd⟩, i0, i1, i2, i22, _⟩
 refine wp_cond_split (isBool i22) (fun hc2489 => ?_) (fun hc2489 => ?_)
 ·rw [if_pos hc2489] at hr
  refine cutL noF k0 100 [⟨6, IsV ([] : List Slab)⟩, ⟨7, IsI 1⟩] ?_ ?_
  ·intro Q2 W2 w2
   refine gS 2 (⟨some IsE0, []⟩ :: ⟨some (IsI 1), []⟩ :: []) hs (by kernel_rfl) ⟨ob1 rfl fun b q h n => ok_assign rfl isE0_nil, aI rfl rfl, trivial⟩ W2 fun b q p => ?_
   have hgq := hg.then p.grow
   have hsb := p.size.trans hs
   have hdb := p.defers.trans hd
   have j6 : IsE0 (b.get 6) q := p.ou 0 6 rfl
   have j7 : (IsI 1) (b.get 7) q := p.ou 1 7 rfl
   replace j6 : IsV ([] : List Slab) (b.get 6) q := j6.isV
   exact tail_done (k := q) (w2 _ _ ⟨⟨hgq, hsb, hdb⟩, j6, j7, trivial⟩)
  rintro a k ⟨⟨hg, hs, hd⟩, i6, i7, _⟩
  refine wp_ret ?_
  obtain rfl := Option.some.inj hr
  exact retC2 rfl hd hg i6 i7
 rw [if_neg (by rw [hc2489]; decide)] at hr
 refine wp_skip ?_
 refine cutL noF k0 100 [⟨0, IsV a_⟩, ⟨1, IsV b_⟩, ⟨2, IsV op_⟩, ⟨8, IsV ([] : List Int)⟩] ?_ ?_
 ·intro Q3 W3 w3
  refine gS 1 (⟨some IsE0, []⟩ :: []) hs (by kernel_rfl) ⟨ob1 rfl fun b q h n => ok_assign rfl isE0_nil, trivial⟩ W3 fun b q p => ?_
  have hgq := hg.then p.grow
  have hsb := p.size.trans hs
  have hdb := p.defers.trans hd
  have j0 := p.ke 0 rfl i0
  have j1 := p.ke 1 rfl i1
  have j2 := p.ke 2 rfl i2
  have j8 : IsE0 (b.get 8) q := p.ou 0 8 rfl
  replace j8 : IsV ([] : List Int) (b.get 8) q := j8.isV
  exact tail_done (k := q) (w3 _ _ ⟨⟨hgq, hsb, hdb⟩, j0, j1, j2, j8, trivial⟩)
 rintro a k ⟨⟨hg, hs, hd⟩, i0, i1, i2, i8, _⟩
 refine wp_seq ?_
 refine stepL 1 (⟨some (IsI 0), []⟩ :: []) rfl ⟨hg, hs, hd⟩ (by kernel_rfl) ⟨aI rfl rfl, trivial⟩ [⟨_, _⟩, ⟨_, _⟩, ⟨_, _⟩, ⟨_, _⟩, ⟨_, _⟩] (fun b q p => ⟨p.ke 0 rfl i0, p.ke 1 rfl i1, p.ke 2 rfl i2, p.ke 8 rfl i8, p.ou 0 9 rfl, trivial⟩) ?_
 rintro a k ⟨⟨hg, hs, hd⟩, i0, i1, i2, i8, i9, _⟩
 refine wp_block ?_
 obtain ⟨f1, hf1, hr⟩ := bind_some hr
 refine cutFe f1 (fun s' c l => Bs noF k0 100 c l ∧ IsV a_ (c.get 0) l ∧ IsV b_ (c.get 1) l ∧ IsV op_ (c.get 2) l ∧ IsV s'.1 (c.get 8) l ∧ IsV s'.2 (c.get 9) l ∧ True) (fun i' s' c l => (i' = 0 ∧ Bs noF k0 100 c l ∧ IsV a_ (c.get 0) l ∧ IsV b_ (c.get 1) l ∧ IsV op_ (c.get 2) l ∧ IsV s'.1 (c.get 8) l ∧ True)) (fun r' c l => bodyPost Tryz.prog Tryz.f55 (RetC noF k0 (IsTup2 (IsV r'.1) (IsV r'.2))) .ret c l.w) ?_ hQ ?_ ?_ ?_
 ·intro Q4 W4 hgo hex hret
  refine sim_loop ?_ _ _ _ _ _ hf1 ⟨⟨hg, hs, hd⟩, i0, i1, i2, i8, i9, trivial⟩ Q4 W4 hgo hex hret
  clear hr hf1 hgo hex hret W4 hQ hg hs hd i0 i1 i2 i8 i9
  intro s1 fl_ a k hr hS Q hQ hgo2416 hex2417 hret2418
  obtain ⟨⟨hg, hs, hd⟩, i0, i1, i2, i8, i9, _⟩ := hS
  unfold ref09_combine_L0 at hr
  refine wp_seq ?_
  refine stepL 4 (_ :: _ :: _ :: _ :: []) rfl ⟨hg, hs, hd⟩ (by kernel_rfl) ⟨mu rfl i9, mu rfl i0, o1 [(24, some 1)] rfl fun _ _ h n => ok_len rfl rfl Tryz.underlying22 (IsV.rd n.1), o1 [(23, some 0), (25, some 2)] rfl fun _ _ h n => ok_lss rfl n.1 n.2.1, trivial⟩ [⟨_, _⟩, ⟨_, _⟩, ⟨_, _⟩, ⟨_, _⟩, ⟨_, _⟩, ⟨_, _⟩] (fun b q p => ⟨p.ke 0 rfl i0, p.ke 1 rfl i1, p.ke 2 rfl i2, p.ke 8 rfl i8, p.ke 9 rfl i9, p.ou 3 26 rfl, trivial⟩) ?_
  rintro a k ⟨⟨hg, hs, hd⟩, i0, i1, i2, i8, i9, i26, _⟩
  refine wp_cond_split (isBool i26) (fun hc2426 => ?_) (fun hc2426 => ?_)
  ·rw [if_pos hc2426] at hr
   refine wp_skip ?_
   refine wp_seq ?_
   refine wp_block ?_
   obtain ⟨x4, hx4, hr⟩ := bind_some hr
   obtain ⟨x5, hx5, hr⟩ := bind_some hr
   obtain ⟨x6, hx6, hr⟩ := bind_some hr
   obtain ⟨x7, hx7, hr⟩ := bind_some hr
   refine cut (fun a' k' => Bs noF k0 100 a' k' ∧ (IsV a_) (a'.get 0) k' ∧ (IsV b_) (a'.get 1) k' ∧ (IsV op_) (a'.get 2) k' ∧ (IsV x7) (a'.get 8) k' ∧ (IsV s1.2) (a'.get 9) k' ∧ True) ?_ hQ ?_
   ·intro Q5 W5 w4
    refine region (m := 14) (_ :: _ :: _ :: _ :: _ :: _ :: _ :: _ :: _ :: _ :: _ :: _ :: _ :: _ :: []) hmix hs (by kernel_rfl) ⟨mu rfl i8, mu rfl i0, mu rfl i9, o1 [(30, some 1), (31, some 2)] rfl fun _ _ h n => ok_indexAddr rfl Tryz.underlying22 ty40 (IsV.rd n.1) n.2.1 hx4, o1 [(32, some 3)] rfl fun _ _ h n => ok_fieldAddr rfl fo40_0 (at_Slab_0 _) n.1, o1 [(33, some 4)] rfl fun _ _ h n => ok_load rfl ty3 n.1, o1 [(29, some 0), (34, some 5)] rfl fun _ _ h n => ok_call rfl Tryz.call39 (ref09_insert_ok n.1 n.2.1 hx5), mu rfl i0, mu rfl i9, o1 [(36, some 7), (37, some 8)] rfl fun _ _ h n => ok_indexAddr rfl Tryz.underlying22 ty40 (IsV.rd n.1) n.2.1 hx6, o1 [(38, some 9)] rfl fun _ _ h n => ok_fieldAddr rfl fo40_1 (at_Slab_1 _) n.1, o1 [(39, some 10)] rfl fun _ _ h n => ok_load rfl ty3 n.1, o1 [(35, some 6), (40, some 11)] rfl fun _ _ h n => ok_call rfl Tryz.call39 (ref09_insert_ok n.1 n.2.1 hx7), cp 12 rfl rfl, trivial⟩ W5 fun b q p => ?_
    exact tail_done (k := q) (w4 _ _ ⟨Bs.post ⟨hg, hs, hd⟩ p, p.ke 0 rfl i0, p.ke 1 rfl i1, p.ke 2 rfl i2, p.ou 13 8 rfl, p.ke 9 rfl i9, trivial⟩)
   rintro a k ⟨⟨hg, hs, hd⟩, i0, i1, i2, i8, i9, _⟩
   obtain ⟨x8, hx8, hr⟩ := bind_some hr
   refine cut (fun a' k' => Bs noF k0 100 a' k' ∧ (IsV a_) (a'.get 0) k' ∧ (IsV b_) (a'.get 1) k' ∧ (IsV op_) (a'.get 2) k' ∧ (IsV x7) (a'.get 8) k' ∧ (IsV x8) (a'.get 9) k' ∧ True) ?_ hQ ?_
   ·intro Q6 W6 w5
    refine gS 3 (_ :: _ :: _ :: []) hs (by kernel_rfl) ⟨mu rfl i9, o1 [(27, some 0)] rfl fun _ _ h n => ok_add rfl n.1 (cI rfl) hx8, cp 1 rfl rfl, trivial⟩ W6 fun b q p => ?_
    exact tail_done (k := q) (w5 _ _ ⟨Bs.post ⟨hg, hs, hd⟩ p, p.ke 0 rfl i0, p.ke 1 rfl i1, p.ke 2 rfl i2, p.ke 8 rfl i8, p.ou 2 9 rfl, trivial⟩)
   rintro a k ⟨⟨hg, hs, hd⟩, i0, i1, i2, i8, i9, _⟩
   exact hgo2416 _ _ _ (Option.some.inj hr).symm ⟨⟨hg, hs, hd⟩, i0, i1, i2, i8, i9, trivial⟩
  rw [if_neg (by rw [hc2426]; decide)] at hr
  refine wp_exit ?_
  exact hex2417 _ _ _ _ (Option.some.inj hr).symm ⟨rfl, ⟨hg, hs, hd⟩, i0, i1, i2, i8, trivial⟩
 ·rintro r1 a k rfl hR
  dsimp only at hr
  obtain rfl := Option.some.inj hr
  exact hR
 ·rintro _ _ _ rfl _
  simp at hr
 clear hf1
 rintro _ s2 a k rfl ⟨rfl, ⟨hg, hs, hd⟩, i0, i1, i2, i8, _⟩
 dsimp only at hr
 refine wp_seq ?_
 refine stepL 1 (⟨some (IsI 0), []⟩ :: []) rfl ⟨hg, hs, hd⟩ (by kernel_rfl) ⟨aI rfl rfl, trivial⟩ [⟨_, _⟩, ⟨_, _⟩, ⟨_, _⟩, ⟨_, _⟩, ⟨_, _⟩] (fun b q p => ⟨p.ke 0 rfl i0, p.ke 1 rfl i1, p.ke 2 rfl i2, p.ke 8 rfl i8, p.ou 0 10 rfl, trivial⟩) ?_
 rintro a k ⟨⟨hg, hs, hd⟩, i0, i1, i2, i8, i10, _⟩
 refine wp_block ?_
 obtain ⟨f2, hf2, hr⟩ := bind_some hr
 refine cutFe f2 (fun s' c l => Bs noF k0 100 c l ∧ IsV a_ (c.get 0) l ∧ IsV b_ (c.get 1) l ∧ IsV op_ (c.get 2) l ∧ IsV s'.1 (c.get 8) l ∧ IsV s'.2 (c.get 10) l ∧ True) (fun i' s' c l => (i' = 2 ∧ Bs noF k0 100 c l ∧ IsV a_ (c.get 0) l ∧ IsV b_ (c.get 1) l ∧ IsV op_ (c.get 2) l ∧ IsV s'.1 (c.get 8) l ∧ True)) (fun r' c l => bodyPost Tryz.prog Tryz.f55 (RetC noF k0 (IsTup2 (IsV r'.1) (IsV r'.2))) .ret c l.w) ?_ hQ ?_ ?_ ?_
 ·intro Q7 W7 hgo hex hret
  refine sim_loop ?_ _ _ _ _ _ hf2 ⟨⟨hg, hs, hd⟩, i0, i1, i2, i8, i10, trivial⟩ Q7 W7 hgo hex hret
  clear hr hf2 hgo hex hret W7 hQ hg hs hd i0 i1 i10 i2 i8
  intro s3 fl_ a k hr hS Q hQ hgo2433 hex2434 hret2435
  obtain ⟨⟨hg, hs, hd⟩, i0, i1, i2, i8, i10, _⟩ := hS
  unfold ref09_combine_L1 at hr
  refine wp_seq ?_
  refine stepL 4 (_ :: _ :: _ :: _ :: []) rfl ⟨hg, hs, hd⟩ (by kernel_rfl) ⟨mu rfl i10, mu rfl i1, o1 [(43, some 1)] rfl fun _ _ h n => ok_len rfl rfl Tryz.underlying22 (IsV.rd n.1), o1 [(42, some 0), (44, some 2)] rfl fun _ _ h n => ok_lss rfl n.1 n.2.1, trivial⟩ [⟨_, _⟩, ⟨_, _⟩, ⟨_, _⟩, ⟨_, _⟩, ⟨_, _⟩, ⟨_, _⟩] (fun b q p => ⟨p.ke 0 rfl i0, p.ke 1 rfl i1, p.ke 2 rfl i2, p.ke 8 rfl i8, p.ke 10 rfl i10, p.ou 3 45 rfl, trivial⟩) ?_
  rintro a k ⟨⟨hg, hs, hd⟩, i0, i1, i2, i8, i10, i45, _⟩
  refine wp_cond_split (isBool i45) (fun hc2443 => ?_) (fun hc2443 => ?_)
  ·rw [if_pos hc2443] at hr
   refine wp_skip ?_
   refine wp_seq ?_
   refine wp_block ?_
   obtain ⟨x9, hx9, hr⟩ := bind_some hr
   obtain ⟨x10, hx10, hr⟩ := bind_some hr
   obtain ⟨x11, hx11, hr⟩ := bind_some hr
   obtain ⟨x12, hx12, hr⟩ := bind_some hr
   refine cut (fun a' k' => Bs noF k0 100 a' k' ∧ (IsV a_) (a'.get 0) k' ∧ (IsV b_) (a'.get 1) k' ∧ (IsV op_) (a'.get 2) k' ∧ (IsV x12) (a'.get 8) k' ∧ (IsV s3.2) (a'.get 10) k' ∧ True) ?_ hQ ?_
   ·intro Q8 W8 w6
    refine region (m := 14) (_ :: _ :: _ :: _ :: _ :: _ :: _ :: _ :: _ :: _ :: _ :: _ :: _ :: _ :: []) hmix hs (by kernel_rfl) ⟨mu rfl i8, mu rfl i1, mu rfl i10, o1 [(49, some 1), (50, some 2)] rfl fun _ _ h n => ok_indexAddr rfl Tryz.underlying22 ty40 (IsV.rd n.1) n.2.1 hx9, o1 [(51, some 3)] rfl fun _ _ h n => ok_fieldAddr rfl fo40_0 (at_Slab_0 _) n.1, o1 [(52, some 4)] rfl fun _ _ h n => ok_load rfl ty3 n.1, o1 [(48, some 0), (53, some 5)] rfl fun _ _ h n => ok_call rfl Tryz.call39 (ref09_insert_ok n.1 n.2.1 hx10), mu rfl i1, mu rfl i10, o1 [(55, some 7), (56, some 8)] rfl fun _ _ h n => ok_indexAddr rfl Tryz.underlying22 ty40 (IsV.rd n.1) n.2.1 hx11, o1 [(57, some 9)] rfl fun _ _ h n => ok_fieldAddr rfl fo40_1 (at_Slab_1 _) n.1, o1 [(58, some 10)] rfl fun _ _ h n => ok_load rfl ty3 n.1, o1 [(54, some 6), (59, some 11)] rfl fun _ _ h n => ok_call rfl Tryz.call39 (ref09_insert_ok n.1 n.2.1 hx12), cp 12 rfl rfl, trivial⟩ W8 fun b q p => ?_
    exact tail_done (k := q) (w6 _ _ ⟨Bs.post ⟨hg, hs, hd⟩ p, p.ke 0 rfl i0, p.ke 1 rfl i1, p.ke 2 rfl i2, p.ou 13 8 rfl, p.ke 10 rfl i10, trivial⟩)
   rintro a k ⟨⟨hg, hs, hd⟩, i0, i1, i2, i8, i10, _⟩
   obtain ⟨x13, hx13, hr⟩ := bind_some hr
   refine cut (fun a' k' => Bs noF k0 100 a' k' ∧ (IsV a_) (a'.get 0) k' ∧ (IsV b_) (a'.get 1) k' ∧ (IsV op_) (a'.get 2) k' ∧ (IsV x12) (a'.get 8) k' ∧ (IsV x13) (a'.get 10) k' ∧ True) ?_ hQ ?_
   ·intro Q9 W9 w7
    refine gS 3 (_ :: _ :: _ :: []) hs (by kernel_rfl) ⟨mu rfl i10, o1 [(46, some 0)] rfl fun _ _ h n => ok_add rfl n.1 (cI rfl) hx13, cp 1 rfl rfl, trivial⟩ W9 fun b q p => ?_
    exact tail_done (k := q) (w7 _ _ ⟨Bs.post ⟨hg, hs, hd⟩ p, p.ke 0 rfl i0, p.ke 1 rfl i1, p.ke 2 rfl i2, p.ke 8 rfl i8, p.ou 2 10 rfl, trivial⟩)
   rintro a k ⟨⟨hg, hs, hd⟩, i0, i1, i2, i8, i10, _⟩
   exact hgo2433 _ _ _ (Option.some.inj hr).symm ⟨⟨hg, hs, hd⟩, i0, i1, i2, i8, i10, trivial⟩
  rw [if_neg (by rw [hc2443]; decide)] at hr
  refine wp_exit ?_
  exact hex2434 _ _ _ _ (Option.some.inj hr).symm ⟨rfl, ⟨hg, hs, hd⟩, i0, i1, i2, i8, trivial⟩
 ·rintro r2 a k rfl hR
  dsimp only at hr
  obtain rfl := Option.some.inj hr
  exact hR
 ·rintro _ _ _ rfl _
  simp at hr
 clear hf2
 rintro _ s4 a k rfl ⟨rfl, ⟨hg, hs, hd⟩, i0, i1, i2, i8, _⟩
 dsimp only at hr
 refine cutS (fun c l => Bs noF k0 100 c l ∧ IsV a_ (c.get 0) l ∧ IsV b_ (c.get 1) l ∧ IsV op_ (c.get 2) l ∧ IsV s4.1 (c.get 8) l ∧ IsOwn 0 40 ([] : List Slab) (c.get 11) l ∧ Lo k0 (obF (c.get 11)) ∧ True) ?_ ?_
 ·intro Q10 W10 w8
  refine gS 1 (⟨some IsE0, []⟩ :: []) hs (by kernel_rfl) ⟨ob1 rfl fun b q h n => ok_assign rfl isE0_nil, trivial⟩ W10 fun b q p => ?_
  have hgq := hg.then p.grow
  have hsb := p.size.trans hs
  have hdb := p.defers.trans hd
  have j0 := p.ke 0 rfl i0
  have j1 := p.ke 1 rfl i1
  have j2 := p.ke 2 rfl i2
  have j8 := p.ke 8 rfl i8
  have j11 : IsE0 (b.get 11) q := p.ou 0 11 rfl
  have y11 : Lo k0 (obF (b.get 11)) := j11.lo
  replace j11 : IsOwn 0 40 ([] : List Slab) (b.get 11) q := j11.own0
  exact tail_done (k := q) (w8 _ _ ⟨⟨hgq, hsb, hdb⟩, j0, j1, j2, j8, j11, y11, trivial⟩)
 rintro a k ⟨⟨hg, hs, hd⟩, i0, i1, i2, i8, i11, n11, _⟩
 refine wp_seq ?_
 refine cutS (fun c l => Bs noF k0 100 c l ∧ IsV a_ (c.get 0) l ∧ IsV b_ (c.get 1) l ∧ IsV op_ (c.get 2) l ∧ IsV s4.1 (c.get 8) l ∧ IsOwn 0 40 ([] : List Slab) (c.get 11) l ∧ Lo k0 (obF (c.get 11)) ∧ IsI 0 (c.get 12) l ∧ True) ?_ ?_
 ·intro Q11 W11 w9
  refine gS 1 (⟨some (IsI 0), []⟩ :: []) hs (by kernel_rfl) ⟨aI rfl rfl, trivial⟩ W11 fun b q p => ?_
  exact tail_done (k := q) (w9 _ _ ⟨Bs.post ⟨hg, hs, hd⟩ p, p.ke 0 rfl i0, p.ke 1 rfl i1, p.ke 2 rfl i2, p.ke 8 rfl i8, p.ke 11 rfl i11, (by rw [p.old 11 rfl]; exact n11), p.ou 0 12 rfl, trivial⟩)
 rintro a k ⟨⟨hg, hs, hd⟩, i0, i1, i2, i8, i11, n11, i12, _⟩
 refine wp_block ?_
 obtain ⟨f3, hf3, hr⟩ := bind_some hr
 refine cutFe f3 (fun s' c l => Bs noF k0 100 c l ∧ IsV a_ (c.get 0) l ∧ IsV b_ (c.get 1) l ∧ IsV op_ (c.get 2) l ∧ IsV s4.1 (c.get 8) l ∧ IsOwn 0 40 s'.1 (c.get 11) l ∧ Lo k0 (obF (c.get 11)) ∧ IsV s'.2 (c.get 12) l ∧ True) (fun i' s' c l => (i' = 4 ∧ Bs noF k0 100 c l ∧ IsV s'.1 (c.get 11) l ∧ True)) (fun r' c l => bodyPost Tryz.prog Tryz.f55 (RetC noF k0 (IsTup2 (IsV r'.1) (IsV r'.2))) .ret c l.w) ?_ hQ ?_ ?_ ?_
 ·intro Q12 W12 hgo hex hret
  refine sim_loop ?_ _ _ _ _ _ hf3 ⟨⟨hg, hs, hd⟩, i0, i1, i2, i8, i11, n11, i12, trivial⟩ Q12 W12 hgo hex hret
  clear hr hf3 hgo hex hret W12 hQ hg hs hd i0 i1 i11 i12 i2 i8 n11
  intro s5 fl_ a k hr hS Q hQ hgo2451 hex2452 hret2453
  obtain ⟨⟨hg, hs, hd⟩, i0, i1, i2, i8, i11, n11, i12, _⟩ := hS
  unfold ref09_combine_L2 at hr
  refine wp_seq ?_
  refine wp_seq ?_
  obtain ⟨x14, hx14, hr⟩ := bind_some hr
  refine cut (fun a' k' => Bs noF k0 100 a' k' ∧ (IsV a_) (a'.get 0) k' ∧ (IsV b_) (a'.get 1) k' ∧ (IsV op_) (a'.get 2) k' ∧ (IsV s4.1) (a'.get 8) k' ∧ IsOwn 0 40 s5.1 (a'.get 11) k' ∧ Lo k0 (obF (a'.get 11)) ∧ (IsV s5.2) (a'.get 12) k' ∧ (IsV (decide (x14 < (s4.1.length : Int)))) (a'.get 65) k' ∧ True) ?_ hQ ?_
  ·intro Q13 W13 w10
   refine gS 5 (_ :: _ :: _ :: _ :: _ :: []) hs (by kernel_rfl) ⟨mu rfl i12, o1 [(61, some 0)] rfl fun _ _ h n => ok_add rfl n.1 (cI rfl) hx14, mu rfl i8, o1 [(63, some 2)] rfl fun _ _ h n => ok_len rfl rfl Tryz.underlying50 (IsV.rd n.1), o1 [(62, some 1), (64, some 3)] rfl fun _ _ h n => ok_lss rfl n.1 n.2.1, trivial⟩ W13 fun b q p => ?_
   exact tail_done (k := q) (w10 _ _ ⟨Bs.post ⟨hg, hs, hd⟩ p, p.ke 0 rfl i0, p.ke 1 rfl i1, p.ke 2 rfl i2, p.ke 8 rfl i8, p.ke 11 rfl i11, (by rw [p.old 11 rfl]; exact n11), p.ke 12 rfl i12, p.ou 4 65 rfl, trivial⟩)
  rintro a k ⟨⟨hg, hs, hd⟩, i0, i1, i2, i8, i11, n11, i12, i65, _⟩
  refine wp_cond_split (isBool i65) (fun hc2462 => ?_) (fun hc2462 => ?_)
  ·rw [if_pos hc2462] at hr
   refine wp_skip ?_
   refine wp_seq ?_
   refine wp_block ?_
   obtain ⟨x15, hx15, hr⟩ := bind_some hr
   obtain ⟨x16, hx16, hr⟩ := bind_some hr
   obtain ⟨x17, hx17, hr⟩ := bind_some hr
   obtain ⟨x18, hx18, hr⟩ := bind_some hr
   obtain ⟨x19, hx19, hr⟩ := bind_some hr
   obtain ⟨x20, hx20, hr⟩ := bind_some hr
   obtain ⟨x21, hx21, hr⟩ := bind_some hr
   obtain ⟨x22, hx22, hr⟩ := bind_some hr
   obtain ⟨x23, hx23, hr⟩ := bind_some hr
   refine cut (fun a' k' => Bs noF k0 100 a' k' ∧ (IsV a_) (a'.get 0) k' ∧ (IsV b_) (a'.get 1) k' ∧ (IsV op_) (a'.get 2) k' ∧ (IsV s4.1) (a'.get 8) k' ∧ IsOwn 0 40 x23 (a'.get 11) k' ∧ Lo k0 (obF (a'.get 11)) ∧ (IsV s5.2) (a'.get 12) k' ∧ True) ?_ hQ ?_
   ·intro Q14 W14 w11
    refine region (m := 24) (⟨some (OwnAt (a.get 11) 0 40 s5.1), [(11, none)]⟩ :: _ :: _ :: _ :: _ :: _ :: _ :: _ :: _ :: _ :: _ :: _ :: _ :: _ :: _ :: _ :: _ :: _ :: _ :: _ :: _ :: _ :: _ :: _ :: []) hmix hs (by kernel_rfl) ⟨ob1 rfl fun _ _ h n => ok_moveOA (.inl rfl) (ownAt n.1 (up i11 h n.1)), mu rfl i8, mu rfl i12, o1 [(69, some 1), (70, some 2)] rfl fun _ _ h n => ok_indexAddr rfl Tryz.underlying50 ty3 (IsV.rd n.1) n.2.1 hx15, o1 [(71, some 3)] rfl fun _ _ h n => ok_load rfl ty3 n.1, mu rfl i8, mu rfl i12, o1 [(74, some 6)] rfl fun _ _ h n => ok_add rfl n.1 (cI rfl) hx16, o1 [(73, some 5), (75, some 7)] rfl fun _ _ h n => ok_indexAddr rfl Tryz.underlying50 ty3 (IsV.rd n.1) n.2.1 hx17, o1 [(76, some 8)] rfl fun _ _ h n => ok_load rfl ty3 n.1, mu rfl i0, mu rfl i8, mu rfl i12, o1 [(79, some 11), (80, some 12)] rfl fun _ _ h n => ok_indexAddr rfl Tryz.underlying50 ty3 (IsV.rd n.1) n.2.1 hx18, o1 [(81, some 13)] rfl fun _ _ h n => ok_load rfl ty3 n.1, o1 [(78, some 10), (82, some 14)] rfl fun _ _ h n => ok_call rfl Tryz.call57 (ref09_section_ok n.1 n.2.1 hx19), mu rfl i1, mu rfl i8, mu rfl i12, o1 [(85, some 17), (86, some 18)] rfl fun _ _ h n => ok_indexAddr rfl Tryz.underlying50 ty3 (IsV.rd n.1) n.2.1 hx20, o1 [(87, some 19)] rfl fun _ _ h n => ok_load rfl ty3 n.1, o1 [(84, some 16), (88, some 20)] rfl fun _ _ h n => ok_call rfl Tryz.call57 (ref09_section_ok n.1 n.2.1 hx21), mu rfl i2, o1 [(83, some 15), (89, some 21), (90, some 22)] rfl fun _ _ h n => ok_call rfl Tryz.call41 (ref06_Form_ok n.1 n.2.1 n.2.2.1 hx22), trivial⟩ W14 fun b q p => ?_
    have hgq := hg.then p.grow
    have hsb := p.size.trans hs
    have hdb := p.defers.trans hd
    have j0 := p.ke 0 rfl i0
    have j1 := p.ke 1 rfl i1
    have j2 := p.ke 2 rfl i2
    have j8 := p.ke 8 rfl i8
    have j12 := p.ke 12 rfl i12
    have e68 : b.get 68 = a.get 11 := (p.ou 0 68 rfl).1
    have j68 : IsOwn 0 40 s5.1 (b.get 68) q := (p.ou 0 68 rfl).2
    have y68 : Lo k0 (obF (b.get 68)) := by rw [e68]; exact n11
    have j72 : (IsV x15) (b.get 72) q := p.ou 4 72 rfl
    have j77 : (IsV x17) (b.get 77) q := p.ou 9 77 rfl
    have j91 : (IsV x22) (b.get 91) q := p.ou 23 91 rfl
    have hns := j68.nshF
    refine tail_call (F := obF (b.get 68)) (i := 24) (d := 92) rfl rfl rfl rfl (by rw [hsb]; decide) Tryz.call40 W14 (ref09_add_ok j68 j72 j77 j91 hx23) fun b2 q2 hsz hdf hoth hch hres => ?_
    have hle := hch.le hns
    obtain ⟨hown, hob⟩ := hres
    have yn : Lo k0 (obF (b2.get 92)) := y68.app hgq hob
    replace j0 := Pers.pers hle j0
    replace j1 := Pers.pers hle j1
    replace j2 := Pers.pers hle j2
    replace j8 := Pers.pers hle j8
    replace j12 := Pers.pers hle j12
    replace j72 := Pers.pers hle j72
    replace j77 := Pers.pers hle j77
    replace j91 := Pers.pers hle j91
    replace hgq := hgq.step hch y68.wr
    rw [← hoth 0 (by decide)] at j0
    rw [← hoth 1 (by decide)] at j1
    rw [← hoth 2 (by decide)] at j2
    rw [← hoth 8 (by decide)] at j8
    rw [← hoth 12 (by decide)] at j12
    rw [← hoth 72 (by decide)] at j72
    rw [← hoth 77 (by decide)] at j77
    rw [← hoth 91 (by decide)] at j91
    have j92 := hown
    have y92 := yn
    have hres := True.intro
    clear hown hob yn
    replace hsb := hsz.trans hsb
    replace hdb := hdf.trans hdb
    clear hle hch hres hns hsz hdf hoth
    obtain ⟨b, hbb⟩ : ∃ b, b = b2 := ⟨b2, rfl⟩
    subst hbb
    obtain ⟨q, hqq⟩ : ∃ q, q = q2 := ⟨q2, rfl⟩
    subst hqq
    refine tail_assign (i := 25) (d := 11) rfl rfl (.inl rfl) rfl (by rw [hsb]; decide) fun b2 hsz hdf hnew hoth => ?_
    have jn : (IsOwn 0 40 x23) (b2.get 11) q := by rw [hnew]; exact j92
    have yn : Lo k0 (obF (b2.get 11)) := by rw [hnew]; exact y92
    rw [← hoth 0 (by decide)] at j0
    rw [← hoth 1 (by decide)] at j1
    rw [← hoth 2 (by decide)] at j2
    rw [← hoth 8 (by decide)] at j8
    rw [← hoth 12 (by decide)] at j12
    rw [← hoth 72 (by decide)] at j72
    rw [← hoth 77 (by decide)] at j77
    rw [← hoth 91 (by decide)] at j91
    have j11 := jn
    have y11 := yn
    replace hsb := hsz.trans hsb
    replace hdb := hdf.trans hdb
    clear hsz hdf hoth
    obtain ⟨b, hbb⟩ : ∃ b, b = b2 := ⟨b2, rfl⟩
    subst hbb
    exact tail_done (k := q) (w11 _ _ ⟨⟨hgq, hsb, hdb⟩, j0, j1, j2, j8, j11, y11, j12, trivial⟩)
   rintro a k ⟨⟨hg, hs, hd⟩, i0, i1, i2, i8, i11, n11, i12, _⟩
   obtain ⟨x24, hx24, hr⟩ := bind_some hr
   refine cut (fun a' k' => Bs noF k0 100 a' k' ∧ (IsV a_) (a'.get 0) k' ∧ (IsV b_) (a'.get 1) k' ∧ (IsV op_) (a'.get 2) k' ∧ (IsV s4.1) (a'.get 8) k' ∧ IsOwn 0 40 x23 (a'.get 11) k' ∧ Lo k0 (obF (a'.get 11)) ∧ (IsV x24) (a'.get 12) k' ∧ True) ?_ hQ ?_
   ·intro Q15 W15 w12
    refine gS 3 (_ :: _ :: _ :: []) hs (by kernel_rfl) ⟨mu rfl i12, o1 [(66, some 0)] rfl fun _ _ h n => ok_add rfl n.1 (cI rfl) hx24, cp 1 rfl rfl, trivial⟩ W15 fun b q p => ?_
    exact tail_done (k := q) (w12 _ _ ⟨Bs.post ⟨hg, hs, hd⟩ p, p.ke 0 rfl i0, p.ke 1 rfl i1, p.ke 2 rfl i2, p.ke 8 rfl i8, p.ke 11 rfl i11, (by rw [p.old 11 rfl]; exact n11), p.ou 2 12 rfl, trivial⟩)
   rintro a k ⟨⟨hg, hs, hd⟩, i0, i1, i2, i8, i11, n11, i12, _⟩
   exact hgo2451 _ _ _ (Option.some.inj hr).symm ⟨⟨hg, hs, hd⟩, i0, i1, i2, i8, i11, n11, i12, trivial⟩
  rw [if_neg (by rw [hc2462]; decide)] at hr
  refine wp_exit ?_
  obtain ⟨kk, sh2461, ii11⟩ := i11.give
  replace i11 := ii11
  replace hg := hg.hand sh2461 n11.wr
  rw [← sh2461.w]
  clear sh2461
  obtain ⟨k, hkk⟩ : ∃ k, k = kk := ⟨kk, rfl⟩
  subst hkk
  exact hex2452 _ _ _ _ (Option.some.inj hr).symm ⟨rfl, ⟨hg, hs, hd⟩, i11, trivial⟩
 ·rintro r3 a k rfl hR
  dsimp only at hr
  obtain rfl := Option.some.inj hr
  exact hR
 ·rintro _ _ _ rfl _
  simp at hr
 clear hf3
 rintro _ s6 a k rfl ⟨rfl, ⟨hg, hs, hd⟩, i11, _⟩
 dsimp only at hr
 refine wp_seq ?_
 obtain ⟨x25, hx25, hr⟩ := bind_some hr
 refine cut (fun a' k' => Bs noF k0 100 a' k' ∧ (IsV x25.1) (a'.get 13) k' ∧ (IsV x25.2) (a'.get 14) k' ∧ True) ?_ hQ ?_
 ·intro Q16 W16 w13
  refine gS 7 (_ :: _ :: _ :: _ :: _ :: _ :: _ :: []) hs (by kernel_rfl) ⟨mu rfl i11, o1 [(94, some 0)] rfl fun _ _ h n => ok_call rfl Tryz.call42 (ref09_end_ok n.1 hx25), cm 1 rfl rfl, o1 [(93, some 2)] rfl fun _ _ h n => ok_ext2_0 rfl n.1, o1 [(93, some 2)] rfl fun _ _ h n => ok_ext2_1 rfl n.1, cp 3 rfl rfl, cp 4 rfl rfl, trivial⟩ W16 fun b q p => ?_
  exact tail_done (k := q) (w13 _ _ ⟨Bs.post ⟨hg, hs, hd⟩ p, p.ou 5 13 rfl, p.ou 6 14 rfl, trivial⟩)
 rintro a k ⟨⟨hg, hs, hd⟩, i13, i14, _⟩
 refine stepL 4 (_ :: _ :: _ :: _ :: []) rfl ⟨hg, hs, hd⟩ (by kernel_rfl) ⟨mu rfl i13, mu rfl i14, cp 0 rfl rfl, cp 1 rfl rfl, trivial⟩ [⟨_, _⟩, ⟨_, _⟩] (fun b q p => ⟨p.ou 2 6 rfl, p.ou 3 7 rfl, trivial⟩) ?_
 rintro a k ⟨⟨hg, hs, hd⟩, i6, i7, _⟩
 refine wp_ret ?_
 obtain rfl := Option.some.inj hr
 exact retC2 rfl hd hg i6 i7
noncomputable def k55 := mkO 55 [.list (.st 3), .list (.st 3), .int] [.list (.st 3), .int] (fun x => ref09_combine x.1 x.2.1 x.2.2) Tryz.call55 fun k0 vs x r h hr => by obtain ⟨v0, vs, rfl, i0, h⟩ := h.cons; obtain ⟨v1, vs, rfl, i1, h⟩ := h.cons; obtain ⟨v2, rfl, i2⟩ := h.one; exact ret2F (T := tb) (ref09_combine_ok i0 i1 i2 hr)
def ref09_Union (a_ : (List Slab)) (b_ : (List Slab)) : Option ((List Slab) × Int) :=
 (ref09_combine a_ b_ 0).bind fun x1 =>
 some (x1.1, x1.2)
noncomputable def k21 := mk 21 [.list (.st 3), .list (.st 3)] [.list (.st 3), .int] (fun x => ref09_Union x.1 x.2) [k55] [] Tryz.f21 (.n) Tryz.func21 Tryz.call21 rfl rfl fun x => by kernel_rfl
def region_Common_1 (a_ : Bool) (b_ : Bool) : Option (Bool) :=
 some (a_ && b_)
noncomputable def k79 := mk 79 [.bool, .bool] [.bool] (fun x => region_Common_1 x.1 x.2) [] [] Tryz.f79 (.n) Tryz.func79 Tryz.call79 rfl rfl fun x => by kernel_rfl
theorem region_Common_1_ok {k0 : K} {v0 v1 : Value} {x0 : Bool} {x1 : Bool} {r : Bool} (i0 : IsV x0 v0 k0) (i1 : IsV x1 v1 k0) (hr : region_Common_1 x0 x1 = some r) : Calls Tryz.prog 79 #[v0, v1] k0.w (Ret k0 (IsV r)) := (k79.ok.ok k0 [v0, v1] (x0, x1) r ⟨i0, i1⟩ hr)
def region_Common (a_ : (List Rect)) (b_ : (List Rect)) : Option ((List Rect) × Int) :=
 (region_combine a_ b_ region_Common_1).bind fun x1 =>
 some (x1.1, x1.2)
theorem region_Common_ok {k0 : K} {v0 v1 : Value} {a_ : (List Rect)} {b_ : (List Rect)} {r : (List Rect) × Int} (i0 : (IsV a_) v0 k0) (i1 : (IsV b_) v1 k0) (hr : region_Common a_ b_ = some r) :
  Calls Tryz.prog 56 #[v0, v1] k0.w (Ret k0 (IsTup2 (IsV r.1) (IsV r.2))) := by
 unfold region_Common at hr
 refine Ret.ofC ?_
 refine enterK Tryz.func56 rfl Tryz.ntmps56 (show 2 ≤ 11 by decide) fun a k hk0 hs hd ha => ?_
 obtain ⟨e0, e1, _⟩ := ha
 replace i0 : (IsV a_) (a.get 0) k := by rw [e0, hk0]; exact i0
 replace i1 : (IsV b_) (a.get 1) k := by rw [e1, hk0]; exact i1
 have hQ : Gb.LetsOut (bodyPost Tryz.prog Tryz.f56 (RetC noF k0 (IsTup2 (IsV r.1) (IsV r.2)))) := letsOutC
 have hg : Chg noF k0 k := by rw [hk0]; exact Chg.refl _ k0
 refine stepL 2 (⟨some IsE0, []⟩ :: ⟨some (IsI 0), []⟩ :: []) rfl ⟨hg, hs, hd⟩ (by kernel_rfl) ⟨ob1 rfl fun b q h n => ok_assign rfl isE0_nil, aI rfl rfl, trivial⟩ [⟨_, _⟩, ⟨_, _⟩] (fun b q p => ⟨p.ke 0 rfl i0, p.ke 1 rfl i1, trivial⟩) ?_
 rintro a k ⟨⟨hg, hs, hd⟩, i0, i1, _⟩
 refine wp_seq ?_
 obtain ⟨x1, hx1, hr⟩ := bind_some hr
 refine cut (fun a' k' => Bs noF k0 11 a' k' ∧ (IsV x1.1) (a'.get 4) k' ∧ (IsV x1.2) (a'.get 5) k' ∧ True) ?_ hQ ?_
 ·intro Q1 W1 w1
  refine gS 7 (_ :: _ :: _ :: _ :: _ :: _ :: _ :: []) hs (by kernel_rfl) ⟨mu rfl i0, mu rfl i1, o1 [(6, some 0), (7, some 1)] rfl fun _ _ h n => ok_call rfl Tryz.call71 (region_combine_ok n.1 n.2.1 ⟨79, _, _, rfl, Tryz.call79, fun k9 hk9 _ _ _ _ _ hx0 hx1 hy9 => by simpa [evalT] using region_Common_1_ok hx0 hx1 hy9⟩ hx1), o1 [(8, some 2)] rfl fun _ _ h n => ok_ext2_0 rfl n.1, o1 [(8, some 2)] rfl fun _ _ h n => ok_ext2_1 rfl n.1, cp 3 rfl rfl, cp 4 rfl rfl, trivial⟩ W1 fun b q p => ?_
  exact tail_done (k := q) (w1 _ _ ⟨Bs.post ⟨hg, hs, hd⟩ p, p.ou 5 4 rfl, p.ou 6 5 rfl, trivial⟩)
 rintro a k ⟨⟨hg, hs, hd⟩, i4, i5, _⟩
 refine wp_ret ?_
 obtain rfl := Option.some.inj hr
 exact retC2 rfl hd hg i4 i5
def solid_Common (a_ : (List Slab)) (b_ : (List Slab)) : Option ((List Slab) × Int) :=
 (solid_combine a_ b_ region_Common).bind fun x1 =>
 some (x1.1, x1.2)
theorem solid_Common_ok {k0 : K} {v0 v1 : Value} {a_ : (List Slab)} {b_ : (List Slab)} {r : (List Slab) × Int} (i0 : (IsV a_) v0 k0) (i1 : (IsV b_) v1 k0) (hr : solid_Common a_ b_ = some r) :
  Calls Tryz.prog 22 #[v0, v1] k0.w (Ret k0 (IsTup2 (IsV r.1) (IsV r.2))) := by
 unfold solid_Common at hr
 refine Ret.ofC ?_
 refine enterK Tryz.func22 rfl Tryz.ntmps22 (show 2 ≤ 11 by decide) fun a k hk0 hs hd ha => ?_
 obtain ⟨e0, e1, _⟩ := ha
 replace i0 : (IsV a_) (a.get 0) k := by rw [e0, hk0]; exact i0
 replace i1 : (IsV b_) (a.get 1) k := by rw [e1, hk0]; exact i1
 have hQ : Gb.LetsOut (bodyPost Tryz.prog Tryz.f22 (RetC noF k0 (IsTup2 (IsV r.1) (IsV r.2)))) := letsOutC
 have hg : Chg noF k0 k := by rw [hk0]; exact Chg.refl _ k0
 refine stepL 2 (⟨some IsE0, []⟩ :: ⟨some (IsI 0), []⟩ :: []) rfl ⟨hg, hs, hd⟩ (by kernel_rfl) ⟨ob1 rfl fun b q h n => ok_assign rfl isE0_nil, aI rfl rfl, trivial⟩ [⟨_, _⟩, ⟨_, _⟩] (fun b q p => ⟨p.ke 0 rfl i0, p.ke 1 rfl i1, trivial⟩) ?_
 rintro a k ⟨⟨hg, hs, hd⟩, i0, i1, _⟩
 refine wp_seq ?_
 obtain ⟨x1, hx1, hr⟩ := bind_some hr
 refine cut (fun a' k' => Bs noF k0 11 a' k' ∧ (IsV x1.1) (a'.get 4) k' ∧ (IsV x1.2) (a'.get 5) k' ∧ True) ?_ hQ ?_
 ·intro Q1 W1 w1
  refine gS 7 (_ :: _ :: _ :: _ :: _ :: _ :: _ :: []) hs (by kernel_rfl) ⟨mu rfl i0, mu rfl i1, o1 [(6, some 0), (7, some 1)] rfl fun _ _ h n => ok_call rfl Tryz.call44 (solid_combine_ok n.1 n.2.1 ⟨56, _, _, rfl, Tryz.call56, fun k9 hk9 _ _ _ _ _ hx0 hx1 hy9 => by simpa [evalT] using region_Common_ok hx0 hx1 hy9⟩ hx1), o1 [(8, some 2)] rfl fun _ _ h n => ok_ext2_0 rfl n.1, o1 [(8, some 2)] rfl fun _ _ h n => ok_ext2_1 rfl n.1, cp 3 rfl rfl, cp 4 rfl rfl, trivial⟩ W1 fun b q p => ?_
  exact tail_done (k := q) (w1 _ _ ⟨Bs.post ⟨hg, hs, hd⟩ p, p.ou 5 4 rfl, p.ou 6 5 rfl, trivial⟩)
 rintro a k ⟨⟨hg, hs, hd⟩, i4, i5, _⟩
 refine wp_ret ?_
 obtain rfl := Option.some.inj hr
 exact retC2 rfl hd hg i4 i5
noncomputable def k22 := mkO 22 [.list (.st 3), .list (.st 3)] [.list (.st 3), .int] (fun x => solid_Common x.1 x.2) Tryz.call22 fun k0 vs x r h hr => by obtain ⟨v0, vs, rfl, i0, h⟩ := h.cons; obtain ⟨v1, rfl, i1⟩ := h.one; exact ret2F (T := tb) (solid_Common_ok i0 i1 hr)
def ref09_Common (a_ : (List Slab)) (b_ : (List Slab)) : Option ((List Slab) × Int) :=
 (ref09_combine a_ b_ 1).bind fun x1 =>
 some (x1.1, x1.2)
noncomputable def k23 := mk 23 [.list (.st 3), .list (.st 3)] [.list (.st 3), .int] (fun x => ref09_Common x.1 x.2) [k55] [] Tryz.f23 (.n) Tryz.func23 Tryz.call23 rfl rfl fun x => by kernel_rfl
def ref09_Minus (a_ : (List Slab)) (b_ : (List Slab)) : Option ((List Slab) × Int) :=
 (ref09_combine a_ b_ 2).bind fun x1 =>
 some (x1.1, x1.2)
noncomputable def k24 := mk 24 [.list (.st 3), .list (.st 3)] [.list (.st 3), .int] (fun x => ref09_Minus x.1 x.2) [k55] [] Tryz.f24 (.n) Tryz.func24 Tryz.call24 rfl rfl fun x => by kernel_rfl
def ref09_Section (s_ : (List Slab)) (z_ : Int) : Option ((List Rect)) :=
 (ref09_Right s_).bind fun x1 =>
 if (!x1) then
  some ([] : List Rect)
 else
  (ref09_section s_ z_).bind fun x2 =>
  some x2
noncomputable def k25 := mk 25 [.list (.st 3), .int] [.list (.st 0)] (fun x => ref09_Section x.1 x.2) [k26, k57] [] Tryz.f25 (.n) Tryz.func25 Tryz.call25 rfl rfl fun x => by kernel_rfl
def ref06_Area_L0 (a_ : (List Rect)) (s1 : Int × Int) : Option (Flow (Int × Int) (Int)) :=
 if (decide (s1.2 < (a_.length : Int))) then
  (getI a_ s1.2).bind fun x1 =>
  (getI a_ s1.2).bind fun x2 =>
  (subI x1.X1 x2.X0).bind fun x3 =>
  (getI a_ s1.2).bind fun x4 =>
  (getI a_ s1.2).bind fun x5 =>
  (subI x4.Y1 x5.Y0).bind fun x6 =>
  (mulI x3 x6).bind fun x7 =>
  (addI s1.1 x7).bind fun x8 =>
  (addI s1.2 1).bind fun x9 =>
  some (.go (x8, x9))
 else
  some (.ex 0 (s1.1, s1.2))
def ref06_Area (a_ : (List Rect)) : Option (Int) :=
 (ref06_Right a_).bind fun x1 =>
 if (!x1) then
  some 0
 else
  (iterL (ref06_Area_L0 a_) (a_.length + 1) (0, 0)).bind fun f1 => match f1 with
   | .go _ => none
   | .ex _ s1 =>
    some s1.1
   | .ret r1 => some r1
noncomputable def k59 := mk 59 [.list (.st 0)] [.int] (fun x => ref06_Area x) [k58] [] Tryz.f59 (.s .n (.s .n (.s .n (.s (.s .n (.l [] [(3, .v .int), (4, .v .int)] [(0, [4], [])] (fL [0]) .n)) .n)))) Tryz.func59 Tryz.call59 rfl rfl fun x => by kernel_rfl
def ref09_Volume_L0 (s_ : (List Slab)) (s1 : Int × Int) : Option (Flow (Int × Int) (Int)) :=
 if (decide (s1.2 < (s_.length : Int))) then
  (getI s_ s1.2).bind fun x1 =>
  (getI s_ s1.2).bind fun x2 =>
  (subI x1.Z1 x2.Z0).bind fun x3 =>
  (getI s_ s1.2).bind fun x4 =>
  (ref06_Area x4.Area).bind fun x5 =>
  (mulI x3 x5).bind fun x6 =>
  (addI s1.1 x6).bind fun x7 =>
  (addI s1.2 1).bind fun x8 =>
  some (.go (x7, x8))
 else
  some (.ex 0 (s1.1, s1.2))
def ref09_Volume (s_ : (List Slab)) : Option (Int) :=
 (ref09_Right s_).bind fun x1 =>
 if (!x1) then
  some 0
 else
  (iterL (ref09_Volume_L0 s_) (s_.length + 1) (0, 0)).bind fun f1 => match f1 with
   | .go _ => none
   | .ex _ s1 =>
    some s1.1
   | .ret r1 => some r1
noncomputable def k27 := mk 27 [.list (.st 3)] [.int] (fun x => ref09_Volume x) [k26, k59] [] Tryz.f27 (.s .n (.s .n (.s .n (.s (.s .n (.l [] [(3, .v .int), (4, .v .int)] [(0, [4], [])] (fL [0]) .n)) .n)))) Tryz.func27 Tryz.call27 rfl rfl fun x => by kernel_rfl
def ref06_Has_L0 (a_ : (List Rect)) (x_ : Int) (y_ : Int) (s1 : Int) : Option (Flow (Int) (Bool)) :=
 if (decide (s1 < (a_.length : Int))) then
  (getI a_ s1).bind fun x1 =>
  (if (decide (x1.X0 ≤ x_)) then
   (getI a_ s1).bind fun x2 =>
   some (decide (x_ < x2.X1))
  else
   some false).bind fun x3 =>
  (if x3 then
   (getI a_ s1).bind fun x4 =>
   some (decide (x4.Y0 ≤ y_))
  else
   some false).bind fun x5 =>
  (if x5 then
   (getI a_ s1).bind fun x6 =>
   some (decide (y_ < x6.Y1))
  else
   some false).bind fun x7 =>
  if x7 then
   some (.ret true)
  else
   (addI s1 1).bind fun x8 =>
   some (.go x8)
 else
  some (.ex 0 s1)
def ref06_Has (a_ : (List Rect)) (x_ : Int) (y_ : Int) : Option (Bool) :=
 (ref06_Right a_).bind fun x1 =>
 if (!x1) then
  some false
 else
  (iterL (ref06_Has_L0 a_ x_ y_) (a_.length + 1) 0).bind fun f1 => match f1 with
   | .go _ => none
   | .ex _ _ =>
    some false
   | .ret r1 => some r1
noncomputable def k60 := mk 60 [.list (.st 0), .int, .int] [.bool] (fun x => ref06_Has x.1 x.2.1 x.2.2) [k58] [] Tryz.f60 (.s .n (.s .n (.s (.s .n (.l [] [(7, .v .int)] [(0, [7], [])] (fL [0]) .n)) .n))) Tryz.func60 Tryz.call60 rfl rfl fun x => by kernel_rfl
def ref09_Top_L0 (s_ : (List Slab)) (x_ : Int) (y_ : Int) (s1 : Int × Int) : Option (Flow (Int × Int) (Int)) :=
 if (decide (s1.2 < (s_.length : Int))) then
  (getI s_ s1.2).bind fun x1 =>
  (ref06_Has x1.Area x_ y_).bind fun x2 =>
  (if x2 then
   (getI s_ s1.2).bind fun x3 =>
   some x3.Z1
  else
   some s1.1).bind fun s2 =>
  (addI s1.2 1).bind fun x4 =>
  some (.go (s2, x4))
 else
  some (.ex 0 (s1.1, s1.2))
def ref09_Top (s_ : (List Slab)) (x_ : Int) (y_ : Int) : Option (Int) :=
 (ref09_Right s_).bind fun x1 =>
 if (!x1) then
  some 0
 else
  (iterL (ref09_Top_L0 s_ x_ y_) (s_.length + 1) (0, 0)).bind fun f1 => match f1 with
   | .go _ => none
   | .ex _ s1 =>
    some s1.1
   | .ret r1 => some r1
noncomputable def k28 := mk 28 [.list (.st 3), .int, .int] [.int] (fun x => ref09_Top x.1 x.2.1 x.2.2) [k26, k60] [] Tryz.f28 (.s .n (.s .n (.s .n (.s (.s .n (.l [] [(7, .v .int), (8, .v .int)] [(0, [8], [])] (fL [0]) (.s .n (.s (.s .n (.j [] [(7, .v .int)] ([], []) (.s .n .n))) .n)))) .n)))) Tryz.func28 Tryz.call28 rfl rfl fun x => by kernel_rfl
def ref09_Has (s_ : (List Slab)) (x_ : Int) (y_ : Int) (z_ : Int) : Option (Bool) :=
 (ref09_Section s_ z_).bind fun x1 =>
 (ref06_Has x1 x_ y_).bind fun x2 =>
 some x2
noncomputable def k29 := mk 29 [.list (.st 3), .int, .int, .int] [.bool] (fun x => ref09_Has x.1 x.2.1 x.2.2.1 x.2.2.2) [k25, k60] [] Tryz.f29 (.n) Tryz.func29 Tryz.call29 rfl rfl fun x => by kernel_rfl
def law09_rects_L0 (a_ : (List Rect)) (b_ : (List Rect)) (s1 : Int) : Option (Flow (Int) (Bool)) :=
 if (decide (s1 < (a_.length : Int))) then
  (getI a_ s1).bind fun x1 =>
  (getI b_ s1).bind fun x2 =>
  if (!decide (x1 = x2)) then
   some (.ret false)
  else
   (addI s1 1).bind fun x3 =>
   some (.go x3)
 else
  some (.ex 0 s1)
def law09_rects (a_ : (List Rect)) (b_ : (List Rect)) : Option (Bool) :=
 if ((a_.length : Int) != (b_.length : Int)) then
  some false
 else
  (iterL (law09_rects_L0 a_ b_) (a_.length + b_.length + 1) 0).bind fun f1 => match f1 with
   | .go _ => none
   | .ex _ _ =>
    some true
   | .ret r1 => some r1
noncomputable def k30 := mk 30 [.list (.st 0), .list (.st 0)] [.bool] (fun x => law09_rects x.1 x.2) [] [] Tryz.f30 (.s .n (.s .n (.s (.s .n (.l [] [(5, .v .int)] [(0, [5], [])] (fL [0, 1]) .n)) .n))) Tryz.func30 Tryz.call30 rfl rfl fun x => by kernel_rfl
def ref09_Boxes_L1 (s_ : (List Slab)) (s1 : (List Box) × Int) (s2 : (List Box) × Int) : Option (Flow ((List Box) × Int) ((List Box))) :=
 (getI s_ s1.2).bind fun x1 =>
 if (decide (s2.2 < (x1.Area.length : Int))) then
  (getI s_ s1.2).bind fun x2 =>
  (getI x2.Area s2.2).bind fun x3 =>
  (getI s_ s1.2).bind fun x4 =>
  (getI s_ s1.2).bind fun x5 =>
  (appI s2.1 ([(⟨x3, x4.Z0, x5.Z1⟩ : Box)])).bind fun x6 =>
  (addI s2.2 1).bind fun x7 =>
  some (.go (x6, x7))
 else
  some (.ex 2 (s2.1, s2.2))
def ref09_Boxes_L0 (s_ : (List Slab)) (s1 : (List Box) × Int) : Option (Flow ((List Box) × Int) ((List Box))) :=
 if (decide (s1.2 < (s_.length : Int))) then
  (iterL (ref09_Boxes_L1 s_ s1) ((s_.flatMap fun b => b.Area).length + 1) (s1.1, 0)).bind fun f1 => match f1 with
   | .go _ => none
   | .ex _ s2 =>
    (addI s1.2 1).bind fun x1 =>
    some (.go (s2.1, x1))
   | .ret r1 => some (.ret r1)
 else
  some (.ex 0 (s1.1, s1.2))
def ref09_Boxes (s_ : (List Slab)) : Option ((List Box)) :=
 (ref09_Right s_).bind fun x1 =>
 if (!x1) then
  some ([] : List Box)
 else
  (iterL (ref09_Boxes_L0 s_) (s_.length + ([] : List Box).length + 1) (([] : List Box), 0)).bind fun f1 => match f1 with
   | .go _ => none
   | .ex _ s1 =>
    some s1.1
   | .ret r1 => some r1
noncomputable def k32 := mk 32 [.list (.st 3)] [.list (.st 4)] (fun x => ref09_Boxes x) [k26] [3, 25, 46] Tryz.f32 (.s .n (.s .n (.s .n (.s (.s .n (.l [] [(3, .o 35 (.st 4)), (4, .v .int)] [(0, [4], [])] (fL [0, 3]) (.s .n (.s (.s .n (.l [] [(3, .o 35 (.st 4)), (5, .v .int)] [(2, [5], [])] (fun e => (List.flatMap (fun b => b.Area) (gt e 0 (.list (.st 3)) : List Slab)).length + 1) .n)) .n)))) (.s (.f [3] .n) .n))))) Tryz.func32 Tryz.call32 rfl rfl fun x => by kernel_rfl
def ref09_SameBoxes_L0 (a_ : (List Box)) (b_ : (List Box)) (s1 : Int) : Option (Flow (Int) (Bool)) :=
 if (decide (s1 < (a_.length : Int))) then
  (getI a_ s1).bind fun x1 =>
  (getI b_ s1).bind fun x2 =>
  if (!decide (x1 = x2)) then
   some (.ret false)
  else
   (addI s1 1).bind fun x3 =>
   some (.go x3)
 else
  some (.ex 0 s1)
def ref09_SameBoxes (a_ : (List Box)) (b_ : (List Box)) : Option (Bool) :=
 if ((a_.length : Int) != (b_.length : Int)) then
  some false
 else
  (iterL (ref09_SameBoxes_L0 a_ b_) (a_.length + b_.length + 1) 0).bind fun f1 => match f1 with
   | .go _ => none
   | .ex _ _ =>
    some true
   | .ret r1 => some r1
noncomputable def k31 := mk 31 [.list (.st 4), .list (.st 4)] [.bool] (fun x => ref09_SameBoxes x.1 x.2) [] [] Tryz.f31 (.s .n (.s .n (.s (.s .n (.l [] [(5, .v .int)] [(0, [5], [])] (fL [0, 1]) .n)) .n))) Tryz.func31 Tryz.call31 rfl rfl fun x => by kernel_rfl
def law09_same (a_ : (List Slab)) (b_ : (List Slab)) (x_ : Int) (y_ : Int) (z_ : Int) : Option (Bool) :=
 (solid_Union a_ b_).bind fun x1 =>
 (ref09_Union a_ b_).bind fun x2 =>
 (solid_Common a_ b_).bind fun x3 =>
 (ref09_Common a_ b_).bind fun x4 =>
 (solid_Minus a_ b_).bind fun x5 =>
 (ref09_Minus a_ b_).bind fun x6 =>
 (if (((x1.2 != x2.2) || (x3.2 != x4.2)) || (x5.2 != x6.2)) then
  some true
 else
  (ref09_Same x1.1 x2.1).bind fun x7 =>
  some (!x7)).bind fun x8 =>
 (if x8 then
  some true
 else
  (ref09_Same x3.1 x4.1).bind fun x9 =>
  some (!x9)).bind fun x10 =>
 (if x10 then
  some true
 else
  (ref09_Same x5.1 x6.1).bind fun x11 =>
  some (!x11)).bind fun x12 =>
 if x12 then
  some false
 else
  (solid_Section a_ z_).bind fun x13 =>
  (ref09_Section a_ z_).bind fun x14 =>
  (solid_Right a_).bind fun x15 =>
  (ref09_Right a_).bind fun x16 =>
  (if (x15 == x16) then
   (solid_Volume a_).bind fun x17 =>
   (ref09_Volume a_).bind fun x18 =>
   some (x17 == x18)
  else
   some false).bind fun x19 =>
  (if x19 then
   (solid_Top a_ x_ y_).bind fun x20 =>
   (ref09_Top a_ x_ y_).bind fun x21 =>
   some (x20 == x21)
  else
   some false).bind fun x22 =>
  (if x22 then
   (solid_Has a_ x_ y_ z_).bind fun x23 =>
   (ref09_Has a_ x_ y_ z_).bind fun x24 =>
   some (x23 == x24)
  else
   some false).bind fun x25 =>
  (if x25 then
   (law09_rects x13 x14).bind fun x26 =>
   some x26
  else
   some false).bind fun x27 =>
  (if x27 then
   (solid_Boxes a_).bind fun x28 =>
   (ref09_Boxes a_).bind fun x29 =>
   (ref09_SameBoxes x28 x29).bind fun x30 =>
   some x30
  else
   some false).bind fun x31 =>
  (if x31 then
   (solid_Same a_ b_).bind fun x32 =>
   (ref09_Same a_ b_).bind fun x33 =>
   some (x32 == x33)
  else
   some false).bind fun x34 =>
  some x34
noncomputable def k7 := mk 7 [.list (.st 3), .list (.st 3), .int, .int, .int] [.bool] (fun x => law09_same x.1 x.2.1 x.2.2.1 x.2.2.2.1 x.2.2.2.2) [k20, k21, k22, k23, k11, k24, k10, k16, k25, k19, k26, k14, k27, k15, k28, k18, k29, k30, k17, k32, k31, k13] [] Tryz.f7 (.n) Tryz.func7 Tryz.call7 rfl rfl fun x => by kernel_rfl
def law09_SolidTells (a_ : (List Slab)) (b_ : (List Slab)) (x_ : Int) (y_ : Int) (z_ : Int) : Option (Bool) :=
 (law09_small).bind fun x1 =>
 (law09_few a_ 12).bind fun x2 =>
 (if (!x2) then
  some true
 else
  (law09_few b_ 12).bind fun x3 =>
  some (!x3)).bind fun x4 =>
 if x4 then
  some x1
 else
  (if x1 then
   (law09_same a_ b_ x_ y_ z_).bind fun x5 =>
   some x5
  else
   some false).bind fun x6 =>
  some x6
noncomputable def k3 := mk 3 [.list (.st 3), .list (.st 3), .int, .int, .int] [.bool] (fun x => law09_SolidTells x.1 x.2.1 x.2.2.1 x.2.2.2.1 x.2.2.2.2) [k5, k6, k7] [] Tryz.f3 (.n) Tryz.func3 Tryz.call3 rfl rfl fun x => by kernel_rfl
theorem law09_SolidTells_ok {k0 : K} {v0 v1 v2 v3 v4 : Value} {x0 : (List Slab)} {x1 : (List Slab)} {x2 : Int} {x3 : Int} {x4 : Int} {r : Bool} (i0 : IsV x0 v0 k0) (i1 : IsV x1 v1 k0) (i2 : IsV x2 v2 k0) (i3 : IsV x3 v3 k0) (i4 : IsV x4 v4 k0) (hr : law09_SolidTells x0 x1 x2 x3 x4 = some r) : Calls Tryz.prog 3 #[v0, v1, v2, v3, v4] k0.w (Ret k0 (IsV r)) := (k3.ok.ok k0 [v0, v1, v2, v3, v4] (x0, x1, x2, x3, x4) r ⟨i0, i1, i2, i3, i4⟩ hr)
end Go.Proofs.YtmniloampanhfaaGreat
