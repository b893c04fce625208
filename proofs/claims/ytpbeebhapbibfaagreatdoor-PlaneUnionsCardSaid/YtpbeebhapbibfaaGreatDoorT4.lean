/- What the functions compute that the law reaches, part 4 -/
import Derived.Test.YtpbeebhapbibfaaGreatDoorT3
namespace Go.Proofs.YtpbeebhapbibfaaGreatDoor
open Go.Gb
set_option linter.unusedVariables false
set_option linter.unusedSimpArgs false
set_option maxRecDepth 100000
def solid_Common (a_ : (List Slab)) (b_ : (List Slab)) : Option ((List Slab) × Int) :=
 (solid_combine a_ b_ region_Common).bind fun x1 =>
 some (x1.1, x1.2)
theorem solid_Common_ok {k0 : K} {v0 v1 : Value} {a_ : (List Slab)} {b_ : (List Slab)} {r : (List Slab) × Int} (i0 : (IsV a_) v0 k0) (i1 : (IsV b_) v1 k0) (hr : solid_Common a_ b_ = some r) :
  Calls Tryz.prog 24 #[v0, v1] k0.w (Ret k0 (IsTup2 (IsV r.1) (IsV r.2))) := by
 unfold solid_Common at hr
 refine Ret.ofC ?_
 refine enterK Tryz.func24 rfl Tryz.ntmps24 (show 2 ≤ 11 by decide) fun a k hk0 hs hd ha => ?_
 obtain ⟨e0, e1, _⟩ := ha
 replace i0 : (IsV a_) (a.get 0) k := by rw [e0, hk0]; exact i0
 replace i1 : (IsV b_) (a.get 1) k := by rw [e1, hk0]; exact i1
 have hQ : Gb.LetsOut (bodyPost Tryz.prog Tryz.f24 (RetC noF k0 (IsTup2 (IsV r.1) (IsV r.2)))) := letsOutC
 have hg : Chg noF k0 k := by rw [hk0]; exact Chg.refl _ k0
 refine stepL 2 (⟨some IsE0, []⟩ :: ⟨some (IsI 0), []⟩ :: []) rfl ⟨hg, hs, hd⟩ (by kernel_rfl) ⟨ob1 rfl fun b q h n => ok_assign rfl isE0_nil, aI rfl rfl, trivial⟩ [⟨_, _⟩, ⟨_, _⟩] (fun b q p => ⟨p.ke 0 rfl i0, p.ke 1 rfl i1, trivial⟩) ?_
 rintro a k ⟨⟨hg, hs, hd⟩, i0, i1, _⟩
 refine wp_seq ?_
 obtain ⟨x1, hx1, hr⟩ := bind_some hr
 refine cut (fun a' k' => Bs noF k0 11 a' k' ∧ (IsV x1.1) (a'.get 4) k' ∧ (IsV x1.2) (a'.get 5) k' ∧ True) ?_ hQ ?_
 ·intro Q1 W1 w1
  refine gS 7 (_ :: _ :: _ :: _ :: _ :: _ :: _ :: []) hs (by kernel_rfl) ⟨mu rfl i0, mu rfl i1, o1 [(6, some 0), (7, some 1)] rfl fun _ _ h n => ok_call rfl Tryz.call54 (solid_combine_ok n.1 n.2.1 ⟨56, _, _, rfl, Tryz.call56, fun k9 hk9 _ _ _ _ _ hx0 hx1 hy9 => by simpa [evalT] using region_Common_ok hx0 hx1 hy9⟩ hx1), o1 [(8, some 2)] rfl fun _ _ h n => ok_ext2_0 rfl n.1, o1 [(8, some 2)] rfl fun _ _ h n => ok_ext2_1 rfl n.1, cp 3 rfl rfl, cp 4 rfl rfl, trivial⟩ W1 fun b q p => ?_
  exact tail_done (k := q) (w1 _ _ ⟨Bs.post ⟨hg, hs, hd⟩ p, p.ou 5 4 rfl, p.ou 6 5 rfl, trivial⟩)
 rintro a k ⟨⟨hg, hs, hd⟩, i4, i5, _⟩
 refine wp_ret ?_
 obtain rfl := Option.some.inj hr
 exact retC2 rfl hd hg i4 i5
noncomputable def k24 := mkO 24 [.list (.st 3), .list (.st 3)] [.list (.st 3), .int] (fun x => solid_Common x.1 x.2) Tryz.call24 fun k0 vs x r _ h hr => by obtain ⟨v0, vs, rfl, i0, h⟩ := h.cons; obtain ⟨v1, rfl, i1⟩ := h.one; exact ret2F (T := tb) (solid_Common_ok i0 i1 hr)
def law10_valid_L0 (l_ : (List Plane)) (s1 : Int) : Option (Flow (Int) (Bool)) :=
 if (decide (s1 < (l_.length : Int))) then
  (getI l_ s1).bind fun x1 =>
  (plane_Right x1).bind fun x2 =>
  if (!x2) then
   some (.ret false)
  else
   (addI s1 1).bind fun x3 =>
   some (.go x3)
 else
  some (.ex 0 s1)
def law10_valid (b_ : Rect) (l_ : (List Plane)) : Option (Bool) :=
 (iterL (law10_valid_L0 l_) (l_.length + 1) 0).bind fun f1 => match f1 with
  | .go _ => none
  | .ex _ _ =>
   (rect_Right b_).bind fun x1 =>
   some x1
  | .ret r1 => some r1
noncomputable def k25 := mk 25 [.st 0, .list (.st 6)] [.bool] (fun x => law10_valid x.1 x.2) [k16, k28] [] Tryz.f25 (.s .n (.s (.s .n (.l [] [(5, .v .int)] [(0, [5], [])] (fL [1]) .n)) .n)) Tryz.func25 Tryz.call25 rfl rfl fun x => by kernel_rfl
def law10_PlaneUnions (b_ : Rect) (l_ : (List Plane)) (s_ : (List Box)) (t_ : (List Box)) (many_ : Int) : Option (Bool) :=
 (law10_small).bind fun x1 =>
 (law10_few l_ s_).bind fun x2 =>
 if ((!x2) || (decide (12 < (t_.length : Int)))) then
  some x1
 else
  (solid_Of s_).bind fun x3 =>
  (solid_Of t_).bind fun x4 =>
  if ((x3.2 != 0) || (x4.2 != 0)) then
   some x1
  else
   (plane_Allows b_ l_ x3.1).bind fun x5 =>
   (plane_Allows b_ l_ x4.1).bind fun x6 =>
   (solid_Union x3.1 x4.1).bind fun x7 =>
   (solid_Minus x3.1 x4.1).bind fun x8 =>
   (solid_Common x3.1 x4.1).bind fun x9 =>
   (if (x7.2 == 0) then
    (plane_Allows b_ l_ x7.1).bind fun x10 =>
    some (x10 != (x5 && x6))
   else
    some false).bind fun x11 =>
   (if x11 then
    some true
   else
    (if x5 then
     (if (x8.2 == 0) then
      (plane_Allows b_ l_ x8.1).bind fun x12 =>
      some (!x12)
     else
      some false).bind fun x13 =>
     (if x13 then
      some true
     else
      (if (x9.2 == 0) then
       (plane_Allows b_ l_ x9.1).bind fun x14 =>
       some (!x14)
      else
       some false).bind fun x15 =>
      some x15).bind fun x16 =>
     some x16
    else
     some false).bind fun x17 =>
    some x17).bind fun x18 =>
   if x18 then
    some false
   else
    (if x1 then
     (if (!x5) then
      some true
     else
      (sliceI l_ 0 (max 0 (min many_ (l_.length : Int)))).bind fun x19 =>
      (plane_Allows b_ x19 x3.1).bind fun x20 =>
      some x20).bind fun x21 =>
     some x21
    else
     some false).bind fun x22 =>
    (if x22 then
     (if (x5 || x6) then
      some true
     else
      (law10_valid b_ l_).bind fun x23 =>
      some (!x23)).bind fun x24 =>
     some (x24 || ((decide (0 < (x3.1.length : Int))) && (decide (0 < (x4.1.length : Int)))))
    else
     some false).bind fun x25 =>
    some x25
noncomputable def k4 := mkg 4 [.st 0, .list (.st 6), .list (.st 5), .list (.st 5), .int] [.bool] (fun x => law10_PlaneUnions x.1 x.2.1 x.2.2.1 x.2.2.2.1 x.2.2.2.2) [k6, k7.lift glv gl0, k8.lift glv gl0, k14.lift glv gl0, k22.lift glv gl0, k23.lift glv gl0, k24.lift glv gl0, k25.lift glv gl0] [] Tryz.f4 (.n) Tryz.func4 Tryz.call4 rfl rfl fun x => by kernel_rfl
theorem law10_PlaneUnions_ok {k0 : K} {v0 v1 v2 v3 v4 : Value} {x0 : Rect} {x1 : (List Plane)} {x2 : (List Box)} {x3 : (List Box)} {x4 : Int} {r : Bool} (hG : GOk tbg k0) (i0 : IsV x0 v0 k0) (i1 : IsV x1 v1 k0) (i2 : IsV x2 v2 k0) (i3 : IsV x3 v3 k0) (i4 : IsV x4 v4 k0) (hr : law10_PlaneUnions x0 x1 x2 x3 x4 = some r) : Calls Tryz.prog 4 #[v0, v1, v2, v3, v4] k0.w (Ret k0 (IsV r)) := (k4.ok.ok k0 [v0, v1, v2, v3, v4] (x0, x1, x2, x3, x4) r hG ⟨i0, i1, i2, i3, i4⟩ hr)
end Go.Proofs.YtpbeebhapbibfaaGreatDoor
