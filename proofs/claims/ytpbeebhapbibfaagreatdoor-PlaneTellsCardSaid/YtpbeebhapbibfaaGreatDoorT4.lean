/- What the functions compute that the law reaches, part 4 -/
import Derived.Test.YtpbeebhapbibfaaGreatDoorT3
namespace Go.Proofs.YtpbeebhapbibfaaGreatDoor
open Go.Gb
set_option linter.unusedVariables false
set_option linter.unusedSimpArgs false
set_option maxRecDepth 100000
def ref10_Top_L0 (b_ : Rect) (l_ : (List Plane)) (x_ : Int) (y_ : Int) (s1 : Int) : Option (Flow (Int) (Int)) :=
 (if (decide (s1 < 4096)) then
  (ref10_allowed b_ l_ x_ y_ s1).bind fun x1 =>
  some x1
 else
  some false).bind fun x2 =>
 if x2 then
  (addI s1 1).bind fun x3 =>
  some (.go x3)
 else
  some (.ex 0 s1)
def ref10_Top (b_ : Rect) (l_ : (List Plane)) (x_ : Int) (y_ : Int) : Option (Int) :=
 (ref10_Valid b_ l_).bind fun x1 =>
 (if (!x1) then
  some true
 else
  (ref10_cell x_ y_).bind fun x2 =>
  some (!x2)).bind fun x3 =>
 if x3 then
  some (-1)
 else
  (iterL (ref10_Top_L0 b_ l_ x_ y_) (4097) 0).bind fun f1 => match f1 with
   | .go _ => none
   | .ex _ s1 =>
    some s1
   | .ret r1 => some r1
noncomputable def k21 := mk 21 [.st 0, .list (.st 6), .int, .int] [.int] (fun x => ref10_Top x.1 x.2.1 x.2.2.1 x.2.2.2) [k39, k50, k53] [] Tryz.f21 (.s .n (.s .n (.s .n (.s (.l [] [(9, .v .int)] [(0, [], [])] (fun _ => 4097) .n) .n)))) Tryz.func21 Tryz.call21 rfl rfl fun x => by kernel_rfl
def law10_PlaneTells_L0 (b_ : Rect) (l_ : (List Plane)) (x_ : Int) (y_ : Int) (s1 : Int) : Option (Flow (Int) (Bool)) :=
 if (decide (s1 < (l_.length : Int))) then
  (getI l_ s1).bind fun x1 =>
  (plane_Right x1).bind fun x2 =>
  (getI l_ s1).bind fun x3 =>
  (ref10_Right x3).bind fun x4 =>
  (if (x2 != x4) then
   some true
  else
   (getI l_ s1).bind fun x5 =>
   (plane_Distance b_ x5.Side x_ y_).bind fun x6 =>
   (getI l_ s1).bind fun x7 =>
   (ref10_Distance b_ x7.Side x_ y_).bind fun x8 =>
   some (x6 != x8)).bind fun x9 =>
  if x9 then
   some (.ret false)
  else
   (addI s1 1).bind fun x10 =>
   some (.go x10)
 else
  some (.ex 0 s1)
def law10_PlaneTells (b_ : Rect) (l_ : (List Plane)) (s_ : (List Box)) (x_ : Int) (y_ : Int) (z_ : Int) : Option (Bool) :=
 (law10_small).bind fun x1 =>
 (law10_few l_ s_).bind fun x2 =>
 if (!x2) then
  some x1
 else
  (solid_Of s_).bind fun x3 =>
  (plane_First b_ l_ x3.1).bind fun x4 =>
  (ref10_First b_ l_ x3.1).bind fun x5 =>
  (plane_Room b_ l_ z_).bind fun x6 =>
  (ref10_Room b_ l_ z_).bind fun x7 =>
  (if (((!decide (x4.1 = x5.1)) || (x4.2 != x5.2)) || (x6.2 != x7.2)) then
   some true
  else
   (ref06_Same x6.1 x7.1).bind fun x8 =>
   some (!x8)).bind fun x9 =>
  (if x9 then
   some true
  else
   (plane_Allows b_ l_ x3.1).bind fun x10 =>
   (ref10_Allows b_ l_ x3.1).bind fun x11 =>
   some (x10 != x11)).bind fun x12 =>
  if x12 then
   some false
  else
   (iterL (law10_PlaneTells_L0 b_ l_ x_ y_) (l_.length + 1) 0).bind fun f1 => match f1 with
    | .go _ => none
    | .ex _ _ =>
     (if x1 then
      (plane_Top b_ l_ x_ y_).bind fun x13 =>
      (ref10_Top b_ l_ x_ y_).bind fun x14 =>
      some (x13 == x14)
     else
      some false).bind fun x15 =>
     some x15
    | .ret r1 => some r1
noncomputable def k3 := mkg 3 [.st 0, .list (.st 6), .list (.st 5), .int, .int, .int] [.bool] (fun x => law10_PlaneTells x.1 x.2.1 x.2.2.1 x.2.2.2.1 x.2.2.2.2.1 x.2.2.2.2.2) [k6, k7.lift glv gl0, k8.lift glv gl0, k9, k10.lift glv gl0, k11, k12.lift glv gl0, k13.lift glv gl0, k14.lift glv gl0, k15.lift glv gl0, k16.lift glv gl0, k17.lift glv gl0, k18, k19.lift glv gl0, k20, k21.lift glv gl0] [] Tryz.f3 (.s .n (.s .n (.s .n (.s .n (.s .n (.s .n (.s .n (.s .n (.s .n (.s (.s .n (.l [] [(24, .v .int)] [(0, [24], [])] (fL [1]) .n)) .n)))))))))) Tryz.func3 Tryz.call3 rfl rfl fun x => by kernel_rfl
theorem law10_PlaneTells_ok {k0 : K} {v0 v1 v2 v3 v4 v5 : Value} {x0 : Rect} {x1 : (List Plane)} {x2 : (List Box)} {x3 : Int} {x4 : Int} {x5 : Int} {r : Bool} (hG : GOk tbg k0) (i0 : IsV x0 v0 k0) (i1 : IsV x1 v1 k0) (i2 : IsV x2 v2 k0) (i3 : IsV x3 v3 k0) (i4 : IsV x4 v4 k0) (i5 : IsV x5 v5 k0) (hr : law10_PlaneTells x0 x1 x2 x3 x4 x5 = some r) : Calls Tryz.prog 3 #[v0, v1, v2, v3, v4, v5] k0.w (Ret k0 (IsV r)) := (k3.ok.ok k0 [v0, v1, v2, v3, v4, v5] (x0, x1, x2, x3, x4, x5) r hG ⟨i0, i1, i2, i3, i4, i5⟩ hr)
end Go.Proofs.YtpbeebhapbibfaaGreatDoor
