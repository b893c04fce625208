/- What the functions compute that the law reaches, part 3 -/
import Derived.Test.YtekbjeagbfbbcaaT2
namespace Go.Proofs.Ytekbjeagbfbbcaa
open Go.Gb
set_option linter.unusedVariables false
set_option linter.unusedSimpArgs false
set_option maxRecDepth 100000
def ref06_sorted_L1 (l_ : (List Int)) (s1 : (List Int) × Int) (s2 : Int) : Option (Flow (Int) ((List Int))) :=
 (if (decide (0 < s2)) then
  (subI s2 1).bind fun x1 =>
  (getI s1.1 x1).bind fun x2 =>
  (getI l_ s1.2).bind fun x3 =>
  some (decide (x3 < x2))
 else
  some false).bind fun x4 =>
 if x4 then
  (subI s2 1).bind fun x5 =>
  some (.go x5)
 else
  some (.ex 2 s2)
def ref06_sorted_L2 (s1 : Int) (s2 : (List Int) × Int) : Option (Flow ((List Int) × Int) ((List Int))) :=
 if (decide (s1 < s2.2)) then
  (subI s2.2 1).bind fun x1 =>
  (getI s2.1 x1).bind fun x2 =>
  (getI s2.1 s2.2).bind fun x3 =>
  (some (s2.1.set (s2.2).toNat x2)).bind fun x4 =>
  (subI s2.2 1).bind fun x5 =>
  some (.go (x4, x5))
 else
  some (.ex 4 (s2.1, s2.2))
def ref06_sorted_L0 (l_ : (List Int)) (s1 : (List Int) × Int) : Option (Flow ((List Int) × Int) ((List Int))) :=
 if (decide (s1.2 < (l_.length : Int))) then
  ((iterL (ref06_sorted_L1 l_ s1) (l_.length + s1.1.length + 1) (s1.1.length : Int)).bind fun f1 => match f1 with
   | .go _ => none
   | .ex _ s2 =>
    (if (decide (0 < s2)) then
     (subI s2 1).bind fun x1 =>
     (getI s1.1 x1).bind fun x2 =>
     (getI l_ s1.2).bind fun x3 =>
     some (x2 == x3)
    else
     some false).bind fun x4 =>
    if x4 then
     some s1.1
    else
     (appI s1.1 ([0])).bind fun x5 =>
     (subI (x5.length : Int) 1).bind fun x6 =>
     (iterL (ref06_sorted_L2 s2) (l_.length + x5.length + 1) (x5, x6)).bind fun f2 => match f2 with
      | .go _ => none
      | .ex _ s3 =>
       (getI l_ s1.2).bind fun x7 =>
       (getI s3.1 s2).bind fun x8 =>
       (some (s3.1.set (s2).toNat x7)).bind fun x9 =>
       some x9
      | .ret r1 => none
   | .ret r2 => none).bind fun s4 =>
  (addI s1.2 1).bind fun x10 =>
  some (.go (s4, x10))
 else
  some (.ex 0 (s1.1, s1.2))
def ref06_sorted (l_ : (List Int)) : Option ((List Int)) :=
 (iterL (ref06_sorted_L0 l_) (l_.length + ([] : List Int).length + 1) (([] : List Int), 0)).bind fun f1 => match f1 with
  | .go _ => none
  | .ex _ s1 =>
   some s1.1
  | .ret r1 => some r1
noncomputable def k103 := mk 103 [.list .int] [.list .int] (fun x => ref06_sorted x) [] [3, 45, 47] Try.f103 (.s .n (.s .n (.s (.s .n (.l [] [(3, .o 3 .int), (4, .v .int)] [(0, [4], [])] (fL [0, 3]) (.s .n (.s (.j [] [(3, .o 3 .int)] ([], []) (.s .n (.s (.l [] [(5, .v .int)] [(2, [], [])] (fL [0, 3]) .n) (.s .n (.s .n (.s (.s .n (.l [] [(3, .o 3 .int), (6, .v .int)] [(4, [6], [])] (fL [0, 3]) .n)) .n)))))) .n)))) (.s (.f [3] .n) .n)))) Try.func103 Try.call103 rfl rfl fun x => by kernel_rfl
def ref06_edges_L0 (a_ : (List Rect)) (s1 : (List Int) × Int) : Option (Flow ((List Int) × Int) ((List Int))) :=
 if (decide (s1.2 < (a_.length : Int))) then
  (getI a_ s1.2).bind fun x1 =>
  (getI a_ s1.2).bind fun x2 =>
  (appI s1.1 ([x1.X0, x2.X1])).bind fun x3 =>
  (addI s1.2 1).bind fun x4 =>
  some (.go (x3, x4))
 else
  some (.ex 0 (s1.1, s1.2))
def ref06_edges_L1 (b_ : (List Rect)) (s1 : (List Int) × Int) : Option (Flow ((List Int) × Int) ((List Int))) :=
 if (decide (s1.2 < (b_.length : Int))) then
  (getI b_ s1.2).bind fun x1 =>
  (getI b_ s1.2).bind fun x2 =>
  (appI s1.1 ([x1.X0, x2.X1])).bind fun x3 =>
  (addI s1.2 1).bind fun x4 =>
  some (.go (x3, x4))
 else
  some (.ex 2 (s1.1, s1.2))
def ref06_edges (a_ : (List Rect)) (b_ : (List Rect)) : Option ((List Int)) :=
 (iterL (ref06_edges_L0 a_) (a_.length + b_.length + ([] : List Int).length + 1) (([] : List Int), 0)).bind fun f1 => match f1 with
  | .go _ => none
  | .ex _ s1 =>
   (iterL (ref06_edges_L1 b_) (b_.length + s1.1.length + 1) (s1.1, 0)).bind fun f2 => match f2 with
    | .go _ => none
    | .ex _ s2 =>
     (ref06_sorted s2.1).bind fun x1 =>
     some x1
    | .ret r1 => some r1
  | .ret r2 => some r2
noncomputable def k92 := mk 92 [.list (.st 0), .list (.st 0)] [.list .int] (fun x => ref06_edges x.1 x.2) [k103] [5, 14, 26, 33, 45] Try.f92 (.s .n (.s .n (.s (.s .n (.l [] [(5, .o 3 .int), (6, .v .int)] [(0, [6], [])] (fL [0, 1, 5]) .n)) (.s (.s .n (.l [] [(5, .o 3 .int), (7, .v .int)] [(2, [7], [])] (fL [1, 5]) .n)) (.s (.f [5] .n) .n))))) Try.func92 Try.call92 rfl rfl fun x => by kernel_rfl
def ref06_column_L1 (l_ : (List Rect)) (s1 : (List Int) × (List Int) × Int) (s2 : (List Int) × (List Int) × Int) : Option (Flow ((List Int) × (List Int) × Int) ((List Int))) :=
 (if (decide (0 < s2.2.2)) then
  (subI s2.2.2 1).bind fun x1 =>
  (getI s2.1 x1).bind fun x2 =>
  (getI l_ s1.2.2).bind fun x3 =>
  some (decide (x3.Y0 < x2))
 else
  some false).bind fun x4 =>
 if x4 then
  (subI s2.2.2 1).bind fun x5 =>
  (getI s2.1 x5).bind fun x6 =>
  (getI s2.1 s2.2.2).bind fun x7 =>
  (some (s2.1.set (s2.2.2).toNat x6)).bind fun x8 =>
  (subI s2.2.2 1).bind fun x9 =>
  (getI s2.2.1 x9).bind fun x10 =>
  (getI s2.2.1 s2.2.2).bind fun x11 =>
  (some (s2.2.1.set (s2.2.2).toNat x10)).bind fun x12 =>
  (subI s2.2.2 1).bind fun x13 =>
  some (.go (x8, x12, x13))
 else
  some (.ex 2 (s2.1, s2.2.1, s2.2.2))
def ref06_column_L0 (l_ : (List Rect)) (x_ : Int) (s1 : (List Int) × (List Int) × Int) : Option (Flow ((List Int) × (List Int) × Int) ((List Int))) :=
 if (decide (s1.2.2 < (l_.length : Int))) then
  ((getI l_ s1.2.2).bind fun x1 =>
  (if (decide (x_ < x1.X0)) then
   some true
  else
   (getI l_ s1.2.2).bind fun x2 =>
   some (decide (x2.X1 ≤ x_))).bind fun x3 =>
  if x3 then
   some (s1.1, s1.2.1)
  else
   (appI s1.1 ([0])).bind fun x4 =>
   (appI s1.2.1 ([0])).bind fun x5 =>
   (iterL (ref06_column_L1 l_ s1) (l_.length + x4.length + x5.length + 1) (x4, x5, (s1.1.length : Int))).bind fun f1 => match f1 with
    | .go _ => none
    | .ex _ s2 =>
     (getI l_ s1.2.2).bind fun x6 =>
     (getI s2.1 s2.2.2).bind fun x7 =>
     (some (s2.1.set (s2.2.2).toNat x6.Y0)).bind fun x8 =>
     (getI l_ s1.2.2).bind fun x9 =>
     (getI s2.2.1 s2.2.2).bind fun x10 =>
     (some (s2.2.1.set (s2.2.2).toNat x9.Y1)).bind fun x11 =>
     some (x8, x11)
    | .ret r1 => none).bind fun s3 =>
  (addI s1.2.2 1).bind fun x12 =>
  some (.go (s3.1, s3.2, x12))
 else
  some (.ex 0 (s1.1, s1.2.1, s1.2.2))
def ref06_column_L2 (s1 : (List Int) × (List Int) × Int) (s2 : (List Int) × Int) : Option (Flow ((List Int) × Int) ((List Int))) :=
 if (decide (s2.2 < (s1.1.length : Int))) then
  ((if (decide (0 < (s2.1.length : Int))) then
   (getI s1.1 s2.2).bind fun x1 =>
   (subI (s2.1.length : Int) 1).bind fun x2 =>
   (getI s2.1 x2).bind fun x3 =>
   some (decide (x1 ≤ x3))
  else
   some false).bind fun x4 =>
  if x4 then
   (subI (s2.1.length : Int) 1).bind fun x5 =>
   (subI (s2.1.length : Int) 1).bind fun x6 =>
   (getI s2.1 x6).bind fun x7 =>
   (getI s1.2.1 s2.2).bind fun x8 =>
   (getI s2.1 x5).bind fun x9 =>
   (some (s2.1.set (x5).toNat (max x7 x8))).bind fun x10 =>
   some x10
  else
   (getI s1.1 s2.2).bind fun x11 =>
   (getI s1.2.1 s2.2).bind fun x12 =>
   (appI s2.1 ([x11, x12])).bind fun x13 =>
   some x13).bind fun s3 =>
  (addI s2.2 1).bind fun x14 =>
  some (.go (s3, x14))
 else
  some (.ex 4 (s2.1, s2.2))
def ref06_column (l_ : (List Rect)) (x_ : Int) : Option ((List Int)) :=
 (iterL (ref06_column_L0 l_ x_) (l_.length + ([] : List Int).length + ([] : List Int).length + 1) (([] : List Int), ([] : List Int), 0)).bind fun f1 => match f1 with
  | .go _ => none
  | .ex _ s1 =>
   (iterL (ref06_column_L2 s1) (s1.1.length + s1.2.1.length + ([] : List Int).length + 1) (([] : List Int), 0)).bind fun f2 => match f2 with
    | .go _ => none
    | .ex _ s2 =>
     some s2.1
    | .ret r1 => some r1
  | .ret r2 => some r2
noncomputable def k94 := mk 94 [.list (.st 0), .int] [.list .int] (fun x => ref06_column x.1 x.2) [] [5, 6, 9, 35, 37, 38, 40, 128, 138] Try.f94 (.s .n (.s .n (.s .n (.s (.s .n (.l [] [(5, .o 3 .int), (6, .o 3 .int), (7, .v .int)] [(0, [7], [])] (fL [0, 5, 6]) (.s .n (.s (.j [] [(5, .o 3 .int), (6, .o 3 .int)] ([], []) (.s .n (.s .n (.s .n (.s .n (.s (.l [] [(5, .o 3 .int), (6, .o 3 .int), (8, .v .int)] [(2, [], [])] (fL [0, 5, 6]) .n) .n)))))) .n)))) (.s (.f [5, 6] .n) (.s (.s (.f [5, 6] .n) (.l [] [(9, .o 3 .int), (10, .v .int)] [(4, [10], [])] (fL [5, 6, 9]) (.s (.s (.f [5, 6] .n) .n) (.s (.j [] [(9, .o 3 .int)] ([], []) (.s (.s (.f [5, 6] .n) (.s (.s (.f [5, 6] .n) .n) .n)) (.f [5, 6] .n))) (.f [5, 6] .n))))) (.s (.f [9] .n) .n))))))) Try.func94 Try.call94 rfl rfl fun x => by kernel_rfl
def ref06_combine_L0 (a_ : (List Int)) (b_ : (List Int)) (op_ : Int) (s1 : (List Int) × Int × Int × Bool) : Option (Flow ((List Int) × Int × Int × Bool) ((List Int))) :=
 if ((decide (s1.2.1 < (a_.length : Int))) || (decide (s1.2.2.1 < (b_.length : Int)))) then
  (if (decide (s1.2.1 < (a_.length : Int))) then
   (if (decide ((b_.length : Int) ≤ s1.2.2.1)) then
    some true
   else
    (getI a_ s1.2.1).bind fun x1 =>
    (subI (b_.length : Int) 1).bind fun x2 =>
    (getI b_ (min s1.2.2.1 x2)).bind fun x3 =>
    some (decide (x1 ≤ x3))).bind fun x4 =>
   some x4
  else
   some false).bind fun x5 =>
  (if x5 then
   (getI a_ s1.2.1).bind fun x6 =>
   some x6
  else
   (getI b_ s1.2.2.1).bind fun x7 =>
   some x7).bind fun s2 =>
  (if (decide (s1.2.1 < (a_.length : Int))) then
   (getI a_ s1.2.1).bind fun x8 =>
   some (x8 == s2)
  else
   some false).bind fun x9 =>
  (if x9 then
   (addI s1.2.1 1).bind fun x10 =>
   some x10
  else
   some s1.2.1).bind fun s3 =>
  (if (decide (s1.2.2.1 < (b_.length : Int))) then
   (getI b_ s1.2.2.1).bind fun x11 =>
   some (x11 == s2)
  else
   some false).bind fun x12 =>
  (if x12 then
   (addI s1.2.2.1 1).bind fun x13 =>
   some x13
  else
   some s1.2.2.1).bind fun s4 =>
  (remI s3 2).bind fun x14 =>
  (remI s4 2).bind fun x15 =>
  (if (op_ == 1) then
   some ((x14 == 1) && (x15 == 1))
  else
   some ((x14 == 1) || (x15 == 1))).bind fun s5 =>
  (if (op_ == 2) then
   some ((x14 == 1) && (!(x15 == 1)))
  else
   some s5).bind fun s6 =>
  (if (s6 != s1.2.2.2) then
   (appI s1.1 ([s2])).bind fun x16 =>
   some x16
  else
   some s1.1).bind fun s7 =>
  some (.go (s7, s3, s4, s6))
 else
  some (.ex 0 (s1.1, s1.2.1, s1.2.2.1, s1.2.2.2))
def ref06_combine (a_ : (List Int)) (b_ : (List Int)) (op_ : Int) : Option ((List Int)) :=
 (iterL (ref06_combine_L0 a_ b_ op_) (a_.length + b_.length + ([] : List Int).length + 1) (([] : List Int), 0, 0, false)).bind fun f1 => match f1 with
  | .go _ => none
  | .ex _ s1 =>
   some s1.1
  | .ret r1 => some r1
noncomputable def k93 := mk 93 [.list .int, .list .int, .int] [.list .int] (fun x => ref06_combine x.1 x.2.1 x.2.2) [] [7, 112, 115] Try.f93 (.s .n (.s .n (.s .n (.s .n (.s .n (.s (.l [] [(7, .o 3 .int), (8, .v .int), (9, .v .int), (10, .v .bool)] [(0, [8, 9, 10], [])] (fL [0, 1, 7]) (.s .n (.s .n (.s (.s .n (.j [] [(11, .v .int)] ([], []) (.s .n .n))) (.s (.s .n (.j [] [(8, .v .int)] ([], []) (.s .n .n))) (.s (.s .n (.j [] [(9, .v .int)] ([], []) (.s .n .n))) (.s .n (.s .n (.s .n (.s (.s .n (.j [] [(14, .v .bool)] ([], []) (.s .n .n))) (.s (.s .n (.j [] [(14, .v .bool)] ([], []) (.s .n .n))) (.s (.s .n (.j [] [(7, .o 3 .int)] ([], []) (.s .n .n))) .n)))))))))))) (.s (.f [7] .n) .n))))))) Try.func93 Try.call93 rfl rfl fun x => by kernel_rfl
def ref06_ints_L0 (a_ : (List Int)) (b_ : (List Int)) (s1 : Int) : Option (Flow (Int) (Bool)) :=
 if (decide (s1 < (a_.length : Int))) then
  (getI a_ s1).bind fun x1 =>
  (getI b_ s1).bind fun x2 =>
  if (x1 != x2) then
   some (.ret false)
  else
   (addI s1 1).bind fun x3 =>
   some (.go x3)
 else
  some (.ex 0 s1)
def ref06_ints (a_ : (List Int)) (b_ : (List Int)) : Option (Bool) :=
 if ((a_.length : Int) != (b_.length : Int)) then
  some false
 else
  (iterL (ref06_ints_L0 a_ b_) (a_.length + b_.length + 1) 0).bind fun f1 => match f1 with
   | .go _ => none
   | .ex _ _ =>
    some true
   | .ret r1 => some r1
noncomputable def k95 := mk 95 [.list .int, .list .int] [.bool] (fun x => ref06_ints x.1 x.2) [] [] Try.f95 (.s .n (.s .n (.s (.s .n (.l [] [(5, .v .int)] [(0, [5], [])] (fL [0, 1]) .n)) .n))) Try.func95 Try.call95 rfl rfl fun x => by kernel_rfl
def ref06_Form_L1 (x1 : (List Int)) (s1 : (List Rect) × (List Int) × Int × Int) (s2 : (List Rect) × Int) : Option (Flow ((List Rect) × Int) ((List Rect))) :=
 if (decide (s2.2 < (s2.1.length : Int))) then
  (addI s1.2.2.2 1).bind fun x2 =>
  (getI x1 x2).bind fun x3 =>
  (getI s2.1 s2.2).bind fun x4 =>
  (some (s2.1.set (s2.2).toNat ({ x4 with X1 := x3 }))).bind fun x5 =>
  (addI s2.2 1).bind fun x6 =>
  some (.go (x5, x6))
 else
  some (.ex 2 (s2.1, s2.2))
def ref06_Form_L2 (x1 : (List Int)) (s1 : (List Rect) × (List Int) × Int × Int) (x2 : (List Int)) (s2 : (List Rect) × Int) : Option (Flow ((List Rect) × Int) ((List Rect))) :=
 (addI s2.2 1).bind fun x3 =>
 if (decide (x3 < (x2.length : Int))) then
  (getI x1 s1.2.2.2).bind fun x4 =>
  (getI x2 s2.2).bind fun x5 =>
  (addI s1.2.2.2 1).bind fun x6 =>
  (getI x1 x6).bind fun x7 =>
  (addI s2.2 1).bind fun x8 =>
  (getI x2 x8).bind fun x9 =>
  (appI s2.1 ([(⟨x4, x5, x7, x9⟩ : Rect)])).bind fun x10 =>
  (addI s2.2 2).bind fun x11 =>
  some (.go (x10, x11))
 else
  some (.ex 4 (s2.1, s2.2))
def ref06_Form_L0 (a_ : (List Rect)) (b_ : (List Rect)) (op_ : Int) (x1 : (List Int)) (s1 : (List Rect) × (List Int) × Int × Int) : Option (Flow ((List Rect) × (List Int) × Int × Int) ((List Rect))) :=
 (addI s1.2.2.2 1).bind fun x2 =>
 if (decide (x2 < (x1.length : Int))) then
  ((getI x1 s1.2.2.2).bind fun x3 =>
  (ref06_column a_ x3).bind fun x4 =>
  (getI x1 s1.2.2.2).bind fun x5 =>
  (ref06_column b_ x5).bind fun x6 =>
  (ref06_combine x4 x6 op_).bind fun x7 =>
  (if ((decide (0 < s1.2.2.2)) && (decide (0 < (x7.length : Int)))) then
   (ref06_ints x7 s1.2.1).bind fun x8 =>
   some x8
  else
   some false).bind fun x9 =>
  if x9 then
   (iterL (ref06_Form_L1 x1 s1) (a_.length + b_.length + s1.1.length + x1.length + s1.2.1.length + 1) (s1.1, s1.2.2.1)).bind fun f1 => match f1 with
    | .go _ => none
    | .ex _ s2 =>
     some (s2.1, s1.2.1, s1.2.2.1)
    | .ret r1 => none
  else
   (iterL (ref06_Form_L2 x1 s1 x7) (a_.length + b_.length + s1.1.length + x1.length + x7.length + x7.length + 1) (s1.1, 0)).bind fun f2 => match f2 with
    | .go _ => none
    | .ex _ s3 =>
     some (s3.1, x7, (s1.1.length : Int))
    | .ret r2 => none).bind fun s4 =>
  (addI s1.2.2.2 1).bind fun x10 =>
  some (.go (s4.1, s4.2.1, s4.2.2, x10))
 else
  some (.ex 0 (s1.1, s1.2.1, s1.2.2.1, s1.2.2.2))
def ref06_Form (a_ : (List Rect)) (b_ : (List Rect)) (op_ : Int) : Option ((List Rect)) :=
 (ref06_edges a_ b_).bind fun x1 =>
 (iterL (ref06_Form_L0 a_ b_ op_ x1) (a_.length + b_.length + ([] : List Rect).length + x1.length + ([] : List Int).length + 1) (([] : List Rect), ([] : List Int), 0, 0)).bind fun f1 => match f1 with
  | .go _ => none
  | .ex _ s1 =>
   some s1.1
  | .ret r1 => some r1
noncomputable def k74 := mk 74 [.list (.st 0), .list (.st 0), .int] [.list (.st 0)] (fun x => ref06_Form x.1 x.2.1 x.2.2) [k92, k94, k93, k95] [7, 77, 98] Try.f74 (.s .n (.s .n (.s .n (.s .n (.s .n (.s (.s .n (.l [] [(7, .o 41 (.st 0)), (9, .v (.list .int)), (10, .v .int), (11, .v .int)] [(0, [9, 10, 11], [])] (fL [0, 1, 7, 8, 9]) (.s .n (.s (.j [] [(7, .o 41 (.st 0)), (9, .v (.list .int)), (10, .v .int)] ([], []) (.s .n (.s (.s .n (.s (.s (.s .n (.l [] [(7, .o 41 (.st 0)), (13, .v .int)] [(2, [13], [])] (fL [0, 1, 7, 8, 9]) .n)) .n) .n)) (.s .n (.s .n (.s .n (.l [] [(7, .o 41 (.st 0)), (14, .v .int)] [(4, [14], [])] (fL [0, 1, 7, 8, 9, 12]) .n))))))) .n)))) (.s (.f [7] .n) .n))))))) Try.func74 Try.call74 rfl rfl fun x => by kernel_rfl
def ref06_Of_L0 (l_ : (List Rect)) (s1 : Int) : Option (Flow (Int) ((List Rect) × Int)) :=
 if (decide (s1 < (l_.length : Int))) then
  (getI l_ s1).bind fun x1 =>
  (ref06_RightRect x1).bind fun x2 =>
  if (!x2) then
   some (.ret (([] : List Rect), 1))
  else
   (addI s1 1).bind fun x3 =>
   some (.go x3)
 else
  some (.ex 0 s1)
def ref06_Of (l_ : (List Rect)) : Option ((List Rect) × Int) :=
 (iterL (ref06_Of_L0 l_) (l_.length + 1) 0).bind fun f1 => match f1 with
  | .go _ => none
  | .ex _ _ =>
   if (decide (400 < (l_.length : Int))) then
    some (([] : List Rect), 6)
   else
    (ref06_Form l_ ([] : List Rect) 0).bind fun x1 =>
    if (decide (200 < (x1.length : Int))) then
     some (([] : List Rect), 6)
    else
     some (x1, 0)
  | .ret r1 => some r1
noncomputable def k58 := mk 58 [.list (.st 0)] [.list (.st 0), .int] (fun x => ref06_Of x) [k73, k74] [] Try.f58 (.s .n (.s (.s .n (.l [] [(4, .v .int)] [(0, [4], [])] (fL [0]) .n)) .n)) Try.func58 Try.call58 rfl rfl fun x => by kernel_rfl
def ref06_Same_L0 (a_ : (List Rect)) (b_ : (List Rect)) (s1 : Int) : Option (Flow (Int) (Bool)) :=
 if (decide (s1 < (a_.length : Int))) then
  (getI a_ s1).bind fun x1 =>
  (getI b_ s1).bind fun x2 =>
  if (!decide (x1 = x2)) then
   some (.ret false)
  else
   (addI s1 1).bind fun x3 =>
   some (.go x3)
 else
  some (.ex 0 s1)
def ref06_Same (a_ : (List Rect)) (b_ : (List Rect)) : Option (Bool) :=
 if ((a_.length : Int) != (b_.length : Int)) then
  some false
 else
  (iterL (ref06_Same_L0 a_ b_) (a_.length + b_.length + 1) 0).bind fun f1 => match f1 with
   | .go _ => none
   | .ex _ _ =>
    some true
   | .ret r1 => some r1
noncomputable def k42 := mk 42 [.list (.st 0), .list (.st 0)] [.bool] (fun x => ref06_Same x.1 x.2) [] [] Try.f42 (.s .n (.s .n (.s (.s .n (.l [] [(5, .v .int)] [(0, [5], [])] (fL [0, 1]) .n)) .n))) Try.func42 Try.call42 rfl rfl fun x => by kernel_rfl
def ref06_Right (a_ : (List Rect)) : Option (Bool) :=
 (ref06_Of a_).bind fun x1 =>
 (if (x1.2 == 0) then
  (ref06_Same x1.1 a_).bind fun x2 =>
  some x2
 else
  some false).bind fun x3 =>
 some x3
noncomputable def k41 := mk 41 [.list (.st 0)] [.bool] (fun x => ref06_Right x) [k58, k42] [] Try.f41 (.n) Try.func41 Try.call41 rfl rfl fun x => by kernel_rfl
def ref09_Right_L0 (s_ : (List Slab)) (s1 : Int) : Option (Flow (Int) (Bool)) :=
 if (decide (s1 < (s_.length : Int))) then
  (getI s_ s1).bind fun x1 =>
  (if (decide (x1.Z0 < 0)) then
   some true
  else
   (getI s_ s1).bind fun x2 =>
   (getI s_ s1).bind fun x3 =>
   some (decide (x3.Z1 ≤ x2.Z0))).bind fun x4 =>
  (if x4 then
   some true
  else
   (getI s_ s1).bind fun x5 =>
   some (decide (4096 < x5.Z1))).bind fun x6 =>
  (if x6 then
   some true
  else
   (getI s_ s1).bind fun x7 =>
   some ((x7.Area.length : Int) == 0)).bind fun x8 =>
  (if x8 then
   some true
  else
   (getI s_ s1).bind fun x9 =>
   (ref06_Right x9.Area).bind fun x10 =>
   some (!x10)).bind fun x11 =>
  if x11 then
   some (.ret false)
  else
   (if (decide (0 < s1)) then
    (subI s1 1).bind fun x12 =>
    (getI s_ x12).bind fun x13 =>
    (getI s_ s1).bind fun x14 =>
    (if (decide (x14.Z0 < x13.Z1)) then
     some true
    else
     (subI s1 1).bind fun x15 =>
     (getI s_ x15).bind fun x16 =>
     (getI s_ s1).bind fun x17 =>
     (if (x16.Z1 == x17.Z0) then
      (subI s1 1).bind fun x18 =>
      (getI s_ x18).bind fun x19 =>
      (getI s_ s1).bind fun x20 =>
      (ref06_Same x19.Area x20.Area).bind fun x21 =>
      some x21
     else
      some false).bind fun x22 =>
     some x22).bind fun x23 =>
    some x23
   else
    some false).bind fun x24 =>
   if x24 then
    some (.ret false)
   else
    (addI s1 1).bind fun x25 =>
    some (.go x25)
 else
  some (.ex 0 s1)
def ref09_Right (s_ : (List Slab)) : Option (Bool) :=
 if (decide (80 < (s_.length : Int))) then
  some false
 else
  (iterL (ref09_Right_L0 s_) (s_.length + 1) 0).bind fun f1 => match f1 with
   | .go _ => none
   | .ex _ _ =>
    some true
   | .ret r1 => some r1
noncomputable def k28 := mk 28 [.list (.st 9)] [.bool] (fun x => ref09_Right x) [k41, k42] [] Try.f28 (.s .n (.s .n (.s (.s .n (.l [] [(3, .v .int)] [(0, [3], [])] (fL [0]) .n)) .n))) Try.func28 Try.call28 rfl rfl fun x => by kernel_rfl
def ref11_Valid (p_ : Point3) : Option (Bool) :=
 some ((((((decide (0 ≤ p_.X)) && (decide (p_.X ≤ 1048576))) && (decide (0 ≤ p_.Y))) && (decide (p_.Y ≤ 1048576))) && (decide (0 ≤ p_.Z))) && (decide (p_.Z ≤ 4096)))
noncomputable def k37 := mk 37 [.st 8] [.bool] (fun x => ref11_Valid x) [] [] Try.f37 (.n) Try.func37 Try.call37 rfl rfl fun x => by kernel_rfl
def ref12_may (table_ : (List Point3)) (s_ : (List Slab)) (p_ : Point3) : Option (Bool) :=
 (ref12_Right table_).bind fun x1 =>
 (if x1 then
  (ref09_Right s_).bind fun x2 =>
  some x2
 else
  some false).bind fun x3 =>
 (if x3 then
  (ref11_Valid p_).bind fun x4 =>
  some x4
 else
  some false).bind fun x5 =>
 some x5
noncomputable def k24 := mk 24 [.list (.st 8), .list (.st 9), .st 8] [.bool] (fun x => ref12_may x.1 x.2.1 x.2.2) [k10, k28, k37] [] Try.f24 (.n) Try.func24 Try.call24 rfl rfl fun x => by kernel_rfl
def ref11_within (n_ : Int) : Option (Bool) :=
 some ((decide ((-1048576) ≤ n_)) && (decide (n_ ≤ 1048576)))
noncomputable def k53 := mk 53 [.int] [.bool] (fun x => ref11_within x) [] [] Try.f53 (.n) Try.func53 Try.call53 rfl rfl fun x => by kernel_rfl
def ref09_Boxes_L1 (s_ : (List Slab)) (s1 : (List Box) × Int) (s2 : (List Box) × Int) : Option (Flow ((List Box) × Int) ((List Box))) :=
 (getI s_ s1.2).bind fun x1 =>
 if (decide (s2.2 < (x1.Area.length : Int))) then
  (getI s_ s1.2).bind fun x2 =>
  (getI x2.Area s2.2).bind fun x3 =>
  (getI s_ s1.2).bind fun x4 =>
  (getI s_ s1.2).bind fun x5 =>
  (appI s2.1 ([(⟨x3, x4.Z0, x5.Z1⟩ : Box)])).bind fun x6 =>
  (addI s2.2 1).bind fun x7 =>
  some (.go (x6, x7))
 else
  some (.ex 2 (s2.1, s2.2))
def ref09_Boxes_L0 (s_ : (List Slab)) (s1 : (List Box) × Int) : Option (Flow ((List Box) × Int) ((List Box))) :=
 if (decide (s1.2 < (s_.length : Int))) then
  (iterL (ref09_Boxes_L1 s_ s1) ((s_.flatMap fun b => b.Area).length + 1) (s1.1, 0)).bind fun f1 => match f1 with
   | .go _ => none
   | .ex _ s2 =>
    (addI s1.2 1).bind fun x1 =>
    some (.go (s2.1, x1))
   | .ret r1 => some (.ret r1)
 else
  some (.ex 0 (s1.1, s1.2))
def ref09_Boxes (s_ : (List Slab)) : Option ((List Box)) :=
 (ref09_Right s_).bind fun x1 =>
 if (!x1) then
  some ([] : List Box)
 else
  (iterL (ref09_Boxes_L0 s_) (s_.length + ([] : List Box).length + 1) (([] : List Box), 0)).bind fun f1 => match f1 with
   | .go _ => none
   | .ex _ s1 =>
    some s1.1
   | .ret r1 => some r1
noncomputable def k67 := mk 67 [.list (.st 9)] [.list (.st 3)] (fun x => ref09_Boxes x) [k28] [3, 25, 46] Try.f67 (.s .n (.s .n (.s .n (.s (.s .n (.l [] [(3, .o 43 (.st 3)), (4, .v .int)] [(0, [4], [])] (fL [0, 3]) (.s .n (.s (.s .n (.l [] [(3, .o 43 (.st 3)), (5, .v .int)] [(2, [5], [])] (fun e => (List.flatMap (fun b => b.Area) (gt e 0 (.list (.st 9)) : List Slab)).length + 1) .n)) .n)))) (.s (.f [3] .n) .n))))) Try.func67 Try.call67 rfl rfl fun x => by kernel_rfl
def ref11_less (a_ : Ref11Bound) (b_ : Ref11Bound) : Option (Bool) :=
 (mulI a_.N b_.D).bind fun x1 =>
 (mulI b_.N a_.D).bind fun x2 =>
 some (decide (x1 < x2))
noncomputable def k69 := mk 69 [.st 7, .st 7] [.bool] (fun x => ref11_less x.1 x.2) [] [] Try.f69 (.n) Try.func69 Try.call69 rfl rfl fun x => by kernel_rfl
def ref11_higher (a_ : Ref11Bound) (b_ : Ref11Bound) : Option (Ref11Bound) :=
 (ref11_less a_ b_).bind fun x1 =>
 (if x1 then
  some true
 else
  (ref11_less b_ a_).bind fun x2 =>
  some ((!x2) && b_.Open)).bind fun x3 =>
 if x3 then
  some b_
 else
  some a_
noncomputable def k90 := mk 90 [.st 7, .st 7] [.st 7] (fun x => ref11_higher x.1 x.2) [k69] [4] Try.f90 (.n) Try.func90 Try.call90 rfl rfl fun x => by kernel_rfl
def ref11_lower (a_ : Ref11Bound) (b_ : Ref11Bound) : Option (Ref11Bound) :=
 (ref11_less b_ a_).bind fun x1 =>
 (if x1 then
  some true
 else
  (ref11_less a_ b_).bind fun x2 =>
  some ((!x2) && b_.Open)).bind fun x3 =>
 if x3 then
  some b_
 else
  some a_
noncomputable def k91 := mk 91 [.st 7, .st 7] [.st 7] (fun x => ref11_lower x.1 x.2) [k69] [4] Try.f91 (.n) Try.func91 Try.call91 rfl rfl fun x => by kernel_rfl
def ref11_narrow (x_ : Ref11Part) (at_ : Int) (by_ : Int) (from_ : Int) (to_ : Int) : Option (Ref11Part) :=
 (if (decide (0 < by_)) then
  (subI from_ at_).bind fun x1 =>
  (ref11_higher x_.Lo (⟨x1, by_, false⟩ : Ref11Bound)).bind fun x2 =>
  (subI to_ at_).bind fun x3 =>
  (ref11_lower (({ x_ with Lo := x2 }).Hi) (⟨x3, by_, true⟩ : Ref11Bound)).bind fun x4 =>
  some { { x_ with Lo := x2 } with Hi := x4 }
 else
  some x_).bind fun s1 =>
 (if (decide (by_ < 0)) then
  (subI at_ to_).bind fun x5 =>
  (subI 0 by_).bind fun x6 =>
  (ref11_higher s1.Lo (⟨x5, x6, true⟩ : Ref11Bound)).bind fun x7 =>
  (subI at_ from_).bind fun x8 =>
  (subI 0 by_).bind fun x9 =>
  (ref11_lower (({ s1 with Lo := x7 }).Hi) (⟨x8, x9, false⟩ : Ref11Bound)).bind fun x10 =>
  some { { s1 with Lo := x7 } with Hi := x10 }
 else
  some s1).bind fun s2 =>
 some ({ s2 with None := (s2.None || ((by_ == 0) && ((decide (at_ < from_)) || (decide (to_ ≤ at_))))) })
noncomputable def k68 := mk 68 [.st 6, .int, .int, .int, .int] [.st 6] (fun x => ref11_narrow x.1 x.2.1 x.2.2.1 x.2.2.2.1 x.2.2.2.2) [k90, k91] [5, 10] Try.f68 (.s .n (.s (.s .n (.j [] [(5, .b (.st 6))] ([], []) (.s .n .n))) (.s (.s .n (.j [] [(5, .b (.st 6))] ([], []) (.s .n .n))) .n))) Try.func68 Try.call68 rfl rfl fun x => by kernel_rfl
def ref11_meets_L0 (p_ : Point3) (v_ : Point3) (most_ : Int) (x1 : (List Box)) (s1 : Int) : Option (Flow (Int) (Bool)) :=
 if (decide (s1 < (x1.length : Int))) then
  (getI x1 s1).bind fun x2 =>
  (getI x1 s1).bind fun x3 =>
  (ref11_narrow (⟨(⟨0, 1, true⟩ : Ref11Bound), (⟨most_, 1, true⟩ : Ref11Bound), false⟩ : Ref11Part) p_.X v_.X x2.Base.X0 x3.Base.X1).bind fun x4 =>
  (getI x1 s1).bind fun x5 =>
  (getI x1 s1).bind fun x6 =>
  (ref11_narrow x4 p_.Y v_.Y x5.Base.Y0 x6.Base.Y1).bind fun x7 =>
  (getI x1 s1).bind fun x8 =>
  (getI x1 s1).bind fun x9 =>
  (ref11_narrow x7 p_.Z v_.Z x8.Z0 x9.Z1).bind fun x10 =>
  (ref11_less x10.Lo x10.Hi).bind fun x11 =>
  (if (!x11) then
   (ref11_less x10.Hi x10.Lo).bind fun x12 =>
   some (!x12)
  else
   some false).bind fun x13 =>
  (if (!x10.None) then
   (ref11_less x10.Lo x10.Hi).bind fun x14 =>
   some (x14 || ((x13 && (!x10.Lo.Open)) && (!x10.Hi.Open)))
  else
   some false).bind fun x15 =>
  if x15 then
   some (.ret true)
  else
   (addI s1 1).bind fun x16 =>
   some (.go x16)
 else
  some (.ex 0 s1)
def ref11_meets (s_ : (List Slab)) (p_ : Point3) (v_ : Point3) (most_ : Int) : Option (Bool) :=
 (ref09_Boxes s_).bind fun x1 =>
 (iterL (ref11_meets_L0 p_ v_ most_ x1) (x1.length + 1) 0).bind fun f1 => match f1 with
  | .go _ => none
  | .ex _ _ =>
   some false
  | .ret r1 => some r1
noncomputable def k54 := mk 54 [.list (.st 9), .st 8, .st 8, .int] [.bool] (fun x => ref11_meets x.1 x.2.1 x.2.2.1 x.2.2.2) [k67, k68, k69] [11] Try.f54 (.s .n (.s .n (.s (.s .n (.l [] [(10, .v .int)] [(0, [10], [])] (fL [9]) .n)) .n))) Try.func54 Try.call54 rfl rfl fun x => by kernel_rfl
def ref11_Ray (s_ : (List Slab)) (p_ : Point3) (d_ : Point3) : Option (Bool) :=
 (ref11_Valid p_).bind fun x1 =>
 (if (!x1) then
  some true
 else
  (ref11_within d_.X).bind fun x2 =>
  some (!x2)).bind fun x3 =>
 (if x3 then
  some true
 else
  (ref11_within d_.Y).bind fun x4 =>
  some (!x4)).bind fun x5 =>
 (if x5 then
  some true
 else
  (ref11_within d_.Z).bind fun x6 =>
  some (!x6)).bind fun x7 =>
 if (x7 || (((d_.X == 0) && (d_.Y == 0)) && (d_.Z == 0))) then
  some false
 else
  (ref11_meets s_ p_ d_ 2097152).bind fun x8 =>
  some x8
noncomputable def k38 := mk 38 [.list (.st 9), .st 8, .st 8] [.bool] (fun x => ref11_Ray x.1 x.2.1 x.2.2) [k37, k53, k54] [] Try.f38 (.n) Try.func38 Try.call38 rfl rfl fun x => by kernel_rfl
def ref12_mask_L0 (table_ : (List Point3)) (s_ : (List Slab)) (p_ : Point3) (s1 : Int × Int) : Option (Flow (Int × Int) (Int)) :=
 if (decide (s1.2 < (table_.length : Int))) then
  (getI table_ s1.2).bind fun x1 =>
  (ref11_Ray s_ p_ x1).bind fun x2 =>
  (if (!x2) then
   (shlI 1 s1.2).bind fun x3 =>
   (addI s1.1 x3).bind fun x4 =>
   some x4
  else
   some s1.1).bind fun s2 =>
  (addI s1.2 1).bind fun x5 =>
  some (.go (s2, x5))
 else
  some (.ex 0 (s1.1, s1.2))
def ref12_mask (table_ : (List Point3)) (s_ : (List Slab)) (p_ : Point3) : Option (Int) :=
 (iterL (ref12_mask_L0 table_ s_ p_) (table_.length + s_.length + 1) (0, 0)).bind fun f1 => match f1 with
  | .go _ => none
  | .ex _ s1 =>
   some s1.1
  | .ret r1 => some r1
noncomputable def k25 := mk 25 [.list (.st 8), .list (.st 9), .st 8] [.int] (fun x => ref12_mask x.1 x.2.1 x.2.2) [k38] [] Try.f25 (.s .n (.s .n (.s (.s .n (.l [] [(7, .v .int), (8, .v .int)] [(0, [8], [])] (fL [0, 1]) (.s .n (.s (.s .n (.j [] [(7, .v .int)] ([], []) (.s .n .n))) .n)))) .n))) Try.func25 Try.call25 rfl rfl fun x => by kernel_rfl
def ref12_Mask (table_ : (List Point3)) (s_ : (List Slab)) (p_ : Point3) : Option (Int) :=
 (ref12_may table_ s_ p_).bind fun x1 =>
 if (!x1) then
  some 0
 else
  (ref12_mask table_ s_ p_).bind fun x2 =>
  some x2
noncomputable def k12 := mk 12 [.list (.st 8), .list (.st 9), .st 8] [.int] (fun x => ref12_Mask x.1 x.2.1 x.2.2) [k24, k25] [] Try.f12 (.n) Try.func12 Try.call12 rfl rfl fun x => by kernel_rfl
def ref12_Count_L0 (mask_ : Int) (s1 : Int × Int) : Option (Flow (Int × Int) (Int)) :=
 if (decide (s1.2 < 63)) then
  (shrI mask_ s1.2).bind fun x1 =>
  (if ((andI x1 1) == 1) then
   (addI s1.1 1).bind fun x2 =>
   some x2
  else
   some s1.1).bind fun s2 =>
  (addI s1.2 1).bind fun x3 =>
  some (.go (s2, x3))
 else
  some (.ex 0 (s1.1, s1.2))
def ref12_Count (mask_ : Int) : Option (Int) :=
 (iterL (ref12_Count_L0 mask_) (64) (0, 0)).bind fun f1 => match f1 with
  | .go _ => none
  | .ex _ s1 =>
   some s1.1
  | .ret r1 => some r1
noncomputable def k20 := mk 20 [.int] [.int] (fun x => ref12_Count x) [] [] Try.f20 (.s .n (.s .n (.s (.s .n (.l [] [(3, .v .int), (4, .v .int)] [(0, [4], [])] (fun _ => 64) (.s .n (.s (.s .n (.j [] [(3, .v .int)] ([], []) (.s .n .n))) .n)))) .n))) Try.func20 Try.call20 rfl rfl fun x => by kernel_rfl
def ref12_Hours (table_ : (List Point3)) (s_ : (List Slab)) (p_ : Point3) : Option (Int) :=
 (ref12_Mask table_ s_ p_).bind fun x1 =>
 (ref12_Count x1).bind fun x2 =>
 some x2
noncomputable def k14 := mk 14 [.list (.st 8), .list (.st 9), .st 8] [.int] (fun x => ref12_Hours x.1 x.2.1 x.2.2) [k12, k20] [] Try.f14 (.n) Try.func14 Try.call14 rfl rfl fun x => by kernel_rfl
def ref12_MaskOf_L0 (table_ : (List Point3)) (l_ : (List (List Slab))) (p_ : Point3) (s1 : Int × Int) : Option (Flow (Int × Int) (Int)) :=
 if (decide (s1.2 < (l_.length : Int))) then
  (getI l_ s1.2).bind fun x1 =>
  (ref09_Right x1).bind fun x2 =>
  if (!x2) then
   some (.ret 0)
  else
   (getI l_ s1.2).bind fun x3 =>
   (ref12_mask table_ x3 p_).bind fun x4 =>
   (addI s1.2 1).bind fun x5 =>
   some (.go ((andI s1.1 x4), x5))
 else
  some (.ex 0 (s1.1, s1.2))
def ref12_MaskOf (table_ : (List Point3)) (l_ : (List (List Slab))) (p_ : Point3) : Option (Int) :=
 (ref12_may table_ ([] : List Slab) p_).bind fun x1 =>
 if (!x1) then
  some 0
 else
  (ref12_mask table_ ([] : List Slab) p_).bind fun x2 =>
  (iterL (ref12_MaskOf_L0 table_ l_ p_) (table_.length + l_.length + 1) (x2, 0)).bind fun f1 => match f1 with
   | .go _ => none
   | .ex _ s1 =>
    some s1.1
   | .ret r1 => some r1
noncomputable def k16 := mk 16 [.list (.st 8), .list (.list (.st 9)), .st 8] [.int] (fun x => ref12_MaskOf x.1 x.2.1 x.2.2) [k24, k25, k28] [] Try.f16 (.s .n (.s .n (.s .n (.s (.s .n (.l [] [(7, .v .int), (8, .v .int)] [(0, [8], [])] (fL [0, 1]) .n)) .n)))) Try.func16 Try.call16 rfl rfl fun x => by kernel_rfl
def ref12_Lost (table_ : (List Point3)) (a_ : (List Slab)) (b_ : (List Slab)) (p_ : Point3) : Option (Int) :=
 (ref12_may table_ a_ p_).bind fun x1 =>
 (if (!x1) then
  some true
 else
  (ref09_Right b_).bind fun x2 =>
  some (!x2)).bind fun x3 =>
 if x3 then
  some 0
 else
  (ref12_mask table_ a_ p_).bind fun x4 =>
  (ref12_mask table_ a_ p_).bind fun x5 =>
  (ref12_mask table_ b_ p_).bind fun x6 =>
  (subI x4 (andI x5 x6)).bind fun x7 =>
  some x7
noncomputable def k18 := mk 18 [.list (.st 8), .list (.st 9), .list (.st 9), .st 8] [.int] (fun x => ref12_Lost x.1 x.2.1 x.2.2.1 x.2.2.2) [k24, k28, k25] [] Try.f18 (.n) Try.func18 Try.call18 rfl rfl fun x => by kernel_rfl
def law12_SunTells (table_ : (List Point3)) (a_ : (List Slab)) (b_ : (List Slab)) (p_ : Point3) (mask_ : Int) : Option (Bool) :=
 (law12_small).bind fun x1 =>
 (if (decide (30 < (table_.length : Int))) then
  some true
 else
  (law12_few a_).bind fun x2 =>
  some (!x2)).bind fun x3 =>
 (if x3 then
  some true
 else
  (law12_few b_).bind fun x4 =>
  some (!x4)).bind fun x5 =>
 if x5 then
  some x1
 else
  (sun_Right table_).bind fun x6 =>
  (ref12_Right table_).bind fun x7 =>
  (if (x6 == x7) then
   (sun_Mask table_ a_ p_).bind fun x8 =>
   (ref12_Mask table_ a_ p_).bind fun x9 =>
   some (x8 == x9)
  else
   some false).bind fun x10 =>
  (if x10 then
   (sun_Hours table_ b_ p_).bind fun x11 =>
   (ref12_Hours table_ b_ p_).bind fun x12 =>
   some (x11 == x12)
  else
   some false).bind fun x13 =>
  (sun_MaskOf table_ ([a_, b_]) p_).bind fun x14 =>
  (ref12_MaskOf table_ ([a_, b_]) p_).bind fun x15 =>
  (if (x14 == x15) then
   (sliceI ([a_, b_]) 0 1).bind fun x16 =>
   (sun_MaskOf table_ x16 p_).bind fun x17 =>
   (sliceI ([a_, b_]) 0 1).bind fun x18 =>
   (ref12_MaskOf table_ x18 p_).bind fun x19 =>
   some (x17 == x19)
  else
   some false).bind fun x20 =>
  (if x20 then
   (sun_Lost table_ a_ b_ p_).bind fun x21 =>
   (ref12_Lost table_ a_ b_ p_).bind fun x22 =>
   some (x21 == x22)
  else
   some false).bind fun x23 =>
  (if ((x1 && x13) && x23) then
   (sun_Count mask_).bind fun x24 =>
   (ref12_Count mask_).bind fun x25 =>
   some (x24 == x25)
  else
   some false).bind fun x26 =>
  some x26
noncomputable def k3 := mk 3 [.list (.st 8), .list (.st 9), .list (.st 9), .st 8, .int] [.bool] (fun x => law12_SunTells x.1 x.2.1 x.2.2.1 x.2.2.2.1 x.2.2.2.2) [k7, k8, k9, k10, k11, k12, k13, k14, k15, k16, k17, k18, k19, k20] [] Try.f3 (.n) Try.func3 Try.call3 rfl rfl fun x => by kernel_rfl
theorem law12_SunTells_ok {k0 : K} {v0 v1 v2 v3 v4 : Value} {x0 : (List Point3)} {x1 : (List Slab)} {x2 : (List Slab)} {x3 : Point3} {x4 : Int} {r : Bool} (i0 : IsV x0 v0 k0) (i1 : IsV x1 v1 k0) (i2 : IsV x2 v2 k0) (i3 : IsV x3 v3 k0) (i4 : IsV x4 v4 k0) (hr : law12_SunTells x0 x1 x2 x3 x4 = some r) : Calls Try.prog 3 #[v0, v1, v2, v3, v4] k0.w (Ret k0 (IsV r)) := (k3.ok.ok k0 [v0, v1, v2, v3, v4] (x0, x1, x2, x3, x4) r ⟨i0, i1, i2, i3, i4⟩ hr)
end Go.Proofs.Ytekbjeagbfbbcaa
