/- What the functions compute that the law reaches, part 3 -/
import Derived.Test.YtachpkjjlebadaaGreatT2
namespace Go.Proofs.YtachpkjjlebadaaGreat
open Go.Gb
set_option linter.unusedVariables false
set_option linter.unusedSimpArgs false
set_option maxRecDepth 100000
def dossier_Less (a_ : (List Drawing)) (b_ : (List Drawing)) : Option (Bool) :=
 (slices_EqualFunc_Drawing_Drawing_Drawing a_ b_ dossier_Less_1).bind fun x1 =>
 some x1
theorem dossier_Less_ok {k0 : K} {v0 v1 : Value} {a_ : (List Drawing)} {b_ : (List Drawing)} {r : Bool} (i0 : (IsV a_) v0 k0) (i1 : (IsV b_) v1 k0) (hr : dossier_Less a_ b_ = some r) :
  Calls Tryz.prog 17 #[v0, v1] k0.w (Ret k0 (IsV r)) := by
 unfold dossier_Less at hr
 refine Ret.ofC ?_
 refine enterK Tryz.func17 rfl Tryz.ntmps17 (show 2 ≤ 8 by decide) fun a k hk0 hs hd ha => ?_
 obtain ⟨e0, e1, _⟩ := ha
 replace i0 : (IsV a_) (a.get 0) k := by rw [e0, hk0]; exact i0
 replace i1 : (IsV b_) (a.get 1) k := by rw [e1, hk0]; exact i1
 have hQ : Gb.LetsOut (bodyPost Tryz.prog Tryz.f17 (RetC noF k0 (IsV r))) := letsOutC
 have hg : Chg noF k0 k := by rw [hk0]; exact Chg.refl _ k0
 refine stepL 1 (⟨some (IsV false), []⟩ :: []) rfl ⟨hg, hs, hd⟩ (by kernel_rfl) ⟨ob1 rfl fun _ _ h n => ok_assign rfl (isV_bool.2 rfl), trivial⟩ [⟨_, _⟩, ⟨_, _⟩] (fun b q p => ⟨p.ke 0 rfl i0, p.ke 1 rfl i1, trivial⟩) ?_
 rintro a k ⟨⟨hg, hs, hd⟩, i0, i1, _⟩
 refine wp_seq ?_
 obtain ⟨x1, hx1, hr⟩ := bind_some hr
 refine cut (fun a' k' => Bs noF k0 8 a' k' ∧ (IsV x1) (a'.get 4) k' ∧ True) ?_ hQ ?_
 ·intro Q1 W1 w1
  refine gS 4 (_ :: _ :: _ :: _ :: []) hs (by kernel_rfl) ⟨mu rfl i0, mu rfl i1, o1 [(5, some 0), (6, some 1)] rfl fun _ _ h n => ok_call rfl Tryz.call32 (slices_EqualFunc_Drawing_Drawing_Drawing_ok n.1 n.2.1 ⟨33, _, _, rfl, Tryz.call33, fun k9 hk9 _ _ _ _ _ hx0 hx1 hy9 => by simpa [evalT] using dossier_Less_1_ok hx0 hx1 hy9⟩ hx1), cp 2 rfl rfl, trivial⟩ W1 fun b q p => ?_
  exact tail_done (k := q) (w1 _ _ ⟨Bs.post ⟨hg, hs, hd⟩ p, p.ou 3 4 rfl, trivial⟩)
 rintro a k ⟨⟨hg, hs, hd⟩, i4, _⟩
 refine wp_ret ?_
 obtain rfl := Option.some.inj hr
 exact retC1 rfl hd hg i4
noncomputable def k17 := mkO 17 [.list (.st 3), .list (.st 3)] [.bool] (fun x => dossier_Less x.1 x.2) Tryz.call17 fun k0 vs x r hG h hr => by obtain ⟨v0, vs, rfl, i0, h⟩ := h.cons; obtain ⟨v1, rfl, i1⟩ := h.one; exact dossier_Less_ok i0 i1 hr
def dossier_amend (d_ : Dossier) (l_ : (List Drawing)) : Option (Dossier × Int) :=
 (dossier_formed l_).bind fun x1 =>
 if (!x1) then
  some ((⟨0, 0, 0, 0, 0, [], 0, 0⟩ : Dossier), 1)
 else
  (if (decide (2 ≤ d_.State)) then
   (dossier_Less l_ d_.Drawings).bind fun x2 =>
   some (!x2)
  else
   some false).bind fun x3 =>
  (if x3 then
   some { { d_ with State := 1 } with Rule := 0 }
  else
   some d_).bind fun s1 =>
  (dossier_clone l_).bind fun x4 =>
  some ({ { s1 with Drawings := x4 } with Choice := 0 }, 0)
noncomputable def k58 := mkg 58 [.st 6, .list (.st 3)] [.st 6, .int] (fun x => dossier_amend x.1 x.2) [k26, k17.lift glv giv gl0, k25.lift glv giv gl0] [2, 4] Tryz.f58 (.s .n (.s .n (.s (.s .n (.j [] [(2, .b (.st 6))] ([], []) (.s .n .n))) .n))) Tryz.func58 Tryz.call58 rfl rfl fun x => by kernel_rfl
def dossier_change (p_ : Plan) (d_ : Dossier) (a_ : Act) (before_ : Int) : Option (Dossier × Int) :=
 (if (a_.Kind == 0) then
  some (.go ({ d_ with State := 1 }, (⟨0, 0, 0, 0, 0, [], 0, 0⟩ : Dossier)))
 else
  (if (a_.Kind == 1) then
   (clause_May p_ a_.Day a_.N).bind fun x1 =>
   if (!x1) then
    some (.ret ((⟨0, 0, 0, 0, 0, [], 0, 0⟩ : Dossier), 20))
   else
    some (.go ({ { d_ with State := 2 } with Rule := a_.N }, (⟨0, 0, 0, 0, 0, [], 0, 0⟩ : Dossier)))
  else
   if (a_.Kind == 2) then
    (dossier_amend d_ a_.Drawings).bind fun x2 =>
    some (.ret (x2.1, x2.2))
   else
    (if (a_.Kind == 3) then
     some (.go ({ d_ with State := 3 }, (⟨0, 0, 0, 0, 0, [], 0, 0⟩ : Dossier)))
    else
     (if (a_.Kind == 4) then
      some (.go ({ d_ with State := 4 }, (⟨0, 0, 0, 0, 0, [], 0, 0⟩ : Dossier)))
     else
      (if (a_.Kind == 5) then
       if ((decide (a_.N < 0)) || (decide ((d_.Drawings.length : Int) ≤ a_.N))) then
        some (.ret ((⟨0, 0, 0, 0, 0, [], 0, 0⟩ : Dossier), 1))
       else
        some (.go ({ { d_ with State := 5 } with Choice := a_.N }, (⟨0, 0, 0, 0, 0, [], 0, 0⟩ : Dossier)))
      else
       (if (a_.Kind == 6) then
        some (.go ({ d_ with State := 6 }, (⟨0, 0, 0, 0, 0, [], 0, 0⟩ : Dossier)))
       else
        (if (a_.Kind == 7) then
         some (.go ({ d_ with State := 7 }, (⟨0, 0, 0, 0, 0, [], 0, 0⟩ : Dossier)))
        else
         (if (a_.Kind == 8) then
          (subI a_.Day before_).bind fun x3 =>
          if (decide (x3 < 365)) then
           some (.ret ((⟨0, 0, 0, 0, 0, [], 0, 0⟩ : Dossier), 20))
          else
           some (.go ({ d_ with State := 8 }, (⟨0, 0, 0, 0, 0, [], 0, 0⟩ : Dossier)))
         else
          (if (a_.Kind == 9) then
           if ((decide (a_.N < 0)) || (a_.N == d_.Holder)) then
            some (.ret ((⟨0, 0, 0, 0, 0, [], 0, 0⟩ : Dossier), 1))
           else
            some (.go ({ d_ with Holder := a_.N }, (⟨0, 0, 0, 0, 0, [], 0, 0⟩ : Dossier)))
          else
           (if (a_.Kind == 10) then
            if ((decide (a_.N < 1)) || (a_.N == d_.Id)) then
             some (.ret ((⟨0, 0, 0, 0, 0, [], 0, 0⟩ : Dossier), 1))
            else
             some (.go ({ { d_ with State := 9 } with Into := a_.N }, (⟨0, 0, 0, 0, 0, [], 0, 0⟩ : Dossier)))
           else
            some (.go (d_, (⟨0, 0, 0, 0, 0, [], 0, 0⟩ : Dossier))) : Option (Flow (Dossier × Dossier) (Dossier × Int))).bind fun f1 => match f1 with
            | .go s1 =>
             some (.go (s1.1, s1.2))
            | .ex _ _ => none
            | .ret r1 => some (.ret r1) : Option (Flow (Dossier × Dossier) (Dossier × Int))).bind fun f2 => match f2 with
           | .go s2 =>
            some (.go (s2.1, s2.2))
           | .ex _ _ => none
           | .ret r2 => some (.ret r2) : Option (Flow (Dossier × Dossier) (Dossier × Int))).bind fun f3 => match f3 with
          | .go s3 =>
           some (.go (s3.1, s3.2))
          | .ex _ _ => none
          | .ret r3 => some (.ret r3) : Option (Flow (Dossier × Dossier) (Dossier × Int))).bind fun f4 => match f4 with
         | .go s4 =>
          some (.go (s4.1, s4.2))
         | .ex _ _ => none
         | .ret r4 => some (.ret r4) : Option (Flow (Dossier × Dossier) (Dossier × Int))).bind fun f5 => match f5 with
        | .go s5 =>
         some (.go (s5.1, s5.2))
        | .ex _ _ => none
        | .ret r5 => some (.ret r5) : Option (Flow (Dossier × Dossier) (Dossier × Int))).bind fun f6 => match f6 with
       | .go s6 =>
        some (.go (s6.1, s6.2))
       | .ex _ _ => none
       | .ret r6 => some (.ret r6) : Option (Flow (Dossier × Dossier) (Dossier × Int))).bind fun f7 => match f7 with
      | .go s7 =>
       some (.go (s7.1, s7.2))
      | .ex _ _ => none
      | .ret r7 => some (.ret r7) : Option (Flow (Dossier × Dossier) (Dossier × Int))).bind fun f8 => match f8 with
     | .go s8 =>
      some (.go (s8.1, s8.2))
     | .ex _ _ => none
     | .ret r8 => some (.ret r8) : Option (Flow (Dossier × Dossier) (Dossier × Int))).bind fun f9 => match f9 with
   | .go s9 =>
    some (.go (s9.1, s9.2))
   | .ex _ _ => none
   | .ret r9 => some (.ret r9) : Option (Flow (Dossier × Dossier) (Dossier × Int))).bind fun f10 => match f10 with
  | .go s10 =>
   some (s10.1, 0)
  | .ex _ _ => none
  | .ret r10 => some r10
noncomputable def k30 := mkg 30 [.st 7, .st 6, .st 18, .int] [.st 6, .int] (fun x => dossier_change x.1 x.2.1 x.2.2.1 x.2.2.2) [k57.lift glv giv gl0, k58] [5, 8] Tryz.f30 (.s .n (.s (.s .n (.s .n (.jf [] [(5, .b (.st 6)), (8, .b (.st 6))] ([], []) [] (.s .n (.s .n (.jf [] [(5, .b (.st 6)), (8, .b (.st 6))] ([], []) [] (.s .n (.s .n (.s .n (.s .n (.jf [] [(5, .b (.st 6)), (8, .b (.st 6))] ([], []) [] (.s .n (.s .n (.jf [] [(5, .b (.st 6)), (8, .b (.st 6))] ([], []) [] (.s .n (.s .n (.jf [] [(5, .b (.st 6)), (8, .b (.st 6))] ([], []) [] (.s .n (.s .n (.jf [] [(5, .b (.st 6)), (8, .b (.st 6))] ([], []) [] (.s .n (.s .n (.jf [] [(5, .b (.st 6)), (8, .b (.st 6))] ([], []) [] (.s .n (.s .n (.jf [] [(5, .b (.st 6)), (8, .b (.st 6))] ([], []) [] (.s .n (.s .n (.jf [] [(5, .b (.st 6)), (8, .b (.st 6))] ([], []) [] (.s .n (.s .n (.jf [] [(5, .b (.st 6)), (8, .b (.st 6))] ([], []) [] (.s .n .n))))))))))))))))))))))))))))))))) .n)) Tryz.func30 Tryz.call30 rfl rfl fun x => by kernel_rfl
def dossier_Step (p_ : Plan) (d_ : Dossier) (a_ : Act) : Option (Dossier × Int) :=
 (dossier_Right d_).bind fun x1 =>
 (if (!x1) then
  some (!x1)
 else
  (if (decide (a_.Kind < 0)) then
   some (decide (a_.Kind < 0))
  else
   (if (decide (11 ≤ a_.Kind)) then
    some (decide (11 ≤ a_.Kind))
   else
    some ((decide (0 < (a_.Drawings.length : Int))) && (a_.Kind != 2))).bind fun s1 =>
   some s1).bind fun s2 =>
  some s2).bind fun s3 =>
 if s3 then
  some ((⟨0, 0, 0, 0, 0, [], 0, 0⟩ : Dossier), 1)
 else
  (if (decide (a_.Day < d_.Day)) then
   some (decide (a_.Day < d_.Day))
  else
   some (decide (1073741824 < a_.Day))).bind fun s4 =>
  if s4 then
   some ((⟨0, 0, 0, 0, 0, [], 0, 0⟩ : Dossier), 20)
  else
   (dossier_Acts d_.State).bind fun x2 =>
   (slices_Contains_int x2 a_.Kind).bind fun x3 =>
   if (!x3) then
    some ((⟨0, 0, 0, 0, 0, [], 0, 0⟩ : Dossier), 7)
   else
    (dossier_clone d_.Drawings).bind fun x4 =>
    (dossier_change p_ ({ { d_ with Day := a_.Day } with Drawings := x4 }) a_ d_.Day).bind fun x5 =>
    some (x5.1, x5.2)
noncomputable def k15 := mkg 15 [.st 7, .st 6, .st 18] [.st 6, .int] (fun x => dossier_Step x.1 x.2.1 x.2.2) [k10, k13.lift glv giv gl0, k29.lift glv giv gl0, k25.lift glv giv gl0, k30] [4, 6] Tryz.f15 (.s .n (.s (.s (.s .n (.j [] [(9, .v .bool)] ([], []) (.s .n (.s .n (.j [] [(9, .v .bool)] ([], []) (.s .n (.s .n (.j [] [(9, .v .bool)] ([], []) (.s .n .n))))))))) (.s .n (.s (.s .n (.j [] [(29, .v .bool)] ([], []) (.s .n .n))) .n))) .n)) Tryz.func15 Tryz.call15 rfl rfl fun x => by kernel_rfl
def ref01_SameNums_L0 (a_ : (List Int)) (b_ : (List Int)) (s1 : Int) : Option (Flow (Int) (Bool)) :=
 if (decide (s1 < (a_.length : Int))) then
  (getI a_ s1).bind fun x1 =>
  (getI b_ s1).bind fun x2 =>
  if (x1 != x2) then
   some (.ret false)
  else
   (addI s1 1).bind fun x3 =>
   some (.go x3)
 else
  some (.ex 0 s1)
def ref01_SameNums (a_ : (List Int)) (b_ : (List Int)) : Option (Bool) :=
 if ((a_.length : Int) != (b_.length : Int)) then
  some false
 else
  (iterL (ref01_SameNums_L0 a_ b_) (a_.length + b_.length + 1) 0).bind fun f1 => match f1 with
   | .go _ => none
   | .ex _ _ =>
    some true
   | .ret r1 => some r1
noncomputable def k12 := mk 12 [.list .int, .list .int] [.bool] (fun x => ref01_SameNums x.1 x.2) [] [] Tryz.f12 (.s .n (.s .n (.s (.s .n (.l [] [(5, .v .int)] [(0, [5], [])] (fL [0, 1]) .n)) .n))) Tryz.func12 Tryz.call12 rfl rfl fun x => by kernel_rfl
def law30_small  : Option (Bool) :=
 (law30_box 9).bind fun x1 =>
 (dossier_Step (⟨[], [], [], [], [], [], [], 0⟩ : Plan) (⟨1, 0, 0, 3, 0, x1, 0, 0⟩ : Dossier) (⟨1, 5, 5, []⟩ : Act)).bind fun x2 =>
 (dossier_Step (⟨[], [], [], [], [], [], [], 0⟩ : Plan) x2.1 (⟨3, 4, 0, []⟩ : Act)).bind fun x3 =>
 (law30_box 6).bind fun x4 =>
 (dossier_Step (⟨[], [], [], [], [], [], [], 0⟩ : Plan) x2.1 (⟨2, 6, 0, x4⟩ : Act)).bind fun x5 =>
 (law30_box 12).bind fun x6 =>
 (dossier_Step (⟨[], [], [], [], [], [], [], 0⟩ : Plan) x2.1 (⟨2, 6, 0, x6⟩ : Act)).bind fun x7 =>
 (if ((((((x2.2 == 0) && (x2.1.State == 2)) && (x2.1.Day == 5)) && (x2.1.Rule == 5)) && (x3.2 == 20)) && (((((((x5.2 == 0) && (x5.1.State == 2)) && (x5.1.Rule == 5)) && (x5.1.Day == 6)) && (x7.2 == 0)) && (x7.1.State == 1)) && (x7.1.Rule == 0))) then
  (dossier_Right (⟨1, 0, 0, 3, 0, x1, 0, 0⟩ : Dossier)).bind fun x8 =>
  some x8
 else
  some false).bind fun x9 =>
 (if x9 then
  (law30_box 6).bind fun x10 =>
  (law30_box 9).bind fun x11 =>
  (dossier_Less x10 x11).bind fun x12 =>
  some x12
 else
  some false).bind fun x13 =>
 (if x13 then
  (law30_box 12).bind fun x14 =>
  (law30_box 9).bind fun x15 =>
  (dossier_Less x14 x15).bind fun x16 =>
  some (!x16)
 else
  some false).bind fun x17 =>
 (if x17 then
  (dossier_Acts 4).bind fun x18 =>
  (ref01_SameNums x18 ([5, 6, 7, 9])).bind fun x19 =>
  some x19
 else
  some false).bind fun x20 =>
 some x20
noncomputable def k5 := mkg 5 [] [.bool] (fun x => law30_small) [k23.lift glv giv gl0, k15, k10, k17.lift glv giv gl0, k13.lift glv giv gl0, k12.lift glv giv gl0] [] Tryz.f5 (.n) Tryz.func5 Tryz.call5 rfl rfl fun x => by kernel_rfl
def ref30_fewDrawings_L1 (l_ : (List Drawing)) (s1 : Int) (s2 : Int) : Option (Flow (Int) (Bool)) :=
 (getI l_ s1).bind fun x1 =>
 if (decide (s2 < (x1.Phases.length : Int))) then
  (getI l_ s1).bind fun x2 =>
  (getI x2.Phases s2).bind fun x3 =>
  (if (decide (12 < (x3.Volumes.length : Int))) then
   some true
  else
   (getI l_ s1).bind fun x4 =>
   (getI x4.Phases s2).bind fun x5 =>
   some (decide (6 < (x5.Gives.length : Int)))).bind fun x6 =>
  if x6 then
   some (.ret false)
  else
   (addI s2 1).bind fun x7 =>
   some (.go x7)
 else
  some (.ex 2 s2)
def ref30_fewDrawings_L0 (l_ : (List Drawing)) (s1 : Int) : Option (Flow (Int) (Bool)) :=
 if (decide (s1 < (l_.length : Int))) then
  (iterL (ref30_fewDrawings_L1 l_ s1) ((l_.flatMap fun d => d.Phases).length + 1) 0).bind fun f1 => match f1 with
   | .go _ => none
   | .ex _ _ =>
    (getI l_ s1).bind fun x1 =>
    if (decide (9 < (x1.Phases.length : Int))) then
     some (.ret false)
    else
     (addI s1 1).bind fun x2 =>
     some (.go x2)
   | .ret r1 => some (.ret r1)
 else
  some (.ex 0 s1)
def ref30_fewDrawings (l_ : (List Drawing)) : Option (Bool) :=
 (iterL (ref30_fewDrawings_L0 l_) (l_.length + 1) 0).bind fun f1 => match f1 with
  | .go _ => none
  | .ex _ _ =>
   some (decide ((l_.length : Int) ≤ 9))
  | .ret r1 => some r1
noncomputable def k24 := mk 24 [.list (.st 3)] [.bool] (fun x => ref30_fewDrawings x) [] [] Tryz.f24 (.s .n (.s (.s .n (.l [] [(3, .v .int)] [(0, [3], [])] (fL [0]) (.s .n (.s (.s (.s .n (.l [] [(4, .v .int)] [(2, [4], [])] (fun e => (List.flatMap (fun d => d.Phases) (gt e 0 (.list (.st 3)) : List Drawing)).length + 1) .n)) .n) .n)))) .n)) Tryz.func24 Tryz.call24 rfl rfl fun x => by kernel_rfl
def ref30_Few_L0 (l_ : (List Act)) (s1 : Int) : Option (Flow (Int) (Bool)) :=
 if (decide (s1 < (l_.length : Int))) then
  (getI l_ s1).bind fun x1 =>
  (ref30_fewDrawings x1.Drawings).bind fun x2 =>
  if (!x2) then
   some (.ret false)
  else
   (addI s1 1).bind fun x3 =>
   some (.go x3)
 else
  some (.ex 0 s1)
def ref30_Few (p_ : Plan) (d_ : Dossier) (l_ : (List Act)) : Option (Bool) :=
 (iterL (ref30_Few_L0 l_) (l_.length + 1) 0).bind fun f1 => match f1 with
  | .go _ => none
  | .ex _ _ =>
   (if ((decide ((p_.Rules.length : Int) ≤ 20)) && (decide ((l_.length : Int) ≤ 14))) then
    (ref30_fewDrawings d_.Drawings).bind fun x1 =>
    some x1
   else
    some false).bind fun x2 =>
   some x2
  | .ret r1 => some r1
noncomputable def k6 := mk 6 [.st 7, .st 6, .list (.st 18)] [.bool] (fun x => ref30_Few x.1 x.2.1 x.2.2) [k24] [] Tryz.f6 (.s .n (.s (.s .n (.l [] [(7, .v .int)] [(0, [7], [])] (fL [2]) .n)) .n)) Tryz.func6 Tryz.call6 rfl rfl fun x => by kernel_rfl
def dossier_Run_L0 (p_ : Plan) (l_ : (List Act)) (s1 : Int × Dossier × Dossier) : Option (Flow (Int × Dossier × Dossier) (Dossier × Int × Int)) :=
 if (decide (s1.1 < (l_.length : Int))) then
  (getI l_ s1.1).bind fun x1 =>
  (dossier_Step p_ s1.2.1 x1).bind fun x2 =>
  if (x2.2 != 0) then
   some (.ret (s1.2.1, s1.1, x2.2))
  else
   (addI s1.1 1).bind fun x3 =>
   some (.go (x3, x2.1, s1.2.2))
 else
  some (.ex 0 (s1.1, s1.2.1, s1.2.2))
def dossier_Run (p_ : Plan) (d_ : Dossier) (l_ : (List Act)) : Option (Dossier × Int × Int) :=
 (dossier_clone d_.Drawings).bind fun x1 =>
 (iterL (dossier_Run_L0 p_ l_) (l_.length + 1) (0, { d_ with Drawings := x1 }, (⟨0, 0, 0, 0, 0, [], 0, 0⟩ : Dossier))).bind fun f1 => match f1 with
  | .go _ => none
  | .ex _ s1 =>
   some (s1.2.1, (l_.length : Int), 0)
  | .ret r1 => some r1
noncomputable def k7 := mkg 7 [.st 7, .st 6, .list (.st 18)] [.st 6, .int, .int] (fun x => dossier_Run x.1 x.2.1 x.2.2) [k25.lift glv giv gl0, k15] [4, 6] Tryz.f7 (.s .n (.s .n (.s (.s .n (.l [] [(19, .v .int), (4, .b (.st 6)), (6, .b (.st 6))] [(0, [19], [])] (fI 18) .n)) .n))) Tryz.func7 Tryz.call7 rfl rfl fun x => by kernel_rfl
def ref19_Volumes_L0 (d_ : Drawing) (from_ : Int) (to_ : Int) (s1 : (List Volume) × Int) : Option (Flow ((List Volume) × Int) ((List Volume))) :=
 if (decide (s1.2 < (d_.Phases.length : Int))) then
  (if ((decide (from_ ≤ s1.2)) && (decide (s1.2 < to_))) then
   (getI d_.Phases s1.2).bind fun x1 =>
   (appI s1.1 x1.Volumes).bind fun x2 =>
   some x2
  else
   some s1.1).bind fun s2 =>
  (addI s1.2 1).bind fun x3 =>
  some (.go (s2, x3))
 else
  some (.ex 0 (s1.1, s1.2))
def ref19_Volumes (d_ : Drawing) (from_ : Int) (to_ : Int) : Option ((List Volume)) :=
 (iterL (ref19_Volumes_L0 d_ from_ to_) (d_.Phases.length + 1) (([] : List Volume), 0)).bind fun f1 => match f1 with
  | .go _ => none
  | .ex _ s1 =>
   some s1.1
  | .ret r1 => some r1
noncomputable def k77 := mk 77 [.st 3, .int, .int] [.list (.st 0)] (fun x => ref19_Volumes x.1 x.2.1 x.2.2) [] [7, 24, 31] Tryz.f77 (.s .n (.s .n (.s (.s .n (.l [] [(7, .o 81 (.st 0)), (8, .v .int)] [(0, [8], [])] (fun e => (gt e 0 (.st 3) : Drawing).Phases.length + 1) (.s .n (.s (.s .n (.j [] [(7, .o 81 (.st 0))] ([], []) (.s .n .n))) .n)))) (.s (.f [7] .n) .n)))) Tryz.func77 Tryz.call77 rfl rfl fun x => by kernel_rfl
def ref19_within (n_ : Int) (from_ : Int) (to_ : Int) : Option (Bool) :=
 some ((decide (from_ ≤ n_)) && (decide (n_ ≤ to_)))
noncomputable def k78 := mk 78 [.int, .int, .int] [.bool] (fun x => ref19_within x.1 x.2.1 x.2.2) [] [] Tryz.f78 (.n) Tryz.func78 Tryz.call78 rfl rfl fun x => by kernel_rfl
def ref06_RightRect (r_ : Rect) : Option (Bool) :=
 some ((((((decide (0 ≤ r_.X0)) && (decide (r_.X0 < r_.X1))) && (decide (r_.X1 ≤ 1048576))) && (decide (0 ≤ r_.Y0))) && (decide (r_.Y0 < r_.Y1))) && (decide (r_.Y1 ≤ 1048576)))
noncomputable def k114 := mk 114 [.st 2] [.bool] (fun x => ref06_RightRect x) [] [] Tryz.f114 (.n) Tryz.func114 Tryz.call114 rfl rfl fun x => by kernel_rfl
def ref09_RightBox (b_ : Box) : Option (Bool) :=
 (ref06_RightRect b_.Base).bind fun x1 =>
 some (((x1 && (decide (0 ≤ b_.Z0))) && (decide (b_.Z0 < b_.Z1))) && (decide (b_.Z1 ≤ 4096)))
noncomputable def k100 := mk 100 [.st 1] [.bool] (fun x => ref09_RightBox x) [k114] [] Tryz.f100 (.n) Tryz.func100 Tryz.call100 rfl rfl fun x => by kernel_rfl
def ref19_RightVolume (v_ : Volume) : Option (Bool) :=
 (ref09_RightBox v_.Box).bind fun x1 =>
 (if x1 then
  (ref19_within v_.Use 0 5).bind fun x2 =>
  some x2
 else
  some false).bind fun x3 =>
 (if x3 then
  (ref19_within v_.Units 0 1048576).bind fun x4 =>
  some x4
 else
  some false).bind fun x5 =>
 some (x5 && ((v_.Units == 0) || (v_.Use == 0)))
noncomputable def k79 := mk 79 [.st 0] [.bool] (fun x => ref19_RightVolume x) [k100, k78] [] Tryz.f79 (.n) Tryz.func79 Tryz.call79 rfl rfl fun x => by kernel_rfl
def ref19_meet (a_ : Box) (b_ : Box) : Option (Bool) :=
 some (((decide ((max a_.Base.X0 b_.Base.X0) < (min a_.Base.X1 b_.Base.X1))) && (decide ((max a_.Base.Y0 b_.Base.Y0) < (min a_.Base.Y1 b_.Base.Y1)))) && (decide ((max a_.Z0 b_.Z0) < (min a_.Z1 b_.Z1))))
noncomputable def k80 := mk 80 [.st 1, .st 1] [.bool] (fun x => ref19_meet x.1 x.2) [] [] Tryz.f80 (.n) Tryz.func80 Tryz.call80 rfl rfl fun x => by kernel_rfl
def ref14_letter (c_ : (IK .u8)) : Option (Bool) :=
 some ((decide ((IK.mk 97 : IK .u8).n ≤ c_.n)) && (decide (c_.n ≤ (IK.mk 122 : IK .u8).n)))
theorem ref14_letter_ok {k0 : K} {v0 : Value} {c_ : (IK .u8)} {r : Bool} (i0 : (IsV c_) v0 k0) (hr : ref14_letter c_ = some r) :
  Calls Tryz.prog 140 #[v0] k0.w (Ret k0 (IsV r)) := by
 unfold ref14_letter at hr
 refine Ret.ofC ?_
 refine enterK Tryz.func140 rfl Tryz.ntmps140 (show 1 ≤ 9 by decide) fun a k hk0 hs hd ha => ?_
 obtain ⟨e0, _⟩ := ha
 replace i0 : (IsV c_) (a.get 0) k := by rw [e0, hk0]; exact i0
 have hQ : Gb.LetsOut (bodyPost Tryz.prog Tryz.f140 (RetC noF k0 (IsV r))) := letsOutC
 have hg : Chg noF k0 k := by rw [hk0]; exact Chg.refl _ k0
 refine stepL 1 (⟨some (IsV false), []⟩ :: []) rfl ⟨hg, hs, hd⟩ (by kernel_rfl) ⟨ob1 rfl fun _ _ h n => ok_assign rfl (isV_bool.2 rfl), trivial⟩ [⟨_, _⟩] (fun b q p => ⟨p.ke 0 rfl i0, trivial⟩) ?_
 rintro a k ⟨⟨hg, hs, hd⟩, i0, _⟩
 refine stepL 7 (_ :: ⟨some (IsV (decide ((IK.mk 97 : IK .u8).n ≤ c_.n))), [(3, some 0)]⟩ :: _ :: _ :: ⟨some (Gd ((decide ((IK.mk 97 : IK .u8).n ≤ c_.n)) = true) (IsV (decide (c_.n ≤ (IK.mk 122 : IK .u8).n)))), [(6, some 3)]⟩ :: _ :: _ :: []) rfl ⟨hg, hs, hd⟩ (by kernel_rfl) ⟨mu rfl i0, ob1 rfl fun _ _ h n => ok_geqK rfl n.1 (isV_ik.2 rfl), cm 1 rfl rfl, mT rfl rfl i0, gdT rfl rfl fun hp _ _ h n => ok_leqK rfl (Gd.get n.1 hp) (isV_ik.2 rfl), o1 [(5, some 2), (7, some 4)] rfl fun _ _ h n => ok_pickAnd rfl n.1 (Gd.get n.2.1) (cB rfl), cp 5 rfl rfl, trivial⟩ [⟨_, _⟩] (fun b q p => ⟨p.ou 6 2 rfl, trivial⟩) ?_
 rintro a k ⟨⟨hg, hs, hd⟩, i2, _⟩
 refine wp_ret ?_
 obtain rfl := Option.some.inj hr
 exact retC1 rfl hd hg i2
def ref14_digit (c_ : (IK .u8)) : Option (Bool) :=
 some ((decide ((IK.mk 48 : IK .u8).n ≤ c_.n)) && (decide (c_.n ≤ (IK.mk 57 : IK .u8).n)))
theorem ref14_digit_ok {k0 : K} {v0 : Value} {c_ : (IK .u8)} {r : Bool} (i0 : (IsV c_) v0 k0) (hr : ref14_digit c_ = some r) :
  Calls Tryz.prog 141 #[v0] k0.w (Ret k0 (IsV r)) := by
 unfold ref14_digit at hr
 refine Ret.ofC ?_
 refine enterK Tryz.func141 rfl Tryz.ntmps141 (show 1 ≤ 9 by decide) fun a k hk0 hs hd ha => ?_
 obtain ⟨e0, _⟩ := ha
 replace i0 : (IsV c_) (a.get 0) k := by rw [e0, hk0]; exact i0
 have hQ : Gb.LetsOut (bodyPost Tryz.prog Tryz.f141 (RetC noF k0 (IsV r))) := letsOutC
 have hg : Chg noF k0 k := by rw [hk0]; exact Chg.refl _ k0
 refine stepL 1 (⟨some (IsV false), []⟩ :: []) rfl ⟨hg, hs, hd⟩ (by kernel_rfl) ⟨ob1 rfl fun _ _ h n => ok_assign rfl (isV_bool.2 rfl), trivial⟩ [⟨_, _⟩] (fun b q p => ⟨p.ke 0 rfl i0, trivial⟩) ?_
 rintro a k ⟨⟨hg, hs, hd⟩, i0, _⟩
 refine stepL 7 (_ :: ⟨some (IsV (decide ((IK.mk 48 : IK .u8).n ≤ c_.n))), [(3, some 0)]⟩ :: _ :: _ :: ⟨some (Gd ((decide ((IK.mk 48 : IK .u8).n ≤ c_.n)) = true) (IsV (decide (c_.n ≤ (IK.mk 57 : IK .u8).n)))), [(6, some 3)]⟩ :: _ :: _ :: []) rfl ⟨hg, hs, hd⟩ (by kernel_rfl) ⟨mu rfl i0, ob1 rfl fun _ _ h n => ok_geqK rfl n.1 (isV_ik.2 rfl), cm 1 rfl rfl, mT rfl rfl i0, gdT rfl rfl fun hp _ _ h n => ok_leqK rfl (Gd.get n.1 hp) (isV_ik.2 rfl), o1 [(5, some 2), (7, some 4)] rfl fun _ _ h n => ok_pickAnd rfl n.1 (Gd.get n.2.1) (cB rfl), cp 5 rfl rfl, trivial⟩ [⟨_, _⟩] (fun b q p => ⟨p.ou 6 2 rfl, trivial⟩) ?_
 rintro a k ⟨⟨hg, hs, hd⟩, i2, _⟩
 refine wp_ret ?_
 obtain rfl := Option.some.inj hr
 exact retC1 rfl hd hg i2
def ref14_Word_L0 (s_ : ByteArray) (s1 : Int) : Option (Flow (Int) (Bool)) :=
 if (decide (s1 < (s_.size : Int))) then
  (strI s_ s1).bind fun x1 =>
  (ref14_letter x1).bind fun x2 =>
  (if (!x2) then
   (strI s_ s1).bind fun x3 =>
   (ref14_digit x3).bind fun x4 =>
   some (!x4)
  else
   some false).bind fun x5 =>
  if x5 then
   some (.ret false)
  else
   (addI s1 1).bind fun x6 =>
   some (.go x6)
 else
  some (.ex 0 s1)
def ref14_Word (s_ : ByteArray) : Option (Bool) :=
 (if ((decide ((s_.size : Int) < 1)) || (decide (20 < (s_.size : Int)))) then
  some true
 else
  (strI s_ 0).bind fun x1 =>
  (ref14_letter x1).bind fun x2 =>
  some (!x2)).bind fun x3 =>
 if x3 then
  some false
 else
  (iterL (ref14_Word_L0 s_) (s_.size + 1) 1).bind fun f1 => match f1 with
   | .go _ => none
   | .ex _ _ =>
    some true
   | .ret r1 => some r1
theorem ref14_Word_ok {k0 : K} {v0 : Value} {s_ : ByteArray} {r : Bool} (i0 : (IsV s_) v0 k0) (hr : ref14_Word s_ = some r) :
  Calls Tryz.prog 115 #[v0] k0.w (Ret k0 (IsV r)) := by
 unfold ref14_Word at hr
 refine Ret.ofC ?_
 refine enterK Tryz.func115 rfl Tryz.ntmps115 (show 1 ≤ 36 by decide) fun a k hk0 hs hd ha => ?_
 obtain ⟨e0, _⟩ := ha
 replace i0 : (IsV s_) (a.get 0) k := by rw [e0, hk0]; exact i0
 have hQ : Gb.LetsOut (bodyPost Tryz.prog Tryz.f115 (RetC noF k0 (IsV r))) := letsOutC
 have hg : Chg noF k0 k := by rw [hk0]; exact Chg.refl _ k0
 refine stepL 1 (⟨some (IsV false), []⟩ :: []) rfl ⟨hg, hs, hd⟩ (by kernel_rfl) ⟨ob1 rfl fun _ _ h n => ok_assign rfl (isV_bool.2 rfl), trivial⟩ [⟨_, _⟩] (fun b q p => ⟨p.ke 0 rfl i0, trivial⟩) ?_
 rintro a k ⟨⟨hg, hs, hd⟩, i0, _⟩
 refine wp_seq ?_
 refine wp_seq ?_
 obtain ⟨x1, hx1, hr⟩ := bind_some hr
 obtain ⟨x2, hx2, hx1⟩ := ite_bindF hx1
 obtain ⟨x3, hx3, hx1⟩ := ite_bindF hx1
 refine cut (fun a' k' => Bs noF k0 36 a' k' ∧ (IsV s_) (a'.get 0) k' ∧ (IsV x1) (a'.get 17) k' ∧ True) ?_ hQ ?_
 ·intro Q1 W1 w1
  refine gS 14 (_ :: ⟨some (IsI (s_.size : Int)), [(4, some 0)]⟩ :: _ :: _ :: _ :: ⟨some (Gd ((decide ((s_.size : Int) < 1)) = false) (IsI (s_.size : Int))), [(8, some 4)]⟩ :: _ :: _ :: _ :: _ :: ⟨some (Gd (((decide ((s_.size : Int) < 1)) || (decide (20 < (s_.size : Int)))) = false) (IsV x2)), [(13, some 9)]⟩ :: _ :: _ :: _ :: []) hs (by kernel_rfl) ⟨mu rfl i0, ob1 rfl fun _ _ h n => ok_lenS rfl rfl Tryz.underlying9 n.1, o1 [(5, some 1)] rfl fun _ _ h n => ok_lss rfl n.1 (cI rfl), cm 2 rfl rfl, mF rfl rfl i0, gdF rfl rfl fun hp _ _ h n => ok_lenS rfl rfl Tryz.underlying9 (Gd.get n.1 hp), gF [(9, some 5)] rfl rfl fun hp _ _ h n => ok_gtr rfl (Gd.get n.1 hp) (cI rfl), o1 [(7, some 3), (10, some 6)] rfl fun _ _ h n => ok_pickOr rfl n.1 (cB rfl) (Gd.get n.2.1), cm 7 rfl rfl, mF rfl rfl i0, gdF rfl rfl fun hp _ _ h n => ok_strI rfl Tryz.underlying9 (Gd.get n.1 hp) (cI rfl) (hx2 hp), gF [(14, some 10)] rfl rfl fun hp _ _ h n => ok_call rfl Tryz.call140 (ref14_letter_ok (Gd.get n.1 hp) (hx3 hp)), gF [(15, some 11)] rfl rfl fun hp _ _ h n => ok_not rfl (Gd.get n.1 hp), o1 [(12, some 8), (16, some 12)] rfl fun _ _ h n => ok_pickM rfl n.1 hx1 (cB rfl) (Gd.get n.2.1), trivial⟩ W1 fun b q p => ?_
  exact tail_done (k := q) (w1 _ _ ⟨Bs.post ⟨hg, hs, hd⟩ p, p.ke 0 rfl i0, p.ou 13 17 rfl, trivial⟩)
 rintro a k ⟨⟨hg, hs, hd⟩, i0, i17, _⟩
 refine wp_cond_split (isBool i17) (fun hc1515 => ?_) (fun hc1515 => ?_)
 ·rw [if_pos hc1515] at hr
  refine stepL 1 (⟨some (IsV false), []⟩ :: []) rfl ⟨hg, hs, hd⟩ (by kernel_rfl) ⟨ob1 rfl fun _ _ h n => ok_assign rfl (isV_bool.2 rfl), trivial⟩ [⟨_, _⟩] (fun b q p => ⟨p.ou 0 2 rfl, trivial⟩) ?_
  rintro a k ⟨⟨hg, hs, hd⟩, i2, _⟩
  refine wp_ret ?_
  obtain rfl := Option.some.inj hr
  exact retC1 rfl hd hg i2
 rw [if_neg (by rw [hc1515]; decide)] at hr
 refine wp_skip ?_
 refine wp_seq ?_
 refine stepL 1 (⟨some (IsI 1), []⟩ :: []) rfl ⟨hg, hs, hd⟩ (by kernel_rfl) ⟨aI rfl rfl, trivial⟩ [⟨_, _⟩, ⟨_, _⟩] (fun b q p => ⟨p.ke 0 rfl i0, p.ou 0 3 rfl, trivial⟩) ?_
 rintro a k ⟨⟨hg, hs, hd⟩, i0, i3, _⟩
 refine wp_block ?_
 obtain ⟨f1, hf1, hr⟩ := bind_some hr
 refine cutFe f1 (fun s' c l => Bs noF k0 36 c l ∧ IsV s_ (c.get 0) l ∧ IsV s' (c.get 3) l ∧ True) (fun i' s' c l => (i' = 0 ∧ Bs noF k0 36 c l ∧ True)) (fun r' c l => bodyPost Tryz.prog Tryz.f115 (RetC noF k0 (IsV r')) .ret c l.w) ?_ hQ ?_ ?_ ?_
 ·intro Q2 W2 hgo hex hret
  refine sim_loop ?_ _ _ _ _ _ hf1 ⟨⟨hg, hs, hd⟩, i0, i3, trivial⟩ Q2 W2 hgo hex hret
  clear hr hf1 hgo hex hret W2 hQ hg hs hd i0 i3
  intro s1 fl_ a k hr hS Q hQ hgo1489 hex1490 hret1491
  obtain ⟨⟨hg, hs, hd⟩, i0, i3, _⟩ := hS
  unfold ref14_Word_L0 at hr
  refine wp_seq ?_
  refine stepL 4 (_ :: _ :: ⟨some (IsI (s_.size : Int)), [(19, some 1)]⟩ :: _ :: []) rfl ⟨hg, hs, hd⟩ (by kernel_rfl) ⟨mu rfl i3, mu rfl i0, ob1 rfl fun _ _ h n => ok_lenS rfl rfl Tryz.underlying9 n.1, o1 [(18, some 0), (20, some 2)] rfl fun _ _ h n => ok_lss rfl n.1 n.2.1, trivial⟩ [⟨_, _⟩, ⟨_, _⟩, ⟨_, _⟩] (fun b q p => ⟨p.ke 0 rfl i0, p.ke 3 rfl i3, p.ou 3 21 rfl, trivial⟩) ?_
  rintro a k ⟨⟨hg, hs, hd⟩, i0, i3, i21, _⟩
  refine wp_cond_split (isBool i21) (fun hc1503 => ?_) (fun hc1503 => ?_)
  ·rw [if_pos hc1503] at hr
   refine wp_skip ?_
   refine wp_seq ?_
   refine wp_block ?_
   refine wp_seq ?_
   obtain ⟨x4, hx4, hr⟩ := bind_some hr
   obtain ⟨x5, hx5, hr⟩ := bind_some hr
   obtain ⟨x6, hx6, hr⟩ := bind_some hr
   obtain ⟨x7, hx7, hx6⟩ := ite_bind hx6
   obtain ⟨x8, hx8, hx6⟩ := ite_bind hx6
   refine cut (fun a' k' => Bs noF k0 36 a' k' ∧ (IsV s_) (a'.get 0) k' ∧ (IsV s1) (a'.get 3) k' ∧ (IsV x6) (a'.get 35) k' ∧ True) ?_ hQ ?_
   ·intro Q3 W3 w2
    refine gS 12 (_ :: _ :: ⟨some (IsV x4), [(24, some 0), (25, some 1)]⟩ :: _ :: _ :: _ :: _ :: _ :: ⟨some (Gd ((!x5) = true) (IsV x7)), [(30, some 6), (31, some 7)]⟩ :: _ :: _ :: _ :: []) hs (by kernel_rfl) ⟨mu rfl i0, mu rfl i3, ob1 rfl fun _ _ h n => ok_strI rfl Tryz.underlying9 n.1 n.2.1 hx4, o1 [(26, some 2)] rfl fun _ _ h n => ok_call rfl Tryz.call140 (ref14_letter_ok n.1 hx5), o1 [(27, some 3)] rfl fun _ _ h n => ok_not rfl n.1, cm 4 rfl rfl, mT rfl rfl i0, mT rfl rfl i3, gdT rfl rfl fun hp _ _ h n => ok_strI rfl Tryz.underlying9 (Gd.get n.1 hp) (Gd.get n.2.1 hp) (hx7 hp), gT [(32, some 8)] rfl rfl fun hp _ _ h n => ok_call rfl Tryz.call141 (ref14_digit_ok (Gd.get n.1 hp) (hx8 hp)), gT [(33, some 9)] rfl rfl fun hp _ _ h n => ok_not rfl (Gd.get n.1 hp), o1 [(29, some 5), (34, some 10)] rfl fun _ _ h n => ok_pickM rfl n.1 hx6 (Gd.get n.2.1) (cB rfl), trivial⟩ W3 fun b q p => ?_
    exact tail_done (k := q) (w2 _ _ ⟨Bs.post ⟨hg, hs, hd⟩ p, p.ke 0 rfl i0, p.ke 3 rfl i3, p.ou 11 35 rfl, trivial⟩)
   rintro a k ⟨⟨hg, hs, hd⟩, i0, i3, i35, _⟩
   refine wp_cond_split (isBool i35) (fun hc1500 => ?_) (fun hc1500 => ?_)
   ·rw [if_pos hc1500] at hr
    refine stepL 1 (⟨some (IsV false), []⟩ :: []) rfl ⟨hg, hs, hd⟩ (by kernel_rfl) ⟨ob1 rfl fun _ _ h n => ok_assign rfl (isV_bool.2 rfl), trivial⟩ [⟨_, _⟩] (fun b q p => ⟨p.ou 0 2 rfl, trivial⟩) ?_
    rintro a k ⟨⟨hg, hs, hd⟩, i2, _⟩
    refine wp_ret ?_
    exact hret1491 _ _ _ (Option.some.inj hr).symm (retC1 rfl hd hg i2)
   rw [if_neg (by rw [hc1500]; decide)] at hr
   refine wp_skip ?_
   obtain ⟨x9, hx9, hr⟩ := bind_some hr
   refine cut (fun a' k' => Bs noF k0 36 a' k' ∧ (IsV s_) (a'.get 0) k' ∧ (IsV x9) (a'.get 3) k' ∧ True) ?_ hQ ?_
   ·intro Q4 W4 w3
    refine gS 3 (_ :: _ :: _ :: []) hs (by kernel_rfl) ⟨mu rfl i3, o1 [(22, some 0)] rfl fun _ _ h n => ok_add rfl n.1 (cI rfl) hx9, cp 1 rfl rfl, trivial⟩ W4 fun b q p => ?_
    exact tail_done (k := q) (w3 _ _ ⟨Bs.post ⟨hg, hs, hd⟩ p, p.ke 0 rfl i0, p.ou 2 3 rfl, trivial⟩)
   rintro a k ⟨⟨hg, hs, hd⟩, i0, i3, _⟩
   exact hgo1489 _ _ _ (Option.some.inj hr).symm ⟨⟨hg, hs, hd⟩, i0, i3, trivial⟩
  rw [if_neg (by rw [hc1503]; decide)] at hr
  refine wp_exit ?_
  exact hex1490 _ _ _ _ (Option.some.inj hr).symm ⟨rfl, ⟨hg, hs, hd⟩, trivial⟩
 ·rintro r1 a k rfl hR
  dsimp only at hr
  obtain rfl := Option.some.inj hr
  exact hR
 ·rintro _ _ _ rfl _
  simp at hr
 clear hf1
 rintro _ s2 a k rfl ⟨rfl, ⟨hg, hs, hd⟩, _⟩
 dsimp only at hr
 refine stepL 1 (⟨some (IsV true), []⟩ :: []) rfl ⟨hg, hs, hd⟩ (by kernel_rfl) ⟨ob1 rfl fun _ _ h n => ok_assign rfl (isV_bool.2 rfl), trivial⟩ [⟨_, _⟩] (fun b q p => ⟨p.ou 0 2 rfl, trivial⟩) ?_
 rintro a k ⟨⟨hg, hs, hd⟩, i2, _⟩
 refine wp_ret ?_
 obtain rfl := Option.some.inj hr
 exact retC1 rfl hd hg i2
noncomputable def k115 := mkO 115 [.str] [.bool] (fun x => ref14_Word x) Tryz.call115 fun k0 vs x r hG h hr => by obtain ⟨v0, rfl, i0⟩ := h.one; exact ref14_Word_ok i0 hr
def ref15_Reserved  : Option ((List ByteArray)) :=
 some ([(⟨#[97, 110, 100]⟩ : ByteArray), (⟨#[97, 112, 97, 114, 116]⟩ : ByteArray), (⟨#[98, 97, 115, 101]⟩ : ByteArray), (⟨#[99, 97, 112]⟩ : ByteArray), (⟨#[100, 101, 102, 105, 110, 101]⟩ : ByteArray), (⟨#[101, 108, 115, 101]⟩ : ByteArray), (⟨#[101, 120, 99, 101, 112, 116]⟩ : ByteArray), (⟨#[102, 114, 111, 109]⟩ : ByteArray), (⟨#[103, 114, 97, 99, 101]⟩ : ByteArray), (⟨#[104, 111, 117, 114, 115]⟩ : ByteArray), (⟨#[105, 102]⟩ : ByteArray), (⟨#[105, 110]⟩ : ByteArray), (⟨#[108, 101, 97, 115, 116]⟩ : ByteArray), (⟨#[110, 111, 116]⟩ : ByteArray), (⟨#[111, 114]⟩ : ByteArray), (⟨#[111, 118, 101, 114, 108, 97, 121]⟩ : ByteArray), (⟨#[112, 108, 97, 110, 101]⟩ : ByteArray), (⟨#[114, 117, 108, 101]⟩ : ByteArray), (⟨#[115, 108, 111, 112, 101]⟩ : ByteArray), (⟨#[115, 117, 110]⟩ : ByteArray), (⟨#[116, 97, 98, 108, 101]⟩ : ByteArray), (⟨#[116, 104, 101, 110]⟩ : ByteArray), (⟨#[117, 110, 116, 105, 108]⟩ : ByteArray), (⟨#[117, 115, 101, 115]⟩ : ByteArray), (⟨#[118, 97, 114, 121]⟩ : ByteArray), (⟨#[118, 105, 101, 119]⟩ : ByteArray), (⟨#[122, 111, 110, 101]⟩ : ByteArray)])
noncomputable def k117 := mk 117 [] [.list .str] (fun x => ref15_Reserved) [] [] Tryz.f117 (.n) Tryz.func117 Tryz.call117 rfl rfl fun x => by kernel_rfl
def ref15_find_L0 (l_ : (List ByteArray)) (s_ : ByteArray) (s1 : Int) : Option (Flow (Int) (Int)) :=
 if (decide (s1 < (l_.length : Int))) then
  (getI l_ s1).bind fun x1 =>
  if ((x1.toList == s_.toList)) then
   some (.ret s1)
  else
   (addI s1 1).bind fun x2 =>
   some (.go x2)
 else
  some (.ex 0 s1)
def ref15_find (l_ : (List ByteArray)) (s_ : ByteArray) : Option (Int) :=
 (iterL (ref15_find_L0 l_ s_) (l_.length + 1) 0).bind fun f1 => match f1 with
  | .go _ => none
  | .ex _ _ =>
   some (-1)
  | .ret r1 => some r1
noncomputable def k116 := mk 116 [.list .str, .str] [.int] (fun x => ref15_find x.1 x.2) [] [] Tryz.f116 (.s .n (.s (.s .n (.l [] [(5, .v .int)] [(0, [5], [])] (fL [0]) .n)) .n)) Tryz.func116 Tryz.call116 rfl rfl fun x => by kernel_rfl
def ref15_Name (s_ : ByteArray) : Option (Bool) :=
 (ref14_Word s_).bind fun x1 =>
 (if x1 then
  (ref15_Reserved).bind fun x2 =>
  (ref15_find x2 s_).bind fun x3 =>
  some (decide (x3 < 0))
 else
  some false).bind fun x4 =>
 some x4
noncomputable def k101 := mk 101 [.str] [.bool] (fun x => ref15_Name x) [k115, k117, k116] [] Tryz.f101 (.n) Tryz.func101 Tryz.call101 rfl rfl fun x => by kernel_rfl
def ref19_rightGives_L1 (l_ : (List Entry)) (s1 : Int) (s2 : Int) : Option (Flow (Int) (Bool)) :=
 if (decide (s2 < s1)) then
  (getI l_ s2).bind fun x1 =>
  (getI l_ s1).bind fun x2 =>
  if ((x1.Name.toList == x2.Name.toList)) then
   some (.ret false)
  else
   (addI s2 1).bind fun x3 =>
   some (.go x3)
 else
  some (.ex 2 s2)
def ref19_rightGives_L0 (l_ : (List Entry)) (s1 : Int) : Option (Flow (Int) (Bool)) :=
 if (decide (s1 < (l_.length : Int))) then
  (getI l_ s1).bind fun x1 =>
  (ref15_Name x1.Name).bind fun x2 =>
  (if (!x2) then
   some true
  else
   (getI l_ s1).bind fun x3 =>
   (ref19_within x3.N 0 1073741824).bind fun x4 =>
   some (!x4)).bind fun x5 =>
  if x5 then
   some (.ret false)
  else
   (iterL (ref19_rightGives_L1 l_ s1) (s1.toNat + 1) 0).bind fun f1 => match f1 with
    | .go _ => none
    | .ex _ _ =>
     (addI s1 1).bind fun x6 =>
     some (.go x6)
    | .ret r1 => some (.ret r1)
 else
  some (.ex 0 s1)
def ref19_rightGives (l_ : (List Entry)) : Option (Bool) :=
 (iterL (ref19_rightGives_L0 l_) (l_.length + 1) 0).bind fun f1 => match f1 with
  | .go _ => none
  | .ex _ _ =>
   some (decide ((l_.length : Int) ≤ 30))
  | .ret r1 => some r1
noncomputable def k81 := mk 81 [.list (.st 5)] [.bool] (fun x => ref19_rightGives x) [k101, k78] [] Tryz.f81 (.s .n (.s (.s .n (.l [] [(3, .v .int)] [(0, [3], [])] (fL [0]) (.s .n (.s (.s .n (.s .n (.l [] [(4, .v .int)] [(2, [4], [])] (fI 3) .n))) .n)))) .n)) Tryz.func81 Tryz.call81 rfl rfl fun x => by kernel_rfl
def ref19_Form_L1 (x1 : (List Volume)) (s1 : Int) (s2 : Int) : Option (Flow (Int) (Bool)) :=
 if (decide (s2 < s1)) then
  (getI x1 s2).bind fun x2 =>
  (getI x1 s1).bind fun x3 =>
  (ref19_meet x2.Box x3.Box).bind fun x4 =>
  if x4 then
   some (.ret false)
  else
   (addI s2 1).bind fun x5 =>
   some (.go x5)
 else
  some (.ex 2 s2)
def ref19_Form_L0 (x1 : (List Volume)) (s1 : Int) : Option (Flow (Int) (Bool)) :=
 if (decide (s1 < (x1.length : Int))) then
  (getI x1 s1).bind fun x2 =>
  (ref19_RightVolume x2).bind fun x3 =>
  if (!x3) then
   some (.ret false)
  else
   (iterL (ref19_Form_L1 x1 s1) (s1.toNat + 1) 0).bind fun f1 => match f1 with
    | .go _ => none
    | .ex _ _ =>
     (addI s1 1).bind fun x4 =>
     some (.go x4)
    | .ret r1 => some (.ret r1)
 else
  some (.ex 0 s1)
def ref19_Form_L2 (d_ : Drawing) (s1 : Int) : Option (Flow (Int) (Bool)) :=
 if (decide (s1 < (d_.Phases.length : Int))) then
  (getI d_.Phases s1).bind fun x1 =>
  (ref19_rightGives x1.Gives).bind fun x2 =>
  if (!x2) then
   some (.ret false)
  else
   (addI s1 1).bind fun x3 =>
   some (.go x3)
 else
  some (.ex 4 s1)
def ref19_Form (d_ : Drawing) : Option (Bool) :=
 (ref19_Volumes d_ 0 (d_.Phases.length : Int)).bind fun x1 =>
 (ref19_within d_.Lot 0 1073741824).bind fun x2 =>
 (if (!x2) then
  some true
 else
  (ref19_within (d_.Phases.length : Int) 1 8).bind fun x3 =>
  some (!x3)).bind fun x4 =>
 (if x4 then
  some true
 else
  (ref19_within (x1.length : Int) 1 40).bind fun x5 =>
  some (!x5)).bind fun x6 =>
 if x6 then
  some false
 else
  (iterL (ref19_Form_L0 x1) (x1.length + 1) 0).bind fun f1 => match f1 with
   | .go _ => none
   | .ex _ _ =>
    (iterL (ref19_Form_L2 d_) (d_.Phases.length + 1) 0).bind fun f2 => match f2 with
     | .go _ => none
     | .ex _ _ =>
      some true
     | .ret r1 => some r1
   | .ret r2 => some r2
noncomputable def k55 := mk 55 [.st 3] [.bool] (fun x => ref19_Form x) [k77, k78, k79, k80, k81] [] Tryz.f55 (.s .n (.s .n (.s .n (.s (.s .n (.l [] [(4, .v .int)] [(0, [4], [])] (fL [3]) (.s .n (.s (.s .n (.s .n (.l [] [(5, .v .int)] [(2, [5], [])] (fI 4) .n))) .n)))) (.s (.s .n (.l [] [(6, .v .int)] [(4, [6], [])] (fun e => (gt e 0 (.st 3) : Drawing).Phases.length + 1) .n)) .n))))) Tryz.func55 Tryz.call55 rfl rfl fun x => by kernel_rfl
def ref30_forms_L0 (l_ : (List Drawing)) (s1 : Int) : Option (Flow (Int) (Bool)) :=
 if (decide (s1 < (l_.length : Int))) then
  (getI l_ s1).bind fun x1 =>
  (ref19_Form x1).bind fun x2 =>
  if (!x2) then
   some (.ret false)
  else
   (addI s1 1).bind fun x3 =>
   some (.go x3)
 else
  some (.ex 0 s1)
def ref30_forms (l_ : (List Drawing)) : Option (Bool) :=
 (iterL (ref30_forms_L0 l_) (l_.length + 1) 0).bind fun f1 => match f1 with
  | .go _ => none
  | .ex _ _ =>
   some ((decide (1 ≤ (l_.length : Int))) && (decide ((l_.length : Int) ≤ 8)))
  | .ret r1 => some r1
noncomputable def k27 := mk 27 [.list (.st 3)] [.bool] (fun x => ref30_forms x) [k55] [] Tryz.f27 (.s .n (.s (.s .n (.l [] [(3, .v .int)] [(0, [3], [])] (fL [0]) .n)) .n)) Tryz.func27 Tryz.call27 rfl rfl fun x => by kernel_rfl
def ref30_Right (d_ : Dossier) : Option (Bool) :=
 if (((((((decide (d_.Id < 1)) || (decide (d_.Holder < 0))) || (decide (d_.Into < 0))) || (decide (d_.State < 0))) || (decide (9 < d_.State))) || (decide (d_.Day < 0))) || (decide (1073741824 < d_.Day))) then
  some false
 else
  (ref30_forms d_.Drawings).bind fun x1 =>
  some ((x1 && (decide (0 ≤ d_.Choice))) && (decide (d_.Choice < (d_.Drawings.length : Int))))
noncomputable def k11 := mk 11 [.st 6] [.bool] (fun x => ref30_Right x) [k27] [] Tryz.f11 (.n) Tryz.func11 Tryz.call11 rfl rfl fun x => by kernel_rfl
def ref30_may (state_ : Int) (kind_ : Int) : Option (Bool) :=
 if (kind_ == 0) then
  some (state_ == 0)
 else
  (if (kind_ == 1) then
   some (kind_ == 1)
  else
   some (kind_ == 8)).bind fun s1 =>
  if s1 then
   some ((state_ == 0) || (state_ == 1))
  else
   if (kind_ == 2) then
    some ((((((state_ == 0) || (state_ == 1)) || (state_ == 2)) || (state_ == 3)) || (state_ == 4)) && (state_ != 4))
   else
    if (kind_ == 3) then
     some (state_ == 2)
    else
     if (kind_ == 4) then
      some (state_ == 3)
     else
      (if (kind_ == 5) then
       some (kind_ == 5)
      else
       some (kind_ == 6)).bind fun s2 =>
      if s2 then
       some (state_ == 4)
      else
       if (kind_ == 7) then
        some (((((state_ == 0) || (state_ == 1)) || (state_ == 2)) || (state_ == 3)) || (state_ == 4))
       else
        if (kind_ == 9) then
         some ((((((state_ == 0) || (state_ == 1)) || (state_ == 2)) || (state_ == 3)) || (state_ == 4)) || (state_ == 5))
        else
         if (kind_ == 10) then
          some (((state_ == 0) || (state_ == 1)) || (state_ == 2))
         else
          some false
noncomputable def k28 := mk 28 [.int, .int] [.bool] (fun x => ref30_may x.1 x.2) [] [] Tryz.f28 (.s .n (.s .n (.s .n (.s (.s .n (.s .n (.s .n (.s (.s .n (.j [] [(31, .v .bool)] ([], []) (.s .n .n))) (.s .n (.s .n (.s .n (.s .n (.s .n (.s .n (.s .n (.s (.s .n (.j [] [(50, .v .bool)] ([], []) (.s .n .n))) .n)))))))))))) .n)))) Tryz.func28 Tryz.call28 rfl rfl fun x => by kernel_rfl
def ref21_New (r_ : Rule) (day_ : Int) : Option (Bool) :=
 (if ((decide (1 ≤ r_.From)) && (decide (r_.From ≤ day_))) then
  (subI day_ r_.From).bind fun x1 =>
  some (decide (x1 < r_.Grace))
 else
  some false).bind fun x2 =>
 some x2
noncomputable def k83 := mk 83 [.st 13, .int] [.bool] (fun x => ref21_New x.1 x.2) [] [] Tryz.f83 (.n) Tryz.func83 Tryz.call83 rfl rfl fun x => by kernel_rfl
def ref21_May_L0 (p_ : Plan) (day_ : Int) (choice_ : Int) (s1 : Int) : Option (Flow (Int) (Bool)) :=
 if (decide (s1 < (p_.Rules.length : Int))) then
  (getI p_.Rules s1).bind fun x1 =>
  (ref21_New x1 day_).bind fun x2 =>
  (if x2 then
   (getI p_.Rules s1).bind fun x3 =>
   (subI x3.From 1).bind fun x4 =>
   some (x4 == choice_)
  else
   some false).bind fun x5 =>
  if x5 then
   some (.ret true)
  else
   (addI s1 1).bind fun x6 =>
   some (.go x6)
 else
  some (.ex 0 s1)
def ref21_May (p_ : Plan) (day_ : Int) (choice_ : Int) : Option (Bool) :=
 (iterL (ref21_May_L0 p_ day_ choice_) (p_.Rules.length + 1) 0).bind fun f1 => match f1 with
  | .go _ => none
  | .ex _ _ =>
   some (choice_ == day_)
  | .ret r1 => some r1
noncomputable def k59 := mk 59 [.st 7, .int, .int] [.bool] (fun x => ref21_May x.1 x.2.1 x.2.2) [k83] [] Tryz.f59 (.s .n (.s (.s .n (.l [] [(7, .v .int)] [(0, [7], [])] (fun e => (gt e 0 (.st 7) : Plan).Rules.length + 1) .n)) .n)) Tryz.func59 Tryz.call59 rfl rfl fun x => by kernel_rfl
def ref30_fails (p_ : Plan) (d_ : Dossier) (a_ : Act) : Option (Int) :=
 (if (a_.Kind == 1) then
  (ref21_May p_ a_.Day a_.N).bind fun x1 =>
  some (false, (!x1))
 else
  (if (a_.Kind == 8) then
   (subI a_.Day d_.Day).bind fun x2 =>
   some (false, (decide (x2 < 365)))
  else
   (if (a_.Kind == 2) then
    (ref30_forms a_.Drawings).bind fun x3 =>
    some (!x3)
   else
    (if (a_.Kind == 5) then
     some ((decide (a_.N < 0)) || (decide ((d_.Drawings.length : Int) ≤ a_.N)))
    else
     (if (a_.Kind == 9) then
      some ((decide (a_.N < 0)) || (a_.N == d_.Holder))
     else
      (if (a_.Kind == 10) then
       some ((decide (a_.N < 1)) || (a_.N == d_.Id))
      else
       some false).bind fun s1 =>
      some s1).bind fun s2 =>
     some s2).bind fun s3 =>
    some s3).bind fun s4 =>
   some (s4, false)).bind fun s5 =>
  some (s5.1, s5.2)).bind fun s6 =>
 if s6.1 then
  some 1
 else
  if s6.2 then
   some 20
  else
   some 0
noncomputable def k31 := mk 31 [.st 7, .st 6, .st 18] [.int] (fun x => ref30_fails x.1 x.2.1 x.2.2) [k59, k27] [] Tryz.f31 (.s .n (.s .n (.s .n (.s (.s .n (.s .n (.j [] [(7, .v .bool), (8, .v .bool)] ([], []) (.s .n (.s .n (.j [] [(7, .v .bool), (8, .v .bool)] ([], []) (.s .n (.s .n (.j [] [(7, .v .bool)] ([], []) (.s .n (.s .n (.j [] [(7, .v .bool)] ([], []) (.s .n (.s .n (.j [] [(7, .v .bool)] ([], []) (.s .n (.s .n (.j [] [(7, .v .bool)] ([], []) (.s .n .n))))))))))))))))))) .n)))) Tryz.func31 Tryz.call31 rfl rfl fun x => by kernel_rfl
def ref30_lower (a_ : Volume) (b_ : Volume) : Option (Bool) :=
 some ((((((decide (a_.Box.Base = b_.Box.Base)) && (a_.Box.Z0 == b_.Box.Z0)) && (a_.Use == b_.Use)) && (a_.Extra == b_.Extra)) && (decide (a_.Box.Z1 ≤ b_.Box.Z1))) && (decide (a_.Units ≤ b_.Units)))
noncomputable def k84 := mk 84 [.st 0, .st 0] [.bool] (fun x => ref30_lower x.1 x.2) [] [] Tryz.f84 (.n) Tryz.func84 Tryz.call84 rfl rfl fun x => by kernel_rfl
def ref30_volumes_L0 (a_ : (List Volume)) (b_ : (List Volume)) (s1 : Int × Int) : Option (Flow (Int × Int) (Bool)) :=
 if ((decide (s1.2 < (b_.length : Int))) && (decide (s1.1 < (a_.length : Int)))) then
  (getI a_ s1.1).bind fun x1 =>
  (getI b_ s1.2).bind fun x2 =>
  (ref30_lower x1 x2).bind fun x3 =>
  (if x3 then
   (addI s1.1 1).bind fun x4 =>
   some x4
  else
   some s1.1).bind fun s2 =>
  (addI s1.2 1).bind fun x5 =>
  some (.go (s2, x5))
 else
  some (.ex 0 (s1.1, s1.2))
def ref30_volumes (a_ : (List Volume)) (b_ : (List Volume)) : Option (Bool) :=
 (iterL (ref30_volumes_L0 a_ b_) (a_.length + b_.length + 1) (0, 0)).bind fun f1 => match f1 with
  | .go _ => none
  | .ex _ s1 =>
   some (s1.1 == (a_.length : Int))
  | .ret r1 => some r1
noncomputable def k62 := mk 62 [.list (.st 0), .list (.st 0)] [.bool] (fun x => ref30_volumes x.1 x.2) [k84] [] Tryz.f62 (.s .n (.s .n (.s (.s .n (.l [] [(5, .v .int), (6, .v .int)] [(0, [6], [])] (fL [0, 1]) (.s .n (.s (.s .n (.j [] [(5, .v .int)] ([], []) (.s .n .n))) .n)))) .n))) Tryz.func62 Tryz.call62 rfl rfl fun x => by kernel_rfl
def ref30_takes_L1 (x1 : Phase) (x2 : Phase) (s1 : Int) : Option (Flow (Int) (Bool)) :=
 if (decide (s1 < (x1.Gives.length : Int))) then
  (getI x1.Gives s1).bind fun x3 =>
  (getI x2.Gives s1).bind fun x4 =>
  if (!decide (x3 = x4)) then
   some (.ret false)
  else
   (addI s1 1).bind fun x5 =>
   some (.go x5)
 else
  some (.ex 2 s1)
def ref30_takes_L0 (a_ : Drawing) (b_ : Drawing) (s1 : Int) : Option (Flow (Int) (Bool)) :=
 if (decide (s1 < (a_.Phases.length : Int))) then
  (getI a_.Phases s1).bind fun x1 =>
  (getI b_.Phases s1).bind fun x2 =>
  (if ((x1.Gives.length : Int) != (x2.Gives.length : Int)) then
   some true
  else
   (ref30_volumes x1.Volumes x2.Volumes).bind fun x3 =>
   some (!x3)).bind fun x4 =>
  if x4 then
   some (.ret false)
  else
   (iterL (ref30_takes_L1 x1 x2) ((a_.Phases.flatMap fun p => p.Gives).length + 1) 0).bind fun f1 => match f1 with
    | .go _ => none
    | .ex _ _ =>
     (addI s1 1).bind fun x5 =>
     some (.go x5)
    | .ret r1 => some (.ret r1)
 else
  some (.ex 0 s1)
def ref30_takes (a_ : Drawing) (b_ : Drawing) : Option (Bool) :=
 if ((a_.Lot != b_.Lot) || ((a_.Phases.length : Int) != (b_.Phases.length : Int))) then
  some false
 else
  (iterL (ref30_takes_L0 a_ b_) (a_.Phases.length + 1) 0).bind fun f1 => match f1 with
   | .go _ => none
   | .ex _ _ =>
    some true
   | .ret r1 => some r1
noncomputable def k36 := mk 36 [.st 3, .st 3] [.bool] (fun x => ref30_takes x.1 x.2) [k62] [] Tryz.f36 (.s .n (.s .n (.s (.s .n (.l [] [(5, .v .int)] [(0, [5], [])] (fun e => (gt e 0 (.st 3) : Drawing).Phases.length + 1) (.s .n (.s (.s .n (.s .n (.s .n (.s .n (.l [] [(8, .v .int)] [(2, [8], [])] (fun e => ((gt e 0 (.st 3) : Drawing).Phases.flatMap fun p => p.Gives).length + 1) .n))))) .n)))) .n))) Tryz.func36 Tryz.call36 rfl rfl fun x => by kernel_rfl
def ref30_Less_L0 (a_ : (List Drawing)) (b_ : (List Drawing)) (s1 : Int) : Option (Flow (Int) (Bool)) :=
 if (decide (s1 < (a_.length : Int))) then
  (getI a_ s1).bind fun x1 =>
  (getI b_ s1).bind fun x2 =>
  (ref30_takes x1 x2).bind fun x3 =>
  if (!x3) then
   some (.ret false)
  else
   (addI s1 1).bind fun x4 =>
   some (.go x4)
 else
  some (.ex 0 s1)
def ref30_Less (a_ : (List Drawing)) (b_ : (List Drawing)) : Option (Bool) :=
 if ((a_.length : Int) != (b_.length : Int)) then
  some false
 else
  (iterL (ref30_Less_L0 a_ b_) (a_.length + b_.length + 1) 0).bind fun f1 => match f1 with
   | .go _ => none
   | .ex _ _ =>
    some true
   | .ret r1 => some r1
noncomputable def k18 := mk 18 [.list (.st 3), .list (.st 3)] [.bool] (fun x => ref30_Less x.1 x.2) [k36] [] Tryz.f18 (.s .n (.s .n (.s (.s .n (.l [] [(5, .v .int)] [(0, [5], [])] (fL [0, 1]) .n)) .n))) Tryz.func18 Tryz.call18 rfl rfl fun x => by kernel_rfl
def ref30_Step (p_ : Plan) (d_ : Dossier) (a_ : Act) : Option (Dossier × Int) :=
 (ref30_Right d_).bind fun x1 =>
 if ((((!x1) || (decide (a_.Kind < 0))) || (decide (11 ≤ a_.Kind))) || ((decide (0 < (a_.Drawings.length : Int))) && (a_.Kind != 2))) then
  some ((⟨0, 0, 0, 0, 0, [], 0, 0⟩ : Dossier), 1)
 else
  if ((decide (a_.Day < d_.Day)) || (decide (1073741824 < a_.Day))) then
   some ((⟨0, 0, 0, 0, 0, [], 0, 0⟩ : Dossier), 20)
  else
   (ref30_may d_.State a_.Kind).bind fun x2 =>
   if (!x2) then
    some ((⟨0, 0, 0, 0, 0, [], 0, 0⟩ : Dossier), 7)
   else
    (ref30_fails p_ d_ a_).bind fun x3 =>
    if (x3 != 0) then
     some ((⟨0, 0, 0, 0, 0, [], 0, 0⟩ : Dossier), x3)
    else
     (if (a_.Kind == 0) then
      some { { d_ with Day := a_.Day } with State := 1 }
     else
      (if (a_.Kind == 1) then
       some { { { d_ with Day := a_.Day } with State := 2 } with Rule := a_.N }
      else
       (if (a_.Kind == 2) then
        (if ((({ d_ with Day := a_.Day }).State == 2) || (({ d_ with Day := a_.Day }).State == 3)) then
         (ref30_Less a_.Drawings (({ d_ with Day := a_.Day }).Drawings)).bind fun x4 =>
         some (!x4)
        else
         some false).bind fun x5 =>
        (if x5 then
         some { { { d_ with Day := a_.Day } with State := 1 } with Rule := 0 }
        else
         some { d_ with Day := a_.Day }).bind fun s1 =>
        some { { s1 with Drawings := a_.Drawings } with Choice := 0 }
       else
        (if (a_.Kind == 3) then
         some { { d_ with Day := a_.Day } with State := 3 }
        else
         (if (a_.Kind == 4) then
          some { { d_ with Day := a_.Day } with State := 4 }
         else
          (if (a_.Kind == 5) then
           some { { { d_ with Day := a_.Day } with State := 5 } with Choice := a_.N }
          else
           (if (a_.Kind == 6) then
            some { { d_ with Day := a_.Day } with State := 6 }
           else
            (if (a_.Kind == 7) then
             some { { d_ with Day := a_.Day } with State := 7 }
            else
             (if (a_.Kind == 8) then
              some { { d_ with Day := a_.Day } with State := 8 }
             else
              (if (a_.Kind == 9) then
               some { { d_ with Day := a_.Day } with Holder := a_.N }
              else
               (if (a_.Kind == 10) then
                some { { { d_ with Day := a_.Day } with State := 9 } with Into := a_.N }
               else
                some { d_ with Day := a_.Day }).bind fun s2 =>
               some s2).bind fun s3 =>
              some s3).bind fun s4 =>
             some s4).bind fun s5 =>
            some s5).bind fun s6 =>
           some s6).bind fun s7 =>
          some s7).bind fun s8 =>
         some s8).bind fun s9 =>
        some s9).bind fun s10 =>
       some s10).bind fun s11 =>
      some s11).bind fun s12 =>
     some (s12, 0)
noncomputable def k16 := mk 16 [.st 7, .st 6, .st 18] [.st 6, .int] (fun x => ref30_Step x.1 x.2.1 x.2.2) [k11, k28, k31, k18] [4, 6] Tryz.f16 (.s .n (.s .n (.s .n (.s .n (.s .n (.s .n (.s .n (.s (.s .n (.s .n (.j [] [(4, .b (.st 6))] ([], []) (.s .n (.s .n (.j [] [(4, .b (.st 6))] ([], []) (.s .n (.s .n (.j [] [(4, .b (.st 6))] ([], []) (.s (.s (.s .n (.j [] [(4, .b (.st 6))] ([], []) (.s .n .n))) .n) (.s .n (.j [] [(4, .b (.st 6))] ([], []) (.s .n (.s .n (.j [] [(4, .b (.st 6))] ([], []) (.s .n (.s .n (.j [] [(4, .b (.st 6))] ([], []) (.s .n (.s .n (.j [] [(4, .b (.st 6))] ([], []) (.s .n (.s .n (.j [] [(4, .b (.st 6))] ([], []) (.s .n (.s .n (.j [] [(4, .b (.st 6))] ([], []) (.s .n (.s .n (.j [] [(4, .b (.st 6))] ([], []) (.s .n (.s .n (.j [] [(4, .b (.st 6))] ([], []) (.s .n .n)))))))))))))))))))))))))))))))))) .n)))))))) Tryz.func16 Tryz.call16 rfl rfl fun x => by kernel_rfl
def ref30_Run_L0 (p_ : Plan) (l_ : (List Act)) (s1 : Int × Dossier × Dossier) : Option (Flow (Int × Dossier × Dossier) (Dossier × Int × Int)) :=
 if (decide (s1.1 < (l_.length : Int))) then
  (getI l_ s1.1).bind fun x1 =>
  (ref30_Step p_ s1.2.1 x1).bind fun x2 =>
  if (x2.2 != 0) then
   some (.ret (s1.2.1, s1.1, x2.2))
  else
   (addI s1.1 1).bind fun x3 =>
   some (.go (x3, x2.1, s1.2.2))
 else
  some (.ex 0 (s1.1, s1.2.1, s1.2.2))
def ref30_Run (p_ : Plan) (d_ : Dossier) (l_ : (List Act)) : Option (Dossier × Int × Int) :=
 (iterL (ref30_Run_L0 p_ l_) (l_.length + 1) (0, d_, (⟨0, 0, 0, 0, 0, [], 0, 0⟩ : Dossier))).bind fun f1 => match f1 with
  | .go _ => none
  | .ex _ s1 =>
   some (s1.2.1, (l_.length : Int), 0)
  | .ret r1 => some r1
noncomputable def k8 := mk 8 [.st 7, .st 6, .list (.st 18)] [.st 6, .int, .int] (fun x => ref30_Run x.1 x.2.1 x.2.2) [k16] [4, 6] Tryz.f8 (.s .n (.s (.s .n (.l [] [(9, .v .int), (4, .b (.st 6)), (6, .b (.st 6))] [(0, [9], [])] (fL [2]) .n)) .n)) Tryz.func8 Tryz.call8 rfl rfl fun x => by kernel_rfl
def ref19_SameVolumes_L0 (a_ : (List Volume)) (b_ : (List Volume)) (s1 : Int) : Option (Flow (Int) (Bool)) :=
 if (decide (s1 < (a_.length : Int))) then
  (getI a_ s1).bind fun x1 =>
  (getI b_ s1).bind fun x2 =>
  if (!decide (x1 = x2)) then
   some (.ret false)
  else
   (addI s1 1).bind fun x3 =>
   some (.go x3)
 else
  some (.ex 0 s1)
def ref19_SameVolumes (a_ : (List Volume)) (b_ : (List Volume)) : Option (Bool) :=
 if ((a_.length : Int) != (b_.length : Int)) then
  some false
 else
  (iterL (ref19_SameVolumes_L0 a_ b_) (a_.length + b_.length + 1) 0).bind fun f1 => match f1 with
   | .go _ => none
   | .ex _ _ =>
    some true
   | .ret r1 => some r1
noncomputable def k47 := mk 47 [.list (.st 0), .list (.st 0)] [.bool] (fun x => ref19_SameVolumes x.1 x.2) [] [] Tryz.f47 (.s .n (.s .n (.s (.s .n (.l [] [(5, .v .int)] [(0, [5], [])] (fL [0, 1]) .n)) .n))) Tryz.func47 Tryz.call47 rfl rfl fun x => by kernel_rfl
def ref15_SameEntries_L0 (a_ : (List Entry)) (b_ : (List Entry)) (s1 : Int) : Option (Flow (Int) (Bool)) :=
 if (decide (s1 < (a_.length : Int))) then
  (getI a_ s1).bind fun x1 =>
  (getI b_ s1).bind fun x2 =>
  if (!decide (x1 = x2)) then
   some (.ret false)
  else
   (addI s1 1).bind fun x3 =>
   some (.go x3)
 else
  some (.ex 0 s1)
def ref15_SameEntries (a_ : (List Entry)) (b_ : (List Entry)) : Option (Bool) :=
 if ((a_.length : Int) != (b_.length : Int)) then
  some false
 else
  (iterL (ref15_SameEntries_L0 a_ b_) (a_.length + b_.length + 1) 0).bind fun f1 => match f1 with
   | .go _ => none
   | .ex _ _ =>
    some true
   | .ret r1 => some r1
noncomputable def k48 := mk 48 [.list (.st 5), .list (.st 5)] [.bool] (fun x => ref15_SameEntries x.1 x.2) [] [] Tryz.f48 (.s .n (.s .n (.s (.s .n (.l [] [(5, .v .int)] [(0, [5], [])] (fL [0, 1]) .n)) .n))) Tryz.func48 Tryz.call48 rfl rfl fun x => by kernel_rfl
def ref19_Same_L0 (a_ : Drawing) (b_ : Drawing) (s1 : Int) : Option (Flow (Int) (Bool)) :=
 if (decide (s1 < (a_.Phases.length : Int))) then
  (getI a_.Phases s1).bind fun x1 =>
  (getI b_.Phases s1).bind fun x2 =>
  (ref19_SameVolumes x1.Volumes x2.Volumes).bind fun x3 =>
  (if (!x3) then
   some true
  else
   (getI a_.Phases s1).bind fun x4 =>
   (getI b_.Phases s1).bind fun x5 =>
   (ref15_SameEntries x4.Gives x5.Gives).bind fun x6 =>
   some (!x6)).bind fun x7 =>
  if x7 then
   some (.ret false)
  else
   (addI s1 1).bind fun x8 =>
   some (.go x8)
 else
  some (.ex 0 s1)
def ref19_Same (a_ : Drawing) (b_ : Drawing) : Option (Bool) :=
 if ((a_.Lot != b_.Lot) || ((a_.Phases.length : Int) != (b_.Phases.length : Int))) then
  some false
 else
  (iterL (ref19_Same_L0 a_ b_) (a_.Phases.length + 1) 0).bind fun f1 => match f1 with
   | .go _ => none
   | .ex _ _ =>
    some true
   | .ret r1 => some r1
noncomputable def k22 := mk 22 [.st 3, .st 3] [.bool] (fun x => ref19_Same x.1 x.2) [k47, k48] [] Tryz.f22 (.s .n (.s .n (.s (.s .n (.l [] [(5, .v .int)] [(0, [5], [])] (fun e => (gt e 0 (.st 3) : Drawing).Phases.length + 1) .n)) .n))) Tryz.func22 Tryz.call22 rfl rfl fun x => by kernel_rfl
def ref30_Same_L0 (a_ : Dossier) (b_ : Dossier) (s1 : Int) : Option (Flow (Int) (Bool)) :=
 if (decide (s1 < (a_.Drawings.length : Int))) then
  (getI a_.Drawings s1).bind fun x1 =>
  (getI b_.Drawings s1).bind fun x2 =>
  (ref19_Same x1 x2).bind fun x3 =>
  if (!x3) then
   some (.ret false)
  else
   (addI s1 1).bind fun x4 =>
   some (.go x4)
 else
  some (.ex 0 s1)
def ref30_Same (a_ : Dossier) (b_ : Dossier) : Option (Bool) :=
 if ((((((((a_.Id != b_.Id) || (a_.Holder != b_.Holder)) || (a_.State != b_.State)) || (a_.Day != b_.Day)) || (a_.Rule != b_.Rule)) || (a_.Choice != b_.Choice)) || (a_.Into != b_.Into)) || ((a_.Drawings.length : Int) != (b_.Drawings.length : Int))) then
  some false
 else
  (iterL (ref30_Same_L0 a_ b_) (a_.Drawings.length + 1) 0).bind fun f1 => match f1 with
   | .go _ => none
   | .ex _ _ =>
    some true
   | .ret r1 => some r1
noncomputable def k9 := mk 9 [.st 6, .st 6] [.bool] (fun x => ref30_Same x.1 x.2) [k22] [] Tryz.f9 (.s .n (.s .n (.s (.s .n (.l [] [(5, .v .int)] [(0, [5], [])] (fun e => (gt e 0 (.st 6) : Dossier).Drawings.length + 1) .n)) .n))) Tryz.func9 Tryz.call9 rfl rfl fun x => by kernel_rfl
def ref30_Acts_L0 (state_ : Int) (s1 : (List Int) × Int) : Option (Flow ((List Int) × Int) ((List Int))) :=
 if (decide (s1.2 < 11)) then
  (ref30_may state_ s1.2).bind fun x1 =>
  (if x1 then
   (appI s1.1 ([s1.2])).bind fun x2 =>
   some x2
  else
   some s1.1).bind fun s2 =>
  (addI s1.2 1).bind fun x3 =>
  some (.go (s2, x3))
 else
  some (.ex 0 (s1.1, s1.2))
def ref30_Acts (state_ : Int) : Option ((List Int)) :=
 (iterL (ref30_Acts_L0 state_) (12) (([] : List Int), 0)).bind fun f1 => match f1 with
  | .go _ => none
  | .ex _ s1 =>
   some s1.1
  | .ret r1 => some r1
noncomputable def k14 := mk 14 [.int] [.list .int] (fun x => ref30_Acts x) [k28] [3, 12, 15] Tryz.f14 (.s .n (.s .n (.s (.s .n (.l [] [(3, .o 3 .int), (4, .v .int)] [(0, [4], [])] (fun _ => 12) (.s .n (.s (.s .n (.j [] [(3, .o 3 .int)] ([], []) (.s .n .n))) .n)))) (.s (.f [3] .n) .n)))) Tryz.func14 Tryz.call14 rfl rfl fun x => by kernel_rfl
def law30_DossierTells_L0 (p_ : Plan) (d_ : Dossier) (l_ : (List Act)) (s1 : Int) : Option (Flow (Int) (Bool)) :=
 if (decide (s1 < (l_.length : Int))) then
  (getI l_ s1).bind fun x1 =>
  (dossier_Step p_ d_ x1).bind fun x2 =>
  (getI l_ s1).bind fun x3 =>
  (ref30_Step p_ d_ x3).bind fun x4 =>
  (if (x2.2 != x4.2) then
   some true
  else
   (ref30_Same x2.1 x4.1).bind fun x5 =>
   some (!x5)).bind fun x6 =>
  (if x6 then
   some true
  else
   (getI l_ s1).bind fun x7 =>
   (dossier_Less x7.Drawings d_.Drawings).bind fun x8 =>
   (getI l_ s1).bind fun x9 =>
   (ref30_Less x9.Drawings d_.Drawings).bind fun x10 =>
   some (x8 != x10)).bind fun x11 =>
  if x11 then
   some (.ret false)
  else
   (addI s1 1).bind fun x12 =>
   some (.go x12)
 else
  some (.ex 0 s1)
def law30_DossierTells (p_ : Plan) (d_ : Dossier) (l_ : (List Act)) (state_ : Int) : Option (Bool) :=
 (law30_small).bind fun x1 =>
 (ref30_Few p_ d_ l_).bind fun x2 =>
 if (!x2) then
  some x1
 else
  (dossier_Run p_ d_ l_).bind fun x3 =>
  (ref30_Run p_ d_ l_).bind fun x4 =>
  (if ((x3.2.1 != x4.2.1) || (x3.2.2 != x4.2.2)) then
   some true
  else
   (ref30_Same x3.1 x4.1).bind fun x5 =>
   some (!x5)).bind fun x6 =>
  (if x6 then
   some true
  else
   (dossier_Right d_).bind fun x7 =>
   (ref30_Right d_).bind fun x8 =>
   some (x7 != x8)).bind fun x9 =>
  (if x9 then
   some true
  else
   (dossier_Acts state_).bind fun x10 =>
   (ref30_Acts state_).bind fun x11 =>
   (ref01_SameNums x10 x11).bind fun x12 =>
   some (!x12)).bind fun x13 =>
  if x13 then
   some false
  else
   (iterL (law30_DossierTells_L0 p_ d_ l_) (l_.length + 1) 0).bind fun f1 => match f1 with
    | .go _ => none
    | .ex _ _ =>
     some x1
    | .ret r1 => some r1
noncomputable def k3 := mkg 3 [.st 7, .st 6, .list (.st 18), .int] [.bool] (fun x => law30_DossierTells x.1 x.2.1 x.2.2.1 x.2.2.2) [k5, k6.lift glv giv gl0, k7, k8.lift glv giv gl0, k9.lift glv giv gl0, k10, k11.lift glv giv gl0, k13.lift glv giv gl0, k14.lift glv giv gl0, k12.lift glv giv gl0, k15, k16.lift glv giv gl0, k17.lift glv giv gl0, k18.lift glv giv gl0] [] Tryz.f3 (.s .n (.s .n (.s .n (.s .n (.s .n (.s .n (.s (.s .n (.l [] [(16, .v .int)] [(0, [16], [])] (fL [2]) .n)) .n))))))) Tryz.func3 Tryz.call3 rfl rfl fun x => by kernel_rfl
theorem law30_DossierTells_ok {k0 : K} {v0 v1 v2 v3 : Value} {x0 : Plan} {x1 : Dossier} {x2 : (List Act)} {x3 : Int} {r : Bool} (hG : GOk tbg k0) (i0 : IsV x0 v0 k0) (i1 : IsV x1 v1 k0) (i2 : IsV x2 v2 k0) (i3 : IsV x3 v3 k0) (hr : law30_DossierTells x0 x1 x2 x3 = some r) : Calls Tryz.prog 3 #[v0, v1, v2, v3] k0.w (Ret k0 (IsV r)) := (k3.ok.ok k0 [v0, v1, v2, v3] (x0, x1, x2, x3) r hG ⟨i0, i1, i2, i3⟩ hr)
end Go.Proofs.YtachpkjjlebadaaGreat
