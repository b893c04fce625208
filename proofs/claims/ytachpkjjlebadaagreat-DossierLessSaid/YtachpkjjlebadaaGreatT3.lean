/- What the functions compute that the law reaches, part 3 -/
import Derived.Test.YtachpkjjlebadaaGreatT2
namespace Go.Proofs.YtachpkjjlebadaaGreat
open Go.Gb
set_option linter.unusedVariables false
set_option linter.unusedSimpArgs false
set_option maxRecDepth 100000
def dossier_Less (a_ : (List Drawing)) (b_ : (List Drawing)) : Option (Bool) :=
 (slices_EqualFunc_Drawing_Drawing_Drawing a_ b_ dossier_Less_1).bind fun x1 =>
 some x1
theorem dossier_Less_ok {k0 : K} {v0 v1 : Value} {a_ : (List Drawing)} {b_ : (List Drawing)} {r : Bool} (i0 : (IsV a_) v0 k0) (i1 : (IsV b_) v1 k0) (hr : dossier_Less a_ b_ = some r) :
  Calls Tryz.prog 17 #[v0, v1] k0.w (Ret k0 (IsV r)) := by
 unfold dossier_Less at hr
 refine Ret.ofC ?_
 refine enterK Tryz.func17 rfl Tryz.ntmps17 (show 2 ≤ 8 by decide) fun a k hk0 hs hd ha => ?_
 obtain ⟨e0, e1, _⟩ := ha
 replace i0 : (IsV a_) (a.get 0) k := by rw [e0, hk0]; exact i0
 replace i1 : (IsV b_) (a.get 1) k := by rw [e1, hk0]; exact i1
 have hQ : Gb.LetsOut (bodyPost Tryz.prog Tryz.f17 (RetC noF k0 (IsV r))) := letsOutC
 have hg : Chg noF k0 k := by rw [hk0]; exact Chg.refl _ k0
 refine stepL 1 (⟨some (IsV false), []⟩ :: []) rfl ⟨hg, hs, hd⟩ (by kernel_rfl) ⟨ob1 rfl fun _ _ h n => ok_assign rfl (isV_bool.2 rfl), trivial⟩ [⟨_, _⟩, ⟨_, _⟩] (fun b q p => ⟨p.ke 0 rfl i0, p.ke 1 rfl i1, trivial⟩) ?_
 rintro a k ⟨⟨hg, hs, hd⟩, i0, i1, _⟩
 refine wp_seq ?_
 obtain ⟨x1, hx1, hr⟩ := bind_some hr
 refine cut (fun a' k' => Bs noF k0 8 a' k' ∧ (IsV x1) (a'.get 4) k' ∧ True) ?_ hQ ?_
 ·intro Q1 W1 w1
  refine gS 4 (_ :: _ :: _ :: _ :: []) hs (by kernel_rfl) ⟨mu rfl i0, mu rfl i1, o1 [(5, some 0), (6, some 1)] rfl fun _ _ h n => ok_call rfl Tryz.call32 (slices_EqualFunc_Drawing_Drawing_Drawing_ok n.1 n.2.1 ⟨33, _, _, rfl, Tryz.call33, fun k9 hk9 _ _ _ _ _ hx0 hx1 hy9 => by simpa [evalT] using dossier_Less_1_ok hx0 hx1 hy9⟩ hx1), cp 2 rfl rfl, trivial⟩ W1 fun b q p => ?_
  exact tail_done (k := q) (w1 _ _ ⟨Bs.post ⟨hg, hs, hd⟩ p, p.ou 3 4 rfl, trivial⟩)
 rintro a k ⟨⟨hg, hs, hd⟩, i4, _⟩
 refine wp_ret ?_
 obtain rfl := Option.some.inj hr
 exact retC1 rfl hd hg i4
noncomputable def k17 := mkO 17 [.list (.st 3), .list (.st 3)] [.bool] (fun x => dossier_Less x.1 x.2) Tryz.call17 fun k0 vs x r hG h hr => by obtain ⟨v0, vs, rfl, i0, h⟩ := h.cons; obtain ⟨v1, rfl, i1⟩ := h.one; exact dossier_Less_ok i0 i1 hr
def dossier_amend (d_ : Dossier) (l_ : (List Drawing)) : Option (Dossier × Int) :=
 (dossier_formed l_).bind fun x1 =>
 if (!x1) then
  some ((⟨0, 0, 0, 0, 0, [], 0, 0⟩ : Dossier), 1)
 else
  (if (decide (2 ≤ d_.State)) then
   (dossier_Less l_ d_.Drawings).bind fun x2 =>
   some (!x2)
  else
   some false).bind fun x3 =>
  (if x3 then
   some { { d_ with State := 1 } with Rule := 0 }
  else
   some d_).bind fun s1 =>
  (dossier_clone l_).bind fun x4 =>
  some ({ { s1 with Drawings := x4 } with Choice := 0 }, 0)
noncomputable def k58 := mkg 58 [.st 6, .list (.st 3)] [.st 6, .int] (fun x => dossier_amend x.1 x.2) [k26, k17.lift glv giv gl0, k25.lift glv giv gl0] [2, 4] Tryz.f58 (.s .n (.s .n (.s (.s .n (.j [] [(2, .b (.st 6))] ([], []) (.s .n .n))) .n))) Tryz.func58 Tryz.call58 rfl rfl fun x => by kernel_rfl
def dossier_change (p_ : Plan) (d_ : Dossier) (a_ : Act) (before_ : Int) : Option (Dossier × Int) :=
 (if (a_.Kind == 0) then
  some (.go ({ d_ with State := 1 }, (⟨0, 0, 0, 0, 0, [], 0, 0⟩ : Dossier)))
 else
  (if (a_.Kind == 1) then
   (clause_May p_ a_.Day a_.N).bind fun x1 =>
   if (!x1) then
    some (.ret ((⟨0, 0, 0, 0, 0, [], 0, 0⟩ : Dossier), 20))
   else
    some (.go ({ { d_ with State := 2 } with Rule := a_.N }, (⟨0, 0, 0, 0, 0, [], 0, 0⟩ : Dossier)))
  else
   if (a_.Kind == 2) then
    (dossier_amend d_ a_.Drawings).bind fun x2 =>
    some (.ret (x2.1, x2.2))
   else
    (if (a_.Kind == 3) then
     some (.go ({ d_ with State := 3 }, (⟨0, 0, 0, 0, 0, [], 0, 0⟩ : Dossier)))
    else
     (if (a_.Kind == 4) then
      some (.go ({ d_ with State := 4 }, (⟨0, 0, 0, 0, 0, [], 0, 0⟩ : Dossier)))
     else
      (if (a_.Kind == 5) then
       if ((decide (a_.N < 0)) || (decide ((d_.Drawings.length : Int) ≤ a_.N))) then
        some (.ret ((⟨0, 0, 0, 0, 0, [], 0, 0⟩ : Dossier), 1))
       else
        some (.go ({ { d_ with State := 5 } with Choice := a_.N }, (⟨0, 0, 0, 0, 0, [], 0, 0⟩ : Dossier)))
      else
       (if (a_.Kind == 6) then
        some (.go ({ d_ with State := 6 }, (⟨0, 0, 0, 0, 0, [], 0, 0⟩ : Dossier)))
       else
        (if (a_.Kind == 7) then
         some (.go ({ d_ with State := 7 }, (⟨0, 0, 0, 0, 0, [], 0, 0⟩ : Dossier)))
        else
         (if (a_.Kind == 8) then
          (subI a_.Day before_).bind fun x3 =>
          if (decide (x3 < 365)) then
           some (.ret ((⟨0, 0, 0, 0, 0, [], 0, 0⟩ : Dossier), 20))
          else
           some (.go ({ d_ with State := 8 }, (⟨0, 0, 0, 0, 0, [], 0, 0⟩ : Dossier)))
         else
          (if (a_.Kind == 9) then
           if ((decide (a_.N < 0)) || (a_.N == d_.Holder)) then
            some (.ret ((⟨0, 0, 0, 0, 0, [], 0, 0⟩ : Dossier), 1))
           else
            some (.go ({ d_ with Holder := a_.N }, (⟨0, 0, 0, 0, 0, [], 0, 0⟩ : Dossier)))
          else
           (if (a_.Kind == 10) then
            if ((decide (a_.N < 1)) || (a_.N == d_.Id)) then
             some (.ret ((⟨0, 0, 0, 0, 0, [], 0, 0⟩ : Dossier), 1))
            else
             some (.go ({ { d_ with State := 9 } with Into := a_.N }, (⟨0, 0, 0, 0, 0, [], 0, 0⟩ : Dossier)))
           else
            some (.go (d_, (⟨0, 0, 0, 0, 0, [], 0, 0⟩ : Dossier))) : Option (Flow (Dossier × Dossier) (Dossier × Int))).bind fun f1 => match f1 with
            | .go s1 =>
             some (.go (s1.1, s1.2))
            | .ex _ _ => none
            | .ret r1 => some (.ret r1) : Option (Flow (Dossier × Dossier) (Dossier × Int))).bind fun f2 => match f2 with
           | .go s2 =>
            some (.go (s2.1, s2.2))
           | .ex _ _ => none
           | .ret r2 => some (.ret r2) : Option (Flow (Dossier × Dossier) (Dossier × Int))).bind fun f3 => match f3 with
          | .go s3 =>
           some (.go (s3.1, s3.2))
          | .ex _ _ => none
          | .ret r3 => some (.ret r3) : Option (Flow (Dossier × Dossier) (Dossier × Int))).bind fun f4 => match f4 with
         | .go s4 =>
          some (.go (s4.1, s4.2))
         | .ex _ _ => none
         | .ret r4 => some (.ret r4) : Option (Flow (Dossier × Dossier) (Dossier × Int))).bind fun f5 => match f5 with
        | .go s5 =>
         some (.go (s5.1, s5.2))
        | .ex _ _ => none
        | .ret r5 => some (.ret r5) : Option (Flow (Dossier × Dossier) (Dossier × Int))).bind fun f6 => match f6 with
       | .go s6 =>
        some (.go (s6.1, s6.2))
       | .ex _ _ => none
       | .ret r6 => some (.ret r6) : Option (Flow (Dossier × Dossier) (Dossier × Int))).bind fun f7 => match f7 with
      | .go s7 =>
       some (.go (s7.1, s7.2))
      | .ex _ _ => none
      | .ret r7 => some (.ret r7) : Option (Flow (Dossier × Dossier) (Dossier × Int))).bind fun f8 => match f8 with
     | .go s8 =>
      some (.go (s8.1, s8.2))
     | .ex _ _ => none
     | .ret r8 => some (.ret r8) : Option (Flow (Dossier × Dossier) (Dossier × Int))).bind fun f9 => match f9 with
   | .go s9 =>
    some (.go (s9.1, s9.2))
   | .ex _ _ => none
   | .ret r9 => some (.ret r9) : Option (Flow (Dossier × Dossier) (Dossier × Int))).bind fun f10 => match f10 with
  | .go s10 =>
   some (s10.1, 0)
  | .ex _ _ => none
  | .ret r10 => some r10
noncomputable def k30 := mkg 30 [.st 10, .st 6, .st 21, .int] [.st 6, .int] (fun x => dossier_change x.1 x.2.1 x.2.2.1 x.2.2.2) [k57.lift glv giv gl0, k58] [5, 8] Tryz.f30 (.s .n (.s (.s .n (.s .n (.jf [] [(5, .b (.st 6)), (8, .b (.st 6))] ([], []) [] (.s .n (.s .n (.jf [] [(5, .b (.st 6)), (8, .b (.st 6))] ([], []) [] (.s .n (.s .n (.s .n (.s .n (.jf [] [(5, .b (.st 6)), (8, .b (.st 6))] ([], []) [] (.s .n (.s .n (.jf [] [(5, .b (.st 6)), (8, .b (.st 6))] ([], []) [] (.s .n (.s .n (.jf [] [(5, .b (.st 6)), (8, .b (.st 6))] ([], []) [] (.s .n (.s .n (.jf [] [(5, .b (.st 6)), (8, .b (.st 6))] ([], []) [] (.s .n (.s .n (.jf [] [(5, .b (.st 6)), (8, .b (.st 6))] ([], []) [] (.s .n (.s .n (.jf [] [(5, .b (.st 6)), (8, .b (.st 6))] ([], []) [] (.s .n (.s .n (.jf [] [(5, .b (.st 6)), (8, .b (.st 6))] ([], []) [] (.s .n (.s .n (.jf [] [(5, .b (.st 6)), (8, .b (.st 6))] ([], []) [] (.s .n .n))))))))))))))))))))))))))))))))) .n)) Tryz.func30 Tryz.call30 rfl rfl fun x => by kernel_rfl
def dossier_Step (p_ : Plan) (d_ : Dossier) (a_ : Act) : Option (Dossier × Int) :=
 (dossier_Right d_).bind fun x1 =>
 (if (!x1) then
  some (!x1)
 else
  (if (decide (a_.Kind < 0)) then
   some (decide (a_.Kind < 0))
  else
   (if (decide (11 ≤ a_.Kind)) then
    some (decide (11 ≤ a_.Kind))
   else
    some ((decide (0 < (a_.Drawings.length : Int))) && (a_.Kind != 2))).bind fun s1 =>
   some s1).bind fun s2 =>
  some s2).bind fun s3 =>
 if s3 then
  some ((⟨0, 0, 0, 0, 0, [], 0, 0⟩ : Dossier), 1)
 else
  (if (decide (a_.Day < d_.Day)) then
   some (decide (a_.Day < d_.Day))
  else
   some (decide (1073741824 < a_.Day))).bind fun s4 =>
  if s4 then
   some ((⟨0, 0, 0, 0, 0, [], 0, 0⟩ : Dossier), 20)
  else
   (dossier_Acts d_.State).bind fun x2 =>
   (slices_Contains_int x2 a_.Kind).bind fun x3 =>
   if (!x3) then
    some ((⟨0, 0, 0, 0, 0, [], 0, 0⟩ : Dossier), 7)
   else
    (dossier_clone d_.Drawings).bind fun x4 =>
    (dossier_change p_ ({ { d_ with Day := a_.Day } with Drawings := x4 }) a_ d_.Day).bind fun x5 =>
    some (x5.1, x5.2)
noncomputable def k15 := mkg 15 [.st 10, .st 6, .st 21] [.st 6, .int] (fun x => dossier_Step x.1 x.2.1 x.2.2) [k10, k13.lift glv giv gl0, k29.lift glv giv gl0, k25.lift glv giv gl0, k30] [4, 6] Tryz.f15 (.s .n (.s (.s (.s .n (.j [] [(9, .v .bool)] ([], []) (.s .n (.s .n (.j [] [(9, .v .bool)] ([], []) (.s .n (.s .n (.j [] [(9, .v .bool)] ([], []) (.s .n .n))))))))) (.s .n (.s (.s .n (.j [] [(29, .v .bool)] ([], []) (.s .n .n))) .n))) .n)) Tryz.func15 Tryz.call15 rfl rfl fun x => by kernel_rfl
def ref01_SameNums_L0 (a_ : (List Int)) (b_ : (List Int)) (s1 : Int) : Option (Flow (Int) (Bool)) :=
 if (decide (s1 < (a_.length : Int))) then
  (getI a_ s1).bind fun x1 =>
  (getI b_ s1).bind fun x2 =>
  if (x1 != x2) then
   some (.ret false)
  else
   (addI s1 1).bind fun x3 =>
   some (.go x3)
 else
  some (.ex 0 s1)
def ref01_SameNums (a_ : (List Int)) (b_ : (List Int)) : Option (Bool) :=
 if ((a_.length : Int) != (b_.length : Int)) then
  some false
 else
  (iterL (ref01_SameNums_L0 a_ b_) (a_.length + b_.length + 1) 0).bind fun f1 => match f1 with
   | .go _ => none
   | .ex _ _ =>
    some true
   | .ret r1 => some r1
noncomputable def k12 := mk 12 [.list .int, .list .int] [.bool] (fun x => ref01_SameNums x.1 x.2) [] [] Tryz.f12 (.s .n (.s .n (.s (.s .n (.l [] [(5, .v .int)] [(0, [5], [])] (fL [0, 1]) .n)) .n))) Tryz.func12 Tryz.call12 rfl rfl fun x => by kernel_rfl
def law30_small  : Option (Bool) :=
 (law30_box 9).bind fun x1 =>
 (dossier_Step (⟨[], [], [], [], [], [], [], 0⟩ : Plan) (⟨1, 0, 0, 3, 0, x1, 0, 0⟩ : Dossier) (⟨1, 5, 5, []⟩ : Act)).bind fun x2 =>
 (dossier_Step (⟨[], [], [], [], [], [], [], 0⟩ : Plan) x2.1 (⟨3, 4, 0, []⟩ : Act)).bind fun x3 =>
 (law30_box 6).bind fun x4 =>
 (dossier_Step (⟨[], [], [], [], [], [], [], 0⟩ : Plan) x2.1 (⟨2, 6, 0, x4⟩ : Act)).bind fun x5 =>
 (law30_box 12).bind fun x6 =>
 (dossier_Step (⟨[], [], [], [], [], [], [], 0⟩ : Plan) x2.1 (⟨2, 6, 0, x6⟩ : Act)).bind fun x7 =>
 (if ((((((x2.2 == 0) && (x2.1.State == 2)) && (x2.1.Day == 5)) && (x2.1.Rule == 5)) && (x3.2 == 20)) && (((((((x5.2 == 0) && (x5.1.State == 2)) && (x5.1.Rule == 5)) && (x5.1.Day == 6)) && (x7.2 == 0)) && (x7.1.State == 1)) && (x7.1.Rule == 0))) then
  (dossier_Right (⟨1, 0, 0, 3, 0, x1, 0, 0⟩ : Dossier)).bind fun x8 =>
  some x8
 else
  some false).bind fun x9 =>
 (if x9 then
  (law30_box 6).bind fun x10 =>
  (law30_box 9).bind fun x11 =>
  (dossier_Less x10 x11).bind fun x12 =>
  some x12
 else
  some false).bind fun x13 =>
 (if x13 then
  (law30_box 12).bind fun x14 =>
  (law30_box 9).bind fun x15 =>
  (dossier_Less x14 x15).bind fun x16 =>
  some (!x16)
 else
  some false).bind fun x17 =>
 (if x17 then
  (dossier_Acts 4).bind fun x18 =>
  (ref01_SameNums x18 ([5, 6, 7, 9])).bind fun x19 =>
  some x19
 else
  some false).bind fun x20 =>
 some x20
noncomputable def k5 := mkg 5 [] [.bool] (fun x => law30_small) [k23.lift glv giv gl0, k15, k10, k17.lift glv giv gl0, k13.lift glv giv gl0, k12.lift glv giv gl0] [] Tryz.f5 (.n) Tryz.func5 Tryz.call5 rfl rfl fun x => by kernel_rfl
def ref30_fewDrawings_L1 (l_ : (List Drawing)) (s1 : Int) (s2 : Int) : Option (Flow (Int) (Bool)) :=
 (getI l_ s1).bind fun x1 =>
 if (decide (s2 < (x1.Phases.length : Int))) then
  (getI l_ s1).bind fun x2 =>
  (getI x2.Phases s2).bind fun x3 =>
  (if (decide (12 < (x3.Volumes.length : Int))) then
   some true
  else
   (getI l_ s1).bind fun x4 =>
   (getI x4.Phases s2).bind fun x5 =>
   some (decide (6 < (x5.Gives.length : Int)))).bind fun x6 =>
  if x6 then
   some (.ret false)
  else
   (addI s2 1).bind fun x7 =>
   some (.go x7)
 else
  some (.ex 2 s2)
def ref30_fewDrawings_L0 (l_ : (List Drawing)) (s1 : Int) : Option (Flow (Int) (Bool)) :=
 if (decide (s1 < (l_.length : Int))) then
  (iterL (ref30_fewDrawings_L1 l_ s1) ((l_.flatMap fun d => d.Phases).length + 1) 0).bind fun f1 => match f1 with
   | .go _ => none
   | .ex _ _ =>
    (getI l_ s1).bind fun x1 =>
    if (decide (9 < (x1.Phases.length : Int))) then
     some (.ret false)
    else
     (addI s1 1).bind fun x2 =>
     some (.go x2)
   | .ret r1 => some (.ret r1)
 else
  some (.ex 0 s1)
def ref30_fewDrawings (l_ : (List Drawing)) : Option (Bool) :=
 (iterL (ref30_fewDrawings_L0 l_) (l_.length + 1) 0).bind fun f1 => match f1 with
  | .go _ => none
  | .ex _ _ =>
   some (decide ((l_.length : Int) ≤ 9))
  | .ret r1 => some r1
noncomputable def k24 := mk 24 [.list (.st 3)] [.bool] (fun x => ref30_fewDrawings x) [] [] Tryz.f24 (.s .n (.s (.s .n (.l [] [(3, .v .int)] [(0, [3], [])] (fL [0]) (.s .n (.s (.s (.s .n (.l [] [(4, .v .int)] [(2, [4], [])] (fun e => (List.flatMap (fun d => d.Phases) (gt e 0 (.list (.st 3)) : List Drawing)).length + 1) .n)) .n) .n)))) .n)) Tryz.func24 Tryz.call24 rfl rfl fun x => by kernel_rfl
def ref30_Few_L0 (l_ : (List Act)) (s1 : Int) : Option (Flow (Int) (Bool)) :=
 if (decide (s1 < (l_.length : Int))) then
  (getI l_ s1).bind fun x1 =>
  (ref30_fewDrawings x1.Drawings).bind fun x2 =>
  if (!x2) then
   some (.ret false)
  else
   (addI s1 1).bind fun x3 =>
   some (.go x3)
 else
  some (.ex 0 s1)
def ref30_Few (p_ : Plan) (d_ : Dossier) (l_ : (List Act)) : Option (Bool) :=
 (iterL (ref30_Few_L0 l_) (l_.length + 1) 0).bind fun f1 => match f1 with
  | .go _ => none
  | .ex _ _ =>
   (if ((decide ((p_.Rules.length : Int) ≤ 20)) && (decide ((l_.length : Int) ≤ 14))) then
    (ref30_fewDrawings d_.Drawings).bind fun x1 =>
    some x1
   else
    some false).bind fun x2 =>
   some x2
  | .ret r1 => some r1
noncomputable def k6 := mk 6 [.st 10, .st 6, .list (.st 21)] [.bool] (fun x => ref30_Few x.1 x.2.1 x.2.2) [k24] [] Tryz.f6 (.s .n (.s (.s .n (.l [] [(7, .v .int)] [(0, [7], [])] (fL [2]) .n)) .n)) Tryz.func6 Tryz.call6 rfl rfl fun x => by kernel_rfl
def solid_heights_L1 (x1 : (List Slab)) (s1 : (List Int) × Int) : Option (Flow ((List Int) × Int) ((List Int))) :=
 if (decide (s1.2 < (x1.length : Int))) then
  (getI x1 s1.2).bind fun x2 =>
  (appI s1.1 ([x2.Z0, x2.Z1])).bind fun x3 =>
  (addI s1.2 1).bind fun x4 =>
  some (.go (x3, x4))
 else
  some (.ex 2 (s1.1, s1.2))
def solid_heights_L0 (lists_ : (List (List Slab))) (s1 : (List Int) × Int) : Option (Flow ((List Int) × Int) ((List Int))) :=
 if (decide (s1.2 < (lists_.length : Int))) then
  (getI lists_ s1.2).bind fun x1 =>
  (iterL (solid_heights_L1 x1) (x1.length + 1) (s1.1, 0)).bind fun f1 => match f1 with
   | .go _ => none
   | .ex _ s2 =>
    (addI s1.2 1).bind fun x2 =>
    some (.go (s2.1, x2))
   | .ret r1 => some (.ret r1)
 else
  some (.ex 0 (s1.1, s1.2))
def solid_heights (lists_ : (List (List Slab))) : Option ((List Int)) :=
 (iterL (solid_heights_L0 lists_) (lists_.length + 1) (([] : List Int), 0)).bind fun f1 => match f1 with
  | .go _ => none
  | .ex _ s1 =>
   (sortInts s1.1).bind fun x1 =>
   (compactInts x1).bind fun x2 =>
   some x2
  | .ret r1 => some r1
theorem solid_heights_ok {k0 : K} {v0 : Value} {lists_ : (List (List Slab))} {r : (List Int)} (i0 : (IsV lists_) v0 k0) (hr : solid_heights lists_ = some r) :
  Calls Tryz.prog 68 #[v0] k0.w (Ret k0 (IsV r)) := by
 unfold solid_heights at hr
 refine Ret.ofC ?_
 refine enterK Tryz.func68 rfl Tryz.ntmps68 (show 1 ≤ 33 by decide) fun a k hk0 hs hd ha => ?_
 obtain ⟨e0, _⟩ := ha
 replace i0 : (IsV lists_) (a.get 0) k := by rw [e0, hk0]; exact i0
 have hQ : Gb.LetsOut (bodyPost Tryz.prog Tryz.f68 (RetC noF k0 (IsV r))) := letsOutC
 have hg : Chg noF k0 k := by rw [hk0]; exact Chg.refl _ k0
 refine stepL 1 (⟨some IsE0, []⟩ :: []) rfl ⟨hg, hs, hd⟩ (by kernel_rfl) ⟨ob1 rfl fun b q h n => ok_assign rfl isE0_nil, trivial⟩ [⟨_, _⟩] (fun b q p => ⟨p.ke 0 rfl i0, trivial⟩) ?_
 rintro a k ⟨⟨hg, hs, hd⟩, i0, _⟩
 refine cutS (fun c l => Bs noF k0 33 c l ∧ IsV lists_ (c.get 0) l ∧ IsOwn 0 3 ([] : List Int) (c.get 3) l ∧ Lo k0 (obF (c.get 3)) ∧ True) ?_ ?_
 ·intro Q1 W1 w1
  refine gS 1 (⟨some IsE0, []⟩ :: []) hs (by kernel_rfl) ⟨ob1 rfl fun b q h n => ok_assign rfl isE0_nil, trivial⟩ W1 fun b q p => ?_
  have hgq := hg.then p.grow
  have hsb := p.size.trans hs
  have hdb := p.defers.trans hd
  have j0 := p.ke 0 rfl i0
  have j3 : IsE0 (b.get 3) q := p.ou 0 3 rfl
  have y3 : Lo k0 (obF (b.get 3)) := j3.lo
  replace j3 : IsOwn 0 3 ([] : List Int) (b.get 3) q := j3.own0
  exact tail_done (k := q) (w1 _ _ ⟨⟨hgq, hsb, hdb⟩, j0, j3, y3, trivial⟩)
 rintro a k ⟨⟨hg, hs, hd⟩, i0, i3, n3, _⟩
 refine wp_seq ?_
 refine cutS (fun c l => Bs noF k0 33 c l ∧ IsOwn 0 3 ([] : List Int) (c.get 3) l ∧ Lo k0 (obF (c.get 3)) ∧ IsV lists_ (c.get 8) l ∧ IsL lists_ (c.get 9) l ∧ IsI 0 (c.get 10) l ∧ True) ?_ ?_
 ·intro Q2 W2 w2
  refine gS 3 (_ :: _ :: ⟨some (IsI 0), []⟩ :: []) hs (by kernel_rfl) ⟨mu rfl i0, o1 [(8, some 0)] rfl fun _ _ h n => ok_len rfl rfl Tryz.underlying138 (IsV.rd n.1), ob1 rfl fun _ _ h n => ok_move rfl (cI rfl), trivial⟩ W2 fun b q p => ?_
  exact tail_done (k := q) (w2 _ _ ⟨Bs.post ⟨hg, hs, hd⟩ p, p.ke 3 rfl i3, (by rw [p.old 3 rfl]; exact n3), p.ou 0 8 rfl, p.ou 1 9 rfl, p.ou 2 10 rfl, trivial⟩)
 rintro a k ⟨⟨hg, hs, hd⟩, i3, n3, i8, i9, i10, _⟩
 refine wp_block ?_
 obtain ⟨f1, hf1, hr⟩ := bind_some hr
 refine cutFe f1 (fun s' c l => Bs noF k0 33 c l ∧ IsOwn 0 3 s'.1 (c.get 3) l ∧ Lo k0 (obF (c.get 3)) ∧ IsV lists_ (c.get 8) l ∧ IsL lists_ (c.get 9) l ∧ IsV s'.2 (c.get 10) l ∧ True) (fun i' s' c l => (i' = 0 ∧ Bs noF k0 33 c l ∧ IsOwn 0 3 s'.1 (c.get 3) l ∧ Lo k0 (obF (c.get 3)) ∧ True)) (fun r' c l => bodyPost Tryz.prog Tryz.f68 (RetC noF k0 (IsV r')) .ret c l.w) ?_ hQ ?_ ?_ ?_
 ·intro Q3 W3 hgo hex hret
  refine sim_loop ?_ _ _ _ _ _ hf1 ⟨⟨hg, hs, hd⟩, i3, n3, i8, i9, i10, trivial⟩ Q3 W3 hgo hex hret
  clear hr hf1 hgo hex hret W3 hQ hg hs hd i10 i3 i8 i9 n3
  intro s1 fl_ a k hr hS Q hQ hgo1357 hex1358 hret1359
  obtain ⟨⟨hg, hs, hd⟩, i3, n3, i8, i9, i10, _⟩ := hS
  unfold solid_heights_L0 at hr
  refine cutS (fun c l => Bs noF k0 33 c l ∧ IsOwn 0 3 s1.1 (c.get 3) l ∧ Lo k0 (obF (c.get 3)) ∧ IsV lists_ (c.get 8) l ∧ IsL lists_ (c.get 9) l ∧ IsV s1.2 (c.get 10) l ∧ (IsV (decide (s1.2 < (lists_.length : Int)))) (c.get 11) l ∧ True) ?_ ?_
  ·intro Q4 W4 w3
   refine gS 1 (_ :: []) hs (by kernel_rfl) ⟨o1 [(10, none), (9, none)] rfl fun _ _ h n => ok_lss rfl (up i10 h n.1) (up i9 h n.2.1), trivial⟩ W4 fun b q p => ?_
   exact tail_done (k := q) (w3 _ _ ⟨Bs.post ⟨hg, hs, hd⟩ p, p.ke 3 rfl i3, (by rw [p.old 3 rfl]; exact n3), p.ke 8 rfl i8, p.ke 9 rfl i9, p.ke 10 rfl i10, p.ou 0 11 rfl, trivial⟩)
  rintro a k ⟨⟨hg, hs, hd⟩, i3, n3, i8, i9, i10, i11, _⟩
  refine wp_seq ?_
  refine wp_cond_split (isBool i11) (fun hc1391 => ?_) (fun hc1391 => ?_)
  ·rw [if_pos hc1391] at hr
   refine wp_skip ?_
   refine wp_seq ?_
   refine wp_block ?_
   refine wp_seq ?_
   obtain ⟨x1, hx1, hr⟩ := bind_some hr
   refine cut (fun a' k' => Bs noF k0 33 a' k' ∧ IsOwn 0 3 s1.1 (a'.get 3) k' ∧ Lo k0 (obF (a'.get 3)) ∧ (IsV x1) (a'.get 5) k' ∧ (IsV lists_) (a'.get 8) k' ∧ (IsL lists_) (a'.get 9) k' ∧ (IsV s1.2) (a'.get 10) k' ∧ True) ?_ hQ ?_
   ·intro Q5 W5 w4
    refine gS 3 (_ :: _ :: _ :: []) hs (by kernel_rfl) ⟨o1 [(8, none), (10, none)] rfl fun _ _ h n => ok_indexAddr rfl Tryz.underlying138 ty55 (IsV.rd (up i8 h n.1)) (up i10 h n.2.1) hx1, o1 [(12, some 0)] rfl fun _ _ h n => ok_load rfl ty55 n.1, cp 1 rfl rfl, trivial⟩ W5 fun b q p => ?_
    exact tail_done (k := q) (w4 _ _ ⟨Bs.post ⟨hg, hs, hd⟩ p, p.ke 3 rfl i3, (by rw [p.old 3 rfl]; exact n3), p.ou 2 5 rfl, p.ke 8 rfl i8, p.ke 9 rfl i9, p.ke 10 rfl i10, trivial⟩)
   rintro a k ⟨⟨hg, hs, hd⟩, i3, n3, i5, i8, i9, i10, _⟩
   refine cutS (fun c l => Bs noF k0 33 c l ∧ IsOwn 0 3 s1.1 (c.get 3) l ∧ Lo k0 (obF (c.get 3)) ∧ IsV lists_ (c.get 8) l ∧ IsL lists_ (c.get 9) l ∧ IsV s1.2 (c.get 10) l ∧ IsV x1 (c.get 14) l ∧ IsL x1 (c.get 15) l ∧ IsI 0 (c.get 16) l ∧ True) ?_ ?_
   ·intro Q6 W6 w5
    refine gS 3 (_ :: _ :: ⟨some (IsI 0), []⟩ :: []) hs (by kernel_rfl) ⟨mu rfl i5, o1 [(14, some 0)] rfl fun _ _ h n => ok_len rfl rfl Tryz.underlying55 (IsV.rd n.1), ob1 rfl fun _ _ h n => ok_move rfl (cI rfl), trivial⟩ W6 fun b q p => ?_
    exact tail_done (k := q) (w5 _ _ ⟨Bs.post ⟨hg, hs, hd⟩ p, p.ke 3 rfl i3, (by rw [p.old 3 rfl]; exact n3), p.ke 8 rfl i8, p.ke 9 rfl i9, p.ke 10 rfl i10, p.ou 0 14 rfl, p.ou 1 15 rfl, p.ou 2 16 rfl, trivial⟩)
   rintro a k ⟨⟨hg, hs, hd⟩, i3, n3, i8, i9, i10, i14, i15, i16, _⟩
   refine wp_block ?_
   obtain ⟨f2, hf2, hr⟩ := bind_some hr
   refine cutFe f2 (fun s' c l => Bs noF k0 33 c l ∧ IsOwn 0 3 s'.1 (c.get 3) l ∧ Lo k0 (obF (c.get 3)) ∧ IsV lists_ (c.get 8) l ∧ IsL lists_ (c.get 9) l ∧ IsV s1.2 (c.get 10) l ∧ IsV x1 (c.get 14) l ∧ IsL x1 (c.get 15) l ∧ IsV s'.2 (c.get 16) l ∧ True) (fun i' s' c l => (i' = 2 ∧ Bs noF k0 33 c l ∧ IsOwn 0 3 s'.1 (c.get 3) l ∧ Lo k0 (obF (c.get 3)) ∧ IsV lists_ (c.get 8) l ∧ IsL lists_ (c.get 9) l ∧ IsV s1.2 (c.get 10) l ∧ True)) (fun r' c l => bodyPost Tryz.prog Tryz.f68 (RetC noF k0 (IsV r')) .ret c l.w) ?_ hQ ?_ ?_ ?_
   ·intro Q7 W7 hgo hex hret
    refine sim_loop ?_ _ _ _ _ _ hf2 ⟨⟨hg, hs, hd⟩, i3, n3, i8, i9, i10, i14, i15, i16, trivial⟩ Q7 W7 hgo hex hret
    clear hr hf2 hgo hex hret W7 hQ hg hs hd i10 i14 i15 i16 i3 i8 i9 n3
    intro s2 fl_ a k hr hS Q hQ hgo1364 hex1365 hret1366
    obtain ⟨⟨hg, hs, hd⟩, i3, n3, i8, i9, i10, i14, i15, i16, _⟩ := hS
    unfold solid_heights_L1 at hr
    refine cutS (fun c l => Bs noF k0 33 c l ∧ IsOwn 0 3 s2.1 (c.get 3) l ∧ Lo k0 (obF (c.get 3)) ∧ IsV lists_ (c.get 8) l ∧ IsL lists_ (c.get 9) l ∧ IsV s1.2 (c.get 10) l ∧ IsV x1 (c.get 14) l ∧ IsL x1 (c.get 15) l ∧ IsV s2.2 (c.get 16) l ∧ (IsV (decide (s2.2 < (x1.length : Int)))) (c.get 17) l ∧ True) ?_ ?_
    ·intro Q8 W8 w6
     refine gS 1 (_ :: []) hs (by kernel_rfl) ⟨o1 [(16, none), (15, none)] rfl fun _ _ h n => ok_lss rfl (up i16 h n.1) (up i15 h n.2.1), trivial⟩ W8 fun b q p => ?_
     exact tail_done (k := q) (w6 _ _ ⟨Bs.post ⟨hg, hs, hd⟩ p, p.ke 3 rfl i3, (by rw [p.old 3 rfl]; exact n3), p.ke 8 rfl i8, p.ke 9 rfl i9, p.ke 10 rfl i10, p.ke 14 rfl i14, p.ke 15 rfl i15, p.ke 16 rfl i16, p.ou 0 17 rfl, trivial⟩)
    rintro a k ⟨⟨hg, hs, hd⟩, i3, n3, i8, i9, i10, i14, i15, i16, i17, _⟩
    refine wp_seq ?_
    refine wp_cond_split (isBool i17) (fun hc1377 => ?_) (fun hc1377 => ?_)
    ·rw [if_pos hc1377] at hr
     refine wp_skip ?_
     refine wp_seq ?_
     refine wp_block ?_
     refine wp_seq ?_
     obtain ⟨x2, hx2, hr⟩ := bind_some hr
     refine cut (fun a' k' => Bs noF k0 33 a' k' ∧ IsOwn 0 3 s2.1 (a'.get 3) k' ∧ Lo k0 (obF (a'.get 3)) ∧ (IsRef x2) (a'.get 7) k' ∧ (IsV lists_) (a'.get 8) k' ∧ (IsL lists_) (a'.get 9) k' ∧ (IsV s1.2) (a'.get 10) k' ∧ (IsV x1) (a'.get 14) k' ∧ (IsL x1) (a'.get 15) k' ∧ (IsV s2.2) (a'.get 16) k' ∧ True) ?_ hQ ?_
     ·intro Q9 W9 w7
      refine gS 3 (_ :: _ :: ⟨some (IsBox k.w.heap.size (⟨0, 0, []⟩ : Slab)), []⟩ :: []) hs (by kernel_rfl) ⟨o1 [(14, none), (16, none)] rfl fun _ _ h n => ok_indexAddr rfl Tryz.underlying55 ty111 (IsV.rd (up i14 h n.1)) (up i16 h n.2.1) hx2, o1 [(18, some 0)] rfl fun _ _ h n => ok_load rfl ty111 n.1, ob1 rfl fun _ _ h n => ok_alloc _ h.size rfl z111, trivial⟩ W9 fun b q p => ?_
      have hgq := hg.then p.grow
      have hsb := p.size.trans hs
      have hdb := p.defers.trans hd
      have j3 := p.ke 3 rfl i3
      have y3 : Lo k0 (obF (b.get 3)) := by rw [p.old 3 rfl]; exact n3
      obtain ⟨b7, j7, x7, z7⟩ : (IsBox k.w.heap.size (⟨0, 0, []⟩ : Slab)) (b.get 7) q := p.ou 2 7 rfl
      replace x7 : Lo k (Eq b7) := Lo.eq x7
      have y7 : Lo k0 (Eq b7) := x7.chg hg
      have j8 := p.ke 8 rfl i8
      have j9 := p.ke 9 rfl i9
      have j10 := p.ke 10 rfl i10
      have j14 := p.ke 14 rfl i14
      have j15 := p.ke 15 rfl i15
      have j16 := p.ke 16 rfl i16
      have j19 : (IsV x2) (b.get 19) q := p.ou 1 19 rfl
      have w3_7 : Apart (obF (b.get 3)) (Eq b7) := Apart.new (by rw [p.old 3 rfl]; exact i3.ltF) x7
      have hns := z7.nshF
      refine tail_storeB (i := 3) rfl rfl rfl rfl szf111 (Upd.self (α := Slab)) j7 z7 j19 fun q2 hch hz => ?_
      replace hgq := hgq.step hch y7.wr
      have hle := hch.le hns
      replace j3 := j3.keep hch w3_7 hns
      replace j8 := Pers.pers hle j8
      replace j9 := Pers.pers hle j9
      replace j10 := Pers.pers hle j10
      replace j14 := Pers.pers hle j14
      replace j15 := Pers.pers hle j15
      replace j16 := Pers.pers hle j16
      replace j19 := Pers.pers hle j19
      replace z7 := hz
      clear hns hle hch
      obtain ⟨q, hqq⟩ : ∃ q, q = q2 := ⟨q2, rfl⟩
      subst hqq
      obtain ⟨q2, hsh, jn⟩ := z7.give
      replace j3 := j3.handed hsh w3_7
      replace j8 := Pers.pers hsh.le j8
      replace j9 := Pers.pers hsh.le j9
      replace j10 := Pers.pers hsh.le j10
      replace j14 := Pers.pers hsh.le j14
      replace j15 := Pers.pers hsh.le j15
      replace j16 := Pers.pers hsh.le j16
      rw [← j7] at jn
      replace j7 := jn
      replace hgq := hgq.hand hsh y7.wr
      rw [← hsh.w]
      clear hsh
      obtain ⟨q, hqq⟩ : ∃ q, q = q2 := ⟨q2, rfl⟩
      subst hqq
      exact tail_done (k := q) (w7 _ _ ⟨⟨hgq, hsb, hdb⟩, j3, y3, j7, j8, j9, j10, j14, j15, j16, trivial⟩)
     rintro a k ⟨⟨hg, hs, hd⟩, i3, n3, i7, i8, i9, i10, i14, i15, i16, _⟩
     obtain ⟨x3, hx3, hr⟩ := bind_some hr
     refine cut (fun a' k' => Bs noF k0 33 a' k' ∧ IsOwn 0 3 x3 (a'.get 3) k' ∧ Lo k0 (obF (a'.get 3)) ∧ (IsV lists_) (a'.get 8) k' ∧ (IsL lists_) (a'.get 9) k' ∧ (IsV s1.2) (a'.get 10) k' ∧ (IsV x1) (a'.get 14) k' ∧ (IsL x1) (a'.get 15) k' ∧ (IsV s2.2) (a'.get 16) k' ∧ True) ?_ hQ ?_
     ·intro Q10 W10 w8
      refine gS 6 (⟨some (OwnAt (a.get 3) 0 3 s2.1), [(3, none)]⟩ :: _ :: _ :: _ :: _ :: ⟨some (IsV (α := (List Int)) ([x2.Z0, x2.Z1])), [(22, some 2), (24, some 4)]⟩ :: []) hs (by kernel_rfl) ⟨ob1 rfl fun _ _ h n => ok_moveOA (.inl rfl) (ownAt n.1 (up i3 h n.1)), o1 [(7, none)] rfl fun _ _ h n => ok_fieldAddr rfl fo111_0 (at_Slab_0 _) ((up i7 h n.1)).ptr, o1 [(21, some 1)] rfl fun _ _ h n => ok_load rfl ty3 n.1, o1 [(7, none)] rfl fun _ _ h n => ok_fieldAddr rfl fo111_1 (at_Slab_1 _) ((up i7 h n.1)).ptr, o1 [(23, some 3)] rfl fun _ _ h n => ok_load rfl ty3 n.1, ob1 rfl fun _ _ h n => ok_buildSlice rfl Tryz.underlying43 eo3 rfl (by decide) (by decide) ⟨rfl, n.1, rfl, n.2.1, trivial⟩, trivial⟩ W10 fun b q p => ?_
      have hgq := hg.then p.grow
      have hsb := p.size.trans hs
      have hdb := p.defers.trans hd
      have j8 := p.ke 8 rfl i8
      have j9 := p.ke 9 rfl i9
      have j10 := p.ke 10 rfl i10
      have j14 := p.ke 14 rfl i14
      have j15 := p.ke 15 rfl i15
      have j16 := p.ke 16 rfl i16
      have e20 : b.get 20 = a.get 3 := (p.ou 0 20 rfl).1
      have j20 : IsOwn 0 3 s2.1 (b.get 20) q := (p.ou 0 20 rfl).2
      have y20 : Lo k0 (obF (b.get 20)) := by rw [e20]; exact n3
      have j25 : (IsV (α := (List Int)) ([x2.Z0, x2.Z1])) (b.get 25) q := p.ou 5 25 rfl
      have hns := j20.nshF
      refine tail_appendS (i := 6) (d := 26) rfl rfl rfl rfl (by rw [hsb]; decide) (e := 3) Tryz.underlying43 eo3 j20 (IsV.rd j25) hx3 fun b2 q2 hsz hdf hoth hch hown hob => ?_
      have hle := hch.le hns
      have yn : Lo k0 (obF (b2.get 26)) := y20.app hgq hob
      replace j8 := Pers.pers hle j8
      replace j9 := Pers.pers hle j9
      replace j10 := Pers.pers hle j10
      replace j14 := Pers.pers hle j14
      replace j15 := Pers.pers hle j15
      replace j16 := Pers.pers hle j16
      replace j25 := Pers.pers hle j25
      replace hgq := hgq.step hch y20.wr
      rw [← hoth 8 (by decide)] at j8
      rw [← hoth 9 (by decide)] at j9
      rw [← hoth 10 (by decide)] at j10
      rw [← hoth 14 (by decide)] at j14
      rw [← hoth 15 (by decide)] at j15
      rw [← hoth 16 (by decide)] at j16
      rw [← hoth 25 (by decide)] at j25
      have j26 := hown
      have y26 := yn
      replace hsb := hsz.trans hsb
      replace hdb := hdf.trans hdb
      clear hle hch hown hob hns yn hsz hdf hoth
      obtain ⟨b, hbb⟩ : ∃ b, b = b2 := ⟨b2, rfl⟩
      subst hbb
      obtain ⟨q, hqq⟩ : ∃ q, q = q2 := ⟨q2, rfl⟩
      subst hqq
      refine tail_assign (i := 7) (d := 3) rfl rfl (.inl rfl) rfl (by rw [hsb]; decide) fun b2 hsz hdf hnew hoth => ?_
      have jn : (IsOwn 0 3 x3) (b2.get 3) q := by rw [hnew]; exact j26
      have yn : Lo k0 (obF (b2.get 3)) := by rw [hnew]; exact y26
      rw [← hoth 8 (by decide)] at j8
      rw [← hoth 9 (by decide)] at j9
      rw [← hoth 10 (by decide)] at j10
      rw [← hoth 14 (by decide)] at j14
      rw [← hoth 15 (by decide)] at j15
      rw [← hoth 16 (by decide)] at j16
      rw [← hoth 25 (by decide)] at j25
      have j3 := jn
      have y3 := yn
      replace hsb := hsz.trans hsb
      replace hdb := hdf.trans hdb
      clear hsz hdf hoth
      obtain ⟨b, hbb⟩ : ∃ b, b = b2 := ⟨b2, rfl⟩
      subst hbb
      exact tail_done (k := q) (w8 _ _ ⟨⟨hgq, hsb, hdb⟩, j3, y3, j8, j9, j10, j14, j15, j16, trivial⟩)
     rintro a k ⟨⟨hg, hs, hd⟩, i3, n3, i8, i9, i10, i14, i15, i16, _⟩
     obtain ⟨x4, hx4, hr⟩ := bind_some hr
     refine cut (fun a' k' => Bs noF k0 33 a' k' ∧ IsOwn 0 3 x3 (a'.get 3) k' ∧ Lo k0 (obF (a'.get 3)) ∧ (IsV lists_) (a'.get 8) k' ∧ (IsL lists_) (a'.get 9) k' ∧ (IsV s1.2) (a'.get 10) k' ∧ (IsV x1) (a'.get 14) k' ∧ (IsL x1) (a'.get 15) k' ∧ (IsV x4) (a'.get 16) k' ∧ True) ?_ hQ ?_
     ·intro Q11 W11 w9
      refine gS 2 (_ :: _ :: []) hs (by kernel_rfl) ⟨o1 [(16, none)] rfl fun _ _ h n => ok_add rfl (up i16 h n.1) (cI rfl) hx4, cm 0 rfl rfl, trivial⟩ W11 fun b q p => ?_
      exact tail_done (k := q) (w9 _ _ ⟨Bs.post ⟨hg, hs, hd⟩ p, p.ke 3 rfl i3, (by rw [p.old 3 rfl]; exact n3), p.ke 8 rfl i8, p.ke 9 rfl i9, p.ke 10 rfl i10, p.ke 14 rfl i14, p.ke 15 rfl i15, p.ou 1 16 rfl, trivial⟩)
     rintro a k ⟨⟨hg, hs, hd⟩, i3, n3, i8, i9, i10, i14, i15, i16, _⟩
     exact hgo1364 _ _ _ (Option.some.inj hr).symm ⟨⟨hg, hs, hd⟩, i3, n3, i8, i9, i10, i14, i15, i16, trivial⟩
    rw [if_neg (by rw [hc1377]; decide)] at hr
    refine wp_exit ?_
    exact hex1365 _ _ _ _ (Option.some.inj hr).symm ⟨rfl, ⟨hg, hs, hd⟩, i3, n3, i8, i9, i10, trivial⟩
   ·rintro r1 a k rfl hR
    dsimp only at hr
    exact hret1359 _ _ _ (Option.some.inj hr).symm hR
   ·rintro _ _ _ rfl _
    simp at hr
   clear hf2
   rintro _ s3 a k rfl ⟨rfl, ⟨hg, hs, hd⟩, i3, n3, i8, i9, i10, _⟩
   dsimp only at hr
   obtain ⟨x5, hx5, hr⟩ := bind_some hr
   refine cut (fun a' k' => Bs noF k0 33 a' k' ∧ IsOwn 0 3 s3.1 (a'.get 3) k' ∧ Lo k0 (obF (a'.get 3)) ∧ (IsV lists_) (a'.get 8) k' ∧ (IsL lists_) (a'.get 9) k' ∧ (IsV x5) (a'.get 10) k' ∧ True) ?_ hQ ?_
   ·intro Q12 W12 w10
    refine gS 2 (_ :: _ :: []) hs (by kernel_rfl) ⟨o1 [(10, none)] rfl fun _ _ h n => ok_add rfl (up i10 h n.1) (cI rfl) hx5, cm 0 rfl rfl, trivial⟩ W12 fun b q p => ?_
    exact tail_done (k := q) (w10 _ _ ⟨Bs.post ⟨hg, hs, hd⟩ p, p.ke 3 rfl i3, (by rw [p.old 3 rfl]; exact n3), p.ke 8 rfl i8, p.ke 9 rfl i9, p.ou 1 10 rfl, trivial⟩)
   rintro a k ⟨⟨hg, hs, hd⟩, i3, n3, i8, i9, i10, _⟩
   exact hgo1357 _ _ _ (Option.some.inj hr).symm ⟨⟨hg, hs, hd⟩, i3, n3, i8, i9, i10, trivial⟩
  rw [if_neg (by rw [hc1391]; decide)] at hr
  refine wp_exit ?_
  exact hex1358 _ _ _ _ (Option.some.inj hr).symm ⟨rfl, ⟨hg, hs, hd⟩, i3, n3, trivial⟩
 ·rintro r2 a k rfl hR
  dsimp only at hr
  obtain rfl := Option.some.inj hr
  exact hR
 ·rintro _ _ _ rfl _
  simp at hr
 clear hf1
 rintro _ s4 a k rfl ⟨rfl, ⟨hg, hs, hd⟩, i3, n3, _⟩
 dsimp only at hr
 refine wp_seq ?_
 obtain ⟨x6, hx6, hr⟩ := bind_some hr
 refine cut (fun a' k' => Bs noF k0 33 a' k' ∧ IsOwn 0 3 x6 (a'.get 3) k' ∧ Lo k0 (obF (a'.get 3)) ∧ True) ?_ hQ ?_
 ·intro Q13 W13 w11
  refine gS 1 (⟨some (OwnAt (a.get 3) 0 3 s4.1), [(3, none)]⟩ :: []) hs (by kernel_rfl) ⟨ob1 rfl fun _ _ h n => ok_moveOA (.inl rfl) (ownAt n.1 (up i3 h n.1)), trivial⟩ W13 fun b q p => ?_
  have hgq := hg.then p.grow
  have hsb := p.size.trans hs
  have hdb := p.defers.trans hd
  have j3 := p.ke 3 rfl i3
  have y3 : Lo k0 (obF (b.get 3)) := by rw [p.old 3 rfl]; exact n3
  have e29 : b.get 29 = a.get 3 := (p.ou 0 29 rfl).1
  have j29 : IsOwn 0 3 s4.1 (b.get 29) q := (p.ou 0 29 rfl).2
  have y29 : Lo k0 (obF (b.get 29)) := by rw [e29]; exact n3
  have hns := j29.nshF
  have eS : b.get 3 = b.get 29 := (p.old 3 rfl).trans e29.symm
  refine tail_call (F := obF (b.get 29)) (i := 1) (d := 30) rfl rfl rfl rfl (by rw [hsb]; decide) Tryz.call91 W13 (sortInts_ok j29 hx6) fun b2 q2 hsz hdf hoth hch hres => ?_
  have hle := hch.le hns
  replace hgq := hgq.step hch y29.wr
  replace j3 : IsOwn 0 3 x6 (b.get 3) q2 := by rw [eS]; exact hres
  clear hres eS
  rw [← hoth 3 (by decide)] at j3
  rw [← hoth 3 (by decide)] at y3
  replace hsb := hsz.trans hsb
  replace hdb := hdf.trans hdb
  clear hle hch hns hsz hdf hoth
  obtain ⟨b, hbb⟩ : ∃ b, b = b2 := ⟨b2, rfl⟩
  subst hbb
  obtain ⟨q, hqq⟩ : ∃ q, q = q2 := ⟨q2, rfl⟩
  subst hqq
  exact tail_done (k := q) (w11 _ _ ⟨⟨hgq, hsb, hdb⟩, j3, y3, trivial⟩)
 rintro a k ⟨⟨hg, hs, hd⟩, i3, n3, _⟩
 refine wp_seq ?_
 obtain ⟨x8, hx8, hr⟩ := bind_some hr
 refine cut (fun a' k' => Bs noF k0 33 a' k' ∧ IsOwn 0 3 x8 (a'.get 2) k' ∧ Lo k0 (obF (a'.get 2)) ∧ True) ?_ hQ ?_
 ·intro Q14 W14 w12
  refine gS 1 (⟨some (OwnAt (a.get 3) 0 3 x6), [(3, none)]⟩ :: []) hs (by kernel_rfl) ⟨ob1 rfl fun _ _ h n => ok_moveOA (.inl rfl) (ownAt n.1 (up i3 h n.1)), trivial⟩ W14 fun b q p => ?_
  have hgq := hg.then p.grow
  have hsb := p.size.trans hs
  have hdb := p.defers.trans hd
  have e31 : b.get 31 = a.get 3 := (p.ou 0 31 rfl).1
  have j31 : IsOwn 0 3 x6 (b.get 31) q := (p.ou 0 31 rfl).2
  have y31 : Lo k0 (obF (b.get 31)) := by rw [e31]; exact n3
  have hns := j31.nshF
  refine tail_call (F := obF (b.get 31)) (i := 1) (d := 32) rfl rfl rfl rfl (by rw [hsb]; decide) Tryz.call92 W14 (compactInts_ok j31 hx8) fun b2 q2 hsz hdf hoth hch hres => ?_
  have hle := hch.le hns
  obtain ⟨hown, hob⟩ := hres
  have yn : Lo k0 (obF (b2.get 32)) := y31.app hgq hob
  replace hgq := hgq.step hch y31.wr
  have j32 := hown
  have y32 := yn
  have hres := True.intro
  clear hown hob yn
  replace hsb := hsz.trans hsb
  replace hdb := hdf.trans hdb
  clear hle hch hres hns hsz hdf hoth
  obtain ⟨b, hbb⟩ : ∃ b, b = b2 := ⟨b2, rfl⟩
  subst hbb
  obtain ⟨q, hqq⟩ : ∃ q, q = q2 := ⟨q2, rfl⟩
  subst hqq
  refine tail_assign (i := 2) (d := 2) rfl rfl (.inl rfl) rfl (by rw [hsb]; decide) fun b2 hsz hdf hnew hoth => ?_
  have jn : (IsOwn 0 3 x8) (b2.get 2) q := by rw [hnew]; exact j32
  have yn : Lo k0 (obF (b2.get 2)) := by rw [hnew]; exact y32
  have j2 := jn
  have y2 := yn
  replace hsb := hsz.trans hsb
  replace hdb := hdf.trans hdb
  clear hsz hdf hoth
  obtain ⟨b, hbb⟩ : ∃ b, b = b2 := ⟨b2, rfl⟩
  subst hbb
  exact tail_done (k := q) (w12 _ _ ⟨⟨hgq, hsb, hdb⟩, j2, y2, trivial⟩)
 rintro a k ⟨⟨hg, hs, hd⟩, i2, n2, _⟩
 refine wp_ret ?_
 obtain ⟨kk, sh1398, ii2⟩ := i2.give
 replace i2 := ii2
 replace hg := hg.hand sh1398 n2.wr
 rw [← sh1398.w]
 clear sh1398
 obtain ⟨k, hkk⟩ : ∃ k, k = kk := ⟨kk, rfl⟩
 subst hkk
 obtain rfl := Option.some.inj hr
 exact retC1 rfl hd hg i2
section
open Go.Proofs Go.RowKit Go.Lib Go.Sort Go.Shelf
def Tryz.growL133_ren : Go.Shelf.Ren := ⟨fun | 4 => 133 | n => n, fun | 22 => 109 | 25 => 77 | 3 => 3 | 4 => 4 | 9 => 9 | 20 => 20 | 0 => 0 | n => n, fun | n => n⟩
theorem Tryz.growL133 : Go.Proofs.Lays8.n4 Tryz.prog Tryz.growL133_ren := {
 mixed := by kernel_rfl,
 f4 := ⟨Tryz.f133.name, by decide, Tryz.func133.trans (congrArg some (by kernel_rfl))⟩,
 t0 := Tryz.underlying0,
 a0 := Tryz.isAgg0,
 z0 := Tryz.sizeOf0,
 v0 := Tryz.zeroValue0,
 t3 := Tryz.underlying3,
 a3 := Tryz.isAgg3,
 z3 := Tryz.sizeOf3,
 v3 := Tryz.zeroValue3,
 t4 := Tryz.underlying4,
 a4 := Tryz.isAgg4,
 z4 := Tryz.sizeOf4,
 v4 := Tryz.zeroValue4,
 t9 := Tryz.underlying9,
 a9 := Tryz.isAgg9,
 z9 := Tryz.sizeOf9,
 v9 := Tryz.zeroValue9,
 t20 := Tryz.underlying20,
 a20 := Tryz.isAgg20,
 z20 := Tryz.sizeOf20,
 v20 := Tryz.zeroValue20,
 t22 := Tryz.underlying109,
 a22 := Tryz.isAgg109,
 z22 := Tryz.sizeOf109,
 v22 := Tryz.zeroValue109 }
theorem slices_Grow_Rect_okO {k0 : K} {v0 v1 : Value} {n : Int} {r : List Rect} (i0 : v0 = .slice none 0 0) (i1 : IsV n v1 k0) (hr : growI Rect n = some r) : Calls Tryz.prog 133 #[v0, v1] k0.w (Ret k0 (IsOwn k0.w.heap.size 77 r)) := by
 refine grow_own eo77 i0 i1 hr ?_ fun m i z h0 hm hi hz hs hb => ?_
 ·have hcon := Any8.slices_Grow_room Tryz.growL133 none 0 0 0 k0.w (by omega) (by omega) (by omega) (by omega)
  change Calls Tryz.prog 133 _ _ _ at hcon
  exact hcon
 ·have hcon := Any8.slices_Grow_grow Tryz.growL133 i z hi hz hs none 0 0 m [] k0.w (by omega) (by omega) (by
   have : (0 + m) * i.bytes ≤ 1073741824 * 65536 := Nat.mul_le_mul (by omega) hb
   omega) (by omega) (by simp) (fun _ => rfl) (fun a h => by simp at h)
  change Calls Tryz.prog 133 _ _ _ at hcon
  exact hcon
end
def slices_Concat_Rect_L0 (slices_ : (List (List Rect))) (s1 : Int × Int) : Option (Flow (Int × Int) ((List Rect))) :=
 if (decide (s1.2 < (slices_.length : Int))) then
  (getI slices_ s1.2).bind fun x1 =>
  (addI s1.1 (x1.length : Int)).bind fun x2 =>
  if (decide (x2 < 0)) then
   none
  else
   (addI s1.2 1).bind fun x3 =>
   some (.go (x2, x3))
 else
  some (.ex 0 (s1.1, s1.2))
def slices_Concat_Rect_L1 (slices_ : (List (List Rect))) (s1 : (List Rect) × Int) : Option (Flow ((List Rect) × Int) ((List Rect))) :=
 if (decide (s1.2 < (slices_.length : Int))) then
  (getI slices_ s1.2).bind fun x1 =>
  (appI s1.1 x1).bind fun x2 =>
  (addI s1.2 1).bind fun x3 =>
  some (.go (x2, x3))
 else
  some (.ex 2 (s1.1, s1.2))
def slices_Concat_Rect (slices_ : (List (List Rect))) : Option ((List Rect)) :=
 (iterL (slices_Concat_Rect_L0 slices_) (slices_.length + 1) (0, 0)).bind fun f1 => match f1 with
  | .go _ => none
  | .ex _ s1 =>
   (growI Rect s1.1).bind fun x1 =>
   (iterL (slices_Concat_Rect_L1 slices_) (slices_.length + 1) (x1, 0)).bind fun f2 => match f2 with
    | .go _ => none
    | .ex _ s2 =>
     some s2.1
    | .ret r1 => some r1
  | .ret r2 => some r2
theorem slices_Concat_Rect_okO {k0 : K} {v0 : Value} {slices_ : (List (List Rect))} {r : (List Rect)} (i0 : (IsV slices_) v0 k0) (hr : slices_Concat_Rect slices_ = some r) :
  Calls Tryz.prog 107 #[v0] k0.w (Ret k0 (IsOwn k0.w.heap.size 77 r)) := by
 unfold slices_Concat_Rect at hr
 refine Ret.ofC ?_
 refine enterK Tryz.func107 rfl Tryz.ntmps107 (show 1 ≤ 36 by decide) fun a k hk0 hs hd ha => ?_
 obtain ⟨e0, _⟩ := ha
 replace i0 : (IsV slices_) (a.get 0) k := by rw [e0, hk0]; exact i0
 have hQ : Gb.LetsOut (bodyPost Tryz.prog Tryz.f107 (RetC noF k0 (IsOwn k0.w.heap.size 77 r))) := letsOutC
 have hg : Chg noF k0 k := by rw [hk0]; exact Chg.refl _ k0
 refine stepL 1 (⟨some IsE0, []⟩ :: []) rfl ⟨hg, hs, hd⟩ (by kernel_rfl) ⟨ob1 rfl fun b q h n => ok_assign rfl isE0_nil, trivial⟩ [⟨_, _⟩] (fun b q p => ⟨p.ke 0 rfl i0, trivial⟩) ?_
 rintro a k ⟨⟨hg, hs, hd⟩, i0, _⟩
 refine stepL 1 (⟨some (IsI 0), []⟩ :: []) rfl ⟨hg, hs, hd⟩ (by kernel_rfl) ⟨aI rfl rfl, trivial⟩ [⟨_, _⟩, ⟨_, _⟩] (fun b q p => ⟨p.ke 0 rfl i0, p.ou 0 3 rfl, trivial⟩) ?_
 rintro a k ⟨⟨hg, hs, hd⟩, i0, i3, _⟩
 refine wp_seq ?_
 refine stepL 3 (_ :: _ :: ⟨some (IsI 0), []⟩ :: []) rfl ⟨hg, hs, hd⟩ (by kernel_rfl) ⟨mu rfl i0, o1 [(9, some 0)] rfl fun _ _ h n => ok_len rfl rfl Tryz.underlying158 (IsV.rd n.1), ob1 rfl fun _ _ h n => ok_move rfl (cI rfl), trivial⟩ [⟨_, _⟩, ⟨_, _⟩, ⟨_, _⟩, ⟨_, _⟩, ⟨_, _⟩] (fun b q p => ⟨p.ke 0 rfl i0, p.ke 3 rfl i3, p.ou 0 9 rfl, p.ou 1 10 rfl, p.ou 2 11 rfl, trivial⟩) ?_
 rintro a k ⟨⟨hg, hs, hd⟩, i0, i3, i9, i10, i11, _⟩
 refine wp_block ?_
 obtain ⟨f1, hf1, hr⟩ := bind_some hr
 refine cutFe f1 (fun s' c l => Bs noF k0 36 c l ∧ IsV slices_ (c.get 0) l ∧ IsV s'.1 (c.get 3) l ∧ IsV slices_ (c.get 9) l ∧ IsL slices_ (c.get 10) l ∧ IsV s'.2 (c.get 11) l ∧ True) (fun i' s' c l => (i' = 0 ∧ Bs noF k0 36 c l ∧ IsV slices_ (c.get 0) l ∧ IsV s'.1 (c.get 3) l ∧ True)) (fun r' c l => bodyPost Tryz.prog Tryz.f107 (RetC noF k0 (IsOwn k0.w.heap.size 77 r')) .ret c l.w) ?_ hQ ?_ ?_ ?_
 ·intro Q1 W1 hgo hex hret
  refine sim_loop ?_ _ _ _ _ _ hf1 ⟨⟨hg, hs, hd⟩, i0, i3, i9, i10, i11, trivial⟩ Q1 W1 hgo hex hret
  clear hr hf1 hgo hex hret W1 hQ hg hs hd i0 i10 i11 i3 i9
  intro s1 fl_ a k hr hS Q hQ hgo1415 hex1416 hret1417
  obtain ⟨⟨hg, hs, hd⟩, i0, i3, i9, i10, i11, _⟩ := hS
  unfold slices_Concat_Rect_L0 at hr
  refine stepL 1 (_ :: []) rfl ⟨hg, hs, hd⟩ (by kernel_rfl) ⟨o1 [(11, none), (10, none)] rfl fun _ _ h n => ok_lss rfl (up i11 h n.1) (up i10 h n.2.1), trivial⟩ [⟨_, _⟩, ⟨_, _⟩, ⟨_, _⟩, ⟨_, _⟩, ⟨_, _⟩, ⟨_, _⟩] (fun b q p => ⟨p.ke 0 rfl i0, p.ke 3 rfl i3, p.ke 9 rfl i9, p.ke 10 rfl i10, p.ke 11 rfl i11, p.ou 0 12 rfl, trivial⟩) ?_
  rintro a k ⟨⟨hg, hs, hd⟩, i0, i3, i9, i10, i11, i12, _⟩
  refine wp_seq ?_
  refine wp_cond_split (isBool i12) (fun hc1432 => ?_) (fun hc1432 => ?_)
  ·rw [if_pos hc1432] at hr
   refine wp_skip ?_
   refine wp_seq ?_
   refine wp_block ?_
   refine wp_seq ?_
   obtain ⟨x1, hx1, hr⟩ := bind_some hr
   refine cut (fun a' k' => Bs noF k0 36 a' k' ∧ (IsV slices_) (a'.get 0) k' ∧ (IsV s1.1) (a'.get 3) k' ∧ (IsV x1) (a'.get 5) k' ∧ (IsV slices_) (a'.get 9) k' ∧ (IsL slices_) (a'.get 10) k' ∧ (IsV s1.2) (a'.get 11) k' ∧ True) ?_ hQ ?_
   ·intro Q2 W2 w1
    refine gS 3 (_ :: _ :: _ :: []) hs (by kernel_rfl) ⟨o1 [(9, none), (11, none)] rfl fun _ _ h n => ok_indexAddr rfl Tryz.underlying158 ty109 (IsV.rd (up i9 h n.1)) (up i11 h n.2.1) hx1, o1 [(13, some 0)] rfl fun _ _ h n => ok_load rfl ty109 n.1, cp 1 rfl rfl, trivial⟩ W2 fun b q p => ?_
    exact tail_done (k := q) (w1 _ _ ⟨Bs.post ⟨hg, hs, hd⟩ p, p.ke 0 rfl i0, p.ke 3 rfl i3, p.ou 2 5 rfl, p.ke 9 rfl i9, p.ke 10 rfl i10, p.ke 11 rfl i11, trivial⟩)
   rintro a k ⟨⟨hg, hs, hd⟩, i0, i3, i5, i9, i10, i11, _⟩
   refine wp_seq ?_
   obtain ⟨x2, hx2, hr⟩ := bind_some hr
   refine cut (fun a' k' => Bs noF k0 36 a' k' ∧ (IsV slices_) (a'.get 0) k' ∧ (IsV x2) (a'.get 3) k' ∧ (IsV slices_) (a'.get 9) k' ∧ (IsL slices_) (a'.get 10) k' ∧ (IsV s1.2) (a'.get 11) k' ∧ True) ?_ hQ ?_
   ·intro Q3 W3 w2
    refine gS 5 (_ :: _ :: _ :: _ :: _ :: []) hs (by kernel_rfl) ⟨mu rfl i3, mu rfl i5, o1 [(16, some 1)] rfl fun _ _ h n => ok_len rfl rfl Tryz.underlying109 (IsV.rd n.1), o1 [(15, some 0), (17, some 2)] rfl fun _ _ h n => ok_add rfl n.1 n.2.1 hx2, cp 3 rfl rfl, trivial⟩ W3 fun b q p => ?_
    exact tail_done (k := q) (w2 _ _ ⟨Bs.post ⟨hg, hs, hd⟩ p, p.ke 0 rfl i0, p.ou 4 3 rfl, p.ke 9 rfl i9, p.ke 10 rfl i10, p.ke 11 rfl i11, trivial⟩)
   rintro a k ⟨⟨hg, hs, hd⟩, i0, i3, i9, i10, i11, _⟩
   refine stepL 2 (_ :: _ :: []) rfl ⟨hg, hs, hd⟩ (by kernel_rfl) ⟨mu rfl i3, o1 [(19, some 0)] rfl fun _ _ h n => ok_lss rfl n.1 (cI rfl), trivial⟩ [⟨_, _⟩, ⟨_, _⟩, ⟨_, _⟩, ⟨_, _⟩, ⟨_, _⟩, ⟨_, _⟩] (fun b q p => ⟨p.ke 0 rfl i0, p.ke 3 rfl i3, p.ke 9 rfl i9, p.ke 10 rfl i10, p.ke 11 rfl i11, p.ou 1 20 rfl, trivial⟩) ?_
   rintro a k ⟨⟨hg, hs, hd⟩, i0, i3, i9, i10, i11, i20, _⟩
   refine wp_cond_split (isBool i20) (fun hc1425 => ?_) (fun hc1425 => ?_)
   ·rw [if_pos hc1425] at hr
    simp at hr
   rw [if_neg (by rw [hc1425]; decide)] at hr
   refine wp_skip ?_
   obtain ⟨x3, hx3, hr⟩ := bind_some hr
   refine cut (fun a' k' => Bs noF k0 36 a' k' ∧ (IsV slices_) (a'.get 0) k' ∧ (IsV x2) (a'.get 3) k' ∧ (IsV slices_) (a'.get 9) k' ∧ (IsL slices_) (a'.get 10) k' ∧ (IsV x3) (a'.get 11) k' ∧ True) ?_ hQ ?_
   ·intro Q4 W4 w3
    refine gS 2 (_ :: _ :: []) hs (by kernel_rfl) ⟨o1 [(11, none)] rfl fun _ _ h n => ok_add rfl (up i11 h n.1) (cI rfl) hx3, cm 0 rfl rfl, trivial⟩ W4 fun b q p => ?_
    exact tail_done (k := q) (w3 _ _ ⟨Bs.post ⟨hg, hs, hd⟩ p, p.ke 0 rfl i0, p.ke 3 rfl i3, p.ke 9 rfl i9, p.ke 10 rfl i10, p.ou 1 11 rfl, trivial⟩)
   rintro a k ⟨⟨hg, hs, hd⟩, i0, i3, i9, i10, i11, _⟩
   exact hgo1415 _ _ _ (Option.some.inj hr).symm ⟨⟨hg, hs, hd⟩, i0, i3, i9, i10, i11, trivial⟩
  rw [if_neg (by rw [hc1432]; decide)] at hr
  refine wp_exit ?_
  exact hex1416 _ _ _ _ (Option.some.inj hr).symm ⟨rfl, ⟨hg, hs, hd⟩, i0, i3, trivial⟩
 ·rintro r1 a k rfl hR
  dsimp only at hr
  obtain rfl := Option.some.inj hr
  exact hR
 ·rintro _ _ _ rfl _
  simp at hr
 clear hf1
 rintro _ s2 a k rfl ⟨rfl, ⟨hg, hs, hd⟩, i0, i3, _⟩
 dsimp only at hr
 refine wp_seq ?_
 obtain ⟨x4, hx4, hr⟩ := bind_some hr
 refine cut (fun a' k' => Bs noF k0 36 a' k' ∧ (IsV slices_) (a'.get 0) k' ∧ IsOwn 0 77 x4 (a'.get 6) k' ∧ Lo k0 (obF (a'.get 6)) ∧ True) ?_ hQ ?_
 ·intro Q5 W5 w4
  refine gS 3 (_ :: _ :: _ :: []) hs (by kernel_rfl) ⟨mu rfl i3, o1 [(23, some 0)] rfl fun _ _ h n => ok_call rfl Tryz.call133 (ret_weaken h.size (slices_Grow_Rect_okO rfl n.1 hx4)), cp 1 rfl rfl, trivial⟩ W5 fun b q p => ?_
  have hgq := hg.then p.grow
  have hsb := p.size.trans hs
  have hdb := p.defers.trans hd
  have j0 := p.ke 0 rfl i0
  have j6 : (IsOwn k.w.heap.size 77 x4) (b.get 6) q := p.ou 2 6 rfl
  have x6 : Lo k (obF (b.get 6)) := j6.loF
  have y6 := x6.chg hg
  replace j6 := j6.weaken (Nat.zero_le _)
  exact tail_done (k := q) (w4 _ _ ⟨⟨hgq, hsb, hdb⟩, j0, j6, y6, trivial⟩)
 rintro a k ⟨⟨hg, hs, hd⟩, i0, i6, n6, _⟩
 refine wp_seq ?_
 refine cutS (fun c l => Bs noF k0 36 c l ∧ IsOwn 0 77 x4 (c.get 6) l ∧ Lo k0 (obF (c.get 6)) ∧ IsV slices_ (c.get 25) l ∧ IsL slices_ (c.get 26) l ∧ IsI 0 (c.get 27) l ∧ True) ?_ ?_
 ·intro Q6 W6 w5
  refine gS 3 (_ :: _ :: ⟨some (IsI 0), []⟩ :: []) hs (by kernel_rfl) ⟨mu rfl i0, o1 [(25, some 0)] rfl fun _ _ h n => ok_len rfl rfl Tryz.underlying158 (IsV.rd n.1), ob1 rfl fun _ _ h n => ok_move rfl (cI rfl), trivial⟩ W6 fun b q p => ?_
  exact tail_done (k := q) (w5 _ _ ⟨Bs.post ⟨hg, hs, hd⟩ p, p.ke 6 rfl i6, (by rw [p.old 6 rfl]; exact n6), p.ou 0 25 rfl, p.ou 1 26 rfl, p.ou 2 27 rfl, trivial⟩)
 rintro a k ⟨⟨hg, hs, hd⟩, i6, n6, i25, i26, i27, _⟩
 refine wp_block ?_
 obtain ⟨f2, hf2, hr⟩ := bind_some hr
 refine cutFe f2 (fun s' c l => Bs noF k0 36 c l ∧ IsOwn 0 77 s'.1 (c.get 6) l ∧ Lo k0 (obF (c.get 6)) ∧ IsV slices_ (c.get 25) l ∧ IsL slices_ (c.get 26) l ∧ IsV s'.2 (c.get 27) l ∧ True) (fun i' s' c l => (i' = 2 ∧ Bs noF k0 36 c l ∧ IsOwn 0 77 s'.1 (c.get 6) l ∧ Lo k0 (obF (c.get 6)) ∧ True)) (fun r' c l => bodyPost Tryz.prog Tryz.f107 (RetC noF k0 (IsOwn k0.w.heap.size 77 r')) .ret c l.w) ?_ hQ ?_ ?_ ?_
 ·intro Q7 W7 hgo hex hret
  refine sim_loop ?_ _ _ _ _ _ hf2 ⟨⟨hg, hs, hd⟩, i6, n6, i25, i26, i27, trivial⟩ Q7 W7 hgo hex hret
  clear hr hf2 hgo hex hret W7 hQ hg hs hd i25 i26 i27 i6 n6
  intro s3 fl_ a k hr hS Q hQ hgo1440 hex1441 hret1442
  obtain ⟨⟨hg, hs, hd⟩, i6, n6, i25, i26, i27, _⟩ := hS
  unfold slices_Concat_Rect_L1 at hr
  refine cutS (fun c l => Bs noF k0 36 c l ∧ IsOwn 0 77 s3.1 (c.get 6) l ∧ Lo k0 (obF (c.get 6)) ∧ IsV slices_ (c.get 25) l ∧ IsL slices_ (c.get 26) l ∧ IsV s3.2 (c.get 27) l ∧ (IsV (decide (s3.2 < (slices_.length : Int)))) (c.get 28) l ∧ True) ?_ ?_
  ·intro Q8 W8 w6
   refine gS 1 (_ :: []) hs (by kernel_rfl) ⟨o1 [(27, none), (26, none)] rfl fun _ _ h n => ok_lss rfl (up i27 h n.1) (up i26 h n.2.1), trivial⟩ W8 fun b q p => ?_
   exact tail_done (k := q) (w6 _ _ ⟨Bs.post ⟨hg, hs, hd⟩ p, p.ke 6 rfl i6, (by rw [p.old 6 rfl]; exact n6), p.ke 25 rfl i25, p.ke 26 rfl i26, p.ke 27 rfl i27, p.ou 0 28 rfl, trivial⟩)
  rintro a k ⟨⟨hg, hs, hd⟩, i6, n6, i25, i26, i27, i28, _⟩
  refine wp_seq ?_
  refine wp_cond_split (isBool i28) (fun hc1453 => ?_) (fun hc1453 => ?_)
  ·rw [if_pos hc1453] at hr
   refine wp_skip ?_
   refine wp_seq ?_
   refine wp_block ?_
   refine wp_seq ?_
   obtain ⟨x5, hx5, hr⟩ := bind_some hr
   refine cut (fun a' k' => Bs noF k0 36 a' k' ∧ IsOwn 0 77 s3.1 (a'.get 6) k' ∧ Lo k0 (obF (a'.get 6)) ∧ (IsV x5) (a'.get 8) k' ∧ (IsV slices_) (a'.get 25) k' ∧ (IsL slices_) (a'.get 26) k' ∧ (IsV s3.2) (a'.get 27) k' ∧ True) ?_ hQ ?_
   ·intro Q9 W9 w7
    refine gS 3 (_ :: _ :: _ :: []) hs (by kernel_rfl) ⟨o1 [(25, none), (27, none)] rfl fun _ _ h n => ok_indexAddr rfl Tryz.underlying158 ty109 (IsV.rd (up i25 h n.1)) (up i27 h n.2.1) hx5, o1 [(29, some 0)] rfl fun _ _ h n => ok_load rfl ty109 n.1, cp 1 rfl rfl, trivial⟩ W9 fun b q p => ?_
    exact tail_done (k := q) (w7 _ _ ⟨Bs.post ⟨hg, hs, hd⟩ p, p.ke 6 rfl i6, (by rw [p.old 6 rfl]; exact n6), p.ou 2 8 rfl, p.ke 25 rfl i25, p.ke 26 rfl i26, p.ke 27 rfl i27, trivial⟩)
   rintro a k ⟨⟨hg, hs, hd⟩, i6, n6, i8, i25, i26, i27, _⟩
   obtain ⟨x7, hx7, hr⟩ := bind_some hr
   refine cut (fun a' k' => Bs noF k0 36 a' k' ∧ IsOwn 0 77 x7 (a'.get 6) k' ∧ Lo k0 (obF (a'.get 6)) ∧ (IsV slices_) (a'.get 25) k' ∧ (IsL slices_) (a'.get 26) k' ∧ (IsV s3.2) (a'.get 27) k' ∧ True) ?_ hQ ?_
   ·intro Q10 W10 w8
    refine gS 2 (⟨some (OwnAt (a.get 6) 0 77 s3.1), [(6, none)]⟩ :: _ :: []) hs (by kernel_rfl) ⟨ob1 rfl fun _ _ h n => ok_moveOA (.inl rfl) (ownAt n.1 (up i6 h n.1)), mu rfl i8, trivial⟩ W10 fun b q p => ?_
    have hgq := hg.then p.grow
    have hsb := p.size.trans hs
    have hdb := p.defers.trans hd
    have j25 := p.ke 25 rfl i25
    have j26 := p.ke 26 rfl i26
    have j27 := p.ke 27 rfl i27
    have e31 : b.get 31 = a.get 6 := (p.ou 0 31 rfl).1
    have j31 : IsOwn 0 77 s3.1 (b.get 31) q := (p.ou 0 31 rfl).2
    have y31 : Lo k0 (obF (b.get 31)) := by rw [e31]; exact n6
    have j32 : (IsV x5) (b.get 32) q := p.ou 1 32 rfl
    have hns := j31.nshF
    refine tail_appendS (i := 2) (d := 33) rfl rfl rfl rfl (by rw [hsb]; decide) (e := 77) Tryz.underlying109 eo77 j31 (IsV.rd j32) hx7 fun b2 q2 hsz hdf hoth hch hown hob => ?_
    have hle := hch.le hns
    have yn : Lo k0 (obF (b2.get 33)) := y31.app hgq hob
    replace j25 := Pers.pers hle j25
    replace j26 := Pers.pers hle j26
    replace j27 := Pers.pers hle j27
    replace j32 := Pers.pers hle j32
    replace hgq := hgq.step hch y31.wr
    rw [← hoth 25 (by decide)] at j25
    rw [← hoth 26 (by decide)] at j26
    rw [← hoth 27 (by decide)] at j27
    rw [← hoth 32 (by decide)] at j32
    have j33 := hown
    have y33 := yn
    replace hsb := hsz.trans hsb
    replace hdb := hdf.trans hdb
    clear hle hch hown hob hns yn hsz hdf hoth
    obtain ⟨b, hbb⟩ : ∃ b, b = b2 := ⟨b2, rfl⟩
    subst hbb
    obtain ⟨q, hqq⟩ : ∃ q, q = q2 := ⟨q2, rfl⟩
    subst hqq
    refine tail_assign (i := 3) (d := 6) rfl rfl (.inl rfl) rfl (by rw [hsb]; decide) fun b2 hsz hdf hnew hoth => ?_
    have jn : (IsOwn 0 77 x7) (b2.get 6) q := by rw [hnew]; exact j33
    have yn : Lo k0 (obF (b2.get 6)) := by rw [hnew]; exact y33
    rw [← hoth 25 (by decide)] at j25
    rw [← hoth 26 (by decide)] at j26
    rw [← hoth 27 (by decide)] at j27
    rw [← hoth 32 (by decide)] at j32
    have j6 := jn
    have y6 := yn
    replace hsb := hsz.trans hsb
    replace hdb := hdf.trans hdb
    clear hsz hdf hoth
    obtain ⟨b, hbb⟩ : ∃ b, b = b2 := ⟨b2, rfl⟩
    subst hbb
    exact tail_done (k := q) (w8 _ _ ⟨⟨hgq, hsb, hdb⟩, j6, y6, j25, j26, j27, trivial⟩)
   rintro a k ⟨⟨hg, hs, hd⟩, i6, n6, i25, i26, i27, _⟩
   obtain ⟨x8, hx8, hr⟩ := bind_some hr
   refine cut (fun a' k' => Bs noF k0 36 a' k' ∧ IsOwn 0 77 x7 (a'.get 6) k' ∧ Lo k0 (obF (a'.get 6)) ∧ (IsV slices_) (a'.get 25) k' ∧ (IsL slices_) (a'.get 26) k' ∧ (IsV x8) (a'.get 27) k' ∧ True) ?_ hQ ?_
   ·intro Q11 W11 w9
    refine gS 2 (_ :: _ :: []) hs (by kernel_rfl) ⟨o1 [(27, none)] rfl fun _ _ h n => ok_add rfl (up i27 h n.1) (cI rfl) hx8, cm 0 rfl rfl, trivial⟩ W11 fun b q p => ?_
    exact tail_done (k := q) (w9 _ _ ⟨Bs.post ⟨hg, hs, hd⟩ p, p.ke 6 rfl i6, (by rw [p.old 6 rfl]; exact n6), p.ke 25 rfl i25, p.ke 26 rfl i26, p.ou 1 27 rfl, trivial⟩)
   rintro a k ⟨⟨hg, hs, hd⟩, i6, n6, i25, i26, i27, _⟩
   exact hgo1440 _ _ _ (Option.some.inj hr).symm ⟨⟨hg, hs, hd⟩, i6, n6, i25, i26, i27, trivial⟩
  rw [if_neg (by rw [hc1453]; decide)] at hr
  refine wp_exit ?_
  exact hex1441 _ _ _ _ (Option.some.inj hr).symm ⟨rfl, ⟨hg, hs, hd⟩, i6, n6, trivial⟩
 ·rintro r2 a k rfl hR
  dsimp only at hr
  obtain rfl := Option.some.inj hr
  exact hR
 ·rintro _ _ _ rfl _
  simp at hr
 clear hf2
 rintro _ s4 a k rfl ⟨rfl, ⟨hg, hs, hd⟩, i6, n6, _⟩
 dsimp only at hr
 refine cutS (fun c l => Bs noF k0 36 c l ∧ IsOwn 0 77 s4.1 (c.get 2) l ∧ Lo k0 (obF (c.get 2)) ∧ True) ?_ ?_
 ·intro Q12 W12 w10
  refine gS 2 (⟨some (OwnAt (a.get 6) 0 77 s4.1), [(6, none)]⟩ :: ⟨some (OwnAt (a.get 6) 0 77 s4.1), [(35, some 0)]⟩ :: []) hs (by kernel_rfl) ⟨ob1 rfl fun _ _ h n => ok_moveOA (.inl rfl) (ownAt n.1 (up i6 h n.1)), ob1 rfl fun _ _ h n => ok_moveOA (.inr rfl) n.1, trivial⟩ W12 fun b q p => ?_
  have hgq := hg.then p.grow
  have hsb := p.size.trans hs
  have hdb := p.defers.trans hd
  have e2 : b.get 2 = a.get 6 := (p.ou 1 2 rfl).1
  have j2 : IsOwn 0 77 s4.1 (b.get 2) q := (p.ou 1 2 rfl).2
  have y2 : Lo k0 (obF (b.get 2)) := by rw [e2]; exact n6
  exact tail_done (k := q) (w10 _ _ ⟨⟨hgq, hsb, hdb⟩, j2, y2, trivial⟩)
 rintro a k ⟨⟨hg, hs, hd⟩, i2, n2, _⟩
 refine wp_ret ?_
 obtain rfl := Option.some.inj hr
 exact retC1 rfl hd hg (show ResOk _ _ _ (.tmp 2) _ from IsOwn.raise (k0 := k0) i2 n2)
theorem slices_Concat_Rect_ok {k0 : K} {v0 : Value} {slices_ : (List (List Rect))} {r : (List Rect)} (i0 : (IsV slices_) v0 k0) (hr : slices_Concat_Rect slices_ = some r) :
  Calls Tryz.prog 107 #[v0] k0.w (Ret k0 (IsV r)) :=
 ret_give (slices_Concat_Rect_okO i0 hr)
def cmp_isNaN_int (x_ : Int) : Option (Bool) :=
 some (x_ != x_)
noncomputable def k149 := mk 149 [.int] [.bool] (fun x => cmp_isNaN_int x) [] [] Tryz.f149 (.n) Tryz.func149 Tryz.call149 rfl rfl fun x => by kernel_rfl
def cmp_Compare_int (x_ : Int) (y_ : Int) : Option (Int) :=
 (cmp_isNaN_int x_).bind fun x1 =>
 (cmp_isNaN_int y_).bind fun x2 =>
 if x1 then
  if x2 then
   some 0
  else
   some (-1)
 else
  if x2 then
   some 1
  else
   if (decide (x_ < y_)) then
    some (-1)
   else
    if (decide (y_ < x_)) then
     some 1
    else
     some 0
noncomputable def k136 := mk 136 [.int, .int] [.int] (fun x => cmp_Compare_int x.1 x.2) [k149] [] Tryz.f136 (.n) Tryz.func136 Tryz.call136 rfl rfl fun x => by kernel_rfl
def region_column_1 (a_ : RegionSpan) (b_ : RegionSpan) : Option (Int) :=
 (cmp_Compare_int a_.from_ b_.from_).bind fun x1 =>
 some x1
noncomputable def k135 := mk 135 [.st 7, .st 7] [.int] (fun x => region_column_1 x.1 x.2) [k136] [] Tryz.f135 (.n) Tryz.func135 Tryz.call135 rfl rfl fun x => by kernel_rfl
theorem region_column_1_ok {k0 : K} {v0 v1 : Value} {x0 : RegionSpan} {x1 : RegionSpan} {r : Int} (i0 : IsV x0 v0 k0) (i1 : IsV x1 v1 k0) (hr : region_column_1 x0 x1 = some r) : Calls Tryz.prog 135 #[v0, v1] k0.w (Ret k0 (IsV r)) := (k135.ok.ok k0 [v0, v1] (x0, x1) r (GOk.none (fun _ => rfl) fun _ e => by cases e) ⟨i0, i1⟩ hr)
section
open Go.Proofs Go.RowKit Go.Lib Go.Sort Go.Shelf
def Tryz.sortSpansL_ren : Go.Shelf.Ren := ⟨fun | 6 => 134 | 15 => 105 | 14 => 150 | 28 => 131 | 29 => 132 | 20 => 152 | 21 => 153 | 22 => 154 | 23 => 155 | 24 => 156 | 25 => 157 | 26 => 158 | 27 => 159 | 46 => 160 | 47 => 145 | 48 => 146 | 49 => 161 | 50 => 162 | 57 => 163 | n => n, fun | 22 => 146 | 24 => 157 | 25 => 184 | 3 => 3 | 39 => 154 | 0 => 0 | 53 => 178 | 55 => 180 | 4 => 4 | 46 => 172 | 45 => 171 | 50 => 163 | 5 => 5 | 9 => 9 | 66 => 191 | 70 => 195 | 76 => 199 | 77 => 200 | n => n, fun | n => n⟩
theorem Tryz.sortSpansL : Go.Proofs.SlLaysF0.n6 Tryz.prog Tryz.sortSpansL_ren := {
 mixed := by kernel_rfl,
 f6 := ⟨Tryz.f134.name, by decide, Tryz.func134.trans (congrArg some (by kernel_rfl))⟩,
 f14 := ⟨Tryz.f150.name, by decide, Tryz.func150.trans (congrArg some (by kernel_rfl))⟩,
 f15 := Tryz.func105.trans (congrArg some (by kernel_rfl)),
 f20 := ⟨Tryz.f152.name, by decide, Tryz.func152.trans (congrArg some (by kernel_rfl))⟩,
 f21 := ⟨Tryz.f153.name, by decide, Tryz.func153.trans (congrArg some (by kernel_rfl))⟩,
 f22 := ⟨Tryz.f154.name, by decide, Tryz.func154.trans (congrArg some (by kernel_rfl))⟩,
 f23 := ⟨Tryz.f155.name, by decide, Tryz.func155.trans (congrArg some (by kernel_rfl))⟩,
 f24 := ⟨Tryz.f156.name, by decide, Tryz.func156.trans (congrArg some (by kernel_rfl))⟩,
 f25 := ⟨Tryz.f157.name, by decide, Tryz.func157.trans (congrArg some (by kernel_rfl))⟩,
 f26 := ⟨Tryz.f158.name, by decide, Tryz.func158.trans (congrArg some (by kernel_rfl))⟩,
 f27 := ⟨Tryz.f159.name, by decide, Tryz.func159.trans (congrArg some (by kernel_rfl))⟩,
 f28 := Tryz.func131.trans (congrArg some (by kernel_rfl)),
 f29 := Tryz.func132.trans (congrArg some (by kernel_rfl)),
 f46 := ⟨Tryz.f160.name, by decide, Tryz.func160.trans (congrArg some (by kernel_rfl))⟩,
 f47 := Tryz.func145.trans (congrArg some (by kernel_rfl)),
 f48 := Tryz.func146.trans (congrArg some (by kernel_rfl)),
 f49 := ⟨Tryz.f161.name, by decide, Tryz.func161.trans (congrArg some (by kernel_rfl))⟩,
 f50 := ⟨Tryz.f162.name, by decide, Tryz.func162.trans (congrArg some (by kernel_rfl))⟩,
 f57 := ⟨Tryz.f163.name, by decide, Tryz.func163.trans (congrArg some (by kernel_rfl))⟩,
 t0 := Tryz.underlying0,
 a0 := Tryz.isAgg0,
 z0 := Tryz.sizeOf0,
 v0 := Tryz.zeroValue0,
 t3 := Tryz.underlying3,
 a3 := Tryz.isAgg3,
 z3 := Tryz.sizeOf3,
 v3 := Tryz.zeroValue3,
 t4 := Tryz.underlying4,
 a4 := Tryz.isAgg4,
 z4 := Tryz.sizeOf4,
 v4 := Tryz.zeroValue4,
 t5 := Tryz.underlying5,
 a5 := Tryz.isAgg5,
 z5 := Tryz.sizeOf5,
 v5 := Tryz.zeroValue5,
 t9 := Tryz.underlying9,
 a9 := Tryz.isAgg9,
 z9 := Tryz.sizeOf9,
 v9 := Tryz.zeroValue9,
 t22 := Tryz.underlying146,
 a22 := Tryz.isAgg146,
 z22 := Tryz.sizeOf146,
 v22 := Tryz.zeroValue146,
 t25 := Tryz.underlying184,
 a25 := Tryz.isAgg184,
 z25 := Tryz.sizeOf184,
 v25 := Tryz.zeroValue184,
 t39 := Tryz.underlying154,
 a39 := Tryz.isAgg154,
 z39 := Tryz.sizeOf154,
 v39 := Tryz.zeroValue154,
 t45 := Tryz.underlying171,
 a45 := Tryz.isAgg171,
 z45 := Tryz.sizeOf171,
 v45 := Tryz.zeroValue171,
 t46 := Tryz.underlying172,
 a46 := Tryz.isAgg172,
 z46 := Tryz.sizeOf172,
 v46 := Tryz.zeroValue172,
 t50 := Tryz.underlying163,
 a50 := Tryz.isAgg163,
 z50 := Tryz.sizeOf163,
 v50 := Tryz.zeroValue163,
 t53 := Tryz.underlying178,
 a53 := Tryz.isAgg178,
 z53 := Tryz.sizeOf178,
 v53 := Tryz.zeroValue178,
 t55 := Tryz.underlying180,
 a55 := Tryz.isAgg180,
 z55 := Tryz.sizeOf180,
 v55 := Tryz.zeroValue180,
 t66 := Tryz.underlying191,
 a66 := Tryz.isAgg191,
 z66 := Tryz.sizeOf191,
 v66 := Tryz.zeroValue191,
 t70 := Tryz.underlying195,
 a70 := Tryz.isAgg195,
 z70 := Tryz.sizeOf195,
 v70 := Tryz.zeroValue195,
 t76 := Tryz.underlying199,
 a76 := Tryz.isAgg199,
 z76 := Tryz.sizeOf199,
 v76 := Tryz.zeroValue199,
 t77 := Tryz.underlying200,
 a77 := Tryz.isAgg200,
 z77 := Tryz.sizeOf200,
 v77 := Tryz.zeroValue200 }
instance : FlatE RegionSpan := FlatE.ofMap fun x : RegionSpan => (x.from_, x.to_)
/-- What the comparison of two spans hands back. -/
def spanCmp (x y : RegionSpan) : Int := if x.from_ < y.from_ then -1 else if y.from_ < x.from_ then 1 else 0
theorem column_1_val (x y : RegionSpan) : region_column_1 x y = some (spanCmp x y) := by
 unfold region_column_1 cmp_Compare_int cmp_isNaN_int spanCmp
 by_cases h : x.from_ < y.from_
 ·simp [h]
 ·by_cases h2 : y.from_ < x.from_ <;> simp [h, h2]
theorem ltOf_span (x y : RegionSpan) : ltOf spanCmp x y = decide (x.from_ < y.from_) := by
 unfold ltOf spanCmp
 congr 1
 rw [eq_iff_iff]
 split
 ·simp [*]
 ·split <;> simp [*]
theorem spanCmp_swo : SWO (ltOf spanCmp) := by
 constructor <;> simp only [ltOf_span, decide_eq_true_eq, decide_eq_false_iff_not] <;> intros <;> omega
def sortSpans (l : List RegionSpan) : Option (List RegionSpan) := if l.length ≤ 1073741824 then some (pdq (ltOf spanCmp) l.toArray 0 l.toArray.size (Lib.bitLen l.toArray.size) true true).toList else none
theorem sortSpans_spec {l : List RegionSpan} (h : l.length ≤ 1000000) : ∃ r, sortSpans l = some r ∧ r.Perm l ∧ r.Pairwise fun a b => a.from_ ≤ b.from_ := by
 obtain ⟨⟨h1, _, h2⟩, h3⟩ := pdq_sorts (ltOf spanCmp) spanCmp_swo l.toArray 0 l.toArray.size (Lib.bitLen l.toArray.size) true true (Nat.zero_le _) (Nat.le_refl _) (Or.inl rfl)
 refine ⟨_, if_pos (by omega), ?_, ?_⟩
 ·generalize pdq (ltOf spanCmp) l.toArray 0 l.toArray.size (Lib.bitLen l.toArray.size) true true = r at h1 h2
  have e : r.extract 0 l.toArray.size = r := by rw [← h1]; simp
  rw [e] at h2
  simpa using h2
 ·rw [List.pairwise_iff_getElem]
  intro i j hi hj hij
  have := h3 i j (Nat.zero_le _) hij (by rw [← h1]; simpa using hj)
  rw [getElem!_pos _ j (by simpa using hj), getElem!_pos _ i (by simpa using hi)] at this
  rw [ltOf_span, decide_eq_false_iff_not] at this
  simp only [Array.getElem_toList]
  omega
theorem pdq_size (d : Array RegionSpan) : (pdq (ltOf spanCmp) d 0 d.size (Lib.bitLen d.size) true true).size = d.size :=
 (pdq_sorts (ltOf spanCmp) spanCmp_swo d 0 d.size (Lib.bitLen d.size) true true (Nat.zero_le _) (Nat.le_refl _) (Or.inl rfl)).1.1
set_option maxHeartbeats 2000000 in
theorem sortSpans_ok {k0 : K} {v0 : Value} {l r : List RegionSpan} (i0 : IsOwn 0 157 l v0 k0) (hr : sortSpans l = some r) :
  Calls Tryz.prog 134 #[v0, .func (.func 135) #[] #[]] k0.w (RetC (obF v0) k0 fun _ k' => IsOwn 0 157 r v0 k') := by
 unfold sortSpans at hr
 split at hr
 ·rename_i h12
  obtain rfl := Option.some.inj hr
  refine sort_own (S := fun d => pdq (ltOf spanCmp) d 0 d.size (Lib.bitLen d.size) true true) pdq_size (fun p cap w => ?_) (fun blk off cap w hH hblk => ?_) i0
  ·have hcon := AnyF.slices_SortFunc_none { Tryz.sortSpansL with } p cap (.func (.func 135) #[] #[]) w
   change Calls Tryz.prog 134 _ _ _ at hcon
   exact hcon
  ·have hcon := AnyQ.slices_SortFunc_eq Tryz.sortSpansL 2 Tryz.isAgg157 Tryz.sizeOf157 (FlatE.enc (α := RegionSpan)) (fun _ => rfl) (fun x v hv => flat_one k0 x v hv) spanCmp spanCmp_swo 135 #[] blk off cap l.toArray w (enters_of Tryz.func135 (by kernel_rfl) rfl)
    (fun _ _ _ _ x y => ret_cmp (k := kFree _) (region_column_1_ok (isV_flat rfl x _) (isV_flat rfl y _) (column_1_val x y))) hH hblk (by simp; omega)
   change Calls Tryz.prog 134 _ _ _ at hcon
   exact hcon
 ·simp at hr
end
def region_column_L0 (l_ : (List Rect)) (x_ : Int) (s1 : (List RegionSpan) × Int) : Option (Flow ((List RegionSpan) × Int) ((List RegionSpan))) :=
 if (decide (s1.2 < (l_.length : Int))) then
  (getI l_ s1.2).bind fun x1 =>
  (if ((decide (x1.X0 ≤ x_)) && (decide (x_ < x1.X1))) then
   (appI s1.1 ([(⟨x1.Y0, x1.Y1⟩ : RegionSpan)])).bind fun x2 =>
   some x2
  else
   some s1.1).bind fun s2 =>
  (addI s1.2 1).bind fun x3 =>
  some (.go (s2, x3))
 else
  some (.ex 0 (s1.1, s1.2))
def region_column_L1 (x1 : (List RegionSpan)) (s1 : (List RegionSpan) × Int) : Option (Flow ((List RegionSpan) × Int) ((List RegionSpan))) :=
 if (decide (s1.2 < (x1.length : Int))) then
  (getI x1 s1.2).bind fun x2 =>
  (if (decide (0 < (s1.1.length : Int))) then
   (subI (s1.1.length : Int) 1).bind fun x3 =>
   (getI s1.1 x3).bind fun x4 =>
   some (decide (x2.from_ ≤ x4.to_))
  else
   some false).bind fun x5 =>
  (if x5 then
   (subI (s1.1.length : Int) 1).bind fun x6 =>
   (subI (s1.1.length : Int) 1).bind fun x7 =>
   (getI s1.1 x7).bind fun x8 =>
   (getI s1.1 x6).bind fun x9 =>
   (some (s1.1.set (x6).toNat ({ x9 with to_ := (max x8.to_ x2.to_) }))).bind fun x10 =>
   some x10
  else
   (appI s1.1 ([x2])).bind fun x11 =>
   some x11).bind fun s2 =>
  (addI s1.2 1).bind fun x12 =>
  some (.go (s2, x12))
 else
  some (.ex 2 (s1.1, s1.2))
def region_column (l_ : (List Rect)) (x_ : Int) : Option ((List RegionSpan)) :=
 (iterL (region_column_L0 l_ x_) (l_.length + 1) (([] : List RegionSpan), 0)).bind fun f1 => match f1 with
  | .go _ => none
  | .ex _ s1 =>
   (sortSpans s1.1).bind fun x1 =>
   (iterL (region_column_L1 x1) (x1.length + 1) (([] : List RegionSpan), 0)).bind fun f2 => match f2 with
    | .go _ => none
    | .ex _ s2 =>
     some s2.1
    | .ret r1 => some r1
  | .ret r2 => some r2
theorem region_column_ok {k0 : K} {v0 v1 : Value} {l_ : (List Rect)} {x_ : Int} {r : (List RegionSpan)} (i0 : (IsV l_) v0 k0) (i1 : (IsV x_) v1 k0) (hr : region_column l_ x_ = some r) :
  Calls Tryz.prog 108 #[v0, v1] k0.w (Ret k0 (IsV r)) := by
 unfold region_column at hr
 refine Ret.ofC ?_
 refine enterK Tryz.func108 rfl Tryz.ntmps108 (show 2 ≤ 80 by decide) fun a k hk0 hs hd ha => ?_
 obtain ⟨e0, e1, _⟩ := ha
 replace i0 : (IsV l_) (a.get 0) k := by rw [e0, hk0]; exact i0
 replace i1 : (IsV x_) (a.get 1) k := by rw [e1, hk0]; exact i1
 have hQ : Gb.LetsOut (bodyPost Tryz.prog Tryz.f108 (RetC noF k0 (IsV r))) := letsOutC
 have hg : Chg noF k0 k := by rw [hk0]; exact Chg.refl _ k0
 refine stepL 1 (⟨some IsE0, []⟩ :: []) rfl ⟨hg, hs, hd⟩ (by kernel_rfl) ⟨ob1 rfl fun b q h n => ok_assign rfl isE0_nil, trivial⟩ [⟨_, _⟩, ⟨_, _⟩] (fun b q p => ⟨p.ke 0 rfl i0, p.ke 1 rfl i1, trivial⟩) ?_
 rintro a k ⟨⟨hg, hs, hd⟩, i0, i1, _⟩
 refine cutS (fun c l => Bs noF k0 80 c l ∧ IsV l_ (c.get 0) l ∧ IsV x_ (c.get 1) l ∧ IsOwn 0 157 ([] : List RegionSpan) (c.get 5) l ∧ Lo k0 (obF (c.get 5)) ∧ True) ?_ ?_
 ·intro Q1 W1 w1
  refine gS 1 (⟨some IsE0, []⟩ :: []) hs (by kernel_rfl) ⟨ob1 rfl fun b q h n => ok_assign rfl isE0_nil, trivial⟩ W1 fun b q p => ?_
  have hgq := hg.then p.grow
  have hsb := p.size.trans hs
  have hdb := p.defers.trans hd
  have j0 := p.ke 0 rfl i0
  have j1 := p.ke 1 rfl i1
  have j5 : IsE0 (b.get 5) q := p.ou 0 5 rfl
  have y5 : Lo k0 (obF (b.get 5)) := j5.lo
  replace j5 : IsOwn 0 157 ([] : List RegionSpan) (b.get 5) q := j5.own0
  exact tail_done (k := q) (w1 _ _ ⟨⟨hgq, hsb, hdb⟩, j0, j1, j5, y5, trivial⟩)
 rintro a k ⟨⟨hg, hs, hd⟩, i0, i1, i5, n5, _⟩
 refine wp_seq ?_
 refine cutS (fun c l => Bs noF k0 80 c l ∧ IsV x_ (c.get 1) l ∧ IsOwn 0 157 ([] : List RegionSpan) (c.get 5) l ∧ Lo k0 (obF (c.get 5)) ∧ IsV l_ (c.get 12) l ∧ IsL l_ (c.get 13) l ∧ IsI 0 (c.get 14) l ∧ True) ?_ ?_
 ·intro Q2 W2 w2
  refine gS 3 (_ :: _ :: ⟨some (IsI 0), []⟩ :: []) hs (by kernel_rfl) ⟨mu rfl i0, o1 [(12, some 0)] rfl fun _ _ h n => ok_len rfl rfl Tryz.underlying109 (IsV.rd n.1), ob1 rfl fun _ _ h n => ok_move rfl (cI rfl), trivial⟩ W2 fun b q p => ?_
  exact tail_done (k := q) (w2 _ _ ⟨Bs.post ⟨hg, hs, hd⟩ p, p.ke 1 rfl i1, p.ke 5 rfl i5, (by rw [p.old 5 rfl]; exact n5), p.ou 0 12 rfl, p.ou 1 13 rfl, p.ou 2 14 rfl, trivial⟩)
 rintro a k ⟨⟨hg, hs, hd⟩, i1, i5, n5, i12, i13, i14, _⟩
 refine wp_block ?_
 obtain ⟨f1, hf1, hr⟩ := bind_some hr
 refine cutFe f1 (fun s' c l => Bs noF k0 80 c l ∧ IsV x_ (c.get 1) l ∧ IsOwn 0 157 s'.1 (c.get 5) l ∧ Lo k0 (obF (c.get 5)) ∧ IsV l_ (c.get 12) l ∧ IsL l_ (c.get 13) l ∧ IsV s'.2 (c.get 14) l ∧ True) (fun i' s' c l => (i' = 0 ∧ Bs noF k0 80 c l ∧ IsOwn 0 157 s'.1 (c.get 5) l ∧ Lo k0 (obF (c.get 5)) ∧ True)) (fun r' c l => bodyPost Tryz.prog Tryz.f108 (RetC noF k0 (IsV r')) .ret c l.w) ?_ hQ ?_ ?_ ?_
 ·intro Q3 W3 hgo hex hret
  refine sim_loop ?_ _ _ _ _ _ hf1 ⟨⟨hg, hs, hd⟩, i1, i5, n5, i12, i13, i14, trivial⟩ Q3 W3 hgo hex hret
  clear hr hf1 hgo hex hret W3 hQ hg hs hd i1 i12 i13 i14 i5 n5
  intro s1 fl_ a k hr hS Q hQ hgo1538 hex1539 hret1540
  obtain ⟨⟨hg, hs, hd⟩, i1, i5, n5, i12, i13, i14, _⟩ := hS
  unfold region_column_L0 at hr
  refine cutS (fun c l => Bs noF k0 80 c l ∧ IsV x_ (c.get 1) l ∧ IsOwn 0 157 s1.1 (c.get 5) l ∧ Lo k0 (obF (c.get 5)) ∧ IsV l_ (c.get 12) l ∧ IsL l_ (c.get 13) l ∧ IsV s1.2 (c.get 14) l ∧ (IsV (decide (s1.2 < (l_.length : Int)))) (c.get 15) l ∧ True) ?_ ?_
  ·intro Q4 W4 w3
   refine gS 1 (_ :: []) hs (by kernel_rfl) ⟨o1 [(14, none), (13, none)] rfl fun _ _ h n => ok_lss rfl (up i14 h n.1) (up i13 h n.2.1), trivial⟩ W4 fun b q p => ?_
   exact tail_done (k := q) (w3 _ _ ⟨Bs.post ⟨hg, hs, hd⟩ p, p.ke 1 rfl i1, p.ke 5 rfl i5, (by rw [p.old 5 rfl]; exact n5), p.ke 12 rfl i12, p.ke 13 rfl i13, p.ke 14 rfl i14, p.ou 0 15 rfl, trivial⟩)
  rintro a k ⟨⟨hg, hs, hd⟩, i1, i5, n5, i12, i13, i14, i15, _⟩
  refine wp_seq ?_
  refine wp_cond_split (isBool i15) (fun hc1558 => ?_) (fun hc1558 => ?_)
  ·rw [if_pos hc1558] at hr
   refine wp_skip ?_
   refine wp_seq ?_
   refine wp_block ?_
   refine wp_seq ?_
   obtain ⟨x1, hx1, hr⟩ := bind_some hr
   refine cut (fun a' k' => Bs noF k0 80 a' k' ∧ (IsV x_) (a'.get 1) k' ∧ IsOwn 0 157 s1.1 (a'.get 5) k' ∧ Lo k0 (obF (a'.get 5)) ∧ (IsRef x1) (a'.get 7) k' ∧ (IsV l_) (a'.get 12) k' ∧ (IsL l_) (a'.get 13) k' ∧ (IsV s1.2) (a'.get 14) k' ∧ True) ?_ hQ ?_
   ·intro Q5 W5 w4
    refine gS 3 (_ :: _ :: ⟨some (IsBox k.w.heap.size (⟨0, 0, 0, 0⟩ : Rect)), []⟩ :: []) hs (by kernel_rfl) ⟨o1 [(12, none), (14, none)] rfl fun _ _ h n => ok_indexAddr rfl Tryz.underlying109 ty77 (IsV.rd (up i12 h n.1)) (up i14 h n.2.1) hx1, o1 [(16, some 0)] rfl fun _ _ h n => ok_load rfl ty77 n.1, ob1 rfl fun _ _ h n => ok_alloc _ h.size rfl z77, trivial⟩ W5 fun b q p => ?_
    have hgq := hg.then p.grow
    have hsb := p.size.trans hs
    have hdb := p.defers.trans hd
    have j1 := p.ke 1 rfl i1
    have j5 := p.ke 5 rfl i5
    have y5 : Lo k0 (obF (b.get 5)) := by rw [p.old 5 rfl]; exact n5
    obtain ⟨b7, j7, x7, z7⟩ : (IsBox k.w.heap.size (⟨0, 0, 0, 0⟩ : Rect)) (b.get 7) q := p.ou 2 7 rfl
    replace x7 : Lo k (Eq b7) := Lo.eq x7
    have y7 : Lo k0 (Eq b7) := x7.chg hg
    have j12 := p.ke 12 rfl i12
    have j13 := p.ke 13 rfl i13
    have j14 := p.ke 14 rfl i14
    have j17 : (IsV x1) (b.get 17) q := p.ou 1 17 rfl
    have w5_7 : Apart (obF (b.get 5)) (Eq b7) := Apart.new (by rw [p.old 5 rfl]; exact i5.ltF) x7
    have hns := z7.nshF
    refine tail_storeB (i := 3) rfl rfl rfl rfl szf77 (Upd.self (α := Rect)) j7 z7 j17 fun q2 hch hz => ?_
    replace hgq := hgq.step hch y7.wr
    have hle := hch.le hns
    replace j1 := Pers.pers hle j1
    replace j5 := j5.keep hch w5_7 hns
    replace j12 := Pers.pers hle j12
    replace j13 := Pers.pers hle j13
    replace j14 := Pers.pers hle j14
    replace j17 := Pers.pers hle j17
    replace z7 := hz
    clear hns hle hch
    obtain ⟨q, hqq⟩ : ∃ q, q = q2 := ⟨q2, rfl⟩
    subst hqq
    obtain ⟨q2, hsh, jn⟩ := z7.give
    replace j1 := Pers.pers hsh.le j1
    replace j5 := j5.handed hsh w5_7
    replace j12 := Pers.pers hsh.le j12
    replace j13 := Pers.pers hsh.le j13
    replace j14 := Pers.pers hsh.le j14
    rw [← j7] at jn
    replace j7 := jn
    replace hgq := hgq.hand hsh y7.wr
    rw [← hsh.w]
    clear hsh
    obtain ⟨q, hqq⟩ : ∃ q, q = q2 := ⟨q2, rfl⟩
    subst hqq
    exact tail_done (k := q) (w4 _ _ ⟨⟨hgq, hsb, hdb⟩, j1, j5, y5, j7, j12, j13, j14, trivial⟩)
   rintro a k ⟨⟨hg, hs, hd⟩, i1, i5, n5, i7, i12, i13, i14, _⟩
   refine cutS (fun c l => Bs noF k0 80 c l ∧ IsV x_ (c.get 1) l ∧ IsOwn 0 157 s1.1 (c.get 5) l ∧ Lo k0 (obF (c.get 5)) ∧ IsRef x1 (c.get 7) l ∧ IsV l_ (c.get 12) l ∧ IsL l_ (c.get 13) l ∧ IsV s1.2 (c.get 14) l ∧ (IsV ((decide (x1.X0 ≤ x_)) && (decide (x_ < x1.X1)))) (c.get 27) l ∧ True) ?_ ?_
   ·intro Q6 W6 w5
    refine gS 10 (_ :: _ :: _ :: _ :: _ :: _ :: _ :: _ :: _ :: _ :: []) hs (by kernel_rfl) ⟨o1 [(7, none)] rfl fun _ _ h n => ok_fieldAddr rfl fo77_0 (at_Rect_0 _) ((up i7 h n.1)).ptr, o1 [(18, some 0)] rfl fun _ _ h n => ok_load rfl ty3 n.1, mu rfl i1, o1 [(19, some 1), (20, some 2)] rfl fun _ _ h n => ok_leq rfl n.1 n.2.1, cm 3 rfl rfl, mT rfl rfl i1, gT [(7, none)] rfl rfl fun hp _ _ h n => ok_fieldAddr rfl fo77_2 (at_Rect_2 _) ((up i7 h n.1)).ptr, gT [(24, some 6)] rfl rfl fun hp _ _ h n => ok_load rfl ty3 (Gd.get n.1 hp), gT [(23, some 5), (25, some 7)] rfl rfl fun hp _ _ h n => ok_lss rfl (Gd.get n.1 hp) (Gd.get n.2.1 hp), o1 [(22, some 4), (26, some 8)] rfl fun _ _ h n => ok_pickAnd rfl n.1 (Gd.get n.2.1) (cB rfl), trivial⟩ W6 fun b q p => ?_
    exact tail_done (k := q) (w5 _ _ ⟨Bs.post ⟨hg, hs, hd⟩ p, p.ke 1 rfl i1, p.ke 5 rfl i5, (by rw [p.old 5 rfl]; exact n5), p.ke 7 rfl i7, p.ke 12 rfl i12, p.ke 13 rfl i13, p.ke 14 rfl i14, p.ou 9 27 rfl, trivial⟩)
   rintro a k ⟨⟨hg, hs, hd⟩, i1, i5, n5, i7, i12, i13, i14, i27, _⟩
   obtain ⟨s2, hs2, hr⟩ := bind_some hr
   refine cut (fun a' k' => Bs noF k0 80 a' k' ∧ (IsV x_) (a'.get 1) k' ∧ IsOwn 0 157 s2 (a'.get 5) k' ∧ Lo k0 (obF (a'.get 5)) ∧ (IsV l_) (a'.get 12) k' ∧ (IsL l_) (a'.get 13) k' ∧ (IsV s1.2) (a'.get 14) k' ∧ True) ?_ hQ ?_
   ·intro Q7 W7 w6
    replace hr := hs2
    clear hQ
    have hQ := W7
    refine wp_cond_split (isBool i27) (fun hc1549 => ?_) (fun hc1549 => ?_)
    ·rw [if_pos hc1549] at hr
     obtain ⟨x2, hx2, hr⟩ := bind_some hr
     refine cut (fun a' k' => Bs noF k0 80 a' k' ∧ (IsV x_) (a'.get 1) k' ∧ IsOwn 0 157 x2 (a'.get 5) k' ∧ Lo k0 (obF (a'.get 5)) ∧ (IsV l_) (a'.get 12) k' ∧ (IsL l_) (a'.get 13) k' ∧ (IsV s1.2) (a'.get 14) k' ∧ True) ?_ hQ ?_
     ·intro Q8 W8 w7
      refine gS 7 (⟨some (OwnAt (a.get 5) 0 157 s1.1), [(5, none)]⟩ :: _ :: _ :: _ :: _ :: ⟨some (IsV (⟨x1.Y0, x1.Y1⟩ : RegionSpan)), [(30, some 2), (32, some 4)]⟩ :: ⟨some (IsV (α := (List RegionSpan)) ([(⟨x1.Y0, x1.Y1⟩ : RegionSpan)])), [(33, some 5)]⟩ :: []) hs (by kernel_rfl) ⟨ob1 rfl fun _ _ h n => ok_moveOA (.inl rfl) (ownAt n.1 (up i5 h n.1)), o1 [(7, none)] rfl fun _ _ h n => ok_fieldAddr rfl fo77_1 (at_Rect_1 _) ((up i7 h n.1)).ptr, o1 [(29, some 1)] rfl fun _ _ h n => ok_load rfl ty3 n.1, o1 [(7, none)] rfl fun _ _ h n => ok_fieldAddr rfl fo77_3 (at_Rect_3 _) ((up i7 h n.1)).ptr, o1 [(31, some 3)] rfl fun _ _ h n => ok_load rfl ty3 n.1, ob1 rfl fun _ _ h n => ok_build rfl (bld157_0_1 n.1 n.2.1), ob1 rfl fun _ _ h n => ok_buildSlice rfl Tryz.underlying146 eo157 rfl (by decide) (by decide) ⟨rfl, n.1, trivial⟩, trivial⟩ W8 fun b q p => ?_
      have hgq := hg.then p.grow
      have hsb := p.size.trans hs
      have hdb := p.defers.trans hd
      have j1 := p.ke 1 rfl i1
      have j12 := p.ke 12 rfl i12
      have j13 := p.ke 13 rfl i13
      have j14 := p.ke 14 rfl i14
      have e28 : b.get 28 = a.get 5 := (p.ou 0 28 rfl).1
      have j28 : IsOwn 0 157 s1.1 (b.get 28) q := (p.ou 0 28 rfl).2
      have y28 : Lo k0 (obF (b.get 28)) := by rw [e28]; exact n5
      have j34 : (IsV (α := (List RegionSpan)) ([(⟨x1.Y0, x1.Y1⟩ : RegionSpan)])) (b.get 34) q := p.ou 6 34 rfl
      have hns := j28.nshF
      refine tail_appendS (i := 7) (d := 35) rfl rfl rfl rfl (by rw [hsb]; decide) (e := 157) Tryz.underlying146 eo157 j28 (IsV.rd j34) hx2 fun b2 q2 hsz hdf hoth hch hown hob => ?_
      have hle := hch.le hns
      have yn : Lo k0 (obF (b2.get 35)) := y28.app hgq hob
      replace j1 := Pers.pers hle j1
      replace j12 := Pers.pers hle j12
      replace j13 := Pers.pers hle j13
      replace j14 := Pers.pers hle j14
      replace j34 := Pers.pers hle j34
      replace hgq := hgq.step hch y28.wr
      rw [← hoth 1 (by decide)] at j1
      rw [← hoth 12 (by decide)] at j12
      rw [← hoth 13 (by decide)] at j13
      rw [← hoth 14 (by decide)] at j14
      rw [← hoth 34 (by decide)] at j34
      have j35 := hown
      have y35 := yn
      replace hsb := hsz.trans hsb
      replace hdb := hdf.trans hdb
      clear hle hch hown hob hns yn hsz hdf hoth
      obtain ⟨b, hbb⟩ : ∃ b, b = b2 := ⟨b2, rfl⟩
      subst hbb
      obtain ⟨q, hqq⟩ : ∃ q, q = q2 := ⟨q2, rfl⟩
      subst hqq
      refine tail_assign (i := 8) (d := 5) rfl rfl (.inl rfl) rfl (by rw [hsb]; decide) fun b2 hsz hdf hnew hoth => ?_
      have jn : (IsOwn 0 157 x2) (b2.get 5) q := by rw [hnew]; exact j35
      have yn : Lo k0 (obF (b2.get 5)) := by rw [hnew]; exact y35
      rw [← hoth 1 (by decide)] at j1
      rw [← hoth 12 (by decide)] at j12
      rw [← hoth 13 (by decide)] at j13
      rw [← hoth 14 (by decide)] at j14
      rw [← hoth 34 (by decide)] at j34
      have j5 := jn
      have y5 := yn
      replace hsb := hsz.trans hsb
      replace hdb := hdf.trans hdb
      clear hsz hdf hoth
      obtain ⟨b, hbb⟩ : ∃ b, b = b2 := ⟨b2, rfl⟩
      subst hbb
      exact tail_done (k := q) (w7 _ _ ⟨⟨hgq, hsb, hdb⟩, j1, j5, y5, j12, j13, j14, trivial⟩)
     rintro a k ⟨⟨hg, hs, hd⟩, i1, i5, n5, i12, i13, i14, _⟩
     obtain rfl := Option.some.inj hr
     exact w6 _ _ ⟨⟨hg, hs, hd⟩, i1, i5, n5, i12, i13, i14, trivial⟩
    rw [if_neg (by rw [hc1549]; decide)] at hr
    refine wp_skip ?_
    obtain rfl := Option.some.inj hr
    exact w6 _ _ ⟨⟨hg, hs, hd⟩, i1, i5, n5, i12, i13, i14, trivial⟩
   clear hs2
   rintro a k ⟨⟨hg, hs, hd⟩, i1, i5, n5, i12, i13, i14, _⟩
   obtain ⟨x3, hx3, hr⟩ := bind_some hr
   refine cut (fun a' k' => Bs noF k0 80 a' k' ∧ (IsV x_) (a'.get 1) k' ∧ IsOwn 0 157 s2 (a'.get 5) k' ∧ Lo k0 (obF (a'.get 5)) ∧ (IsV l_) (a'.get 12) k' ∧ (IsL l_) (a'.get 13) k' ∧ (IsV x3) (a'.get 14) k' ∧ True) ?_ hQ ?_
   ·intro Q9 W9 w8
    refine gS 2 (_ :: _ :: []) hs (by kernel_rfl) ⟨o1 [(14, none)] rfl fun _ _ h n => ok_add rfl (up i14 h n.1) (cI rfl) hx3, cm 0 rfl rfl, trivial⟩ W9 fun b q p => ?_
    exact tail_done (k := q) (w8 _ _ ⟨Bs.post ⟨hg, hs, hd⟩ p, p.ke 1 rfl i1, p.ke 5 rfl i5, (by rw [p.old 5 rfl]; exact n5), p.ke 12 rfl i12, p.ke 13 rfl i13, p.ou 1 14 rfl, trivial⟩)
   rintro a k ⟨⟨hg, hs, hd⟩, i1, i5, n5, i12, i13, i14, _⟩
   exact hgo1538 _ _ _ (Option.some.inj hr).symm ⟨⟨hg, hs, hd⟩, i1, i5, n5, i12, i13, i14, trivial⟩
  rw [if_neg (by rw [hc1558]; decide)] at hr
  refine wp_exit ?_
  exact hex1539 _ _ _ _ (Option.some.inj hr).symm ⟨rfl, ⟨hg, hs, hd⟩, i5, n5, trivial⟩
 ·rintro r1 a k rfl hR
  dsimp only at hr
  obtain rfl := Option.some.inj hr
  exact hR
 ·rintro _ _ _ rfl _
  simp at hr
 clear hf1
 rintro _ s3 a k rfl ⟨rfl, ⟨hg, hs, hd⟩, i5, n5, _⟩
 dsimp only at hr
 refine wp_seq ?_
 obtain ⟨x4, hx4, hr⟩ := bind_some hr
 refine cut (fun a' k' => Bs noF k0 80 a' k' ∧ IsOwn 0 157 x4 (a'.get 5) k' ∧ Lo k0 (obF (a'.get 5)) ∧ True) ?_ hQ ?_
 ·intro Q10 W10 w9
  refine gS 1 (⟨some (OwnAt (a.get 5) 0 157 s3.1), [(5, none)]⟩ :: []) hs (by kernel_rfl) ⟨ob1 rfl fun _ _ h n => ok_moveOA (.inl rfl) (ownAt n.1 (up i5 h n.1)), trivial⟩ W10 fun b q p => ?_
  have hgq := hg.then p.grow
  have hsb := p.size.trans hs
  have hdb := p.defers.trans hd
  have j5 := p.ke 5 rfl i5
  have y5 : Lo k0 (obF (b.get 5)) := by rw [p.old 5 rfl]; exact n5
  have e37 : b.get 37 = a.get 5 := (p.ou 0 37 rfl).1
  have j37 : IsOwn 0 157 s3.1 (b.get 37) q := (p.ou 0 37 rfl).2
  have y37 : Lo k0 (obF (b.get 37)) := by rw [e37]; exact n5
  have hns := j37.nshF
  have eS : b.get 5 = b.get 37 := (p.old 5 rfl).trans e37.symm
  refine tail_call (F := obF (b.get 37)) (i := 1) (d := 38) rfl rfl rfl rfl (by rw [hsb]; decide) Tryz.call134 W10 (sortSpans_ok j37 hx4) fun b2 q2 hsz hdf hoth hch hres => ?_
  have hle := hch.le hns
  replace hgq := hgq.step hch y37.wr
  replace j5 : IsOwn 0 157 x4 (b.get 5) q2 := by rw [eS]; exact hres
  clear hres eS
  rw [← hoth 5 (by decide)] at j5
  rw [← hoth 5 (by decide)] at y5
  replace hsb := hsz.trans hsb
  replace hdb := hdf.trans hdb
  clear hle hch hns hsz hdf hoth
  obtain ⟨b, hbb⟩ : ∃ b, b = b2 := ⟨b2, rfl⟩
  subst hbb
  obtain ⟨q, hqq⟩ : ∃ q, q = q2 := ⟨q2, rfl⟩
  subst hqq
  exact tail_done (k := q) (w9 _ _ ⟨⟨hgq, hsb, hdb⟩, j5, y5, trivial⟩)
 rintro a k ⟨⟨hg, hs, hd⟩, i5, n5, _⟩
 refine wp_seq ?_
 obtain ⟨kk, sh1564, ii5⟩ := i5.give
 replace i5 := ii5
 replace hg := hg.hand sh1564 n5.wr
 rw [← sh1564.w]
 clear sh1564
 obtain ⟨k, hkk⟩ : ∃ k, k = kk := ⟨kk, rfl⟩
 subst hkk
 refine cut (fun a' k' => Bs noF k0 80 a' k' ∧ (IsV x4) (a'.get 5) k' ∧ IsOwn 0 157 ([] : List RegionSpan) (a'.get 8) k' ∧ Lo k0 (obF (a'.get 8)) ∧ True) ?_ hQ ?_
 ·intro Q11 W11 w10
  refine gS 1 (⟨some IsE0, []⟩ :: []) hs (by kernel_rfl) ⟨ob1 rfl fun b q h n => ok_assign rfl isE0_nil, trivial⟩ W11 fun b q p => ?_
  have hgq := hg.then p.grow
  have hsb := p.size.trans hs
  have hdb := p.defers.trans hd
  have j5 := p.ke 5 rfl i5
  have j8 : IsE0 (b.get 8) q := p.ou 0 8 rfl
  have y8 : Lo k0 (obF (b.get 8)) := j8.lo
  replace j8 : IsOwn 0 157 ([] : List RegionSpan) (b.get 8) q := j8.own0
  exact tail_done (k := q) (w10 _ _ ⟨⟨hgq, hsb, hdb⟩, j5, j8, y8, trivial⟩)
 rintro a k ⟨⟨hg, hs, hd⟩, i5, i8, n8, _⟩
 refine wp_seq ?_
 refine cutS (fun c l => Bs noF k0 80 c l ∧ IsOwn 0 157 ([] : List RegionSpan) (c.get 8) l ∧ Lo k0 (obF (c.get 8)) ∧ IsV x4 (c.get 39) l ∧ IsL x4 (c.get 40) l ∧ IsI 0 (c.get 41) l ∧ True) ?_ ?_
 ·intro Q12 W12 w11
  refine gS 3 (_ :: _ :: ⟨some (IsI 0), []⟩ :: []) hs (by kernel_rfl) ⟨mu rfl i5, o1 [(39, some 0)] rfl fun _ _ h n => ok_len rfl rfl Tryz.underlying146 (IsV.rd n.1), ob1 rfl fun _ _ h n => ok_move rfl (cI rfl), trivial⟩ W12 fun b q p => ?_
  exact tail_done (k := q) (w11 _ _ ⟨Bs.post ⟨hg, hs, hd⟩ p, p.ke 8 rfl i8, (by rw [p.old 8 rfl]; exact n8), p.ou 0 39 rfl, p.ou 1 40 rfl, p.ou 2 41 rfl, trivial⟩)
 rintro a k ⟨⟨hg, hs, hd⟩, i8, n8, i39, i40, i41, _⟩
 refine wp_block ?_
 obtain ⟨f2, hf2, hr⟩ := bind_some hr
 refine cutFe f2 (fun s' c l => Bs noF k0 80 c l ∧ IsOwn 0 157 s'.1 (c.get 8) l ∧ Lo k0 (obF (c.get 8)) ∧ IsV x4 (c.get 39) l ∧ IsL x4 (c.get 40) l ∧ IsV s'.2 (c.get 41) l ∧ True) (fun i' s' c l => (i' = 2 ∧ Bs noF k0 80 c l ∧ IsV s'.1 (c.get 8) l ∧ True)) (fun r' c l => bodyPost Tryz.prog Tryz.f108 (RetC noF k0 (IsV r')) .ret c l.w) ?_ hQ ?_ ?_ ?_
 ·intro Q13 W13 hgo hex hret
  refine sim_loop ?_ _ _ _ _ _ hf2 ⟨⟨hg, hs, hd⟩, i8, n8, i39, i40, i41, trivial⟩ Q13 W13 hgo hex hret
  clear hr hf2 hgo hex hret W13 hQ hg hs hd i39 i40 i41 i8 n8
  intro s4 fl_ a k hr hS Q hQ hgo1568 hex1569 hret1570
  obtain ⟨⟨hg, hs, hd⟩, i8, n8, i39, i40, i41, _⟩ := hS
  unfold region_column_L1 at hr
  refine cutS (fun c l => Bs noF k0 80 c l ∧ IsOwn 0 157 s4.1 (c.get 8) l ∧ Lo k0 (obF (c.get 8)) ∧ IsV x4 (c.get 39) l ∧ IsL x4 (c.get 40) l ∧ IsV s4.2 (c.get 41) l ∧ (IsV (decide (s4.2 < (x4.length : Int)))) (c.get 42) l ∧ True) ?_ ?_
  ·intro Q14 W14 w12
   refine gS 1 (_ :: []) hs (by kernel_rfl) ⟨o1 [(41, none), (40, none)] rfl fun _ _ h n => ok_lss rfl (up i41 h n.1) (up i40 h n.2.1), trivial⟩ W14 fun b q p => ?_
   exact tail_done (k := q) (w12 _ _ ⟨Bs.post ⟨hg, hs, hd⟩ p, p.ke 8 rfl i8, (by rw [p.old 8 rfl]; exact n8), p.ke 39 rfl i39, p.ke 40 rfl i40, p.ke 41 rfl i41, p.ou 0 42 rfl, trivial⟩)
  rintro a k ⟨⟨hg, hs, hd⟩, i8, n8, i39, i40, i41, i42, _⟩
  refine wp_seq ?_
  refine wp_cond_split (isBool i42) (fun hc1595 => ?_) (fun hc1595 => ?_)
  ·rw [if_pos hc1595] at hr
   refine wp_skip ?_
   refine wp_seq ?_
   refine wp_block ?_
   refine wp_seq ?_
   obtain ⟨x5, hx5, hr⟩ := bind_some hr
   refine cut (fun a' k' => Bs noF k0 80 a' k' ∧ IsOwn 0 157 s4.1 (a'.get 8) k' ∧ Lo k0 (obF (a'.get 8)) ∧ (IsRef x5) (a'.get 10) k' ∧ (IsV x4) (a'.get 39) k' ∧ (IsL x4) (a'.get 40) k' ∧ (IsV s4.2) (a'.get 41) k' ∧ True) ?_ hQ ?_
   ·intro Q15 W15 w13
    refine gS 3 (_ :: _ :: ⟨some (IsBox k.w.heap.size (⟨0, 0⟩ : RegionSpan)), []⟩ :: []) hs (by kernel_rfl) ⟨o1 [(39, none), (41, none)] rfl fun _ _ h n => ok_indexAddr rfl Tryz.underlying146 ty157 (IsV.rd (up i39 h n.1)) (up i41 h n.2.1) hx5, o1 [(43, some 0)] rfl fun _ _ h n => ok_load rfl ty157 n.1, ob1 rfl fun _ _ h n => ok_alloc _ h.size rfl z157, trivial⟩ W15 fun b q p => ?_
    have hgq := hg.then p.grow
    have hsb := p.size.trans hs
    have hdb := p.defers.trans hd
    have j8 := p.ke 8 rfl i8
    have y8 : Lo k0 (obF (b.get 8)) := by rw [p.old 8 rfl]; exact n8
    obtain ⟨b10, j10, x10, z10⟩ : (IsBox k.w.heap.size (⟨0, 0⟩ : RegionSpan)) (b.get 10) q := p.ou 2 10 rfl
    replace x10 : Lo k (Eq b10) := Lo.eq x10
    have y10 : Lo k0 (Eq b10) := x10.chg hg
    have j39 := p.ke 39 rfl i39
    have j40 := p.ke 40 rfl i40
    have j41 := p.ke 41 rfl i41
    have j44 : (IsV x5) (b.get 44) q := p.ou 1 44 rfl
    have w8_10 : Apart (obF (b.get 8)) (Eq b10) := Apart.new (by rw [p.old 8 rfl]; exact i8.ltF) x10
    have hns := z10.nshF
    refine tail_storeB (i := 3) rfl rfl rfl rfl szf157 (Upd.self (α := RegionSpan)) j10 z10 j44 fun q2 hch hz => ?_
    replace hgq := hgq.step hch y10.wr
    have hle := hch.le hns
    replace j8 := j8.keep hch w8_10 hns
    replace j39 := Pers.pers hle j39
    replace j40 := Pers.pers hle j40
    replace j41 := Pers.pers hle j41
    replace j44 := Pers.pers hle j44
    replace z10 := hz
    clear hns hle hch
    obtain ⟨q, hqq⟩ : ∃ q, q = q2 := ⟨q2, rfl⟩
    subst hqq
    obtain ⟨q2, hsh, jn⟩ := z10.give
    replace j8 := j8.handed hsh w8_10
    replace j39 := Pers.pers hsh.le j39
    replace j40 := Pers.pers hsh.le j40
    replace j41 := Pers.pers hsh.le j41
    rw [← j10] at jn
    replace j10 := jn
    replace hgq := hgq.hand hsh y10.wr
    rw [← hsh.w]
    clear hsh
    obtain ⟨q, hqq⟩ : ∃ q, q = q2 := ⟨q2, rfl⟩
    subst hqq
    exact tail_done (k := q) (w13 _ _ ⟨⟨hgq, hsb, hdb⟩, j8, y8, j10, j39, j40, j41, trivial⟩)
   rintro a k ⟨⟨hg, hs, hd⟩, i8, n8, i10, i39, i40, i41, _⟩
   refine cutS (fun c l => Bs noF k0 80 c l ∧ IsOwn 0 157 s4.1 (c.get 8) l ∧ Lo k0 (obF (c.get 8)) ∧ IsRef x5 (c.get 10) l ∧ IsI (s4.1.length : Int) (c.get 11) l ∧ IsV x4 (c.get 39) l ∧ IsL x4 (c.get 40) l ∧ IsV s4.2 (c.get 41) l ∧ True) ?_ ?_
   ·intro Q16 W16 w14
    refine gS 3 (⟨some (OwnAt (a.get 8) 0 157 s4.1), [(8, none)]⟩ :: _ :: _ :: []) hs (by kernel_rfl) ⟨ob1 rfl fun _ _ h n => ok_moveOA (.inl rfl) (ownAt n.1 (up i8 h n.1)), o1 [(45, some 0)] rfl fun _ _ h n => ok_len rfl rfl Tryz.underlying146 (IsOwn.rd (n.1).2), cp 1 rfl rfl, trivial⟩ W16 fun b q p => ?_
    exact tail_done (k := q) (w14 _ _ ⟨Bs.post ⟨hg, hs, hd⟩ p, p.ke 8 rfl i8, (by rw [p.old 8 rfl]; exact n8), p.ke 10 rfl i10, p.ou 2 11 rfl, p.ke 39 rfl i39, p.ke 40 rfl i40, p.ke 41 rfl i41, trivial⟩)
   rintro a k ⟨⟨hg, hs, hd⟩, i8, n8, i10, i11, i39, i40, i41, _⟩
   refine wp_seq ?_
   obtain ⟨x6, hx6, hr⟩ := bind_some hr
   obtain ⟨x8, hx8, hx6⟩ := ite_bind hx6
   obtain ⟨x9, hx9, hx6⟩ := ite_bind hx6
   refine cut (fun a' k' => Bs noF k0 80 a' k' ∧ IsOwn 0 157 s4.1 (a'.get 8) k' ∧ Lo k0 (obF (a'.get 8)) ∧ (IsRef x5) (a'.get 10) k' ∧ (IsI (s4.1.length : Int)) (a'.get 11) k' ∧ (IsV x4) (a'.get 39) k' ∧ (IsL x4) (a'.get 40) k' ∧ (IsV s4.2) (a'.get 41) k' ∧ (IsV x6) (a'.get 59) k' ∧ True) ?_ hQ ?_
   ·intro Q17 W17 w15
    refine region (m := 13) (_ :: _ :: _ :: _ :: _ :: ⟨some (Gd ((decide (0 < (s4.1.length : Int))) = true) (OwnAt (a.get 8) 0 157 s4.1)), [(8, none)]⟩ :: _ :: _ :: _ :: _ :: _ :: _ :: _ :: []) hmix hs (by kernel_rfl) ⟨mu rfl i11, o1 [(47, some 0)] rfl fun _ _ h n => ok_gtr rfl n.1 (cI rfl), cm 1 rfl rfl, gT [(10, none)] rfl rfl fun hp _ _ h n => ok_fieldAddr rfl fo157_0 (at_RegionSpan_0 _) ((up i10 h n.1)).ptr, gT [(50, some 3)] rfl rfl fun hp _ _ h n => ok_load rfl ty3 (Gd.get n.1 hp), gdT rfl rfl fun hp _ _ h n => ok_moveOA (.inl rfl) (ownAt n.1 (up i8 h n.1)), mT rfl rfl i11, gT [(53, some 6)] rfl rfl fun hp _ _ h n => ok_sub rfl (Gd.get n.1 hp) (cI rfl) (hx8 hp), gT [(52, some 5), (54, some 7)] rfl rfl fun hp _ _ h n => ok_indexAddr rfl Tryz.underlying146 ty157 (IsOwn.rd ((Gd.get n.1 hp)).2) (Gd.get n.2.1 hp) (hx9 hp), gT [(55, some 8)] rfl rfl fun hp _ _ h n => ok_fieldAddr rfl fo157_1 (at_RegionSpan_1 _) (Gd.get n.1 hp), gT [(56, some 9)] rfl rfl fun hp _ _ h n => ok_load rfl ty3 (Gd.get n.1 hp), gT [(51, some 4), (57, some 10)] rfl rfl fun hp _ _ h n => ok_leq rfl (Gd.get n.1 hp) (Gd.get n.2.1 hp), o1 [(49, some 2), (58, some 11)] rfl fun _ _ h n => ok_pickM rfl n.1 hx6 (Gd.get n.2.1) (cB rfl), trivial⟩ W17 fun b q p => ?_
    exact tail_done (k := q) (w15 _ _ ⟨Bs.post ⟨hg, hs, hd⟩ p, p.ke 8 rfl i8, (by rw [p.old 8 rfl]; exact n8), p.ke 10 rfl i10, p.ke 11 rfl i11, p.ke 39 rfl i39, p.ke 40 rfl i40, p.ke 41 rfl i41, p.ou 12 59 rfl, trivial⟩)
   rintro a k ⟨⟨hg, hs, hd⟩, i8, n8, i10, i11, i39, i40, i41, i59, _⟩
   obtain ⟨s5, hs5, hr⟩ := bind_some hr
   refine cut (fun a' k' => Bs noF k0 80 a' k' ∧ IsOwn 0 157 s5 (a'.get 8) k' ∧ Lo k0 (obF (a'.get 8)) ∧ (IsV x4) (a'.get 39) k' ∧ (IsL x4) (a'.get 40) k' ∧ (IsV s4.2) (a'.get 41) k' ∧ True) ?_ hQ ?_
   ·intro Q18 W18 w16
    replace hr := hs5
    clear hQ
    have hQ := W18
    refine wp_cond_split (isBool i59) (fun hc1583 => ?_) (fun hc1583 => ?_)
    ·rw [if_pos hc1583] at hr
     obtain ⟨x11, hx11, hr⟩ := bind_some hr
     obtain ⟨x12, hx12, hr⟩ := bind_some hr
     obtain ⟨x13, hx13, hr⟩ := bind_some hr
     obtain ⟨x14, hx14, hr⟩ := bind_some hr
     obtain ⟨x15, hx15, hr⟩ := bind_some hr
     refine cut (fun a' k' => Bs noF k0 80 a' k' ∧ IsOwn 0 157 x15 (a'.get 8) k' ∧ Lo k0 (obF (a'.get 8)) ∧ (IsV x4) (a'.get 39) k' ∧ (IsL x4) (a'.get 40) k' ∧ (IsV s4.2) (a'.get 41) k' ∧ True) ?_ hQ ?_
     ·intro Q19 W19 w17
      refine region (m := 14) (⟨some (OwnAt (a.get 8) 0 157 s4.1), [(8, none)]⟩ :: _ :: _ :: ⟨some (OwnAt (a.get 8) 0 157 s4.1), [(8, none)]⟩ :: _ :: _ :: _ :: _ :: _ :: _ :: _ :: _ :: ⟨some (IsAdrO (a.get 8) ((x11).toNat * Enc.sz RegionSpan)), [(60, some 0), (62, some 2)]⟩ :: _ :: []) hmix hs (by kernel_rfl) ⟨ob1 rfl fun _ _ h n => ok_moveOA (.inl rfl) (ownAt n.1 (up i8 h n.1)), mu rfl i11, o1 [(61, some 1)] rfl fun _ _ h n => ok_sub rfl n.1 (cI rfl) hx11, ob1 rfl fun _ _ h n => ok_moveOA (.inl rfl) (ownAt n.1 (up i8 h n.1)), mu rfl i11, o1 [(64, some 4)] rfl fun _ _ h n => ok_sub rfl n.1 (cI rfl) hx12, o1 [(63, some 3), (65, some 5)] rfl fun _ _ h n => ok_indexAddr rfl Tryz.underlying146 ty157 (IsOwn.rd (n.1).2) n.2.1 hx13, o1 [(66, some 6)] rfl fun _ _ h n => ok_fieldAddr rfl fo157_1 (at_RegionSpan_1 _) n.1, o1 [(67, some 7)] rfl fun _ _ h n => ok_load rfl ty3 n.1, o1 [(10, none)] rfl fun _ _ h n => ok_fieldAddr rfl fo157_1 (at_RegionSpan_1 _) ((up i10 h n.1)).ptr, o1 [(69, some 9)] rfl fun _ _ h n => ok_load rfl ty3 n.1, o1 [(68, some 8), (70, some 10)] rfl fun _ _ h n => ok_max2 rfl n.1 n.2.1, ob1 rfl fun _ _ h n => ok_indexO rfl Tryz.underlying146 ty157 n.1 n.2.1 hx14, o1 [(72, some 12)] rfl fun _ _ h n => ok_fieldAdrO rfl fo157_1 n.1, trivial⟩ W19 fun b q p => ?_
      have hgq := hg.then p.grow
      have hsb := p.size.trans hs
      have hdb := p.defers.trans hd
      have j8 := p.ke 8 rfl i8
      have y8 : Lo k0 (obF (b.get 8)) := by rw [p.old 8 rfl]; exact n8
      have j39 := p.ke 39 rfl i39
      have j40 := p.ke 40 rfl i40
      have j41 := p.ke 41 rfl i41
      have j71 : (IsI (max x13.to_ x5.to_)) (b.get 71) q := p.ou 11 71 rfl
      have j73 : IsAdrO (a.get 8) ((x11).toNat * Enc.sz RegionSpan + 1) (b.get 73) q := p.ou 13 73 rfl
      have eo : b.get 8 = a.get 8 := p.old 8 rfl
      have hns := j8.nshF
      refine tail_storeS (i := 14) (u := b.get 8) (m := (x11).toNat) (off := 0 + 1) rfl rfl rfl rfl szf3 upd_F157_1 (by rw [eo]; exact j73) j8 (getI_spec hx14).2.1 j71 fun q2 hch hz => ?_
      replace hgq := hgq.step hch y8.wr
      have hle := hch.le hns
      replace j39 := Pers.pers hle j39
      replace j40 := Pers.pers hle j40
      replace j41 := Pers.pers hle j41
      replace j71 := Pers.pers hle j71
      replace j73 := Pers.pers hle j73
      replace j8 := hz
      rw [Option.some.inj hx15] at j8
      clear hns hle hch eo hz
      obtain ⟨q, hqq⟩ : ∃ q, q = q2 := ⟨q2, rfl⟩
      subst hqq
      exact tail_done (k := q) (w17 _ _ ⟨⟨hgq, hsb, hdb⟩, j8, y8, j39, j40, j41, trivial⟩)
     rintro a k ⟨⟨hg, hs, hd⟩, i8, n8, i39, i40, i41, _⟩
     obtain rfl := Option.some.inj hr
     exact w16 _ _ ⟨⟨hg, hs, hd⟩, i8, n8, i39, i40, i41, trivial⟩
    rw [if_neg (by rw [hc1583]; decide)] at hr
    obtain ⟨x16, hx16, hr⟩ := bind_some hr
    refine cut (fun a' k' => Bs noF k0 80 a' k' ∧ IsOwn 0 157 x16 (a'.get 8) k' ∧ Lo k0 (obF (a'.get 8)) ∧ (IsV x4) (a'.get 39) k' ∧ (IsL x4) (a'.get 40) k' ∧ (IsV s4.2) (a'.get 41) k' ∧ True) ?_ hQ ?_
    ·intro Q20 W20 w18
     refine gS 3 (⟨some (OwnAt (a.get 8) 0 157 s4.1), [(8, none)]⟩ :: _ :: ⟨some (IsV (α := (List RegionSpan)) ([x5])), [(75, some 1)]⟩ :: []) hs (by kernel_rfl) ⟨ob1 rfl fun _ _ h n => ok_moveOA (.inl rfl) (ownAt n.1 (up i8 h n.1)), o1 [(10, none)] rfl fun _ _ h n => ok_load rfl ty157 ((up i10 h n.1)).ptr, ob1 rfl fun _ _ h n => ok_buildSlice rfl Tryz.underlying146 eo157 rfl (by decide) (by decide) ⟨rfl, n.1, trivial⟩, trivial⟩ W20 fun b q p => ?_
     have hgq := hg.then p.grow
     have hsb := p.size.trans hs
     have hdb := p.defers.trans hd
     have j39 := p.ke 39 rfl i39
     have j40 := p.ke 40 rfl i40
     have j41 := p.ke 41 rfl i41
     have e74 : b.get 74 = a.get 8 := (p.ou 0 74 rfl).1
     have j74 : IsOwn 0 157 s4.1 (b.get 74) q := (p.ou 0 74 rfl).2
     have y74 : Lo k0 (obF (b.get 74)) := by rw [e74]; exact n8
     have j76 : (IsV (α := (List RegionSpan)) ([x5])) (b.get 76) q := p.ou 2 76 rfl
     have hns := j74.nshF
     refine tail_appendS (i := 3) (d := 77) rfl rfl rfl rfl (by rw [hsb]; decide) (e := 157) Tryz.underlying146 eo157 j74 (IsV.rd j76) hx16 fun b2 q2 hsz hdf hoth hch hown hob => ?_
     have hle := hch.le hns
     have yn : Lo k0 (obF (b2.get 77)) := y74.app hgq hob
     replace j39 := Pers.pers hle j39
     replace j40 := Pers.pers hle j40
     replace j41 := Pers.pers hle j41
     replace j76 := Pers.pers hle j76
     replace hgq := hgq.step hch y74.wr
     rw [← hoth 39 (by decide)] at j39
     rw [← hoth 40 (by decide)] at j40
     rw [← hoth 41 (by decide)] at j41
     rw [← hoth 76 (by decide)] at j76
     have j77 := hown
     have y77 := yn
     replace hsb := hsz.trans hsb
     replace hdb := hdf.trans hdb
     clear hle hch hown hob hns yn hsz hdf hoth
     obtain ⟨b, hbb⟩ : ∃ b, b = b2 := ⟨b2, rfl⟩
     subst hbb
     obtain ⟨q, hqq⟩ : ∃ q, q = q2 := ⟨q2, rfl⟩
     subst hqq
     refine tail_assign (i := 4) (d := 8) rfl rfl (.inl rfl) rfl (by rw [hsb]; decide) fun b2 hsz hdf hnew hoth => ?_
     have jn : (IsOwn 0 157 x16) (b2.get 8) q := by rw [hnew]; exact j77
     have yn : Lo k0 (obF (b2.get 8)) := by rw [hnew]; exact y77
     rw [← hoth 39 (by decide)] at j39
     rw [← hoth 40 (by decide)] at j40
     rw [← hoth 41 (by decide)] at j41
     rw [← hoth 76 (by decide)] at j76
     have j8 := jn
     have y8 := yn
     replace hsb := hsz.trans hsb
     replace hdb := hdf.trans hdb
     clear hsz hdf hoth
     obtain ⟨b, hbb⟩ : ∃ b, b = b2 := ⟨b2, rfl⟩
     subst hbb
     exact tail_done (k := q) (w18 _ _ ⟨⟨hgq, hsb, hdb⟩, j8, y8, j39, j40, j41, trivial⟩)
    rintro a k ⟨⟨hg, hs, hd⟩, i8, n8, i39, i40, i41, _⟩
    obtain rfl := Option.some.inj hr
    exact w16 _ _ ⟨⟨hg, hs, hd⟩, i8, n8, i39, i40, i41, trivial⟩
   clear hs5
   rintro a k ⟨⟨hg, hs, hd⟩, i8, n8, i39, i40, i41, _⟩
   obtain ⟨x17, hx17, hr⟩ := bind_some hr
   refine cut (fun a' k' => Bs noF k0 80 a' k' ∧ IsOwn 0 157 s5 (a'.get 8) k' ∧ Lo k0 (obF (a'.get 8)) ∧ (IsV x4) (a'.get 39) k' ∧ (IsL x4) (a'.get 40) k' ∧ (IsV x17) (a'.get 41) k' ∧ True) ?_ hQ ?_
   ·intro Q21 W21 w19
    refine gS 2 (_ :: _ :: []) hs (by kernel_rfl) ⟨o1 [(41, none)] rfl fun _ _ h n => ok_add rfl (up i41 h n.1) (cI rfl) hx17, cm 0 rfl rfl, trivial⟩ W21 fun b q p => ?_
    exact tail_done (k := q) (w19 _ _ ⟨Bs.post ⟨hg, hs, hd⟩ p, p.ke 8 rfl i8, (by rw [p.old 8 rfl]; exact n8), p.ke 39 rfl i39, p.ke 40 rfl i40, p.ou 1 41 rfl, trivial⟩)
   rintro a k ⟨⟨hg, hs, hd⟩, i8, n8, i39, i40, i41, _⟩
   exact hgo1568 _ _ _ (Option.some.inj hr).symm ⟨⟨hg, hs, hd⟩, i8, n8, i39, i40, i41, trivial⟩
  rw [if_neg (by rw [hc1595]; decide)] at hr
  refine wp_exit ?_
  obtain ⟨kk, sh1594, ii8⟩ := i8.give
  replace i8 := ii8
  replace hg := hg.hand sh1594 n8.wr
  rw [← sh1594.w]
  clear sh1594
  obtain ⟨k, hkk⟩ : ∃ k, k = kk := ⟨kk, rfl⟩
  subst hkk
  exact hex1569 _ _ _ _ (Option.some.inj hr).symm ⟨rfl, ⟨hg, hs, hd⟩, i8, trivial⟩
 ·rintro r2 a k rfl hR
  dsimp only at hr
  obtain rfl := Option.some.inj hr
  exact hR
 ·rintro _ _ _ rfl _
  simp at hr
 clear hf2
 rintro _ s6 a k rfl ⟨rfl, ⟨hg, hs, hd⟩, i8, _⟩
 dsimp only at hr
 refine stepL 2 (_ :: _ :: []) rfl ⟨hg, hs, hd⟩ (by kernel_rfl) ⟨mu rfl i8, cp 0 rfl rfl, trivial⟩ [⟨_, _⟩] (fun b q p => ⟨p.ou 1 4 rfl, trivial⟩) ?_
 rintro a k ⟨⟨hg, hs, hd⟩, i4, _⟩
 refine wp_ret ?_
 obtain rfl := Option.some.inj hr
 exact retC1 rfl hd hg i4
def region_strips_L0 (x1 : (List Rect)) (s1 : (List Int) × Int) : Option (Flow ((List Int) × Int) ((List RegionStrip))) :=
 if (decide (s1.2 < (x1.length : Int))) then
  (getI x1 s1.2).bind fun x2 =>
  (appI s1.1 ([x2.X0, x2.X1])).bind fun x3 =>
  (addI s1.2 1).bind fun x4 =>
  some (.go (x3, x4))
 else
  some (.ex 0 (s1.1, s1.2))
def region_strips_L1 (x1 : (List Rect)) (x2 : (List Int)) (s1 : (List RegionStrip) × Int) : Option (Flow ((List RegionStrip) × Int) ((List RegionStrip))) :=
 if (decide (s1.2 < (x2.length : Int))) then
  (subI s1.2 1).bind fun x3 =>
  (getI x2 x3).bind fun x4 =>
  (getI x2 s1.2).bind fun x5 =>
  (subI s1.2 1).bind fun x6 =>
  (getI x2 x6).bind fun x7 =>
  (region_column x1 x7).bind fun x8 =>
  (appI s1.1 ([(⟨x4, x5, x8⟩ : RegionStrip)])).bind fun x9 =>
  (addI s1.2 1).bind fun x10 =>
  some (.go (x9, x10))
 else
  some (.ex 2 (s1.1, s1.2))
def region_strips (lists_ : (List (List Rect))) : Option ((List RegionStrip)) :=
 (slices_Concat_Rect lists_).bind fun x1 =>
 (iterL (region_strips_L0 x1) (x1.length + 1) (([] : List Int), 0)).bind fun f1 => match f1 with
  | .go _ => none
  | .ex _ s1 =>
   (sortInts s1.1).bind fun x2 =>
   (compactInts x2).bind fun x3 =>
   (iterL (region_strips_L1 x1 x3) (x1.length + x3.length + ([] : List RegionStrip).length + 1) (([] : List RegionStrip), 1)).bind fun f2 => match f2 with
    | .go _ => none
    | .ex _ s2 =>
     some s2.1
    | .ret r1 => some r1
  | .ret r2 => some r2
theorem region_strips_okO {k0 : K} {v0 : Value} {lists_ : (List (List Rect))} {r : (List RegionStrip)} (i0 : (IsV lists_) v0 k0) (hr : region_strips lists_ = some r) :
  Calls Tryz.prog 95 #[v0] k0.w (Ret k0 (IsOwn k0.w.heap.size 148 r)) := by
 unfold region_strips at hr
 refine Ret.ofC ?_
 refine enterK Tryz.func95 rfl Tryz.ntmps95 (show 1 ≤ 56 by decide) fun a k hk0 hs hd ha => ?_
 obtain ⟨e0, _⟩ := ha
 replace i0 : (IsV lists_) (a.get 0) k := by rw [e0, hk0]; exact i0
 have hQ : Gb.LetsOut (bodyPost Tryz.prog Tryz.f95 (RetC noF k0 (IsOwn k0.w.heap.size 148 r))) := letsOutC
 have hg : Chg noF k0 k := by rw [hk0]; exact Chg.refl _ k0
 refine stepL 1 (⟨some IsE0, []⟩ :: []) rfl ⟨hg, hs, hd⟩ (by kernel_rfl) ⟨ob1 rfl fun b q h n => ok_assign rfl isE0_nil, trivial⟩ [⟨_, _⟩] (fun b q p => ⟨p.ke 0 rfl i0, trivial⟩) ?_
 rintro a k ⟨⟨hg, hs, hd⟩, i0, _⟩
 refine wp_seq ?_
 obtain ⟨x1, hx1, hr⟩ := bind_some hr
 refine cut (fun a' k' => Bs noF k0 56 a' k' ∧ (IsV x1) (a'.get 3) k' ∧ True) ?_ hQ ?_
 ·intro Q1 W1 w1
  refine gS 3 (_ :: _ :: _ :: []) hs (by kernel_rfl) ⟨mu rfl i0, o1 [(9, some 0)] rfl fun _ _ h n => ok_call rfl Tryz.call107 (slices_Concat_Rect_ok n.1 hx1), cp 1 rfl rfl, trivial⟩ W1 fun b q p => ?_
  exact tail_done (k := q) (w1 _ _ ⟨Bs.post ⟨hg, hs, hd⟩ p, p.ou 2 3 rfl, trivial⟩)
 rintro a k ⟨⟨hg, hs, hd⟩, i3, _⟩
 refine cutS (fun c l => Bs noF k0 56 c l ∧ IsV x1 (c.get 3) l ∧ IsOwn 0 3 ([] : List Int) (c.get 4) l ∧ Lo k0 (obF (c.get 4)) ∧ True) ?_ ?_
 ·intro Q2 W2 w2
  refine gS 1 (⟨some IsE0, []⟩ :: []) hs (by kernel_rfl) ⟨ob1 rfl fun b q h n => ok_assign rfl isE0_nil, trivial⟩ W2 fun b q p => ?_
  have hgq := hg.then p.grow
  have hsb := p.size.trans hs
  have hdb := p.defers.trans hd
  have j3 := p.ke 3 rfl i3
  have j4 : IsE0 (b.get 4) q := p.ou 0 4 rfl
  have y4 : Lo k0 (obF (b.get 4)) := j4.lo
  replace j4 : IsOwn 0 3 ([] : List Int) (b.get 4) q := j4.own0
  exact tail_done (k := q) (w2 _ _ ⟨⟨hgq, hsb, hdb⟩, j3, j4, y4, trivial⟩)
 rintro a k ⟨⟨hg, hs, hd⟩, i3, i4, n4, _⟩
 refine wp_seq ?_
 refine cutS (fun c l => Bs noF k0 56 c l ∧ IsV x1 (c.get 3) l ∧ IsOwn 0 3 ([] : List Int) (c.get 4) l ∧ Lo k0 (obF (c.get 4)) ∧ IsV x1 (c.get 11) l ∧ IsL x1 (c.get 12) l ∧ IsI 0 (c.get 13) l ∧ True) ?_ ?_
 ·intro Q3 W3 w3
  refine gS 3 (_ :: _ :: ⟨some (IsI 0), []⟩ :: []) hs (by kernel_rfl) ⟨mu rfl i3, o1 [(11, some 0)] rfl fun _ _ h n => ok_len rfl rfl Tryz.underlying109 (IsV.rd n.1), ob1 rfl fun _ _ h n => ok_move rfl (cI rfl), trivial⟩ W3 fun b q p => ?_
  exact tail_done (k := q) (w3 _ _ ⟨Bs.post ⟨hg, hs, hd⟩ p, p.ke 3 rfl i3, p.ke 4 rfl i4, (by rw [p.old 4 rfl]; exact n4), p.ou 0 11 rfl, p.ou 1 12 rfl, p.ou 2 13 rfl, trivial⟩)
 rintro a k ⟨⟨hg, hs, hd⟩, i3, i4, n4, i11, i12, i13, _⟩
 refine wp_block ?_
 obtain ⟨f1, hf1, hr⟩ := bind_some hr
 refine cutFe f1 (fun s' c l => Bs noF k0 56 c l ∧ IsV x1 (c.get 3) l ∧ IsOwn 0 3 s'.1 (c.get 4) l ∧ Lo k0 (obF (c.get 4)) ∧ IsV x1 (c.get 11) l ∧ IsL x1 (c.get 12) l ∧ IsV s'.2 (c.get 13) l ∧ True) (fun i' s' c l => (i' = 0 ∧ Bs noF k0 56 c l ∧ IsV x1 (c.get 3) l ∧ IsOwn 0 3 s'.1 (c.get 4) l ∧ Lo k0 (obF (c.get 4)) ∧ True)) (fun r' c l => bodyPost Tryz.prog Tryz.f95 (RetC noF k0 (IsOwn k0.w.heap.size 148 r')) .ret c l.w) ?_ hQ ?_ ?_ ?_
 ·intro Q4 W4 hgo hex hret
  refine sim_loop ?_ _ _ _ _ _ hf1 ⟨⟨hg, hs, hd⟩, i3, i4, n4, i11, i12, i13, trivial⟩ Q4 W4 hgo hex hret
  clear hr hf1 hgo hex hret W4 hQ hg hs hd i11 i12 i13 i3 i4 n4
  intro s1 fl_ a k hr hS Q hQ hgo1624 hex1625 hret1626
  obtain ⟨⟨hg, hs, hd⟩, i3, i4, n4, i11, i12, i13, _⟩ := hS
  unfold region_strips_L0 at hr
  refine cutS (fun c l => Bs noF k0 56 c l ∧ IsV x1 (c.get 3) l ∧ IsOwn 0 3 s1.1 (c.get 4) l ∧ Lo k0 (obF (c.get 4)) ∧ IsV x1 (c.get 11) l ∧ IsL x1 (c.get 12) l ∧ IsV s1.2 (c.get 13) l ∧ (IsV (decide (s1.2 < (x1.length : Int)))) (c.get 14) l ∧ True) ?_ ?_
  ·intro Q5 W5 w4
   refine gS 1 (_ :: []) hs (by kernel_rfl) ⟨o1 [(13, none), (12, none)] rfl fun _ _ h n => ok_lss rfl (up i13 h n.1) (up i12 h n.2.1), trivial⟩ W5 fun b q p => ?_
   exact tail_done (k := q) (w4 _ _ ⟨Bs.post ⟨hg, hs, hd⟩ p, p.ke 3 rfl i3, p.ke 4 rfl i4, (by rw [p.old 4 rfl]; exact n4), p.ke 11 rfl i11, p.ke 12 rfl i12, p.ke 13 rfl i13, p.ou 0 14 rfl, trivial⟩)
  rintro a k ⟨⟨hg, hs, hd⟩, i3, i4, n4, i11, i12, i13, i14, _⟩
  refine wp_seq ?_
  refine wp_cond_split (isBool i14) (fun hc1637 => ?_) (fun hc1637 => ?_)
  ·rw [if_pos hc1637] at hr
   refine wp_skip ?_
   refine wp_seq ?_
   refine wp_block ?_
   refine wp_seq ?_
   obtain ⟨x2, hx2, hr⟩ := bind_some hr
   refine cut (fun a' k' => Bs noF k0 56 a' k' ∧ (IsV x1) (a'.get 3) k' ∧ IsOwn 0 3 s1.1 (a'.get 4) k' ∧ Lo k0 (obF (a'.get 4)) ∧ (IsRef x2) (a'.get 6) k' ∧ (IsV x1) (a'.get 11) k' ∧ (IsL x1) (a'.get 12) k' ∧ (IsV s1.2) (a'.get 13) k' ∧ True) ?_ hQ ?_
   ·intro Q6 W6 w5
    refine gS 3 (_ :: _ :: ⟨some (IsBox k.w.heap.size (⟨0, 0, 0, 0⟩ : Rect)), []⟩ :: []) hs (by kernel_rfl) ⟨o1 [(11, none), (13, none)] rfl fun _ _ h n => ok_indexAddr rfl Tryz.underlying109 ty77 (IsV.rd (up i11 h n.1)) (up i13 h n.2.1) hx2, o1 [(15, some 0)] rfl fun _ _ h n => ok_load rfl ty77 n.1, ob1 rfl fun _ _ h n => ok_alloc _ h.size rfl z77, trivial⟩ W6 fun b q p => ?_
    have hgq := hg.then p.grow
    have hsb := p.size.trans hs
    have hdb := p.defers.trans hd
    have j3 := p.ke 3 rfl i3
    have j4 := p.ke 4 rfl i4
    have y4 : Lo k0 (obF (b.get 4)) := by rw [p.old 4 rfl]; exact n4
    obtain ⟨b6, j6, x6, z6⟩ : (IsBox k.w.heap.size (⟨0, 0, 0, 0⟩ : Rect)) (b.get 6) q := p.ou 2 6 rfl
    replace x6 : Lo k (Eq b6) := Lo.eq x6
    have y6 : Lo k0 (Eq b6) := x6.chg hg
    have j11 := p.ke 11 rfl i11
    have j12 := p.ke 12 rfl i12
    have j13 := p.ke 13 rfl i13
    have j16 : (IsV x2) (b.get 16) q := p.ou 1 16 rfl
    have w4_6 : Apart (obF (b.get 4)) (Eq b6) := Apart.new (by rw [p.old 4 rfl]; exact i4.ltF) x6
    have hns := z6.nshF
    refine tail_storeB (i := 3) rfl rfl rfl rfl szf77 (Upd.self (α := Rect)) j6 z6 j16 fun q2 hch hz => ?_
    replace hgq := hgq.step hch y6.wr
    have hle := hch.le hns
    replace j3 := Pers.pers hle j3
    replace j4 := j4.keep hch w4_6 hns
    replace j11 := Pers.pers hle j11
    replace j12 := Pers.pers hle j12
    replace j13 := Pers.pers hle j13
    replace j16 := Pers.pers hle j16
    replace z6 := hz
    clear hns hle hch
    obtain ⟨q, hqq⟩ : ∃ q, q = q2 := ⟨q2, rfl⟩
    subst hqq
    obtain ⟨q2, hsh, jn⟩ := z6.give
    replace j3 := Pers.pers hsh.le j3
    replace j4 := j4.handed hsh w4_6
    replace j11 := Pers.pers hsh.le j11
    replace j12 := Pers.pers hsh.le j12
    replace j13 := Pers.pers hsh.le j13
    rw [← j6] at jn
    replace j6 := jn
    replace hgq := hgq.hand hsh y6.wr
    rw [← hsh.w]
    clear hsh
    obtain ⟨q, hqq⟩ : ∃ q, q = q2 := ⟨q2, rfl⟩
    subst hqq
    exact tail_done (k := q) (w5 _ _ ⟨⟨hgq, hsb, hdb⟩, j3, j4, y4, j6, j11, j12, j13, trivial⟩)
   rintro a k ⟨⟨hg, hs, hd⟩, i3, i4, n4, i6, i11, i12, i13, _⟩
   obtain ⟨x3, hx3, hr⟩ := bind_some hr
   refine cut (fun a' k' => Bs noF k0 56 a' k' ∧ (IsV x1) (a'.get 3) k' ∧ IsOwn 0 3 x3 (a'.get 4) k' ∧ Lo k0 (obF (a'.get 4)) ∧ (IsV x1) (a'.get 11) k' ∧ (IsL x1) (a'.get 12) k' ∧ (IsV s1.2) (a'.get 13) k' ∧ True) ?_ hQ ?_
   ·intro Q7 W7 w6
    refine gS 6 (⟨some (OwnAt (a.get 4) 0 3 s1.1), [(4, none)]⟩ :: _ :: _ :: _ :: _ :: ⟨some (IsV (α := (List Int)) ([x2.X0, x2.X1])), [(19, some 2), (21, some 4)]⟩ :: []) hs (by kernel_rfl) ⟨ob1 rfl fun _ _ h n => ok_moveOA (.inl rfl) (ownAt n.1 (up i4 h n.1)), o1 [(6, none)] rfl fun _ _ h n => ok_fieldAddr rfl fo77_0 (at_Rect_0 _) ((up i6 h n.1)).ptr, o1 [(18, some 1)] rfl fun _ _ h n => ok_load rfl ty3 n.1, o1 [(6, none)] rfl fun _ _ h n => ok_fieldAddr rfl fo77_2 (at_Rect_2 _) ((up i6 h n.1)).ptr, o1 [(20, some 3)] rfl fun _ _ h n => ok_load rfl ty3 n.1, ob1 rfl fun _ _ h n => ok_buildSlice rfl Tryz.underlying43 eo3 rfl (by decide) (by decide) ⟨rfl, n.1, rfl, n.2.1, trivial⟩, trivial⟩ W7 fun b q p => ?_
    have hgq := hg.then p.grow
    have hsb := p.size.trans hs
    have hdb := p.defers.trans hd
    have j3 := p.ke 3 rfl i3
    have j11 := p.ke 11 rfl i11
    have j12 := p.ke 12 rfl i12
    have j13 := p.ke 13 rfl i13
    have e17 : b.get 17 = a.get 4 := (p.ou 0 17 rfl).1
    have j17 : IsOwn 0 3 s1.1 (b.get 17) q := (p.ou 0 17 rfl).2
    have y17 : Lo k0 (obF (b.get 17)) := by rw [e17]; exact n4
    have j22 : (IsV (α := (List Int)) ([x2.X0, x2.X1])) (b.get 22) q := p.ou 5 22 rfl
    have hns := j17.nshF
    refine tail_appendS (i := 6) (d := 23) rfl rfl rfl rfl (by rw [hsb]; decide) (e := 3) Tryz.underlying43 eo3 j17 (IsV.rd j22) hx3 fun b2 q2 hsz hdf hoth hch hown hob => ?_
    have hle := hch.le hns
    have yn : Lo k0 (obF (b2.get 23)) := y17.app hgq hob
    replace j3 := Pers.pers hle j3
    replace j11 := Pers.pers hle j11
    replace j12 := Pers.pers hle j12
    replace j13 := Pers.pers hle j13
    replace j22 := Pers.pers hle j22
    replace hgq := hgq.step hch y17.wr
    rw [← hoth 3 (by decide)] at j3
    rw [← hoth 11 (by decide)] at j11
    rw [← hoth 12 (by decide)] at j12
    rw [← hoth 13 (by decide)] at j13
    rw [← hoth 22 (by decide)] at j22
    have j23 := hown
    have y23 := yn
    replace hsb := hsz.trans hsb
    replace hdb := hdf.trans hdb
    clear hle hch hown hob hns yn hsz hdf hoth
    obtain ⟨b, hbb⟩ : ∃ b, b = b2 := ⟨b2, rfl⟩
    subst hbb
    obtain ⟨q, hqq⟩ : ∃ q, q = q2 := ⟨q2, rfl⟩
    subst hqq
    refine tail_assign (i := 7) (d := 4) rfl rfl (.inl rfl) rfl (by rw [hsb]; decide) fun b2 hsz hdf hnew hoth => ?_
    have jn : (IsOwn 0 3 x3) (b2.get 4) q := by rw [hnew]; exact j23
    have yn : Lo k0 (obF (b2.get 4)) := by rw [hnew]; exact y23
    rw [← hoth 3 (by decide)] at j3
    rw [← hoth 11 (by decide)] at j11
    rw [← hoth 12 (by decide)] at j12
    rw [← hoth 13 (by decide)] at j13
    rw [← hoth 22 (by decide)] at j22
    have j4 := jn
    have y4 := yn
    replace hsb := hsz.trans hsb
    replace hdb := hdf.trans hdb
    clear hsz hdf hoth
    obtain ⟨b, hbb⟩ : ∃ b, b = b2 := ⟨b2, rfl⟩
    subst hbb
    exact tail_done (k := q) (w6 _ _ ⟨⟨hgq, hsb, hdb⟩, j3, j4, y4, j11, j12, j13, trivial⟩)
   rintro a k ⟨⟨hg, hs, hd⟩, i3, i4, n4, i11, i12, i13, _⟩
   obtain ⟨x4, hx4, hr⟩ := bind_some hr
   refine cut (fun a' k' => Bs noF k0 56 a' k' ∧ (IsV x1) (a'.get 3) k' ∧ IsOwn 0 3 x3 (a'.get 4) k' ∧ Lo k0 (obF (a'.get 4)) ∧ (IsV x1) (a'.get 11) k' ∧ (IsL x1) (a'.get 12) k' ∧ (IsV x4) (a'.get 13) k' ∧ True) ?_ hQ ?_
   ·intro Q8 W8 w7
    refine gS 2 (_ :: _ :: []) hs (by kernel_rfl) ⟨o1 [(13, none)] rfl fun _ _ h n => ok_add rfl (up i13 h n.1) (cI rfl) hx4, cm 0 rfl rfl, trivial⟩ W8 fun b q p => ?_
    exact tail_done (k := q) (w7 _ _ ⟨Bs.post ⟨hg, hs, hd⟩ p, p.ke 3 rfl i3, p.ke 4 rfl i4, (by rw [p.old 4 rfl]; exact n4), p.ke 11 rfl i11, p.ke 12 rfl i12, p.ou 1 13 rfl, trivial⟩)
   rintro a k ⟨⟨hg, hs, hd⟩, i3, i4, n4, i11, i12, i13, _⟩
   exact hgo1624 _ _ _ (Option.some.inj hr).symm ⟨⟨hg, hs, hd⟩, i3, i4, n4, i11, i12, i13, trivial⟩
  rw [if_neg (by rw [hc1637]; decide)] at hr
  refine wp_exit ?_
  exact hex1625 _ _ _ _ (Option.some.inj hr).symm ⟨rfl, ⟨hg, hs, hd⟩, i3, i4, n4, trivial⟩
 ·rintro r1 a k rfl hR
  dsimp only at hr
  obtain rfl := Option.some.inj hr
  exact hR
 ·rintro _ _ _ rfl _
  simp at hr
 clear hf1
 rintro _ s2 a k rfl ⟨rfl, ⟨hg, hs, hd⟩, i3, i4, n4, _⟩
 dsimp only at hr
 refine wp_seq ?_
 obtain ⟨x5, hx5, hr⟩ := bind_some hr
 refine cut (fun a' k' => Bs noF k0 56 a' k' ∧ (IsV x1) (a'.get 3) k' ∧ IsOwn 0 3 x5 (a'.get 4) k' ∧ Lo k0 (obF (a'.get 4)) ∧ True) ?_ hQ ?_
 ·intro Q9 W9 w8
  refine gS 1 (⟨some (OwnAt (a.get 4) 0 3 s2.1), [(4, none)]⟩ :: []) hs (by kernel_rfl) ⟨ob1 rfl fun _ _ h n => ok_moveOA (.inl rfl) (ownAt n.1 (up i4 h n.1)), trivial⟩ W9 fun b q p => ?_
  have hgq := hg.then p.grow
  have hsb := p.size.trans hs
  have hdb := p.defers.trans hd
  have j3 := p.ke 3 rfl i3
  have j4 := p.ke 4 rfl i4
  have y4 : Lo k0 (obF (b.get 4)) := by rw [p.old 4 rfl]; exact n4
  have e25 : b.get 25 = a.get 4 := (p.ou 0 25 rfl).1
  have j25 : IsOwn 0 3 s2.1 (b.get 25) q := (p.ou 0 25 rfl).2
  have y25 : Lo k0 (obF (b.get 25)) := by rw [e25]; exact n4
  have hns := j25.nshF
  have eS : b.get 4 = b.get 25 := (p.old 4 rfl).trans e25.symm
  refine tail_call (F := obF (b.get 25)) (i := 1) (d := 26) rfl rfl rfl rfl (by rw [hsb]; decide) Tryz.call91 W9 (sortInts_ok j25 hx5) fun b2 q2 hsz hdf hoth hch hres => ?_
  have hle := hch.le hns
  replace j3 := Pers.pers hle j3
  replace hgq := hgq.step hch y25.wr
  replace j4 : IsOwn 0 3 x5 (b.get 4) q2 := by rw [eS]; exact hres
  clear hres eS
  rw [← hoth 3 (by decide)] at j3
  rw [← hoth 4 (by decide)] at j4
  rw [← hoth 4 (by decide)] at y4
  replace hsb := hsz.trans hsb
  replace hdb := hdf.trans hdb
  clear hle hch hns hsz hdf hoth
  obtain ⟨b, hbb⟩ : ∃ b, b = b2 := ⟨b2, rfl⟩
  subst hbb
  obtain ⟨q, hqq⟩ : ∃ q, q = q2 := ⟨q2, rfl⟩
  subst hqq
  exact tail_done (k := q) (w8 _ _ ⟨⟨hgq, hsb, hdb⟩, j3, j4, y4, trivial⟩)
 rintro a k ⟨⟨hg, hs, hd⟩, i3, i4, n4, _⟩
 refine wp_seq ?_
 obtain ⟨x7, hx7, hr⟩ := bind_some hr
 refine cut (fun a' k' => Bs noF k0 56 a' k' ∧ (IsV x1) (a'.get 3) k' ∧ IsOwn 0 3 x7 (a'.get 4) k' ∧ Lo k0 (obF (a'.get 4)) ∧ True) ?_ hQ ?_
 ·intro Q10 W10 w9
  refine gS 1 (⟨some (OwnAt (a.get 4) 0 3 x5), [(4, none)]⟩ :: []) hs (by kernel_rfl) ⟨ob1 rfl fun _ _ h n => ok_moveOA (.inl rfl) (ownAt n.1 (up i4 h n.1)), trivial⟩ W10 fun b q p => ?_
  have hgq := hg.then p.grow
  have hsb := p.size.trans hs
  have hdb := p.defers.trans hd
  have j3 := p.ke 3 rfl i3
  have e27 : b.get 27 = a.get 4 := (p.ou 0 27 rfl).1
  have j27 : IsOwn 0 3 x5 (b.get 27) q := (p.ou 0 27 rfl).2
  have y27 : Lo k0 (obF (b.get 27)) := by rw [e27]; exact n4
  have hns := j27.nshF
  refine tail_call (F := obF (b.get 27)) (i := 1) (d := 28) rfl rfl rfl rfl (by rw [hsb]; decide) Tryz.call92 W10 (compactInts_ok j27 hx7) fun b2 q2 hsz hdf hoth hch hres => ?_
  have hle := hch.le hns
  obtain ⟨hown, hob⟩ := hres
  have yn : Lo k0 (obF (b2.get 28)) := y27.app hgq hob
  replace j3 := Pers.pers hle j3
  replace hgq := hgq.step hch y27.wr
  rw [← hoth 3 (by decide)] at j3
  have j28 := hown
  have y28 := yn
  have hres := True.intro
  clear hown hob yn
  replace hsb := hsz.trans hsb
  replace hdb := hdf.trans hdb
  clear hle hch hres hns hsz hdf hoth
  obtain ⟨b, hbb⟩ : ∃ b, b = b2 := ⟨b2, rfl⟩
  subst hbb
  obtain ⟨q, hqq⟩ : ∃ q, q = q2 := ⟨q2, rfl⟩
  subst hqq
  refine tail_assign (i := 2) (d := 4) rfl rfl (.inl rfl) rfl (by rw [hsb]; decide) fun b2 hsz hdf hnew hoth => ?_
  have jn : (IsOwn 0 3 x7) (b2.get 4) q := by rw [hnew]; exact j28
  have yn : Lo k0 (obF (b2.get 4)) := by rw [hnew]; exact y28
  rw [← hoth 3 (by decide)] at j3
  have j4 := jn
  have y4 := yn
  replace hsb := hsz.trans hsb
  replace hdb := hdf.trans hdb
  clear hsz hdf hoth
  obtain ⟨b, hbb⟩ : ∃ b, b = b2 := ⟨b2, rfl⟩
  subst hbb
  exact tail_done (k := q) (w9 _ _ ⟨⟨hgq, hsb, hdb⟩, j3, j4, y4, trivial⟩)
 rintro a k ⟨⟨hg, hs, hd⟩, i3, i4, n4, _⟩
 refine wp_seq ?_
 obtain ⟨kk, sh1644, ii4⟩ := i4.give
 replace i3 := Pers.pers sh1644.le i3
 replace i4 := ii4
 replace hg := hg.hand sh1644 n4.wr
 rw [← sh1644.w]
 clear sh1644
 obtain ⟨k, hkk⟩ : ∃ k, k = kk := ⟨kk, rfl⟩
 subst hkk
 refine cut (fun a' k' => Bs noF k0 56 a' k' ∧ (IsV x1) (a'.get 3) k' ∧ (IsV x7) (a'.get 4) k' ∧ IsOwn 0 148 ([] : List RegionStrip) (a'.get 7) k' ∧ Lo k0 (obF (a'.get 7)) ∧ True) ?_ hQ ?_
 ·intro Q11 W11 w10
  refine gS 1 (⟨some IsE0, []⟩ :: []) hs (by kernel_rfl) ⟨ob1 rfl fun b q h n => ok_assign rfl isE0_nil, trivial⟩ W11 fun b q p => ?_
  have hgq := hg.then p.grow
  have hsb := p.size.trans hs
  have hdb := p.defers.trans hd
  have j3 := p.ke 3 rfl i3
  have j4 := p.ke 4 rfl i4
  have j7 : IsE0 (b.get 7) q := p.ou 0 7 rfl
  have y7 : Lo k0 (obF (b.get 7)) := j7.lo
  replace j7 : IsOwn 0 148 ([] : List RegionStrip) (b.get 7) q := j7.own0
  exact tail_done (k := q) (w10 _ _ ⟨⟨hgq, hsb, hdb⟩, j3, j4, j7, y7, trivial⟩)
 rintro a k ⟨⟨hg, hs, hd⟩, i3, i4, i7, n7, _⟩
 refine wp_seq ?_
 refine cutS (fun c l => Bs noF k0 56 c l ∧ IsV x1 (c.get 3) l ∧ IsV x7 (c.get 4) l ∧ IsOwn 0 148 ([] : List RegionStrip) (c.get 7) l ∧ Lo k0 (obF (c.get 7)) ∧ IsI 1 (c.get 8) l ∧ True) ?_ ?_
 ·intro Q12 W12 w11
  refine gS 1 (⟨some (IsI 1), []⟩ :: []) hs (by kernel_rfl) ⟨aI rfl rfl, trivial⟩ W12 fun b q p => ?_
  exact tail_done (k := q) (w11 _ _ ⟨Bs.post ⟨hg, hs, hd⟩ p, p.ke 3 rfl i3, p.ke 4 rfl i4, p.ke 7 rfl i7, (by rw [p.old 7 rfl]; exact n7), p.ou 0 8 rfl, trivial⟩)
 rintro a k ⟨⟨hg, hs, hd⟩, i3, i4, i7, n7, i8, _⟩
 refine wp_block ?_
 obtain ⟨f2, hf2, hr⟩ := bind_some hr
 refine cutFe f2 (fun s' c l => Bs noF k0 56 c l ∧ IsV x1 (c.get 3) l ∧ IsV x7 (c.get 4) l ∧ IsOwn 0 148 s'.1 (c.get 7) l ∧ Lo k0 (obF (c.get 7)) ∧ IsV s'.2 (c.get 8) l ∧ True) (fun i' s' c l => (i' = 2 ∧ Bs noF k0 56 c l ∧ IsOwn 0 148 s'.1 (c.get 7) l ∧ Lo k0 (obF (c.get 7)) ∧ True)) (fun r' c l => bodyPost Tryz.prog Tryz.f95 (RetC noF k0 (IsOwn k0.w.heap.size 148 r')) .ret c l.w) ?_ hQ ?_ ?_ ?_
 ·intro Q13 W13 hgo hex hret
  refine sim_loop ?_ _ _ _ _ _ hf2 ⟨⟨hg, hs, hd⟩, i3, i4, i7, n7, i8, trivial⟩ Q13 W13 hgo hex hret
  clear hr hf2 hgo hex hret W13 hQ hg hs hd i3 i4 i7 i8 n7
  intro s3 fl_ a k hr hS Q hQ hgo1648 hex1649 hret1650
  obtain ⟨⟨hg, hs, hd⟩, i3, i4, i7, n7, i8, _⟩ := hS
  unfold region_strips_L1 at hr
  refine wp_seq ?_
  refine cutS (fun c l => Bs noF k0 56 c l ∧ IsV x1 (c.get 3) l ∧ IsV x7 (c.get 4) l ∧ IsOwn 0 148 s3.1 (c.get 7) l ∧ Lo k0 (obF (c.get 7)) ∧ IsV s3.2 (c.get 8) l ∧ (IsV (decide (s3.2 < (x7.length : Int)))) (c.get 32) l ∧ True) ?_ ?_
  ·intro Q14 W14 w12
   refine gS 4 (_ :: _ :: _ :: _ :: []) hs (by kernel_rfl) ⟨mu rfl i8, mu rfl i4, o1 [(30, some 1)] rfl fun _ _ h n => ok_len rfl rfl Tryz.underlying43 (IsV.rd n.1), o1 [(29, some 0), (31, some 2)] rfl fun _ _ h n => ok_lss rfl n.1 n.2.1, trivial⟩ W14 fun b q p => ?_
   exact tail_done (k := q) (w12 _ _ ⟨Bs.post ⟨hg, hs, hd⟩ p, p.ke 3 rfl i3, p.ke 4 rfl i4, p.ke 7 rfl i7, (by rw [p.old 7 rfl]; exact n7), p.ke 8 rfl i8, p.ou 3 32 rfl, trivial⟩)
  rintro a k ⟨⟨hg, hs, hd⟩, i3, i4, i7, n7, i8, i32, _⟩
  refine wp_cond_split (isBool i32) (fun hc1658 => ?_) (fun hc1658 => ?_)
  ·rw [if_pos hc1658] at hr
   refine wp_skip ?_
   refine wp_seq ?_
   refine wp_block ?_
   obtain ⟨x8, hx8, hr⟩ := bind_some hr
   obtain ⟨x9, hx9, hr⟩ := bind_some hr
   obtain ⟨x10, hx10, hr⟩ := bind_some hr
   obtain ⟨x11, hx11, hr⟩ := bind_some hr
   obtain ⟨x12, hx12, hr⟩ := bind_some hr
   obtain ⟨x13, hx13, hr⟩ := bind_some hr
   obtain ⟨x14, hx14, hr⟩ := bind_some hr
   refine cut (fun a' k' => Bs noF k0 56 a' k' ∧ (IsV x1) (a'.get 3) k' ∧ (IsV x7) (a'.get 4) k' ∧ IsOwn 0 148 x14 (a'.get 7) k' ∧ Lo k0 (obF (a'.get 7)) ∧ (IsV s3.2) (a'.get 8) k' ∧ True) ?_ hQ ?_
   ·intro Q15 W15 w13
    refine region (m := 19) (⟨some (OwnAt (a.get 7) 0 148 s3.1), [(7, none)]⟩ :: _ :: _ :: _ :: _ :: _ :: _ :: _ :: _ :: _ :: _ :: _ :: _ :: _ :: _ :: _ :: _ :: ⟨some (IsV (⟨x9, x10, x13⟩ : RegionStrip)), [(40, some 5), (44, some 9), (51, some 16)]⟩ :: ⟨some (IsV (α := (List RegionStrip)) ([(⟨x9, x10, x13⟩ : RegionStrip)])), [(52, some 17)]⟩ :: []) hmix hs (by kernel_rfl) ⟨ob1 rfl fun _ _ h n => ok_moveOA (.inl rfl) (ownAt n.1 (up i7 h n.1)), mu rfl i4, mu rfl i8, o1 [(37, some 2)] rfl fun _ _ h n => ok_sub rfl n.1 (cI rfl) hx8, o1 [(36, some 1), (38, some 3)] rfl fun _ _ h n => ok_indexAddr rfl Tryz.underlying43 ty3 (IsV.rd n.1) n.2.1 hx9, o1 [(39, some 4)] rfl fun _ _ h n => ok_load rfl ty3 n.1, mu rfl i4, mu rfl i8, o1 [(41, some 6), (42, some 7)] rfl fun _ _ h n => ok_indexAddr rfl Tryz.underlying43 ty3 (IsV.rd n.1) n.2.1 hx10, o1 [(43, some 8)] rfl fun _ _ h n => ok_load rfl ty3 n.1, mu rfl i3, mu rfl i4, mu rfl i8, o1 [(47, some 12)] rfl fun _ _ h n => ok_sub rfl n.1 (cI rfl) hx11, o1 [(46, some 11), (48, some 13)] rfl fun _ _ h n => ok_indexAddr rfl Tryz.underlying43 ty3 (IsV.rd n.1) n.2.1 hx12, o1 [(49, some 14)] rfl fun _ _ h n => ok_load rfl ty3 n.1, o1 [(45, some 10), (50, some 15)] rfl fun _ _ h n => ok_call rfl Tryz.call108 (region_column_ok n.1 n.2.1 hx13), ob1 rfl fun _ _ h n => ok_build rfl (bld148_0_1_2 n.1 n.2.1 n.2.2.1), ob1 rfl fun _ _ h n => ok_buildSlice rfl Tryz.underlying142 eo148 rfl (by decide) (by decide) ⟨rfl, n.1, trivial⟩, trivial⟩ W15 fun b q p => ?_
    have hgq := hg.then p.grow
    have hsb := p.size.trans hs
    have hdb := p.defers.trans hd
    have j3 := p.ke 3 rfl i3
    have j4 := p.ke 4 rfl i4
    have j8 := p.ke 8 rfl i8
    have e35 : b.get 35 = a.get 7 := (p.ou 0 35 rfl).1
    have j35 : IsOwn 0 148 s3.1 (b.get 35) q := (p.ou 0 35 rfl).2
    have y35 : Lo k0 (obF (b.get 35)) := by rw [e35]; exact n7
    have j53 : (IsV (α := (List RegionStrip)) ([(⟨x9, x10, x13⟩ : RegionStrip)])) (b.get 53) q := p.ou 18 53 rfl
    have hns := j35.nshF
    refine tail_appendS (i := 19) (d := 54) rfl rfl rfl rfl (by rw [hsb]; decide) (e := 148) Tryz.underlying142 eo148 j35 (IsV.rd j53) hx14 fun b2 q2 hsz hdf hoth hch hown hob => ?_
    have hle := hch.le hns
    have yn : Lo k0 (obF (b2.get 54)) := y35.app hgq hob
    replace j3 := Pers.pers hle j3
    replace j4 := Pers.pers hle j4
    replace j8 := Pers.pers hle j8
    replace j53 := Pers.pers hle j53
    replace hgq := hgq.step hch y35.wr
    rw [← hoth 3 (by decide)] at j3
    rw [← hoth 4 (by decide)] at j4
    rw [← hoth 8 (by decide)] at j8
    rw [← hoth 53 (by decide)] at j53
    have j54 := hown
    have y54 := yn
    replace hsb := hsz.trans hsb
    replace hdb := hdf.trans hdb
    clear hle hch hown hob hns yn hsz hdf hoth
    obtain ⟨b, hbb⟩ : ∃ b, b = b2 := ⟨b2, rfl⟩
    subst hbb
    obtain ⟨q, hqq⟩ : ∃ q, q = q2 := ⟨q2, rfl⟩
    subst hqq
    refine tail_assign (i := 20) (d := 7) rfl rfl (.inl rfl) rfl (by rw [hsb]; decide) fun b2 hsz hdf hnew hoth => ?_
    have jn : (IsOwn 0 148 x14) (b2.get 7) q := by rw [hnew]; exact j54
    have yn : Lo k0 (obF (b2.get 7)) := by rw [hnew]; exact y54
    rw [← hoth 3 (by decide)] at j3
    rw [← hoth 4 (by decide)] at j4
    rw [← hoth 8 (by decide)] at j8
    rw [← hoth 53 (by decide)] at j53
    have j7 := jn
    have y7 := yn
    replace hsb := hsz.trans hsb
    replace hdb := hdf.trans hdb
    clear hsz hdf hoth
    obtain ⟨b, hbb⟩ : ∃ b, b = b2 := ⟨b2, rfl⟩
    subst hbb
    exact tail_done (k := q) (w13 _ _ ⟨⟨hgq, hsb, hdb⟩, j3, j4, j7, y7, j8, trivial⟩)
   rintro a k ⟨⟨hg, hs, hd⟩, i3, i4, i7, n7, i8, _⟩
   obtain ⟨x15, hx15, hr⟩ := bind_some hr
   refine cut (fun a' k' => Bs noF k0 56 a' k' ∧ (IsV x1) (a'.get 3) k' ∧ (IsV x7) (a'.get 4) k' ∧ IsOwn 0 148 x14 (a'.get 7) k' ∧ Lo k0 (obF (a'.get 7)) ∧ (IsV x15) (a'.get 8) k' ∧ True) ?_ hQ ?_
   ·intro Q16 W16 w14
    refine gS 3 (_ :: _ :: _ :: []) hs (by kernel_rfl) ⟨mu rfl i8, o1 [(33, some 0)] rfl fun _ _ h n => ok_add rfl n.1 (cI rfl) hx15, cp 1 rfl rfl, trivial⟩ W16 fun b q p => ?_
    exact tail_done (k := q) (w14 _ _ ⟨Bs.post ⟨hg, hs, hd⟩ p, p.ke 3 rfl i3, p.ke 4 rfl i4, p.ke 7 rfl i7, (by rw [p.old 7 rfl]; exact n7), p.ou 2 8 rfl, trivial⟩)
   rintro a k ⟨⟨hg, hs, hd⟩, i3, i4, i7, n7, i8, _⟩
   exact hgo1648 _ _ _ (Option.some.inj hr).symm ⟨⟨hg, hs, hd⟩, i3, i4, i7, n7, i8, trivial⟩
  rw [if_neg (by rw [hc1658]; decide)] at hr
  refine wp_exit ?_
  exact hex1649 _ _ _ _ (Option.some.inj hr).symm ⟨rfl, ⟨hg, hs, hd⟩, i7, n7, trivial⟩
 ·rintro r2 a k rfl hR
  dsimp only at hr
  obtain rfl := Option.some.inj hr
  exact hR
 ·rintro _ _ _ rfl _
  simp at hr
 clear hf2
 rintro _ s4 a k rfl ⟨rfl, ⟨hg, hs, hd⟩, i7, n7, _⟩
 dsimp only at hr
 refine cutS (fun c l => Bs noF k0 56 c l ∧ IsOwn 0 148 s4.1 (c.get 2) l ∧ Lo k0 (obF (c.get 2)) ∧ True) ?_ ?_
 ·intro Q17 W17 w15
  refine gS 2 (⟨some (OwnAt (a.get 7) 0 148 s4.1), [(7, none)]⟩ :: ⟨some (OwnAt (a.get 7) 0 148 s4.1), [(55, some 0)]⟩ :: []) hs (by kernel_rfl) ⟨ob1 rfl fun _ _ h n => ok_moveOA (.inl rfl) (ownAt n.1 (up i7 h n.1)), ob1 rfl fun _ _ h n => ok_moveOA (.inr rfl) n.1, trivial⟩ W17 fun b q p => ?_
  have hgq := hg.then p.grow
  have hsb := p.size.trans hs
  have hdb := p.defers.trans hd
  have e2 : b.get 2 = a.get 7 := (p.ou 1 2 rfl).1
  have j2 : IsOwn 0 148 s4.1 (b.get 2) q := (p.ou 1 2 rfl).2
  have y2 : Lo k0 (obF (b.get 2)) := by rw [e2]; exact n7
  exact tail_done (k := q) (w15 _ _ ⟨⟨hgq, hsb, hdb⟩, j2, y2, trivial⟩)
 rintro a k ⟨⟨hg, hs, hd⟩, i2, n2, _⟩
 refine wp_ret ?_
 obtain rfl := Option.some.inj hr
 exact retC1 rfl hd hg (show ResOk _ _ _ (.tmp 2) _ from IsOwn.raise (k0 := k0) i2 n2)
theorem region_strips_ok {k0 : K} {v0 : Value} {lists_ : (List (List Rect))} {r : (List RegionStrip)} (i0 : (IsV lists_) v0 k0) (hr : region_strips lists_ = some r) :
  Calls Tryz.prog 95 #[v0] k0.w (Ret k0 (IsV r)) :=
 ret_give (region_strips_okO i0 hr)
noncomputable def k95 := mkO 95 [.list (.list (.st 2))] [.list (.st 8)] (fun x => region_strips x) Tryz.call95 fun k0 vs x r hG h hr => by obtain ⟨v0, rfl, i0⟩ := h.one; exact region_strips_ok i0 hr
def slices_Equal_span_L0 (s1_ : (List RegionSpan)) (s2_ : (List RegionSpan)) (s1 : Int) : Option (Flow (Int) (Bool)) :=
 if (decide (s1 < (s1_.length : Int))) then
  (getI s1_ s1).bind fun x1 =>
  (getI s2_ s1).bind fun x2 =>
  if (!decide (x1 = x2)) then
   some (.ret false)
  else
   (addI s1 1).bind fun x3 =>
   some (.go x3)
 else
  some (.ex 0 s1)
def slices_Equal_span (s1_ : (List RegionSpan)) (s2_ : (List RegionSpan)) : Option (Bool) :=
 if ((s1_.length : Int) != (s2_.length : Int)) then
  some false
 else
  (iterL (slices_Equal_span_L0 s1_ s2_) (s1_.length + 1) 0).bind fun f1 => match f1 with
   | .go _ => none
   | .ex _ _ =>
    some true
   | .ret r1 => some r1
noncomputable def k106 := mk 106 [.list (.st 7), .list (.st 7)] [.bool] (fun x => slices_Equal_span x.1 x.2) [] [] Tryz.f106 (.s .n (.s .n (.s (.s .n (.l [] [(13, .v .int)] [(0, [13], [])] (fI 12) .n)) .n))) Tryz.func106 Tryz.call106 rfl rfl fun x => by kernel_rfl
def region_write_L1 (l_ : (List RegionStrip)) (s1 : (List Rect) × Int) (s2 : Int) : Option (Flow (Int) ((List Rect))) :=
 (if (decide (s2 < (l_.length : Int))) then
  (getI l_ s2).bind fun x1 =>
  (getI l_ s1.2).bind fun x2 =>
  (slices_Equal_span x1.column x2.column).bind fun x3 =>
  some x3
 else
  some false).bind fun x4 =>
 if x4 then
  (addI s2 1).bind fun x5 =>
  some (.go x5)
 else
  some (.ex 2 s2)
def region_write_L2 (l_ : (List RegionStrip)) (s1 : (List Rect) × Int) (s2 : Int) (x2 : RegionStrip) (s3 : (List Rect) × Int) : Option (Flow ((List Rect) × Int) ((List Rect))) :=
 if (decide (s3.2 < (x2.column.length : Int))) then
  (getI x2.column s3.2).bind fun x3 =>
  (getI l_ s1.2).bind fun x4 =>
  (subI s2 1).bind fun x5 =>
  (getI l_ x5).bind fun x6 =>
  (appI s3.1 ([(⟨x4.x0, x3.from_, x6.x1, x3.to_⟩ : Rect)])).bind fun x7 =>
  (addI s3.2 1).bind fun x8 =>
  some (.go (x7, x8))
 else
  some (.ex 4 (s3.1, s3.2))
def region_write_L0 (l_ : (List RegionStrip)) (s1 : (List Rect) × Int) : Option (Flow ((List Rect) × Int) ((List Rect))) :=
 if (decide (s1.2 < (l_.length : Int))) then
  (addI s1.2 1).bind fun x1 =>
  (iterL (region_write_L1 l_ s1) (l_.length + s1.1.length + 1) x1).bind fun f1 => match f1 with
   | .go _ => none
   | .ex _ s2 =>
    (getI l_ s1.2).bind fun x2 =>
    (iterL (region_write_L2 l_ s1 s2 x2) (x2.column.length + 1) (s1.1, 0)).bind fun f2 => match f2 with
     | .go _ => none
     | .ex _ s3 =>
      some (.go (s3.1, s2))
     | .ret r1 => some (.ret r1)
   | .ret r2 => some (.ret r2)
 else
  some (.ex 0 (s1.1, s1.2))
def region_write (l_ : (List RegionStrip)) : Option ((List Rect)) :=
 (iterL (region_write_L0 l_) (l_.length + ([] : List Rect).length + 1) (([] : List Rect), 0)).bind fun f1 => match f1 with
  | .go _ => none
  | .ex _ s1 =>
   some s1.1
  | .ret r1 => some r1
noncomputable def k94 := mk 94 [.list (.st 8)] [.list (.st 2)] (fun x => region_write x) [k106] [3, 43, 61] Tryz.f94 (.s .n (.s .n (.s (.s .n (.l [] [(3, .o 77 (.st 2)), (4, .v .int)] [(0, [4], [])] (fL [0, 3]) (.s .n (.s .n (.s (.l [] [(5, .v .int)] [(2, [], [])] (fL [0, 3]) .n) (.s (.s .n (.l [] [(3, .o 77 (.st 2)), (39, .v .int)] [(4, [39], [])] (fI 38) .n)) .n)))))) (.s (.f [3] .n) .n)))) Tryz.func94 Tryz.call94 rfl rfl fun x => by kernel_rfl
theorem region_write_ok {k0 : K} {v0 : Value} {x0 : (List RegionStrip)} {r : (List Rect)} (i0 : IsV x0 v0 k0) (hr : region_write x0 = some r) : Calls Tryz.prog 94 #[v0] k0.w (Ret k0 (IsV r)) := (k94.ok.ok k0 [v0] x0 r (GOk.none (fun _ => rfl) fun _ e => by cases e) i0 hr)
def region_limited (l_ : (List Rect)) : Option ((List Rect) × Int) :=
 if (decide (200 < (l_.length : Int))) then
  some (([] : List Rect), 6)
 else
  some (l_, 0)
noncomputable def k93 := mk 93 [.list (.st 2)] [.list (.st 2), .int] (fun x => region_limited x) [] [] Tryz.f93 (.n) Tryz.func93 Tryz.call93 rfl rfl fun x => by kernel_rfl
theorem region_limited_ok {k0 : K} {v0 : Value} {x0 : (List Rect)} {r : (List Rect) × Int} (i0 : IsV x0 v0 k0) (hr : region_limited x0 = some r) : Calls Tryz.prog 93 #[v0] k0.w (Ret k0 (IsTup2 (IsV r.1) (IsV r.2))) := ret2T (T := tb) (k93.ok.ok k0 [v0] x0 r (GOk.none (fun _ => rfl) fun _ e => by cases e) i0 hr)
def region_Of_L0 (l_ : (List Rect)) (s1 : Int) : Option (Flow (Int) ((List Rect) × Int)) :=
 if (decide (s1 < (l_.length : Int))) then
  (getI l_ s1).bind fun x1 =>
  (rect_Right x1).bind fun x2 =>
  if (!x2) then
   some (.ret (([] : List Rect), 1))
  else
   (addI s1 1).bind fun x3 =>
   some (.go x3)
 else
  some (.ex 0 s1)
def region_Of (l_ : (List Rect)) : Option ((List Rect) × Int) :=
 (iterL (region_Of_L0 l_) (l_.length + 1) 0).bind fun f1 => match f1 with
  | .go _ => none
  | .ex _ _ =>
   if (decide (400 < (l_.length : Int))) then
    some (([] : List Rect), 6)
   else
    (region_strips ([l_])).bind fun x1 =>
    (region_write x1).bind fun x2 =>
    (region_limited x2).bind fun x3 =>
    some (x3.1, x3.2)
  | .ret r1 => some r1
noncomputable def k69 := mk 69 [.list (.st 2)] [.list (.st 2), .int] (fun x => region_Of x) [k63, k95, k94, k93] [] Tryz.f69 (.s .n (.s (.s .n (.l [] [(8, .v .int)] [(0, [8], [])] (fI 7) .n)) .n)) Tryz.func69 Tryz.call69 rfl rfl fun x => by kernel_rfl
theorem region_Of_ok {k0 : K} {v0 : Value} {x0 : (List Rect)} {r : (List Rect) × Int} (i0 : IsV x0 v0 k0) (hr : region_Of x0 = some r) : Calls Tryz.prog 69 #[v0] k0.w (Ret k0 (IsTup2 (IsV r.1) (IsV r.2))) := ret2T (T := tb) (k69.ok.ok k0 [v0] x0 r (GOk.none (fun _ => rfl) fun _ e => by cases e) i0 hr)
def slices_Equal_Rect_L0 (s1_ : (List Rect)) (s2_ : (List Rect)) (s1 : Int) : Option (Flow (Int) (Bool)) :=
 if (decide (s1 < (s1_.length : Int))) then
  (getI s1_ s1).bind fun x1 =>
  (getI s2_ s1).bind fun x2 =>
  if (!decide (x1 = x2)) then
   some (.ret false)
  else
   (addI s1 1).bind fun x3 =>
   some (.go x3)
 else
  some (.ex 0 s1)
def slices_Equal_Rect (s1_ : (List Rect)) (s2_ : (List Rect)) : Option (Bool) :=
 if ((s1_.length : Int) != (s2_.length : Int)) then
  some false
 else
  (iterL (slices_Equal_Rect_L0 s1_ s2_) (s1_.length + 1) 0).bind fun f1 => match f1 with
   | .go _ => none
   | .ex _ _ =>
    some true
   | .ret r1 => some r1
noncomputable def k109 := mk 109 [.list (.st 2), .list (.st 2)] [.bool] (fun x => slices_Equal_Rect x.1 x.2) [] [] Tryz.f109 (.s .n (.s .n (.s (.s .n (.l [] [(13, .v .int)] [(0, [13], [])] (fI 12) .n)) .n))) Tryz.func109 Tryz.call109 rfl rfl fun x => by kernel_rfl
def region_Same (a_ : (List Rect)) (b_ : (List Rect)) : Option (Bool) :=
 (slices_Equal_Rect a_ b_).bind fun x1 =>
 some x1
noncomputable def k96 := mk 96 [.list (.st 2), .list (.st 2)] [.bool] (fun x => region_Same x.1 x.2) [k109] [] Tryz.f96 (.n) Tryz.func96 Tryz.call96 rfl rfl fun x => by kernel_rfl
theorem region_Same_ok {k0 : K} {v0 v1 : Value} {x0 : (List Rect)} {x1 : (List Rect)} {r : Bool} (i0 : IsV x0 v0 k0) (i1 : IsV x1 v1 k0) (hr : region_Same x0 x1 = some r) : Calls Tryz.prog 96 #[v0, v1] k0.w (Ret k0 (IsV r)) := (k96.ok.ok k0 [v0, v1] (x0, x1) r (GOk.none (fun _ => rfl) fun _ e => by cases e) ⟨i0, i1⟩ hr)
def solid_put (out_ : (List Slab)) (x_ : Slab) : Option ((List Slab)) :=
 if ((x_.Area.length : Int) == 0) then
  some out_
 else
  (subI (out_.length : Int) 1).bind fun x1 =>
  (if (decide (0 ≤ x1)) then
   (getI out_ x1).bind fun x2 =>
   some (x2.Z1 == x_.Z0)
  else
   some false).bind fun x3 =>
  (if x3 then
   (getI out_ x1).bind fun x4 =>
   (region_Same x4.Area x_.Area).bind fun x5 =>
   some x5
  else
   some false).bind fun x6 =>
  if x6 then
   (getI out_ x1).bind fun x7 =>
   (some (out_.set (x1).toNat ({ x7 with Z1 := x_.Z1 }))).bind fun x8 =>
   some x8
  else
   (appI out_ ([x_])).bind fun x9 =>
   some x9
theorem solid_put_ok {k0 : K} {v0 v1 : Value} {out_ : (List Slab)} {x_ : Slab} {r : (List Slab)} (i0 : (IsOwn 0 111 out_) v0 k0) (i1 : (IsV x_) v1 k0) (hr : solid_put out_ x_ = some r) :
  Calls Tryz.prog 70 #[v0, v1] k0.w (RetC (obF v0) k0 (IsOwnW v0 k0 111 r)) := by
 unfold solid_put at hr
 refine enterK Tryz.func70 rfl Tryz.ntmps70 (show 2 ≤ 47 by decide) fun a k hk0 hs hd ha => ?_
 obtain ⟨e0, e1, _⟩ := ha
 replace i0 : (IsOwn 0 111 out_) (a.get 0) k := by rw [e0, hk0]; exact i0
 replace i1 : (IsV x_) (a.get 1) k := by rw [e1, hk0]; exact i1
 have n0 : Wr (obF v0) k0 (obF (a.get 0)) := fun b h => .inl (by rwa [e0] at h)
 have hQ : Gb.LetsOut (bodyPost Tryz.prog Tryz.f70 (RetC (obF v0) k0 (IsOwnW v0 k0 111 r))) := letsOutC
 have hg : Chg (obF v0) k0 k := by rw [hk0]; exact Chg.refl _ k0
 refine cutS (fun c l => Bs (obF v0) k0 47 c l ∧ IsOwn 0 111 out_ (c.get 0) l ∧ Wr (obF v0) k0 (obF (c.get 0)) ∧ IsRef x_ (c.get 3) l ∧ True) ?_ ?_
 ·intro Q1 W1 w1
  refine gS 2 (⟨some (IsRef x_), [(1, none)]⟩ :: ⟨some IsE0, []⟩ :: []) hs (by kernel_rfl) ⟨ob1 rfl fun _ _ h n => ok_boxR rfl (up i1 h n.1), ob1 rfl fun b q h n => ok_assign rfl isE0_nil, trivial⟩ W1 fun b q p => ?_
  exact tail_done (k := q) (w1 _ _ ⟨Bs.post ⟨hg, hs, hd⟩ p, p.ke 0 rfl i0, (by rw [p.old 0 rfl]; exact n0), p.ou 0 3 rfl, trivial⟩)
 rintro a k ⟨⟨hg, hs, hd⟩, i0, n0, i3, _⟩
 refine wp_seq ?_
 refine cutS (fun c l => Bs (obF v0) k0 47 c l ∧ IsOwn 0 111 out_ (c.get 0) l ∧ Wr (obF v0) k0 (obF (c.get 0)) ∧ IsRef x_ (c.get 3) l ∧ IsV ((x_.Area.length : Int) == 0) (c.get 9) l ∧ True) ?_ ?_
 ·intro Q2 W2 w2
  refine gS 4 (_ :: _ :: _ :: _ :: []) hs (by kernel_rfl) ⟨o1 [(3, none)] rfl fun _ _ h n => ok_fieldAddr rfl fo111_2 (at_Slab_2 _) ((up i3 h n.1)).ptr, o1 [(6, some 0)] rfl fun _ _ h n => ok_load rfl ty109 n.1, o1 [(7, some 1)] rfl fun _ _ h n => ok_len rfl rfl Tryz.underlying109 (IsV.rd n.1), o1 [(8, some 2)] rfl fun _ _ h n => ok_eqI rfl n.1 (cI rfl), trivial⟩ W2 fun b q p => ?_
  exact tail_done (k := q) (w2 _ _ ⟨Bs.post ⟨hg, hs, hd⟩ p, p.ke 0 rfl i0, (by rw [p.old 0 rfl]; exact n0), p.ke 3 rfl i3, p.ou 3 9 rfl, trivial⟩)
 rintro a k ⟨⟨hg, hs, hd⟩, i0, n0, i3, i9, _⟩
 refine wp_cond_split (isBool i9) (fun hc1919 => ?_) (fun hc1919 => ?_)
 ·rw [if_pos hc1919] at hr
  refine cutS (fun c l => Bs (obF v0) k0 47 c l ∧ IsOwn 0 111 out_ (c.get 4) l ∧ Wr (obF v0) k0 (obF (c.get 4)) ∧ True) ?_ ?_
  ·intro Q3 W3 w3
   refine gS 2 (⟨some (OwnAt (a.get 0) 0 111 out_), [(0, none)]⟩ :: ⟨some (OwnAt (a.get 0) 0 111 out_), [(10, some 0)]⟩ :: []) hs (by kernel_rfl) ⟨ob1 rfl fun _ _ h n => ok_moveOA (.inl rfl) (ownAt n.1 (up i0 h n.1)), ob1 rfl fun _ _ h n => ok_moveOA (.inr rfl) n.1, trivial⟩ W3 fun b q p => ?_
   have hgq := hg.then p.grow
   have hsb := p.size.trans hs
   have hdb := p.defers.trans hd
   have e4 : b.get 4 = a.get 0 := (p.ou 1 4 rfl).1
   have j4 : IsOwn 0 111 out_ (b.get 4) q := (p.ou 1 4 rfl).2
   have y4 : Wr (obF v0) k0 (obF (b.get 4)) := by rw [e4]; exact n0
   exact tail_done (k := q) (w3 _ _ ⟨⟨hgq, hsb, hdb⟩, j4, y4, trivial⟩)
  rintro a k ⟨⟨hg, hs, hd⟩, i4, n4, _⟩
  refine wp_ret ?_
  obtain rfl := Option.some.inj hr
  exact retC1 rfl hd hg (show ResOk _ _ _ (.tmp 4) (IsOwnW _ _ _ _) from ⟨i4, n4⟩)
 rw [if_neg (by rw [hc1919]; decide)] at hr
 refine wp_skip ?_
 refine wp_seq ?_
 refine wp_seq ?_
 obtain ⟨x1, hx1, hr⟩ := bind_some hr
 refine cut (fun a' k' => Bs (obF v0) k0 47 a' k' ∧ IsOwn 0 111 out_ (a'.get 0) k' ∧ Wr (obF v0) k0 (obF (a'.get 0)) ∧ (IsRef x_) (a'.get 3) k' ∧ (IsV x1) (a'.get 5) k' ∧ True) ?_ hQ ?_
 ·intro Q4 W4 w4
  refine gS 4 (⟨some (OwnAt (a.get 0) 0 111 out_), [(0, none)]⟩ :: _ :: _ :: _ :: []) hs (by kernel_rfl) ⟨ob1 rfl fun _ _ h n => ok_moveOA (.inl rfl) (ownAt n.1 (up i0 h n.1)), o1 [(11, some 0)] rfl fun _ _ h n => ok_len rfl rfl Tryz.underlying55 (IsOwn.rd (n.1).2), o1 [(12, some 1)] rfl fun _ _ h n => ok_sub rfl n.1 (cI rfl) hx1, cp 2 rfl rfl, trivial⟩ W4 fun b q p => ?_
  exact tail_done (k := q) (w4 _ _ ⟨Bs.post ⟨hg, hs, hd⟩ p, p.ke 0 rfl i0, (by rw [p.old 0 rfl]; exact n0), p.ke 3 rfl i3, p.ou 3 5 rfl, trivial⟩)
 rintro a k ⟨⟨hg, hs, hd⟩, i0, n0, i3, i5, _⟩
 refine wp_seq ?_
 obtain ⟨x2, hx2, hr⟩ := bind_some hr
 obtain ⟨x3, hx3, hx2⟩ := ite_bind hx2
 obtain ⟨x4, hx4, hr⟩ := bind_some hr
 obtain ⟨x5, hx5, hx4⟩ := ite_bind hx4
 obtain ⟨x6, hx6, hx4⟩ := ite_bind hx4
 refine cut (fun a' k' => Bs (obF v0) k0 47 a' k' ∧ IsOwn 0 111 out_ (a'.get 0) k' ∧ Wr (obF v0) k0 (obF (a'.get 0)) ∧ (IsRef x_) (a'.get 3) k' ∧ (IsV x1) (a'.get 5) k' ∧ (IsV x4) (a'.get 35) k' ∧ True) ?_ hQ ?_
 ·intro Q5 W5 w5
  refine region (m := 22) (_ :: _ :: _ :: ⟨some (Gd ((decide (0 ≤ x1)) = true) (OwnAt (a.get 0) 0 111 out_)), [(0, none)]⟩ :: _ :: _ :: _ :: _ :: _ :: _ :: _ :: _ :: _ :: ⟨some (Gd (x2 = true) (OwnAt (a.get 0) 0 111 out_)), [(0, none)]⟩ :: _ :: _ :: _ :: _ :: _ :: _ :: _ :: _ :: []) hmix hs (by kernel_rfl) ⟨mu rfl i5, o1 [(14, some 0)] rfl fun _ _ h n => ok_geq rfl n.1 (cI rfl), cm 1 rfl rfl, gdT rfl rfl fun hp _ _ h n => ok_moveOA (.inl rfl) (ownAt n.1 (up i0 h n.1)), mT rfl rfl i5, gT [(17, some 3), (18, some 4)] rfl rfl fun hp _ _ h n => ok_indexAddr rfl Tryz.underlying55 ty111 (IsOwn.rd ((Gd.get n.1 hp)).2) (Gd.get n.2.1 hp) (hx3 hp), gT [(19, some 5)] rfl rfl fun hp _ _ h n => ok_fieldAddr rfl fo111_1 (at_Slab_1 _) (Gd.get n.1 hp), gT [(20, some 6)] rfl rfl fun hp _ _ h n => ok_load rfl ty3 (Gd.get n.1 hp), gT [(3, none)] rfl rfl fun hp _ _ h n => ok_fieldAddr rfl fo111_0 (at_Slab_0 _) ((up i3 h n.1)).ptr, gT [(22, some 8)] rfl rfl fun hp _ _ h n => ok_load rfl ty3 (Gd.get n.1 hp), gT [(21, some 7), (23, some 9)] rfl rfl fun hp _ _ h n => ok_eqI rfl (Gd.get n.1 hp) (Gd.get n.2.1 hp), o1 [(16, some 2), (24, some 10)] rfl fun _ _ h n => ok_pickM rfl n.1 hx2 (Gd.get n.2.1) (cB rfl), cm 11 rfl rfl, gdT rfl rfl fun hp _ _ h n => ok_moveOA (.inl rfl) (ownAt n.1 (up i0 h n.1)), mT rfl rfl i5, gT [(27, some 13), (28, some 14)] rfl rfl fun hp _ _ h n => ok_indexAddr rfl Tryz.underlying55 ty111 (IsOwn.rd ((Gd.get n.1 hp)).2) (Gd.get n.2.1 hp) (hx5 hp), gT [(29, some 15)] rfl rfl fun hp _ _ h n => ok_fieldAddr rfl fo111_2 (at_Slab_2 _) (Gd.get n.1 hp), gT [(30, some 16)] rfl rfl fun hp _ _ h n => ok_load rfl ty109 (Gd.get n.1 hp), gT [(3, none)] rfl rfl fun hp _ _ h n => ok_fieldAddr rfl fo111_2 (at_Slab_2 _) ((up i3 h n.1)).ptr, gT [(32, some 18)] rfl rfl fun hp _ _ h n => ok_load rfl ty109 (Gd.get n.1 hp), gT [(31, some 17), (33, some 19)] rfl rfl fun hp _ _ h n => ok_call rfl Tryz.call96 (region_Same_ok (Gd.get n.1 hp) (Gd.get n.2.1 hp) (hx6 hp)), o1 [(26, some 12), (34, some 20)] rfl fun _ _ h n => ok_pickM rfl n.1 hx4 (Gd.get n.2.1) (cB rfl), trivial⟩ W5 fun b q p => ?_
  exact tail_done (k := q) (w5 _ _ ⟨Bs.post ⟨hg, hs, hd⟩ p, p.ke 0 rfl i0, (by rw [p.old 0 rfl]; exact n0), p.ke 3 rfl i3, p.ke 5 rfl i5, p.ou 21 35 rfl, trivial⟩)
 rintro a k ⟨⟨hg, hs, hd⟩, i0, n0, i3, i5, i35, _⟩
 refine wp_cond_split (isBool i35) (fun hc1914 => ?_) (fun hc1914 => ?_)
 ·rw [if_pos hc1914] at hr
  refine wp_seq ?_
  obtain ⟨x7, hx7, hr⟩ := bind_some hr
  obtain ⟨x8, hx8, hr⟩ := bind_some hr
  refine cut (fun a' k' => Bs (obF v0) k0 47 a' k' ∧ IsOwn 0 111 x8 (a'.get 0) k' ∧ Wr (obF v0) k0 (obF (a'.get 0)) ∧ True) ?_ hQ ?_
  ·intro Q6 W6 w6
   refine gS 6 (⟨some (OwnAt (a.get 0) 0 111 out_), [(0, none)]⟩ :: _ :: _ :: _ :: ⟨some (IsAdrO (a.get 0) ((x1).toNat * Enc.sz Slab)), [(36, some 0), (37, some 1)]⟩ :: _ :: []) hs (by kernel_rfl) ⟨ob1 rfl fun _ _ h n => ok_moveOA (.inl rfl) (ownAt n.1 (up i0 h n.1)), mu rfl i5, o1 [(3, none)] rfl fun _ _ h n => ok_fieldAddr rfl fo111_1 (at_Slab_1 _) ((up i3 h n.1)).ptr, o1 [(38, some 2)] rfl fun _ _ h n => ok_load rfl ty3 n.1, ob1 rfl fun _ _ h n => ok_indexO rfl Tryz.underlying55 ty111 n.1 n.2.1 hx7, o1 [(40, some 4)] rfl fun _ _ h n => ok_fieldAdrO rfl fo111_1 n.1, trivial⟩ W6 fun b q p => ?_
   have hgq := hg.then p.grow
   have hsb := p.size.trans hs
   have hdb := p.defers.trans hd
   have j0 := p.ke 0 rfl i0
   have y0 : Wr (obF v0) k0 (obF (b.get 0)) := by rw [p.old 0 rfl]; exact n0
   have j39 : (IsV x_.Z1) (b.get 39) q := p.ou 3 39 rfl
   have j41 : IsAdrO (a.get 0) ((x1).toNat * Enc.sz Slab + 1) (b.get 41) q := p.ou 5 41 rfl
   have eo : b.get 0 = a.get 0 := p.old 0 rfl
   have hns := j0.nshF
   refine tail_storeS (i := 6) (u := b.get 0) (m := (x1).toNat) (off := 0 + 1) rfl rfl rfl rfl szf3 upd_F111_1 (by rw [eo]; exact j41) j0 (getI_spec hx7).2.1 j39 fun q2 hch hz => ?_
   replace hgq := hgq.step hch y0
   have hle := hch.le hns
   replace j39 := Pers.pers hle j39
   replace j41 := Pers.pers hle j41
   replace j0 := hz
   rw [Option.some.inj hx8] at j0
   clear hns hle hch eo hz
   obtain ⟨q, hqq⟩ : ∃ q, q = q2 := ⟨q2, rfl⟩
   subst hqq
   exact tail_done (k := q) (w6 _ _ ⟨⟨hgq, hsb, hdb⟩, j0, y0, trivial⟩)
  rintro a k ⟨⟨hg, hs, hd⟩, i0, n0, _⟩
  refine cutS (fun c l => Bs (obF v0) k0 47 c l ∧ IsOwn 0 111 x8 (c.get 4) l ∧ Wr (obF v0) k0 (obF (c.get 4)) ∧ True) ?_ ?_
  ·intro Q7 W7 w7
   refine gS 2 (⟨some (OwnAt (a.get 0) 0 111 x8), [(0, none)]⟩ :: ⟨some (OwnAt (a.get 0) 0 111 x8), [(42, some 0)]⟩ :: []) hs (by kernel_rfl) ⟨ob1 rfl fun _ _ h n => ok_moveOA (.inl rfl) (ownAt n.1 (up i0 h n.1)), ob1 rfl fun _ _ h n => ok_moveOA (.inr rfl) n.1, trivial⟩ W7 fun b q p => ?_
   have hgq := hg.then p.grow
   have hsb := p.size.trans hs
   have hdb := p.defers.trans hd
   have e4 : b.get 4 = a.get 0 := (p.ou 1 4 rfl).1
   have j4 : IsOwn 0 111 x8 (b.get 4) q := (p.ou 1 4 rfl).2
   have y4 : Wr (obF v0) k0 (obF (b.get 4)) := by rw [e4]; exact n0
   exact tail_done (k := q) (w7 _ _ ⟨⟨hgq, hsb, hdb⟩, j4, y4, trivial⟩)
  rintro a k ⟨⟨hg, hs, hd⟩, i4, n4, _⟩
  refine wp_ret ?_
  obtain rfl := Option.some.inj hr
  exact retC1 rfl hd hg (show ResOk _ _ _ (.tmp 4) (IsOwnW _ _ _ _) from ⟨i4, n4⟩)
 rw [if_neg (by rw [hc1914]; decide)] at hr
 refine wp_skip ?_
 refine wp_seq ?_
 obtain ⟨x9, hx9, hr⟩ := bind_some hr
 refine cut (fun a' k' => Bs (obF v0) k0 47 a' k' ∧ IsOwn 0 111 x9 (a'.get 4) k' ∧ Wr (obF v0) k0 (obF (a'.get 4)) ∧ True) ?_ hQ ?_
 ·intro Q8 W8 w8
  refine gS 3 (⟨some (OwnAt (a.get 0) 0 111 out_), [(0, none)]⟩ :: _ :: ⟨some (IsV (α := (List Slab)) ([x_])), [(44, some 1)]⟩ :: []) hs (by kernel_rfl) ⟨ob1 rfl fun _ _ h n => ok_moveOA (.inl rfl) (ownAt n.1 (up i0 h n.1)), o1 [(3, none)] rfl fun _ _ h n => ok_load rfl ty111 ((up i3 h n.1)).ptr, ob1 rfl fun _ _ h n => ok_buildSlice rfl Tryz.underlying55 eo111 rfl (by decide) (by decide) ⟨rfl, n.1, trivial⟩, trivial⟩ W8 fun b q p => ?_
  have hgq := hg.then p.grow
  have hsb := p.size.trans hs
  have hdb := p.defers.trans hd
  have e43 : b.get 43 = a.get 0 := (p.ou 0 43 rfl).1
  have j43 : IsOwn 0 111 out_ (b.get 43) q := (p.ou 0 43 rfl).2
  have y43 : Wr (obF v0) k0 (obF (b.get 43)) := by rw [e43]; exact n0
  have j45 : (IsV (α := (List Slab)) ([x_])) (b.get 45) q := p.ou 2 45 rfl
  have hns := j43.nshF
  refine tail_appendS (i := 3) (d := 46) rfl rfl rfl rfl (by rw [hsb]; decide) (e := 111) Tryz.underlying55 eo111 j43 (IsV.rd j45) hx9 fun b2 q2 hsz hdf hoth hch hown hob => ?_
  have hle := hch.le hns
  have yn : Wr (obF v0) k0 (obF (b2.get 46)) := y43.app hgq hob
  replace j45 := Pers.pers hle j45
  replace hgq := hgq.step hch y43
  rw [← hoth 45 (by decide)] at j45
  have j46 := hown
  have y46 := yn
  replace hsb := hsz.trans hsb
  replace hdb := hdf.trans hdb
  clear hle hch hown hob hns yn hsz hdf hoth
  obtain ⟨b, hbb⟩ : ∃ b, b = b2 := ⟨b2, rfl⟩
  subst hbb
  obtain ⟨q, hqq⟩ : ∃ q, q = q2 := ⟨q2, rfl⟩
  subst hqq
  refine tail_assign (i := 4) (d := 4) rfl rfl (.inl rfl) rfl (by rw [hsb]; decide) fun b2 hsz hdf hnew hoth => ?_
  have jn : (IsOwn 0 111 x9) (b2.get 4) q := by rw [hnew]; exact j46
  have yn : Wr (obF v0) k0 (obF (b2.get 4)) := by rw [hnew]; exact y46
  rw [← hoth 45 (by decide)] at j45
  have j4 := jn
  have y4 := yn
  replace hsb := hsz.trans hsb
  replace hdb := hdf.trans hdb
  clear hsz hdf hoth
  obtain ⟨b, hbb⟩ : ∃ b, b = b2 := ⟨b2, rfl⟩
  subst hbb
  exact tail_done (k := q) (w8 _ _ ⟨⟨hgq, hsb, hdb⟩, j4, y4, trivial⟩)
 rintro a k ⟨⟨hg, hs, hd⟩, i4, n4, _⟩
 refine wp_ret ?_
 obtain rfl := Option.some.inj hr
 exact retC1 rfl hd hg (show ResOk _ _ _ (.tmp 4) (IsOwnW _ _ _ _) from ⟨i4, n4⟩)
def solid_fits (out_ : (List Slab)) : Option ((List Slab) × Int) :=
 if (decide (80 < (out_.length : Int))) then
  some (([] : List Slab), 6)
 else
  some (out_, 0)
noncomputable def k71 := mk 71 [.list (.st 9)] [.list (.st 9), .int] (fun x => solid_fits x) [] [] Tryz.f71 (.n) Tryz.func71 Tryz.call71 rfl rfl fun x => by kernel_rfl
theorem solid_fits_ok {k0 : K} {v0 : Value} {x0 : (List Slab)} {r : (List Slab) × Int} (i0 : IsV x0 v0 k0) (hr : solid_fits x0 = some r) : Calls Tryz.prog 71 #[v0] k0.w (Ret k0 (IsTup2 (IsV r.1) (IsV r.2))) := ret2T (T := tb) (k71.ok.ok k0 [v0] x0 r (GOk.none (fun _ => rfl) fun _ e => by cases e) i0 hr)
def solid_Of_L0 (l_ : (List Box)) (s1 : (List Slab) × Int) : Option (Flow ((List Slab) × Int) ((List Slab) × Int)) :=
 if (decide (s1.2 < (l_.length : Int))) then
  (getI l_ s1.2).bind fun x1 =>
  (rect_Right x1.Base).bind fun x2 =>
  if ((((!x2) || (decide (x1.Z0 < 0))) || (decide (x1.Z1 ≤ x1.Z0))) || (decide (4096 < x1.Z1))) then
   some (.ret (([] : List Slab), 1))
  else
   (appI s1.1 ([(⟨x1.Z0, x1.Z1, []⟩ : Slab)])).bind fun x3 =>
   (addI s1.2 1).bind fun x4 =>
   some (.go (x3, x4))
 else
  some (.ex 0 (s1.1, s1.2))
def solid_Of_L2 (l_ : (List Box)) (x1 : (List Int)) (s1 : (List Slab) × Int) (s2 : (List Rect) × Int) : Option (Flow ((List Rect) × Int) ((List Slab) × Int)) :=
 if (decide (s2.2 < (l_.length : Int))) then
  (getI l_ s2.2).bind fun x2 =>
  (getI x1 s1.2).bind fun x3 =>
  (if (decide (x2.Z0 < x3)) then
   (subI s1.2 1).bind fun x4 =>
   (getI x1 x4).bind fun x5 =>
   some (decide (x5 < x2.Z1))
  else
   some false).bind fun x6 =>
  (if x6 then
   (appI s2.1 ([x2.Base])).bind fun x7 =>
   some x7
  else
   some s2.1).bind fun s3 =>
  (addI s2.2 1).bind fun x8 =>
  some (.go (s3, x8))
 else
  some (.ex 4 (s2.1, s2.2))
def solid_Of_L1 (l_ : (List Box)) (x1 : (List Int)) (s1 : (List Slab) × Int) : Option (Flow ((List Slab) × Int) ((List Slab) × Int)) :=
 if (decide (s1.2 < (x1.length : Int))) then
  (iterL (solid_Of_L2 l_ x1 s1) (l_.length + 1) (([] : List Rect), 0)).bind fun f1 => match f1 with
   | .go _ => none
   | .ex _ s2 =>
    (region_Of s2.1).bind fun x2 =>
    if (x2.2 != 0) then
     some (.ret (([] : List Slab), x2.2))
    else
     (subI s1.2 1).bind fun x3 =>
     (getI x1 x3).bind fun x4 =>
     (getI x1 s1.2).bind fun x5 =>
     (solid_put s1.1 (⟨x4, x5, x2.1⟩ : Slab)).bind fun x6 =>
     (addI s1.2 1).bind fun x7 =>
     some (.go (x6, x7))
   | .ret r1 => some (.ret r1)
 else
  some (.ex 2 (s1.1, s1.2))
def solid_Of (l_ : (List Box)) : Option ((List Slab) × Int) :=
 (iterL (solid_Of_L0 l_) (l_.length + 1) (([] : List Slab), 0)).bind fun f1 => match f1 with
  | .go _ => none
  | .ex _ s1 =>
   if (decide (200 < (l_.length : Int))) then
    some (([] : List Slab), 6)
   else
    (solid_heights ([s1.1])).bind fun x1 =>
    (iterL (solid_Of_L1 l_ x1) (l_.length + x1.length + ([] : List Slab).length + 1) (([] : List Slab), 1)).bind fun f2 => match f2 with
     | .go _ => none
     | .ex _ s2 =>
      (solid_fits s2.1).bind fun x2 =>
      some (x2.1, x2.2)
     | .ret r1 => some r1
  | .ret r2 => some r2
theorem solid_Of_ok {k0 : K} {v0 : Value} {l_ : (List Box)} {r : (List Slab) × Int} (i0 : (IsV l_) v0 k0) (hr : solid_Of l_ = some r) :
  Calls Tryz.prog 44 #[v0] k0.w (Ret k0 (IsTup2 (IsV r.1) (IsV r.2))) := by
 unfold solid_Of at hr
 refine Ret.ofC ?_
 refine enterK Tryz.func44 rfl Tryz.ntmps44 (show 1 ≤ 117 by decide) fun a k hk0 hs hd ha => ?_
 obtain ⟨e0, _⟩ := ha
 replace i0 : (IsV l_) (a.get 0) k := by rw [e0, hk0]; exact i0
 have hQ : Gb.LetsOut (bodyPost Tryz.prog Tryz.f44 (RetC noF k0 (IsTup2 (IsV r.1) (IsV r.2)))) := letsOutC
 have hg : Chg noF k0 k := by rw [hk0]; exact Chg.refl _ k0
 refine stepL 2 (⟨some IsE0, []⟩ :: ⟨some (IsI 0), []⟩ :: []) rfl ⟨hg, hs, hd⟩ (by kernel_rfl) ⟨ob1 rfl fun b q h n => ok_assign rfl isE0_nil, aI rfl rfl, trivial⟩ [⟨_, _⟩] (fun b q p => ⟨p.ke 0 rfl i0, trivial⟩) ?_
 rintro a k ⟨⟨hg, hs, hd⟩, i0, _⟩
 refine cutS (fun c l => Bs noF k0 117 c l ∧ IsV l_ (c.get 0) l ∧ IsOwn 0 111 ([] : List Slab) (c.get 4) l ∧ Lo k0 (obF (c.get 4)) ∧ True) ?_ ?_
 ·intro Q1 W1 w1
  refine gS 1 (⟨some IsE0, []⟩ :: []) hs (by kernel_rfl) ⟨ob1 rfl fun b q h n => ok_assign rfl isE0_nil, trivial⟩ W1 fun b q p => ?_
  have hgq := hg.then p.grow
  have hsb := p.size.trans hs
  have hdb := p.defers.trans hd
  have j0 := p.ke 0 rfl i0
  have j4 : IsE0 (b.get 4) q := p.ou 0 4 rfl
  have y4 : Lo k0 (obF (b.get 4)) := j4.lo
  replace j4 : IsOwn 0 111 ([] : List Slab) (b.get 4) q := j4.own0
  exact tail_done (k := q) (w1 _ _ ⟨⟨hgq, hsb, hdb⟩, j0, j4, y4, trivial⟩)
 rintro a k ⟨⟨hg, hs, hd⟩, i0, i4, n4, _⟩
 refine wp_seq ?_
 refine cutS (fun c l => Bs noF k0 117 c l ∧ IsV l_ (c.get 0) l ∧ IsOwn 0 111 ([] : List Slab) (c.get 4) l ∧ Lo k0 (obF (c.get 4)) ∧ IsV l_ (c.get 15) l ∧ IsL l_ (c.get 16) l ∧ IsI 0 (c.get 17) l ∧ True) ?_ ?_
 ·intro Q2 W2 w2
  refine gS 3 (_ :: _ :: ⟨some (IsI 0), []⟩ :: []) hs (by kernel_rfl) ⟨mu rfl i0, o1 [(15, some 0)] rfl fun _ _ h n => ok_len rfl rfl Tryz.underlying89 (IsV.rd n.1), ob1 rfl fun _ _ h n => ok_move rfl (cI rfl), trivial⟩ W2 fun b q p => ?_
  exact tail_done (k := q) (w2 _ _ ⟨Bs.post ⟨hg, hs, hd⟩ p, p.ke 0 rfl i0, p.ke 4 rfl i4, (by rw [p.old 4 rfl]; exact n4), p.ou 0 15 rfl, p.ou 1 16 rfl, p.ou 2 17 rfl, trivial⟩)
 rintro a k ⟨⟨hg, hs, hd⟩, i0, i4, n4, i15, i16, i17, _⟩
 refine wp_block ?_
 obtain ⟨f1, hf1, hr⟩ := bind_some hr
 refine cutFe f1 (fun s' c l => Bs noF k0 117 c l ∧ IsV l_ (c.get 0) l ∧ IsOwn 0 111 s'.1 (c.get 4) l ∧ Lo k0 (obF (c.get 4)) ∧ IsV l_ (c.get 15) l ∧ IsL l_ (c.get 16) l ∧ IsV s'.2 (c.get 17) l ∧ True) (fun i' s' c l => (i' = 0 ∧ Bs noF k0 117 c l ∧ IsV l_ (c.get 0) l ∧ IsV s'.1 (c.get 4) l ∧ True)) (fun r' c l => bodyPost Tryz.prog Tryz.f44 (RetC noF k0 (IsTup2 (IsV r'.1) (IsV r'.2))) .ret c l.w) ?_ hQ ?_ ?_ ?_
 ·intro Q3 W3 hgo hex hret
  refine sim_loop ?_ _ _ _ _ _ hf1 ⟨⟨hg, hs, hd⟩, i0, i4, n4, i15, i16, i17, trivial⟩ Q3 W3 hgo hex hret
  clear hr hf1 hgo hex hret W3 hQ hg hs hd i0 i15 i16 i17 i4 n4
  intro s1 fl_ a k hr hS Q hQ hgo1941 hex1942 hret1943
  obtain ⟨⟨hg, hs, hd⟩, i0, i4, n4, i15, i16, i17, _⟩ := hS
  unfold solid_Of_L0 at hr
  refine cutS (fun c l => Bs noF k0 117 c l ∧ IsV l_ (c.get 0) l ∧ IsOwn 0 111 s1.1 (c.get 4) l ∧ Lo k0 (obF (c.get 4)) ∧ IsV l_ (c.get 15) l ∧ IsL l_ (c.get 16) l ∧ IsV s1.2 (c.get 17) l ∧ (IsV (decide (s1.2 < (l_.length : Int)))) (c.get 18) l ∧ True) ?_ ?_
  ·intro Q4 W4 w3
   refine gS 1 (_ :: []) hs (by kernel_rfl) ⟨o1 [(17, none), (16, none)] rfl fun _ _ h n => ok_lss rfl (up i17 h n.1) (up i16 h n.2.1), trivial⟩ W4 fun b q p => ?_
   exact tail_done (k := q) (w3 _ _ ⟨Bs.post ⟨hg, hs, hd⟩ p, p.ke 0 rfl i0, p.ke 4 rfl i4, (by rw [p.old 4 rfl]; exact n4), p.ke 15 rfl i15, p.ke 16 rfl i16, p.ke 17 rfl i17, p.ou 0 18 rfl, trivial⟩)
  rintro a k ⟨⟨hg, hs, hd⟩, i0, i4, n4, i15, i16, i17, i18, _⟩
  refine wp_seq ?_
  refine wp_cond_split (isBool i18) (fun hc1962 => ?_) (fun hc1962 => ?_)
  ·rw [if_pos hc1962] at hr
   refine wp_skip ?_
   refine wp_seq ?_
   refine wp_block ?_
   refine wp_seq ?_
   obtain ⟨x1, hx1, hr⟩ := bind_some hr
   refine cut (fun a' k' => Bs noF k0 117 a' k' ∧ (IsV l_) (a'.get 0) k' ∧ IsOwn 0 111 s1.1 (a'.get 4) k' ∧ Lo k0 (obF (a'.get 4)) ∧ (IsRef x1) (a'.get 6) k' ∧ (IsV l_) (a'.get 15) k' ∧ (IsL l_) (a'.get 16) k' ∧ (IsV s1.2) (a'.get 17) k' ∧ True) ?_ hQ ?_
   ·intro Q5 W5 w4
    refine gS 3 (_ :: _ :: ⟨some (IsBox k.w.heap.size (⟨(⟨0, 0, 0, 0⟩ : Rect), 0, 0⟩ : Box)), []⟩ :: []) hs (by kernel_rfl) ⟨o1 [(15, none), (17, none)] rfl fun _ _ h n => ok_indexAddr rfl Tryz.underlying89 ty79 (IsV.rd (up i15 h n.1)) (up i17 h n.2.1) hx1, o1 [(19, some 0)] rfl fun _ _ h n => ok_load rfl ty79 n.1, ob1 rfl fun _ _ h n => ok_alloc _ h.size rfl z79, trivial⟩ W5 fun b q p => ?_
    have hgq := hg.then p.grow
    have hsb := p.size.trans hs
    have hdb := p.defers.trans hd
    have j0 := p.ke 0 rfl i0
    have j4 := p.ke 4 rfl i4
    have y4 : Lo k0 (obF (b.get 4)) := by rw [p.old 4 rfl]; exact n4
    obtain ⟨b6, j6, x6, z6⟩ : (IsBox k.w.heap.size (⟨(⟨0, 0, 0, 0⟩ : Rect), 0, 0⟩ : Box)) (b.get 6) q := p.ou 2 6 rfl
    replace x6 : Lo k (Eq b6) := Lo.eq x6
    have y6 : Lo k0 (Eq b6) := x6.chg hg
    have j15 := p.ke 15 rfl i15
    have j16 := p.ke 16 rfl i16
    have j17 := p.ke 17 rfl i17
    have j20 : (IsV x1) (b.get 20) q := p.ou 1 20 rfl
    have w4_6 : Apart (obF (b.get 4)) (Eq b6) := Apart.new (by rw [p.old 4 rfl]; exact i4.ltF) x6
    have hns := z6.nshF
    refine tail_storeB (i := 3) rfl rfl rfl rfl szf79 (Upd.self (α := Box)) j6 z6 j20 fun q2 hch hz => ?_
    replace hgq := hgq.step hch y6.wr
    have hle := hch.le hns
    replace j0 := Pers.pers hle j0
    replace j4 := j4.keep hch w4_6 hns
    replace j15 := Pers.pers hle j15
    replace j16 := Pers.pers hle j16
    replace j17 := Pers.pers hle j17
    replace j20 := Pers.pers hle j20
    replace z6 := hz
    clear hns hle hch
    obtain ⟨q, hqq⟩ : ∃ q, q = q2 := ⟨q2, rfl⟩
    subst hqq
    obtain ⟨q2, hsh, jn⟩ := z6.give
    replace j0 := Pers.pers hsh.le j0
    replace j4 := j4.handed hsh w4_6
    replace j15 := Pers.pers hsh.le j15
    replace j16 := Pers.pers hsh.le j16
    replace j17 := Pers.pers hsh.le j17
    rw [← j6] at jn
    replace j6 := jn
    replace hgq := hgq.hand hsh y6.wr
    rw [← hsh.w]
    clear hsh
    obtain ⟨q, hqq⟩ : ∃ q, q = q2 := ⟨q2, rfl⟩
    subst hqq
    exact tail_done (k := q) (w4 _ _ ⟨⟨hgq, hsb, hdb⟩, j0, j4, y4, j6, j15, j16, j17, trivial⟩)
   rintro a k ⟨⟨hg, hs, hd⟩, i0, i4, n4, i6, i15, i16, i17, _⟩
   refine wp_seq ?_
   refine wp_seq ?_
   obtain ⟨x2, hx2, hr⟩ := bind_some hr
   refine cut (fun a' k' => Bs noF k0 117 a' k' ∧ (IsV l_) (a'.get 0) k' ∧ IsOwn 0 111 s1.1 (a'.get 4) k' ∧ Lo k0 (obF (a'.get 4)) ∧ (IsRef x1) (a'.get 6) k' ∧ (IsV l_) (a'.get 15) k' ∧ (IsL l_) (a'.get 16) k' ∧ (IsV s1.2) (a'.get 17) k' ∧ (IsV ((((!x2) || (decide (x1.Z0 < 0))) || (decide (x1.Z1 ≤ x1.Z0))) || (decide (4096 < x1.Z1)))) (a'.get 41) k' ∧ True) ?_ hQ ?_
   ·intro Q6 W6 w5
    refine gS 21 (_ :: _ :: _ :: _ :: _ :: _ :: _ :: _ :: _ :: _ :: _ :: _ :: _ :: _ :: _ :: _ :: _ :: _ :: _ :: _ :: _ :: []) hs (by kernel_rfl) ⟨o1 [(6, none)] rfl fun _ _ h n => ok_fieldAddr rfl fo79_0 (at_Box_0 _) ((up i6 h n.1)).ptr, o1 [(21, some 0)] rfl fun _ _ h n => ok_load rfl ty77 n.1, o1 [(22, some 1)] rfl fun _ _ h n => ok_call rfl Tryz.call63 (rect_Right_ok n.1 hx2), o1 [(23, some 2)] rfl fun _ _ h n => ok_not rfl n.1, cm 3 rfl rfl, gF [(6, none)] rfl rfl fun hp _ _ h n => ok_fieldAddr rfl fo79_1 (at_Box_1 _) ((up i6 h n.1)).ptr, gF [(26, some 5)] rfl rfl fun hp _ _ h n => ok_load rfl ty3 (Gd.get n.1 hp), gF [(27, some 6)] rfl rfl fun hp _ _ h n => ok_lss rfl (Gd.get n.1 hp) (cI rfl), o1 [(25, some 4), (28, some 7)] rfl fun _ _ h n => ok_pickOr rfl n.1 (cB rfl) (Gd.get n.2.1), cm 8 rfl rfl, gF [(6, none)] rfl rfl fun hp _ _ h n => ok_fieldAddr rfl fo79_1 (at_Box_1 _) ((up i6 h n.1)).ptr, gF [(31, some 10)] rfl rfl fun hp _ _ h n => ok_load rfl ty3 (Gd.get n.1 hp), gF [(6, none)] rfl rfl fun hp _ _ h n => ok_fieldAddr rfl fo79_2 (at_Box_2 _) ((up i6 h n.1)).ptr, gF [(33, some 12)] rfl rfl fun hp _ _ h n => ok_load rfl ty3 (Gd.get n.1 hp), gF [(32, some 11), (34, some 13)] rfl rfl fun hp _ _ h n => ok_geq rfl (Gd.get n.1 hp) (Gd.get n.2.1 hp), o1 [(30, some 9), (35, some 14)] rfl fun _ _ h n => ok_pickOr rfl n.1 (cB rfl) (Gd.get n.2.1), cm 15 rfl rfl, gF [(6, none)] rfl rfl fun hp _ _ h n => ok_fieldAddr rfl fo79_2 (at_Box_2 _) ((up i6 h n.1)).ptr, gF [(38, some 17)] rfl rfl fun hp _ _ h n => ok_load rfl ty3 (Gd.get n.1 hp), gF [(39, some 18)] rfl rfl fun hp _ _ h n => ok_gtr rfl (Gd.get n.1 hp) (cI rfl), o1 [(37, some 16), (40, some 19)] rfl fun _ _ h n => ok_pickOr rfl n.1 (cB rfl) (Gd.get n.2.1), trivial⟩ W6 fun b q p => ?_
    exact tail_done (k := q) (w5 _ _ ⟨Bs.post ⟨hg, hs, hd⟩ p, p.ke 0 rfl i0, p.ke 4 rfl i4, (by rw [p.old 4 rfl]; exact n4), p.ke 6 rfl i6, p.ke 15 rfl i15, p.ke 16 rfl i16, p.ke 17 rfl i17, p.ou 20 41 rfl, trivial⟩)
   rintro a k ⟨⟨hg, hs, hd⟩, i0, i4, n4, i6, i15, i16, i17, i41, _⟩
   refine wp_cond_split (isBool i41) (fun hc1956 => ?_) (fun hc1956 => ?_)
   ·rw [if_pos hc1956] at hr
    refine cutL noF k0 117 [⟨2, IsV ([] : List Slab)⟩, ⟨3, IsI 1⟩] ?_ ?_
    ·intro Q7 W7 w6
     refine gS 2 (⟨some IsE0, []⟩ :: ⟨some (IsI 1), []⟩ :: []) hs (by kernel_rfl) ⟨ob1 rfl fun b q h n => ok_assign rfl isE0_nil, aI rfl rfl, trivial⟩ W7 fun b q p => ?_
     have hgq := hg.then p.grow
     have hsb := p.size.trans hs
     have hdb := p.defers.trans hd
     have j2 : IsE0 (b.get 2) q := p.ou 0 2 rfl
     have j3 : (IsI 1) (b.get 3) q := p.ou 1 3 rfl
     replace j2 : IsV ([] : List Slab) (b.get 2) q := j2.isV
     exact tail_done (k := q) (w6 _ _ ⟨⟨hgq, hsb, hdb⟩, j2, j3, trivial⟩)
    rintro a k ⟨⟨hg, hs, hd⟩, i2, i3, _⟩
    refine wp_ret ?_
    exact hret1943 _ _ _ (Option.some.inj hr).symm (retC2 rfl hd hg i2 i3)
   rw [if_neg (by rw [hc1956]; decide)] at hr
   refine wp_skip ?_
   obtain ⟨x3, hx3, hr⟩ := bind_some hr
   refine cut (fun a' k' => Bs noF k0 117 a' k' ∧ (IsV l_) (a'.get 0) k' ∧ IsOwn 0 111 x3 (a'.get 4) k' ∧ Lo k0 (obF (a'.get 4)) ∧ (IsV l_) (a'.get 15) k' ∧ (IsL l_) (a'.get 16) k' ∧ (IsV s1.2) (a'.get 17) k' ∧ True) ?_ hQ ?_
   ·intro Q8 W8 w7
    refine gS 7 (⟨some (OwnAt (a.get 4) 0 111 s1.1), [(4, none)]⟩ :: _ :: _ :: _ :: _ :: ⟨some (IsV (⟨x1.Z0, x1.Z1, []⟩ : Slab)), [(44, some 2), (46, some 4)]⟩ :: ⟨some (IsV (α := (List Slab)) ([(⟨x1.Z0, x1.Z1, []⟩ : Slab)])), [(47, some 5)]⟩ :: []) hs (by kernel_rfl) ⟨ob1 rfl fun _ _ h n => ok_moveOA (.inl rfl) (ownAt n.1 (up i4 h n.1)), o1 [(6, none)] rfl fun _ _ h n => ok_fieldAddr rfl fo79_1 (at_Box_1 _) ((up i6 h n.1)).ptr, o1 [(43, some 1)] rfl fun _ _ h n => ok_load rfl ty3 n.1, o1 [(6, none)] rfl fun _ _ h n => ok_fieldAddr rfl fo79_2 (at_Box_2 _) ((up i6 h n.1)).ptr, o1 [(45, some 3)] rfl fun _ _ h n => ok_load rfl ty3 n.1, ob1 rfl fun _ _ h n => ok_build rfl (bld111_0_1 n.1 n.2.1), ob1 rfl fun _ _ h n => ok_buildSlice rfl Tryz.underlying55 eo111 rfl (by decide) (by decide) ⟨rfl, n.1, trivial⟩, trivial⟩ W8 fun b q p => ?_
    have hgq := hg.then p.grow
    have hsb := p.size.trans hs
    have hdb := p.defers.trans hd
    have j0 := p.ke 0 rfl i0
    have j15 := p.ke 15 rfl i15
    have j16 := p.ke 16 rfl i16
    have j17 := p.ke 17 rfl i17
    have e42 : b.get 42 = a.get 4 := (p.ou 0 42 rfl).1
    have j42 : IsOwn 0 111 s1.1 (b.get 42) q := (p.ou 0 42 rfl).2
    have y42 : Lo k0 (obF (b.get 42)) := by rw [e42]; exact n4
    have j48 : (IsV (α := (List Slab)) ([(⟨x1.Z0, x1.Z1, []⟩ : Slab)])) (b.get 48) q := p.ou 6 48 rfl
    have hns := j42.nshF
    refine tail_appendS (i := 7) (d := 49) rfl rfl rfl rfl (by rw [hsb]; decide) (e := 111) Tryz.underlying55 eo111 j42 (IsV.rd j48) hx3 fun b2 q2 hsz hdf hoth hch hown hob => ?_
    have hle := hch.le hns
    have yn : Lo k0 (obF (b2.get 49)) := y42.app hgq hob
    replace j0 := Pers.pers hle j0
    replace j15 := Pers.pers hle j15
    replace j16 := Pers.pers hle j16
    replace j17 := Pers.pers hle j17
    replace j48 := Pers.pers hle j48
    replace hgq := hgq.step hch y42.wr
    rw [← hoth 0 (by decide)] at j0
    rw [← hoth 15 (by decide)] at j15
    rw [← hoth 16 (by decide)] at j16
    rw [← hoth 17 (by decide)] at j17
    rw [← hoth 48 (by decide)] at j48
    have j49 := hown
    have y49 := yn
    replace hsb := hsz.trans hsb
    replace hdb := hdf.trans hdb
    clear hle hch hown hob hns yn hsz hdf hoth
    obtain ⟨b, hbb⟩ : ∃ b, b = b2 := ⟨b2, rfl⟩
    subst hbb
    obtain ⟨q, hqq⟩ : ∃ q, q = q2 := ⟨q2, rfl⟩
    subst hqq
    refine tail_assign (i := 8) (d := 4) rfl rfl (.inl rfl) rfl (by rw [hsb]; decide) fun b2 hsz hdf hnew hoth => ?_
    have jn : (IsOwn 0 111 x3) (b2.get 4) q := by rw [hnew]; exact j49
    have yn : Lo k0 (obF (b2.get 4)) := by rw [hnew]; exact y49
    rw [← hoth 0 (by decide)] at j0
    rw [← hoth 15 (by decide)] at j15
    rw [← hoth 16 (by decide)] at j16
    rw [← hoth 17 (by decide)] at j17
    rw [← hoth 48 (by decide)] at j48
    have j4 := jn
    have y4 := yn
    replace hsb := hsz.trans hsb
    replace hdb := hdf.trans hdb
    clear hsz hdf hoth
    obtain ⟨b, hbb⟩ : ∃ b, b = b2 := ⟨b2, rfl⟩
    subst hbb
    exact tail_done (k := q) (w7 _ _ ⟨⟨hgq, hsb, hdb⟩, j0, j4, y4, j15, j16, j17, trivial⟩)
   rintro a k ⟨⟨hg, hs, hd⟩, i0, i4, n4, i15, i16, i17, _⟩
   obtain ⟨x4, hx4, hr⟩ := bind_some hr
   refine cut (fun a' k' => Bs noF k0 117 a' k' ∧ (IsV l_) (a'.get 0) k' ∧ IsOwn 0 111 x3 (a'.get 4) k' ∧ Lo k0 (obF (a'.get 4)) ∧ (IsV l_) (a'.get 15) k' ∧ (IsL l_) (a'.get 16) k' ∧ (IsV x4) (a'.get 17) k' ∧ True) ?_ hQ ?_
   ·intro Q9 W9 w8
    refine gS 2 (_ :: _ :: []) hs (by kernel_rfl) ⟨o1 [(17, none)] rfl fun _ _ h n => ok_add rfl (up i17 h n.1) (cI rfl) hx4, cm 0 rfl rfl, trivial⟩ W9 fun b q p => ?_
    exact tail_done (k := q) (w8 _ _ ⟨Bs.post ⟨hg, hs, hd⟩ p, p.ke 0 rfl i0, p.ke 4 rfl i4, (by rw [p.old 4 rfl]; exact n4), p.ke 15 rfl i15, p.ke 16 rfl i16, p.ou 1 17 rfl, trivial⟩)
   rintro a k ⟨⟨hg, hs, hd⟩, i0, i4, n4, i15, i16, i17, _⟩
   exact hgo1941 _ _ _ (Option.some.inj hr).symm ⟨⟨hg, hs, hd⟩, i0, i4, n4, i15, i16, i17, trivial⟩
  rw [if_neg (by rw [hc1962]; decide)] at hr
  refine wp_exit ?_
  obtain ⟨kk, sh1961, ii4⟩ := i4.give
  replace i0 := Pers.pers sh1961.le i0
  replace i4 := ii4
  replace hg := hg.hand sh1961 n4.wr
  rw [← sh1961.w]
  clear sh1961
  obtain ⟨k, hkk⟩ : ∃ k, k = kk := ⟨kk, rfl⟩
  subst hkk
  exact hex1942 _ _ _ _ (Option.some.inj hr).symm ⟨rfl, ⟨hg, hs, hd⟩, i0, i4, trivial⟩
 ·rintro r1 a k rfl hR
  dsimp only at hr
  obtain rfl := Option.some.inj hr
  exact hR
 ·rintro _ _ _ rfl _
  simp at hr
 clear hf1
 rintro _ s2 a k rfl ⟨rfl, ⟨hg, hs, hd⟩, i0, i4, _⟩
 dsimp only at hr
 refine wp_seq ?_
 refine stepL 3 (_ :: _ :: _ :: []) rfl ⟨hg, hs, hd⟩ (by kernel_rfl) ⟨mu rfl i0, o1 [(51, some 0)] rfl fun _ _ h n => ok_len rfl rfl Tryz.underlying89 (IsV.rd n.1), o1 [(52, some 1)] rfl fun _ _ h n => ok_gtr rfl n.1 (cI rfl), trivial⟩ [⟨_, _⟩, ⟨_, _⟩, ⟨_, _⟩] (fun b q p => ⟨p.ke 0 rfl i0, p.ke 4 rfl i4, p.ou 2 53 rfl, trivial⟩) ?_
 rintro a k ⟨⟨hg, hs, hd⟩, i0, i4, i53, _⟩
 refine wp_cond_split (isBool i53) (fun hc2047 => ?_) (fun hc2047 => ?_)
 ·rw [if_pos hc2047] at hr
  refine cutL noF k0 117 [⟨2, IsV ([] : List Slab)⟩, ⟨3, IsI 6⟩] ?_ ?_
  ·intro Q10 W10 w9
   refine gS 2 (⟨some IsE0, []⟩ :: ⟨some (IsI 6), []⟩ :: []) hs (by kernel_rfl) ⟨ob1 rfl fun b q h n => ok_assign rfl isE0_nil, aI rfl rfl, trivial⟩ W10 fun b q p => ?_
   have hgq := hg.then p.grow
   have hsb := p.size.trans hs
   have hdb := p.defers.trans hd
   have j2 : IsE0 (b.get 2) q := p.ou 0 2 rfl
   have j3 : (IsI 6) (b.get 3) q := p.ou 1 3 rfl
   replace j2 : IsV ([] : List Slab) (b.get 2) q := j2.isV
   exact tail_done (k := q) (w9 _ _ ⟨⟨hgq, hsb, hdb⟩, j2, j3, trivial⟩)
  rintro a k ⟨⟨hg, hs, hd⟩, i2, i3, _⟩
  refine wp_ret ?_
  obtain rfl := Option.some.inj hr
  exact retC2 rfl hd hg i2 i3
 rw [if_neg (by rw [hc2047]; decide)] at hr
 refine wp_skip ?_
 refine wp_seq ?_
 obtain ⟨x5, hx5, hr⟩ := bind_some hr
 refine cut (fun a' k' => Bs noF k0 117 a' k' ∧ (IsV l_) (a'.get 0) k' ∧ (IsV x5) (a'.get 7) k' ∧ True) ?_ hQ ?_
 ·intro Q11 W11 w10
  refine gS 4 (_ :: ⟨some (IsV (α := (List (List Slab))) ([s2.1])), [(54, some 0)]⟩ :: _ :: _ :: []) hs (by kernel_rfl) ⟨mu rfl i4, ob1 rfl fun _ _ h n => ok_buildSlice rfl Tryz.underlying138 eo55 rfl (by decide) (by decide) ⟨rfl, n.1, trivial⟩, o1 [(55, some 1)] rfl fun _ _ h n => ok_call rfl Tryz.call68 (solid_heights_ok n.1 hx5), cp 2 rfl rfl, trivial⟩ W11 fun b q p => ?_
  exact tail_done (k := q) (w10 _ _ ⟨Bs.post ⟨hg, hs, hd⟩ p, p.ke 0 rfl i0, p.ou 3 7 rfl, trivial⟩)
 rintro a k ⟨⟨hg, hs, hd⟩, i0, i7, _⟩
 refine cutS (fun c l => Bs noF k0 117 c l ∧ IsV l_ (c.get 0) l ∧ IsV x5 (c.get 7) l ∧ IsOwn 0 111 ([] : List Slab) (c.get 8) l ∧ Lo k0 (obF (c.get 8)) ∧ True) ?_ ?_
 ·intro Q12 W12 w11
  refine gS 1 (⟨some IsE0, []⟩ :: []) hs (by kernel_rfl) ⟨ob1 rfl fun b q h n => ok_assign rfl isE0_nil, trivial⟩ W12 fun b q p => ?_
  have hgq := hg.then p.grow
  have hsb := p.size.trans hs
  have hdb := p.defers.trans hd
  have j0 := p.ke 0 rfl i0
  have j7 := p.ke 7 rfl i7
  have j8 : IsE0 (b.get 8) q := p.ou 0 8 rfl
  have y8 : Lo k0 (obF (b.get 8)) := j8.lo
  replace j8 : IsOwn 0 111 ([] : List Slab) (b.get 8) q := j8.own0
  exact tail_done (k := q) (w11 _ _ ⟨⟨hgq, hsb, hdb⟩, j0, j7, j8, y8, trivial⟩)
 rintro a k ⟨⟨hg, hs, hd⟩, i0, i7, i8, n8, _⟩
 refine wp_seq ?_
 refine cutS (fun c l => Bs noF k0 117 c l ∧ IsV l_ (c.get 0) l ∧ IsV x5 (c.get 7) l ∧ IsOwn 0 111 ([] : List Slab) (c.get 8) l ∧ Lo k0 (obF (c.get 8)) ∧ IsI 1 (c.get 9) l ∧ True) ?_ ?_
 ·intro Q13 W13 w12
  refine gS 1 (⟨some (IsI 1), []⟩ :: []) hs (by kernel_rfl) ⟨aI rfl rfl, trivial⟩ W13 fun b q p => ?_
  exact tail_done (k := q) (w12 _ _ ⟨Bs.post ⟨hg, hs, hd⟩ p, p.ke 0 rfl i0, p.ke 7 rfl i7, p.ke 8 rfl i8, (by rw [p.old 8 rfl]; exact n8), p.ou 0 9 rfl, trivial⟩)
 rintro a k ⟨⟨hg, hs, hd⟩, i0, i7, i8, n8, i9, _⟩
 refine wp_block ?_
 obtain ⟨f2, hf2, hr⟩ := bind_some hr
 refine cutFe f2 (fun s' c l => Bs noF k0 117 c l ∧ IsV l_ (c.get 0) l ∧ IsV x5 (c.get 7) l ∧ IsOwn 0 111 s'.1 (c.get 8) l ∧ Lo k0 (obF (c.get 8)) ∧ IsV s'.2 (c.get 9) l ∧ True) (fun i' s' c l => (i' = 2 ∧ Bs noF k0 117 c l ∧ IsV s'.1 (c.get 8) l ∧ True)) (fun r' c l => bodyPost Tryz.prog Tryz.f44 (RetC noF k0 (IsTup2 (IsV r'.1) (IsV r'.2))) .ret c l.w) ?_ hQ ?_ ?_ ?_
 ·intro Q14 W14 hgo hex hret
  refine sim_loop ?_ _ _ _ _ _ hf2 ⟨⟨hg, hs, hd⟩, i0, i7, i8, n8, i9, trivial⟩ Q14 W14 hgo hex hret
  clear hr hf2 hgo hex hret W14 hQ hg hs hd i0 i7 i8 i9 n8
  intro s3 fl_ a k hr hS Q hQ hgo1975 hex1976 hret1977
  obtain ⟨⟨hg, hs, hd⟩, i0, i7, i8, n8, i9, _⟩ := hS
  unfold solid_Of_L1 at hr
  refine wp_seq ?_
  refine cutS (fun c l => Bs noF k0 117 c l ∧ IsV l_ (c.get 0) l ∧ IsV x5 (c.get 7) l ∧ IsOwn 0 111 s3.1 (c.get 8) l ∧ Lo k0 (obF (c.get 8)) ∧ IsV s3.2 (c.get 9) l ∧ (IsV (decide (s3.2 < (x5.length : Int)))) (c.get 60) l ∧ True) ?_ ?_
  ·intro Q15 W15 w13
   refine gS 4 (_ :: _ :: _ :: _ :: []) hs (by kernel_rfl) ⟨mu rfl i9, mu rfl i7, o1 [(58, some 1)] rfl fun _ _ h n => ok_len rfl rfl Tryz.underlying43 (IsV.rd n.1), o1 [(57, some 0), (59, some 2)] rfl fun _ _ h n => ok_lss rfl n.1 n.2.1, trivial⟩ W15 fun b q p => ?_
   exact tail_done (k := q) (w13 _ _ ⟨Bs.post ⟨hg, hs, hd⟩ p, p.ke 0 rfl i0, p.ke 7 rfl i7, p.ke 8 rfl i8, (by rw [p.old 8 rfl]; exact n8), p.ke 9 rfl i9, p.ou 3 60 rfl, trivial⟩)
  rintro a k ⟨⟨hg, hs, hd⟩, i0, i7, i8, n8, i9, i60, _⟩
  refine wp_cond_split (isBool i60) (fun hc2031 => ?_) (fun hc2031 => ?_)
  ·rw [if_pos hc2031] at hr
   refine wp_skip ?_
   refine wp_seq ?_
   refine wp_block ?_
   refine cutS (fun c l => Bs noF k0 117 c l ∧ IsV l_ (c.get 0) l ∧ IsV x5 (c.get 7) l ∧ IsOwn 0 111 s3.1 (c.get 8) l ∧ Lo k0 (obF (c.get 8)) ∧ IsV s3.2 (c.get 9) l ∧ IsOwn 0 77 ([] : List Rect) (c.get 10) l ∧ Lo k0 (obF (c.get 10)) ∧ Apart (obF (c.get 8)) (obF (c.get 10)) ∧ True) ?_ ?_
   ·intro Q16 W16 w14
    refine gS 1 (⟨some IsE0, []⟩ :: []) hs (by kernel_rfl) ⟨ob1 rfl fun b q h n => ok_assign rfl isE0_nil, trivial⟩ W16 fun b q p => ?_
    have hgq := hg.then p.grow
    have hsb := p.size.trans hs
    have hdb := p.defers.trans hd
    have j0 := p.ke 0 rfl i0
    have j7 := p.ke 7 rfl i7
    have j8 := p.ke 8 rfl i8
    have y8 : Lo k0 (obF (b.get 8)) := by rw [p.old 8 rfl]; exact n8
    have j9 := p.ke 9 rfl i9
    have j10 : IsE0 (b.get 10) q := p.ou 0 10 rfl
    have y10 : Lo k0 (obF (b.get 10)) := j10.lo
    have w8_10 : Apart (obF (b.get 8)) (obF (b.get 10)) := j10.apart.symm
    replace j10 : IsOwn 0 77 ([] : List Rect) (b.get 10) q := j10.own0
    exact tail_done (k := q) (w14 _ _ ⟨⟨hgq, hsb, hdb⟩, j0, j7, j8, y8, j9, j10, y10, w8_10, trivial⟩)
   rintro a k ⟨⟨hg, hs, hd⟩, i0, i7, i8, n8, i9, i10, n10, d8_10, _⟩
   refine wp_seq ?_
   refine cutS (fun c l => Bs noF k0 117 c l ∧ IsV l_ (c.get 0) l ∧ IsV x5 (c.get 7) l ∧ IsOwn 0 111 s3.1 (c.get 8) l ∧ Lo k0 (obF (c.get 8)) ∧ IsV s3.2 (c.get 9) l ∧ IsOwn 0 77 ([] : List Rect) (c.get 10) l ∧ Lo k0 (obF (c.get 10)) ∧ IsV l_ (c.get 63) l ∧ IsL l_ (c.get 64) l ∧ IsI 0 (c.get 65) l ∧ Apart (obF (c.get 8)) (obF (c.get 10)) ∧ True) ?_ ?_
   ·intro Q17 W17 w15
    refine gS 3 (_ :: _ :: ⟨some (IsI 0), []⟩ :: []) hs (by kernel_rfl) ⟨mu rfl i0, o1 [(63, some 0)] rfl fun _ _ h n => ok_len rfl rfl Tryz.underlying89 (IsV.rd n.1), ob1 rfl fun _ _ h n => ok_move rfl (cI rfl), trivial⟩ W17 fun b q p => ?_
    exact tail_done (k := q) (w15 _ _ ⟨Bs.post ⟨hg, hs, hd⟩ p, p.ke 0 rfl i0, p.ke 7 rfl i7, p.ke 8 rfl i8, (by rw [p.old 8 rfl]; exact n8), p.ke 9 rfl i9, p.ke 10 rfl i10, (by rw [p.old 10 rfl]; exact n10), p.ou 0 63 rfl, p.ou 1 64 rfl, p.ou 2 65 rfl, (by rw [p.old 8 rfl, p.old 10 rfl]; exact d8_10), trivial⟩)
   rintro a k ⟨⟨hg, hs, hd⟩, i0, i7, i8, n8, i9, i10, n10, i63, i64, i65, d8_10, _⟩
   refine wp_block ?_
   obtain ⟨f3, hf3, hr⟩ := bind_some hr
   refine cutFe f3 (fun s' c l => Bs noF k0 117 c l ∧ IsV l_ (c.get 0) l ∧ IsV x5 (c.get 7) l ∧ IsOwn 0 111 s3.1 (c.get 8) l ∧ Lo k0 (obF (c.get 8)) ∧ IsV s3.2 (c.get 9) l ∧ IsOwn 0 77 s'.1 (c.get 10) l ∧ Lo k0 (obF (c.get 10)) ∧ IsV l_ (c.get 63) l ∧ IsL l_ (c.get 64) l ∧ IsV s'.2 (c.get 65) l ∧ Apart (obF (c.get 8)) (obF (c.get 10)) ∧ True) (fun i' s' c l => (i' = 4 ∧ Bs noF k0 117 c l ∧ IsV l_ (c.get 0) l ∧ IsV x5 (c.get 7) l ∧ IsOwn 0 111 s3.1 (c.get 8) l ∧ Lo k0 (obF (c.get 8)) ∧ IsV s3.2 (c.get 9) l ∧ IsV s'.1 (c.get 10) l ∧ True)) (fun r' c l => bodyPost Tryz.prog Tryz.f44 (RetC noF k0 (IsTup2 (IsV r'.1) (IsV r'.2))) .ret c l.w) ?_ hQ ?_ ?_ ?_
   ·intro Q18 W18 hgo hex hret
    refine sim_loop ?_ _ _ _ _ _ hf3 ⟨⟨hg, hs, hd⟩, i0, i7, i8, n8, i9, i10, n10, i63, i64, i65, d8_10, trivial⟩ Q18 W18 hgo hex hret
    clear hr hf3 hgo hex hret W18 hQ hg hs hd d8_10 i0 i10 i63 i64 i65 i7 i8 i9 n10 n8
    intro s4 fl_ a k hr hS Q hQ hgo1982 hex1983 hret1984
    obtain ⟨⟨hg, hs, hd⟩, i0, i7, i8, n8, i9, i10, n10, i63, i64, i65, d8_10, _⟩ := hS
    unfold solid_Of_L2 at hr
    refine cutS (fun c l => Bs noF k0 117 c l ∧ IsV l_ (c.get 0) l ∧ IsV x5 (c.get 7) l ∧ IsOwn 0 111 s3.1 (c.get 8) l ∧ Lo k0 (obF (c.get 8)) ∧ IsV s3.2 (c.get 9) l ∧ IsOwn 0 77 s4.1 (c.get 10) l ∧ Lo k0 (obF (c.get 10)) ∧ IsV l_ (c.get 63) l ∧ IsL l_ (c.get 64) l ∧ IsV s4.2 (c.get 65) l ∧ (IsV (decide (s4.2 < (l_.length : Int)))) (c.get 66) l ∧ Apart (obF (c.get 8)) (obF (c.get 10)) ∧ True) ?_ ?_
    ·intro Q19 W19 w16
     refine gS 1 (_ :: []) hs (by kernel_rfl) ⟨o1 [(65, none), (64, none)] rfl fun _ _ h n => ok_lss rfl (up i65 h n.1) (up i64 h n.2.1), trivial⟩ W19 fun b q p => ?_
     exact tail_done (k := q) (w16 _ _ ⟨Bs.post ⟨hg, hs, hd⟩ p, p.ke 0 rfl i0, p.ke 7 rfl i7, p.ke 8 rfl i8, (by rw [p.old 8 rfl]; exact n8), p.ke 9 rfl i9, p.ke 10 rfl i10, (by rw [p.old 10 rfl]; exact n10), p.ke 63 rfl i63, p.ke 64 rfl i64, p.ke 65 rfl i65, p.ou 0 66 rfl, (by rw [p.old 8 rfl, p.old 10 rfl]; exact d8_10), trivial⟩)
    rintro a k ⟨⟨hg, hs, hd⟩, i0, i7, i8, n8, i9, i10, n10, i63, i64, i65, i66, d8_10, _⟩
    refine wp_seq ?_
    refine wp_cond_split (isBool i66) (fun hc2003 => ?_) (fun hc2003 => ?_)
    ·rw [if_pos hc2003] at hr
     refine wp_skip ?_
     refine wp_seq ?_
     refine wp_block ?_
     refine wp_seq ?_
     obtain ⟨x7, hx7, hr⟩ := bind_some hr
     refine cut (fun a' k' => Bs noF k0 117 a' k' ∧ (IsV l_) (a'.get 0) k' ∧ (IsV x5) (a'.get 7) k' ∧ IsOwn 0 111 s3.1 (a'.get 8) k' ∧ Lo k0 (obF (a'.get 8)) ∧ (IsV s3.2) (a'.get 9) k' ∧ IsOwn 0 77 s4.1 (a'.get 10) k' ∧ Lo k0 (obF (a'.get 10)) ∧ (IsRef x7) (a'.get 12) k' ∧ (IsV l_) (a'.get 63) k' ∧ (IsL l_) (a'.get 64) k' ∧ (IsV s4.2) (a'.get 65) k' ∧ Apart (obF (a'.get 8)) (obF (a'.get 10)) ∧ True) ?_ hQ ?_
     ·intro Q20 W20 w17
      refine gS 3 (_ :: _ :: ⟨some (IsBox k.w.heap.size (⟨(⟨0, 0, 0, 0⟩ : Rect), 0, 0⟩ : Box)), []⟩ :: []) hs (by kernel_rfl) ⟨o1 [(63, none), (65, none)] rfl fun _ _ h n => ok_indexAddr rfl Tryz.underlying89 ty79 (IsV.rd (up i63 h n.1)) (up i65 h n.2.1) hx7, o1 [(67, some 0)] rfl fun _ _ h n => ok_load rfl ty79 n.1, ob1 rfl fun _ _ h n => ok_alloc _ h.size rfl z79, trivial⟩ W20 fun b q p => ?_
      have hgq := hg.then p.grow
      have hsb := p.size.trans hs
      have hdb := p.defers.trans hd
      have j0 := p.ke 0 rfl i0
      have j7 := p.ke 7 rfl i7
      have j8 := p.ke 8 rfl i8
      have y8 : Lo k0 (obF (b.get 8)) := by rw [p.old 8 rfl]; exact n8
      have j9 := p.ke 9 rfl i9
      have j10 := p.ke 10 rfl i10
      have y10 : Lo k0 (obF (b.get 10)) := by rw [p.old 10 rfl]; exact n10
      obtain ⟨b12, j12, x12, z12⟩ : (IsBox k.w.heap.size (⟨(⟨0, 0, 0, 0⟩ : Rect), 0, 0⟩ : Box)) (b.get 12) q := p.ou 2 12 rfl
      replace x12 : Lo k (Eq b12) := Lo.eq x12
      have y12 : Lo k0 (Eq b12) := x12.chg hg
      have j63 := p.ke 63 rfl i63
      have j64 := p.ke 64 rfl i64
      have j65 := p.ke 65 rfl i65
      have j68 : (IsV x7) (b.get 68) q := p.ou 1 68 rfl
      have w8_10 : Apart (obF (b.get 8)) (obF (b.get 10)) := by rw [p.old 8 rfl, p.old 10 rfl]; exact d8_10
      have w8_12 : Apart (obF (b.get 8)) (Eq b12) := Apart.new (by rw [p.old 8 rfl]; exact i8.ltF) x12
      have w10_12 : Apart (obF (b.get 10)) (Eq b12) := Apart.new (by rw [p.old 10 rfl]; exact i10.ltF) x12
      have hns := z12.nshF
      refine tail_storeB (i := 3) rfl rfl rfl rfl szf79 (Upd.self (α := Box)) j12 z12 j68 fun q2 hch hz => ?_
      replace hgq := hgq.step hch y12.wr
      have hle := hch.le hns
      replace j0 := Pers.pers hle j0
      replace j7 := Pers.pers hle j7
      replace j8 := j8.keep hch w8_12 hns
      replace j9 := Pers.pers hle j9
      replace j10 := j10.keep hch w10_12 hns
      replace j63 := Pers.pers hle j63
      replace j64 := Pers.pers hle j64
      replace j65 := Pers.pers hle j65
      replace j68 := Pers.pers hle j68
      replace z12 := hz
      clear hns hle hch
      obtain ⟨q, hqq⟩ : ∃ q, q = q2 := ⟨q2, rfl⟩
      subst hqq
      obtain ⟨q2, hsh, jn⟩ := z12.give
      replace j0 := Pers.pers hsh.le j0
      replace j7 := Pers.pers hsh.le j7
      replace j8 := j8.handed hsh w8_12
      replace j9 := Pers.pers hsh.le j9
      replace j10 := j10.handed hsh w10_12
      replace j63 := Pers.pers hsh.le j63
      replace j64 := Pers.pers hsh.le j64
      replace j65 := Pers.pers hsh.le j65
      rw [← j12] at jn
      replace j12 := jn
      replace hgq := hgq.hand hsh y12.wr
      rw [← hsh.w]
      clear hsh
      obtain ⟨q, hqq⟩ : ∃ q, q = q2 := ⟨q2, rfl⟩
      subst hqq
      exact tail_done (k := q) (w17 _ _ ⟨⟨hgq, hsb, hdb⟩, j0, j7, j8, y8, j9, j10, y10, j12, j63, j64, j65, w8_10, trivial⟩)
     rintro a k ⟨⟨hg, hs, hd⟩, i0, i7, i8, n8, i9, i10, n10, i12, i63, i64, i65, d8_10, _⟩
     refine wp_seq ?_
     obtain ⟨x8, hx8, hr⟩ := bind_some hr
     obtain ⟨x9, hx9, hr⟩ := bind_some hr
     obtain ⟨x10, hx10, hx9⟩ := ite_bind hx9
     obtain ⟨x11, hx11, hx9⟩ := ite_bind hx9
     refine cut (fun a' k' => Bs noF k0 117 a' k' ∧ (IsV l_) (a'.get 0) k' ∧ (IsV x5) (a'.get 7) k' ∧ IsOwn 0 111 s3.1 (a'.get 8) k' ∧ Lo k0 (obF (a'.get 8)) ∧ (IsV s3.2) (a'.get 9) k' ∧ IsOwn 0 77 s4.1 (a'.get 10) k' ∧ Lo k0 (obF (a'.get 10)) ∧ (IsRef x7) (a'.get 12) k' ∧ (IsV l_) (a'.get 63) k' ∧ (IsL l_) (a'.get 64) k' ∧ (IsV s4.2) (a'.get 65) k' ∧ (IsV x9) (a'.get 85) k' ∧ Apart (obF (a'.get 8)) (obF (a'.get 10)) ∧ True) ?_ hQ ?_
     ·intro Q21 W21 w18
      refine region (m := 17) (_ :: _ :: _ :: _ :: _ :: _ :: _ :: _ :: _ :: _ :: _ :: _ :: _ :: _ :: _ :: _ :: _ :: []) hmix hs (by kernel_rfl) ⟨o1 [(12, none)] rfl fun _ _ h n => ok_fieldAddr rfl fo79_1 (at_Box_1 _) ((up i12 h n.1)).ptr, o1 [(69, some 0)] rfl fun _ _ h n => ok_load rfl ty3 n.1, mu rfl i7, mu rfl i9, o1 [(71, some 2), (72, some 3)] rfl fun _ _ h n => ok_indexAddr rfl Tryz.underlying43 ty3 (IsV.rd n.1) n.2.1 hx8, o1 [(73, some 4)] rfl fun _ _ h n => ok_load rfl ty3 n.1, o1 [(70, some 1), (74, some 5)] rfl fun _ _ h n => ok_lss rfl n.1 n.2.1, cm 6 rfl rfl, mT rfl rfl i7, mT rfl rfl i9, gT [(78, some 9)] rfl rfl fun hp _ _ h n => ok_sub rfl (Gd.get n.1 hp) (cI rfl) (hx10 hp), gT [(77, some 8), (79, some 10)] rfl rfl fun hp _ _ h n => ok_indexAddr rfl Tryz.underlying43 ty3 (IsV.rd (Gd.get n.1 hp)) (Gd.get n.2.1 hp) (hx11 hp), gT [(80, some 11)] rfl rfl fun hp _ _ h n => ok_load rfl ty3 (Gd.get n.1 hp), gT [(12, none)] rfl rfl fun hp _ _ h n => ok_fieldAddr rfl fo79_2 (at_Box_2 _) ((up i12 h n.1)).ptr, gT [(82, some 13)] rfl rfl fun hp _ _ h n => ok_load rfl ty3 (Gd.get n.1 hp), gT [(81, some 12), (83, some 14)] rfl rfl fun hp _ _ h n => ok_lss rfl (Gd.get n.1 hp) (Gd.get n.2.1 hp), o1 [(76, some 7), (84, some 15)] rfl fun _ _ h n => ok_pickM rfl n.1 hx9 (Gd.get n.2.1) (cB rfl), trivial⟩ W21 fun b q p => ?_
      exact tail_done (k := q) (w18 _ _ ⟨Bs.post ⟨hg, hs, hd⟩ p, p.ke 0 rfl i0, p.ke 7 rfl i7, p.ke 8 rfl i8, (by rw [p.old 8 rfl]; exact n8), p.ke 9 rfl i9, p.ke 10 rfl i10, (by rw [p.old 10 rfl]; exact n10), p.ke 12 rfl i12, p.ke 63 rfl i63, p.ke 64 rfl i64, p.ke 65 rfl i65, p.ou 16 85 rfl, (by rw [p.old 8 rfl, p.old 10 rfl]; exact d8_10), trivial⟩)
     rintro a k ⟨⟨hg, hs, hd⟩, i0, i7, i8, n8, i9, i10, n10, i12, i63, i64, i65, i85, d8_10, _⟩
     obtain ⟨s5, hs5, hr⟩ := bind_some hr
     refine cut (fun a' k' => Bs noF k0 117 a' k' ∧ (IsV l_) (a'.get 0) k' ∧ (IsV x5) (a'.get 7) k' ∧ IsOwn 0 111 s3.1 (a'.get 8) k' ∧ Lo k0 (obF (a'.get 8)) ∧ (IsV s3.2) (a'.get 9) k' ∧ IsOwn 0 77 s5 (a'.get 10) k' ∧ Lo k0 (obF (a'.get 10)) ∧ (IsV l_) (a'.get 63) k' ∧ (IsL l_) (a'.get 64) k' ∧ (IsV s4.2) (a'.get 65) k' ∧ Apart (obF (a'.get 8)) (obF (a'.get 10)) ∧ True) ?_ hQ ?_
     ·intro Q22 W22 w19
      replace hr := hs5
      clear hQ
      have hQ := W22
      refine wp_cond_split (isBool i85) (fun hc1993 => ?_) (fun hc1993 => ?_)
      ·rw [if_pos hc1993] at hr
       obtain ⟨x13, hx13, hr⟩ := bind_some hr
       refine cut (fun a' k' => Bs noF k0 117 a' k' ∧ (IsV l_) (a'.get 0) k' ∧ (IsV x5) (a'.get 7) k' ∧ IsOwn 0 111 s3.1 (a'.get 8) k' ∧ Lo k0 (obF (a'.get 8)) ∧ (IsV s3.2) (a'.get 9) k' ∧ IsOwn 0 77 x13 (a'.get 10) k' ∧ Lo k0 (obF (a'.get 10)) ∧ (IsV l_) (a'.get 63) k' ∧ (IsL l_) (a'.get 64) k' ∧ (IsV s4.2) (a'.get 65) k' ∧ Apart (obF (a'.get 8)) (obF (a'.get 10)) ∧ True) ?_ hQ ?_
       ·intro Q23 W23 w20
        refine gS 4 (⟨some (OwnAt (a.get 10) 0 77 s4.1), [(10, none)]⟩ :: _ :: _ :: ⟨some (IsV (α := (List Rect)) ([x7.Base])), [(88, some 2)]⟩ :: []) hs (by kernel_rfl) ⟨ob1 rfl fun _ _ h n => ok_moveOA (.inl rfl) (ownAt n.1 (up i10 h n.1)), o1 [(12, none)] rfl fun _ _ h n => ok_fieldAddr rfl fo79_0 (at_Box_0 _) ((up i12 h n.1)).ptr, o1 [(87, some 1)] rfl fun _ _ h n => ok_load rfl ty77 n.1, ob1 rfl fun _ _ h n => ok_buildSlice rfl Tryz.underlying109 eo77 rfl (by decide) (by decide) ⟨rfl, n.1, trivial⟩, trivial⟩ W23 fun b q p => ?_
        have hgq := hg.then p.grow
        have hsb := p.size.trans hs
        have hdb := p.defers.trans hd
        have j0 := p.ke 0 rfl i0
        have j7 := p.ke 7 rfl i7
        have j8 := p.ke 8 rfl i8
        have y8 : Lo k0 (obF (b.get 8)) := by rw [p.old 8 rfl]; exact n8
        have j9 := p.ke 9 rfl i9
        have j63 := p.ke 63 rfl i63
        have j64 := p.ke 64 rfl i64
        have j65 := p.ke 65 rfl i65
        have e86 : b.get 86 = a.get 10 := (p.ou 0 86 rfl).1
        have j86 : IsOwn 0 77 s4.1 (b.get 86) q := (p.ou 0 86 rfl).2
        have y86 : Lo k0 (obF (b.get 86)) := by rw [e86]; exact n10
        have j89 : (IsV (α := (List Rect)) ([x7.Base])) (b.get 89) q := p.ou 3 89 rfl
        have w8_86 : Apart (obF (b.get 8)) (obF (b.get 86)) := by rw [p.old 8 rfl, e86]; exact d8_10
        have hns := j86.nshF
        refine tail_appendS (i := 4) (d := 90) rfl rfl rfl rfl (by rw [hsb]; decide) (e := 77) Tryz.underlying109 eo77 j86 (IsV.rd j89) hx13 fun b2 q2 hsz hdf hoth hch hown hob => ?_
        have hle := hch.le hns
        have yn : Lo k0 (obF (b2.get 90)) := y86.app hgq hob
        have v8 : Apart (obF (b.get 8)) (obF (b2.get 90)) := Apart.app w8_86 j8.ltF hob
        replace j0 := Pers.pers hle j0
        replace j7 := Pers.pers hle j7
        replace j8 := j8.keep hch w8_86 hns
        replace j9 := Pers.pers hle j9
        replace j63 := Pers.pers hle j63
        replace j64 := Pers.pers hle j64
        replace j65 := Pers.pers hle j65
        replace j89 := Pers.pers hle j89
        replace hgq := hgq.step hch y86.wr
        rw [← hoth 0 (by decide)] at j0
        rw [← hoth 7 (by decide)] at j7
        rw [← hoth 8 (by decide)] at j8
        rw [← hoth 8 (by decide)] at y8
        rw [← hoth 9 (by decide)] at j9
        rw [← hoth 63 (by decide)] at j63
        rw [← hoth 64 (by decide)] at j64
        rw [← hoth 65 (by decide)] at j65
        rw [← hoth 89 (by decide)] at j89
        rw [← hoth 8 (by decide)] at v8
        have w8_90 := v8
        have j90 := hown
        have y90 := yn
        replace hsb := hsz.trans hsb
        replace hdb := hdf.trans hdb
        clear hle hch hown hob hns yn hsz hdf hoth
        obtain ⟨b, hbb⟩ : ∃ b, b = b2 := ⟨b2, rfl⟩
        subst hbb
        obtain ⟨q, hqq⟩ : ∃ q, q = q2 := ⟨q2, rfl⟩
        subst hqq
        refine tail_assign (i := 5) (d := 10) rfl rfl (.inl rfl) rfl (by rw [hsb]; decide) fun b2 hsz hdf hnew hoth => ?_
        have jn : (IsOwn 0 77 x13) (b2.get 10) q := by rw [hnew]; exact j90
        have yn : Lo k0 (obF (b2.get 10)) := by rw [hnew]; exact y90
        have v8 : Apart (obF (b.get 8)) (obF (b2.get 10)) := by rw [hnew]; exact w8_90
        rw [← hoth 0 (by decide)] at j0
        rw [← hoth 7 (by decide)] at j7
        rw [← hoth 8 (by decide)] at j8
        rw [← hoth 8 (by decide)] at y8
        rw [← hoth 9 (by decide)] at j9
        rw [← hoth 63 (by decide)] at j63
        rw [← hoth 64 (by decide)] at j64
        rw [← hoth 65 (by decide)] at j65
        rw [← hoth 89 (by decide)] at j89
        rw [← hoth 8 (by decide)] at v8
        have w8_10 := v8
        have j10 := jn
        have y10 := yn
        replace hsb := hsz.trans hsb
        replace hdb := hdf.trans hdb
        clear hsz hdf hoth
        obtain ⟨b, hbb⟩ : ∃ b, b = b2 := ⟨b2, rfl⟩
        subst hbb
        exact tail_done (k := q) (w20 _ _ ⟨⟨hgq, hsb, hdb⟩, j0, j7, j8, y8, j9, j10, y10, j63, j64, j65, w8_10, trivial⟩)
       rintro a k ⟨⟨hg, hs, hd⟩, i0, i7, i8, n8, i9, i10, n10, i63, i64, i65, d8_10, _⟩
       obtain rfl := Option.some.inj hr
       exact w19 _ _ ⟨⟨hg, hs, hd⟩, i0, i7, i8, n8, i9, i10, n10, i63, i64, i65, d8_10, trivial⟩
      rw [if_neg (by rw [hc1993]; decide)] at hr
      refine wp_skip ?_
      obtain rfl := Option.some.inj hr
      exact w19 _ _ ⟨⟨hg, hs, hd⟩, i0, i7, i8, n8, i9, i10, n10, i63, i64, i65, d8_10, trivial⟩
     clear hs5
     rintro a k ⟨⟨hg, hs, hd⟩, i0, i7, i8, n8, i9, i10, n10, i63, i64, i65, d8_10, _⟩
     obtain ⟨x14, hx14, hr⟩ := bind_some hr
     refine cut (fun a' k' => Bs noF k0 117 a' k' ∧ (IsV l_) (a'.get 0) k' ∧ (IsV x5) (a'.get 7) k' ∧ IsOwn 0 111 s3.1 (a'.get 8) k' ∧ Lo k0 (obF (a'.get 8)) ∧ (IsV s3.2) (a'.get 9) k' ∧ IsOwn 0 77 s5 (a'.get 10) k' ∧ Lo k0 (obF (a'.get 10)) ∧ (IsV l_) (a'.get 63) k' ∧ (IsL l_) (a'.get 64) k' ∧ (IsV x14) (a'.get 65) k' ∧ Apart (obF (a'.get 8)) (obF (a'.get 10)) ∧ True) ?_ hQ ?_
     ·intro Q24 W24 w21
      refine gS 2 (_ :: _ :: []) hs (by kernel_rfl) ⟨o1 [(65, none)] rfl fun _ _ h n => ok_add rfl (up i65 h n.1) (cI rfl) hx14, cm 0 rfl rfl, trivial⟩ W24 fun b q p => ?_
      exact tail_done (k := q) (w21 _ _ ⟨Bs.post ⟨hg, hs, hd⟩ p, p.ke 0 rfl i0, p.ke 7 rfl i7, p.ke 8 rfl i8, (by rw [p.old 8 rfl]; exact n8), p.ke 9 rfl i9, p.ke 10 rfl i10, (by rw [p.old 10 rfl]; exact n10), p.ke 63 rfl i63, p.ke 64 rfl i64, p.ou 1 65 rfl, (by rw [p.old 8 rfl, p.old 10 rfl]; exact d8_10), trivial⟩)
     rintro a k ⟨⟨hg, hs, hd⟩, i0, i7, i8, n8, i9, i10, n10, i63, i64, i65, d8_10, _⟩
     exact hgo1982 _ _ _ (Option.some.inj hr).symm ⟨⟨hg, hs, hd⟩, i0, i7, i8, n8, i9, i10, n10, i63, i64, i65, d8_10, trivial⟩
    rw [if_neg (by rw [hc2003]; decide)] at hr
    refine wp_exit ?_
    obtain ⟨kk, sh2002, ii10⟩ := i10.give
    replace i0 := Pers.pers sh2002.le i0
    replace i7 := Pers.pers sh2002.le i7
    replace i8 := i8.handed sh2002 d8_10
    replace i9 := Pers.pers sh2002.le i9
    replace i10 := ii10
    replace hg := hg.hand sh2002 n10.wr
    rw [← sh2002.w]
    clear sh2002
    obtain ⟨k, hkk⟩ : ∃ k, k = kk := ⟨kk, rfl⟩
    subst hkk
    exact hex1983 _ _ _ _ (Option.some.inj hr).symm ⟨rfl, ⟨hg, hs, hd⟩, i0, i7, i8, n8, i9, i10, trivial⟩
   ·rintro r2 a k rfl hR
    dsimp only at hr
    exact hret1977 _ _ _ (Option.some.inj hr).symm hR
   ·rintro _ _ _ rfl _
    simp at hr
   clear hf3
   rintro _ s6 a k rfl ⟨rfl, ⟨hg, hs, hd⟩, i0, i7, i8, n8, i9, i10, _⟩
   dsimp only at hr
   refine wp_seq ?_
   obtain ⟨x15, hx15, hr⟩ := bind_some hr
   refine cut (fun a' k' => Bs noF k0 117 a' k' ∧ (IsV l_) (a'.get 0) k' ∧ (IsV x5) (a'.get 7) k' ∧ IsOwn 0 111 s3.1 (a'.get 8) k' ∧ Lo k0 (obF (a'.get 8)) ∧ (IsV s3.2) (a'.get 9) k' ∧ (IsV x15.1) (a'.get 13) k' ∧ (IsV x15.2) (a'.get 14) k' ∧ True) ?_ hQ ?_
   ·intro Q25 W25 w22
    refine gS 7 (_ :: _ :: _ :: _ :: _ :: _ :: _ :: []) hs (by kernel_rfl) ⟨mu rfl i10, o1 [(93, some 0)] rfl fun _ _ h n => ok_call rfl Tryz.call69 (region_Of_ok n.1 hx15), cm 1 rfl rfl, o1 [(92, some 2)] rfl fun _ _ h n => ok_ext2_0 rfl n.1, o1 [(92, some 2)] rfl fun _ _ h n => ok_ext2_1 rfl n.1, cp 3 rfl rfl, cp 4 rfl rfl, trivial⟩ W25 fun b q p => ?_
    exact tail_done (k := q) (w22 _ _ ⟨Bs.post ⟨hg, hs, hd⟩ p, p.ke 0 rfl i0, p.ke 7 rfl i7, p.ke 8 rfl i8, (by rw [p.old 8 rfl]; exact n8), p.ke 9 rfl i9, p.ou 5 13 rfl, p.ou 6 14 rfl, trivial⟩)
   rintro a k ⟨⟨hg, hs, hd⟩, i0, i7, i8, n8, i9, i13, i14, _⟩
   refine wp_seq ?_
   refine cutS (fun c l => Bs noF k0 117 c l ∧ IsV l_ (c.get 0) l ∧ IsV x5 (c.get 7) l ∧ IsOwn 0 111 s3.1 (c.get 8) l ∧ Lo k0 (obF (c.get 8)) ∧ IsV s3.2 (c.get 9) l ∧ IsV x15.1 (c.get 13) l ∧ IsV x15.2 (c.get 14) l ∧ IsV (x15.2 != 0) (c.get 98) l ∧ True) ?_ ?_
   ·intro Q26 W26 w23
    refine gS 2 (_ :: ⟨some (IsV (x15.2 != 0)), [(97, some 0)]⟩ :: []) hs (by kernel_rfl) ⟨mu rfl i14, ob1 rfl fun _ _ h n => ok_neI rfl n.1 (cI rfl), trivial⟩ W26 fun b q p => ?_
    exact tail_done (k := q) (w23 _ _ ⟨Bs.post ⟨hg, hs, hd⟩ p, p.ke 0 rfl i0, p.ke 7 rfl i7, p.ke 8 rfl i8, (by rw [p.old 8 rfl]; exact n8), p.ke 9 rfl i9, p.ke 13 rfl i13, p.ke 14 rfl i14, p.ou 1 98 rfl, trivial⟩)
   rintro a k ⟨⟨hg, hs, hd⟩, i0, i7, i8, n8, i9, i13, i14, i98, _⟩
   refine wp_cond_split (isBool i98) (fun hc2019 => ?_) (fun hc2019 => ?_)
   ·rw [if_pos hc2019] at hr
    refine cutL noF k0 117 [⟨2, IsV ([] : List Slab)⟩, ⟨3, IsV x15.2⟩] ?_ ?_
    ·intro Q27 W27 w24
     refine gS 3 (_ :: ⟨some IsE0, []⟩ :: _ :: []) hs (by kernel_rfl) ⟨mu rfl i14, ob1 rfl fun b q h n => ok_assign rfl isE0_nil, cp 0 rfl rfl, trivial⟩ W27 fun b q p => ?_
     have hgq := hg.then p.grow
     have hsb := p.size.trans hs
     have hdb := p.defers.trans hd
     have j2 : IsE0 (b.get 2) q := p.ou 1 2 rfl
     have j3 : (IsV x15.2) (b.get 3) q := p.ou 2 3 rfl
     replace j2 : IsV ([] : List Slab) (b.get 2) q := j2.isV
     exact tail_done (k := q) (w24 _ _ ⟨⟨hgq, hsb, hdb⟩, j2, j3, trivial⟩)
    rintro a k ⟨⟨hg, hs, hd⟩, i2, i3, _⟩
    refine wp_ret ?_
    exact hret1977 _ _ _ (Option.some.inj hr).symm (retC2 rfl hd hg i2 i3)
   rw [if_neg (by rw [hc2019]; decide)] at hr
   refine wp_skip ?_
   obtain ⟨x16, hx16, hr⟩ := bind_some hr
   obtain ⟨x17, hx17, hr⟩ := bind_some hr
   obtain ⟨x18, hx18, hr⟩ := bind_some hr
   obtain ⟨x19, hx19, hr⟩ := bind_some hr
   refine cut (fun a' k' => Bs noF k0 117 a' k' ∧ (IsV l_) (a'.get 0) k' ∧ (IsV x5) (a'.get 7) k' ∧ IsOwn 0 111 x19 (a'.get 8) k' ∧ Lo k0 (obF (a'.get 8)) ∧ (IsV s3.2) (a'.get 9) k' ∧ True) ?_ hQ ?_
   ·intro Q28 W28 w25
    refine region (m := 12) (⟨some (OwnAt (a.get 8) 0 111 s3.1), [(8, none)]⟩ :: _ :: _ :: _ :: _ :: _ :: _ :: _ :: _ :: _ :: _ :: ⟨some (IsV (⟨x17, x18, x15.1⟩ : Slab)), [(105, some 5), (109, some 9), (110, some 10)]⟩ :: []) hmix hs (by kernel_rfl) ⟨ob1 rfl fun _ _ h n => ok_moveOA (.inl rfl) (ownAt n.1 (up i8 h n.1)), mu rfl i7, mu rfl i9, o1 [(102, some 2)] rfl fun _ _ h n => ok_sub rfl n.1 (cI rfl) hx16, o1 [(101, some 1), (103, some 3)] rfl fun _ _ h n => ok_indexAddr rfl Tryz.underlying43 ty3 (IsV.rd n.1) n.2.1 hx17, o1 [(104, some 4)] rfl fun _ _ h n => ok_load rfl ty3 n.1, mu rfl i7, mu rfl i9, o1 [(106, some 6), (107, some 7)] rfl fun _ _ h n => ok_indexAddr rfl Tryz.underlying43 ty3 (IsV.rd n.1) n.2.1 hx18, o1 [(108, some 8)] rfl fun _ _ h n => ok_load rfl ty3 n.1, mu rfl i13, ob1 rfl fun _ _ h n => ok_build rfl (bld111_0_1_2 n.1 n.2.1 n.2.2.1), trivial⟩ W28 fun b q p => ?_
    have hgq := hg.then p.grow
    have hsb := p.size.trans hs
    have hdb := p.defers.trans hd
    have j0 := p.ke 0 rfl i0
    have j7 := p.ke 7 rfl i7
    have j9 := p.ke 9 rfl i9
    have e100 : b.get 100 = a.get 8 := (p.ou 0 100 rfl).1
    have j100 : IsOwn 0 111 s3.1 (b.get 100) q := (p.ou 0 100 rfl).2
    have y100 : Lo k0 (obF (b.get 100)) := by rw [e100]; exact n8
    have j111 : (IsV (⟨x17, x18, x15.1⟩ : Slab)) (b.get 111) q := p.ou 11 111 rfl
    have hns := j100.nshF
    refine tail_call (F := obF (b.get 100)) (i := 12) (d := 112) rfl rfl rfl rfl (by rw [hsb]; decide) Tryz.call70 W28 (solid_put_ok j100 j111 hx19) fun b2 q2 hsz hdf hoth hch hres => ?_
    have hle := hch.le hns
    obtain ⟨hown, hob⟩ := hres
    have yn : Lo k0 (obF (b2.get 112)) := y100.app hgq hob
    replace j0 := Pers.pers hle j0
    replace j7 := Pers.pers hle j7
    replace j9 := Pers.pers hle j9
    replace j111 := Pers.pers hle j111
    replace hgq := hgq.step hch y100.wr
    rw [← hoth 0 (by decide)] at j0
    rw [← hoth 7 (by decide)] at j7
    rw [← hoth 9 (by decide)] at j9
    rw [← hoth 111 (by decide)] at j111
    have j112 := hown
    have y112 := yn
    have hres := True.intro
    clear hown hob yn
    replace hsb := hsz.trans hsb
    replace hdb := hdf.trans hdb
    clear hle hch hres hns hsz hdf hoth
    obtain ⟨b, hbb⟩ : ∃ b, b = b2 := ⟨b2, rfl⟩
    subst hbb
    obtain ⟨q, hqq⟩ : ∃ q, q = q2 := ⟨q2, rfl⟩
    subst hqq
    refine tail_assign (i := 13) (d := 8) rfl rfl (.inl rfl) rfl (by rw [hsb]; decide) fun b2 hsz hdf hnew hoth => ?_
    have jn : (IsOwn 0 111 x19) (b2.get 8) q := by rw [hnew]; exact j112
    have yn : Lo k0 (obF (b2.get 8)) := by rw [hnew]; exact y112
    rw [← hoth 0 (by decide)] at j0
    rw [← hoth 7 (by decide)] at j7
    rw [← hoth 9 (by decide)] at j9
    rw [← hoth 111 (by decide)] at j111
    have j8 := jn
    have y8 := yn
    replace hsb := hsz.trans hsb
    replace hdb := hdf.trans hdb
    clear hsz hdf hoth
    obtain ⟨b, hbb⟩ : ∃ b, b = b2 := ⟨b2, rfl⟩
    subst hbb
    exact tail_done (k := q) (w25 _ _ ⟨⟨hgq, hsb, hdb⟩, j0, j7, j8, y8, j9, trivial⟩)
   rintro a k ⟨⟨hg, hs, hd⟩, i0, i7, i8, n8, i9, _⟩
   obtain ⟨x20, hx20, hr⟩ := bind_some hr
   refine cut (fun a' k' => Bs noF k0 117 a' k' ∧ (IsV l_) (a'.get 0) k' ∧ (IsV x5) (a'.get 7) k' ∧ IsOwn 0 111 x19 (a'.get 8) k' ∧ Lo k0 (obF (a'.get 8)) ∧ (IsV x20) (a'.get 9) k' ∧ True) ?_ hQ ?_
   ·intro Q29 W29 w26
    refine gS 3 (_ :: _ :: _ :: []) hs (by kernel_rfl) ⟨mu rfl i9, o1 [(61, some 0)] rfl fun _ _ h n => ok_add rfl n.1 (cI rfl) hx20, cp 1 rfl rfl, trivial⟩ W29 fun b q p => ?_
    exact tail_done (k := q) (w26 _ _ ⟨Bs.post ⟨hg, hs, hd⟩ p, p.ke 0 rfl i0, p.ke 7 rfl i7, p.ke 8 rfl i8, (by rw [p.old 8 rfl]; exact n8), p.ou 2 9 rfl, trivial⟩)
   rintro a k ⟨⟨hg, hs, hd⟩, i0, i7, i8, n8, i9, _⟩
   exact hgo1975 _ _ _ (Option.some.inj hr).symm ⟨⟨hg, hs, hd⟩, i0, i7, i8, n8, i9, trivial⟩
  rw [if_neg (by rw [hc2031]; decide)] at hr
  refine wp_exit ?_
  obtain ⟨kk, sh2030, ii8⟩ := i8.give
  replace i8 := ii8
  replace hg := hg.hand sh2030 n8.wr
  rw [← sh2030.w]
  clear sh2030
  obtain ⟨k, hkk⟩ : ∃ k, k = kk := ⟨kk, rfl⟩
  subst hkk
  exact hex1976 _ _ _ _ (Option.some.inj hr).symm ⟨rfl, ⟨hg, hs, hd⟩, i8, trivial⟩
 ·rintro r3 a k rfl hR
  dsimp only at hr
  obtain rfl := Option.some.inj hr
  exact hR
 ·rintro _ _ _ rfl _
  simp at hr
 clear hf2
 rintro _ s7 a k rfl ⟨rfl, ⟨hg, hs, hd⟩, i8, _⟩
 dsimp only at hr
 refine wp_seq ?_
 obtain ⟨x21, hx21, hr⟩ := bind_some hr
 refine cut (fun a' k' => Bs noF k0 117 a' k' ∧ (IsV x21.1) (a'.get 2) k' ∧ (IsV x21.2) (a'.get 3) k' ∧ True) ?_ hQ ?_
 ·intro Q30 W30 w27
  refine gS 6 (_ :: _ :: _ :: _ :: _ :: _ :: []) hs (by kernel_rfl) ⟨mu rfl i8, o1 [(113, some 0)] rfl fun _ _ h n => ok_call rfl Tryz.call71 (solid_fits_ok n.1 hx21), o1 [(114, some 1)] rfl fun _ _ h n => ok_ext2_0 rfl n.1, o1 [(114, some 1)] rfl fun _ _ h n => ok_ext2_1 rfl n.1, cp 2 rfl rfl, cp 3 rfl rfl, trivial⟩ W30 fun b q p => ?_
  exact tail_done (k := q) (w27 _ _ ⟨Bs.post ⟨hg, hs, hd⟩ p, p.ou 4 2 rfl, p.ou 5 3 rfl, trivial⟩)
 rintro a k ⟨⟨hg, hs, hd⟩, i2, i3, _⟩
 refine wp_ret ?_
 obtain rfl := Option.some.inj hr
 exact retC2 rfl hd hg i2 i3
noncomputable def k44 := mkO 44 [.list (.st 1)] [.list (.st 9), .int] (fun x => solid_Of x) Tryz.call44 fun k0 vs x r hG h hr => by obtain ⟨v0, rfl, i0⟩ := h.one; exact ret2F (T := tb) (solid_Of_ok i0 hr)
def drawing_Solid_L0 (x1 : (List Volume)) (s1 : (List Box) × Int) : Option (Flow ((List Box) × Int) ((List Slab) × Int)) :=
 if (decide (s1.2 < (x1.length : Int))) then
  (getI x1 s1.2).bind fun x2 =>
  (appI s1.1 ([x2.Box])).bind fun x3 =>
  (addI s1.2 1).bind fun x4 =>
  some (.go (x3, x4))
 else
  some (.ex 0 (s1.1, s1.2))
def drawing_Solid (d_ : Drawing) (from_ : Int) (to_ : Int) : Option ((List Slab) × Int) :=
 (drawing_Form d_).bind fun x1 =>
 if (!x1) then
  some (([] : List Slab), 1)
 else
  (drawing_Volumes d_ from_ to_).bind fun x2 =>
  (iterL (drawing_Solid_L0 x2) (x2.length + 1) (([] : List Box), 0)).bind fun f1 => match f1 with
   | .go _ => none
   | .ex _ s1 =>
    (solid_Of s1.1).bind fun x3 =>
    some (x3.1, x3.2)
   | .ret r1 => some r1
noncomputable def k20 := mkg 20 [.st 3, .int, .int] [.list (.st 9), .int] (fun x => drawing_Solid x.1 x.2.1 x.2.2) [k19, k43.lift glv giv gl0, k44.lift glv giv gl0] [8, 23, 27] Tryz.f20 (.s .n (.s .n (.s .n (.s (.s .n (.l [] [(8, .o 79 (.st 1)), (19, .v .int)] [(0, [19], [])] (fI 18) .n)) (.s (.f [8] .n) .n))))) Tryz.func20 Tryz.call20 rfl rfl fun x => by kernel_rfl
def region_Right (a_ : (List Rect)) : Option (Bool) :=
 (region_Of a_).bind fun x1 =>
 (if (x1.2 == 0) then
  (slices_Equal_Rect x1.1 a_).bind fun x2 =>
  some x2
 else
  some false).bind fun x3 =>
 some x3
noncomputable def k97 := mk 97 [.list (.st 2)] [.bool] (fun x => region_Right x) [k69, k109] [] Tryz.f97 (.n) Tryz.func97 Tryz.call97 rfl rfl fun x => by kernel_rfl
theorem region_Right_ok {k0 : K} {v0 : Value} {x0 : (List Rect)} {r : Bool} (i0 : IsV x0 v0 k0) (hr : region_Right x0 = some r) : Calls Tryz.prog 97 #[v0] k0.w (Ret k0 (IsV r)) := (k97.ok.ok k0 [v0] x0 r (GOk.none (fun _ => rfl) fun _ e => by cases e) i0 hr)
end Go.Proofs.YtachpkjjlebadaaGreat
