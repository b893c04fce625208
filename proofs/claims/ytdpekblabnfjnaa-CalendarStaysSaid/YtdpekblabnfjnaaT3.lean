/- What the functions of calendar compute, part 3 -/
import Derived.Test.YtdpekblabnfjnaaT2
namespace Go.Proofs.Ytdpekblabnfjnaa
open Go.Gb
set_option linter.unusedVariables false
set_option linter.unusedSimpArgs false
def lawDays_L0 (stays : (List Stay)) (s530 : Bool × Int) : Option (Flow (Bool × Int) (Bool)) :=
  if (decide (s530.2 < (stays.length : Int))) then
    (if s530.1 then
      (getI stays s530.2).bind fun x535_4 =>
      some (decide (0 ≤ x535_4.From))
    else
      some false).bind fun x535_8 =>
    (if x535_8 then
      (getI stays s530.2).bind fun x535_12 =>
      (getI stays s530.2).bind fun x535_17 =>
      some (decide (x535_12.From ≤ x535_17.To))
    else
      some false).bind fun x535_21 =>
    (if x535_21 then
      (getI stays s530.2).bind fun x535_25 =>
      some (decide (x535_25.To ≤ 1073741824))
    else
      some false).bind fun x535_29 =>
    (addI s530.2 1).bind fun x536_1 =>
    some (.go (x535_29, x536_1))
  else
    some (.ex 0 (s530.1, s530.2))
def lawDays_L2 (holidays : (List Int)) (s549 : Int × Int × Int) (s556 : Bool × Int) : Option (Flow (Bool × Int) (Bool)) :=
  if (decide (s556.2 < (holidays.length : Int))) then
    (if s556.1 then
      (getI holidays s556.2).bind fun x561_4 =>
      some (x561_4 != s549.2.2)
    else
      some false).bind fun x561_8 =>
    (addI s556.2 1).bind fun x562_1 =>
    some (.go (x561_8, x562_1))
  else
    some (.ex 4 (s556.1, s556.2))
def lawDays_L3 (stays : (List Stay)) (s549 : Int × Int × Int) (s574 : Bool × Int) : Option (Flow (Bool × Int) (Bool)) :=
  if (decide (s574.2 < (stays.length : Int))) then
    (if s574.1 then
      (getI stays s574.2).bind fun x579_5 =>
      (if (decide (s549.2.2 < x579_5.From)) then
        some true
      else
        (getI stays s574.2).bind fun x579_13 =>
        some (decide (x579_13.To < s549.2.2))).bind fun x579_17 =>
      some x579_17
    else
      some false).bind fun x579_18 =>
    (addI s574.2 1).bind fun x580_1 =>
    some (.go (x579_18, x580_1))
  else
    some (.ex 6 (s574.1, s574.2))
def lawDays_L1 (holidays : (List Int)) (stays : (List Stay)) (a_ : Int) (days : Int) (x527_1 : Bool) (s545 : Bool × Int) (s549 : Int × Int × Int) : Option (Flow (Int × Int × Int) (Bool)) :=
  (addI a_ days).bind fun x553_3 =>
  if (decide (s549.2.2 ≤ x553_3)) then
    (if x527_1 then
      (remI s549.2.2 7).bind fun x554_3 =>
      some (decide (x554_3 < 5))
    else
      some false).bind fun x554_5 =>
    (iterL (lawDays_L2 holidays s549) (holidays.length + stays.length + 1) (x554_5, 0)).bind fun f570 => match f570 with
      | .go _ => none
      | .ex _ s571 =>
        (iterL (lawDays_L3 stays s549) (holidays.length + stays.length + 1) ((s571.1 && s545.1), 0)).bind fun f588 => match f588 with
          | .go _ => none
          | .ex _ s589 =>
            (calIsWork holidays s549.2.2).bind fun x590_2 =>
            (if (x590_2 != s571.1) then
              some true
            else
              (calCounts holidays stays s549.2.2).bind fun x590_9 =>
              some (x590_9 != s589.1)).bind fun x590_12 =>
            if x590_12 then
              some (.ret false)
            else
              (if s571.1 then
                (addI s549.1 1).bind fun x597_1 =>
                some x597_1
              else
                some s549.1).bind fun s595 =>
              (if s589.1 then
                (addI s549.2.1 1).bind fun x604_1 =>
                some x604_1
              else
                some s549.2.1).bind fun s602 =>
              (addI s549.2.2 1).bind fun x608_1 =>
              some (.go (s595, s602, x608_1))
          | .ret r620 => some (.ret r620)
      | .ret r626 => some (.ret r626)
  else
    some (.ex 2 (s549.1, s549.2.1, s549.2.2))
def lawDays (holidays : (List Int)) (stays : (List Stay)) (a_ : Int) (days : Int) : Option (Bool) :=
  (small).bind fun x522_0 =>
  (few holidays stays).bind fun x523_2 =>
  (if (!x523_2) then
    some true
  else
    (within a_ 0 1073741424).bind fun x523_6 =>
    some (!x523_6)).bind fun x523_8 =>
  (if x523_8 then
    some true
  else
    (within days 0 400).bind fun x523_11 =>
    some (!x523_11)).bind fun x523_13 =>
  if x523_13 then
    some x522_0
  else
    (calRight holidays).bind fun x527_1 =>
    (iterL (lawDays_L0 stays) (holidays.length + stays.length + 1) (true, 0)).bind fun f544 => match f544 with
      | .go _ => none
      | .ex _ s545 =>
        (addI a_ 1).bind fun x548_1 =>
        (iterL (lawDays_L1 holidays stays a_ days x527_1 s545) (days.toNat + 2) (0, 0, x548_1)).bind fun f635 => match f635 with
          | .go _ => none
          | .ex _ s636 =>
            (if x522_0 then
              (addI a_ days).bind fun x637_6 =>
              (calBetween holidays a_ x637_6).bind fun x637_7 =>
              some (x637_7 == s636.1)
            else
              some false).bind fun x637_10 =>
            (if x637_10 then
              (addI a_ days).bind fun x637_17 =>
              (calCount holidays stays a_ x637_17).bind fun x637_18 =>
              some (x637_18 == s636.2.1)
            else
              some false).bind fun x637_21 =>
            some x637_21
          | .ret r640 => some r640
      | .ret r648 => some r648
theorem lawDays_ok {k0 : K} {v0 v1 v2 v3 : Value} {holidays : (List Int)} {stays : (List Stay)} {a_ : Int} {days : Int} {r : Bool} (i0 : (IsV holidays) v0 k0) (i1 : (IsV stays) v1 k0) (i2 : (IsV a_) v2 k0) (i3 : (IsV days) v3 k0) (hr : lawDays holidays stays a_ days = some r) :
    Calls Try.prog 4 #[v0, v1, v2, v3] k0.w (Ret k0 (IsV r)) := by
  unfold lawDays at hr
  refine Ret.ofC ?_
  refine enterK Try.func4 rfl Try.ntmps4 (show 4 ≤ 174 by decide) fun a k hk0 hs hd ha => ?_
  obtain ⟨e0, e1, e2, e3, _⟩ := ha
  replace i0 : (IsV holidays) (a.get 0) k := by rw [e0, hk0]; exact i0
  replace i1 : (IsV stays) (a.get 1) k := by rw [e1, hk0]; exact i1
  replace i2 : (IsV a_) (a.get 2) k := by rw [e2, hk0]; exact i2
  replace i3 : (IsV days) (a.get 3) k := by rw [e3, hk0]; exact i3
  have hQ : Gb.LetsOut (bodyPost Try.prog Try.f4 (RetC noF k0 (IsV r))) := letsOutC
  have hg : Chg noF k0 k := by rw [hk0]; exact Chg.refl _ k0
  refine wp_seq ?_
  refine cut (fun a' k' => Bs noF k0 174 a' k' ∧ (IsV holidays) (a'.get 0) k' ∧ (IsV stays) (a'.get 1) k' ∧ (IsV a_) (a'.get 2) k' ∧ (IsV days) (a'.get 3) k' ∧ True) ?_ hQ ?_
  · intro Q661 hQQ661 hp662
    refine regionS (a0 := a) (k0 := k) (n := 174) (m := 1) (⟨some (IsV false), []⟩ :: []) hs (by kernel_rfl) ⟨ob1 rfl fun b q hk hn => ok_assign rfl (isV_bool.2 rfl), trivial⟩ hQQ661 fun b q p => ?_
    exact tail_done (k := q) (hp662 _ _ ⟨Bs.post ⟨hg, hs, hd⟩ p, keep p 0 rfl i0, keep p 1 rfl i1, keep p 2 rfl i2, keep p 3 rfl i3, trivial⟩)
  rintro a k ⟨⟨hg, hs, hd⟩, i0, i1, i2, i3, _⟩
  refine wp_seq ?_
  obtain ⟨x522_0, hx522_0, hr⟩ := bind_some hr
  refine cut (fun a' k' => Bs noF k0 174 a' k' ∧ (IsV holidays) (a'.get 0) k' ∧ (IsV stays) (a'.get 1) k' ∧ (IsV a_) (a'.get 2) k' ∧ (IsV days) (a'.get 3) k' ∧ (IsV x522_0) (a'.get 9) k' ∧ True) ?_ hQ ?_
  · intro Q659 hQQ659 hp660
    refine regionS (a0 := a) (k0 := k) (n := 174) (m := 2) (⟨some (IsV x522_0), []⟩ :: ⟨some (IsV x522_0), [(20, some 0)]⟩ :: []) hs (by kernel_rfl) ⟨ob1 rfl fun b q hk hn => ok_call rfl Try.call8 (small_ok hx522_0), ob1 rfl fun b q hk hn => ok_assign rfl hn.1, trivial⟩ hQQ659 fun b q p => ?_
    exact tail_done (k := q) (hp660 _ _ ⟨Bs.post ⟨hg, hs, hd⟩ p, keep p 0 rfl i0, keep p 1 rfl i1, keep p 2 rfl i2, keep p 3 rfl i3, out p 1 9 _ rfl rfl rfl, trivial⟩)
  rintro a k ⟨⟨hg, hs, hd⟩, i0, i1, i2, i3, i9, _⟩
  refine wp_seq ?_
  refine wp_seq ?_
  obtain ⟨x523_2, hx523_2, hr⟩ := bind_some hr
  obtain ⟨x523_8, hx523_8, hr⟩ := bind_some hr
  obtain ⟨x523_6, hx523_6, hx523_8⟩ := ite_bindF hx523_8
  obtain ⟨x523_13, hx523_13, hr⟩ := bind_some hr
  obtain ⟨x523_11, hx523_11, hx523_13⟩ := ite_bindF hx523_13
  refine cut (fun a' k' => Bs noF k0 174 a' k' ∧ (IsV holidays) (a'.get 0) k' ∧ (IsV stays) (a'.get 1) k' ∧ (IsV a_) (a'.get 2) k' ∧ (IsV days) (a'.get 3) k' ∧ (IsV x522_0) (a'.get 9) k' ∧ (IsV x523_13) (a'.get 34) k' ∧ True) ?_ hQ ?_
  · intro Q657 hQQ657 hp658
    refine regionS (a0 := a) (k0 := k) (n := 174) (m := 14) (⟨some (IsV holidays), [(0, none)]⟩ :: ⟨some (IsV stays), [(1, none)]⟩ :: ⟨some (IsV x523_2), [(21, some 0), (22, some 1)]⟩ :: ⟨some (IsV (!x523_2)), [(23, some 2)]⟩ :: ⟨some (IsV (!x523_2)), [(24, some 3)]⟩ :: ⟨some (Gd ((!x523_2) = false) (IsV a_)), [(2, none)]⟩ :: ⟨some (Gd ((!x523_2) = false) (IsV x523_6)), [(26, some 5)]⟩ :: ⟨some (Gd ((!x523_2) = false) (IsV (!x523_6))), [(27, some 6)]⟩ :: ⟨some (IsV x523_8), [(25, some 4), (28, some 7)]⟩ :: ⟨some (IsV x523_8), [(29, some 8)]⟩ :: ⟨some (Gd (x523_8 = false) (IsV days)), [(3, none)]⟩ :: ⟨some (Gd (x523_8 = false) (IsV x523_11)), [(31, some 10)]⟩ :: ⟨some (Gd (x523_8 = false) (IsV (!x523_11))), [(32, some 11)]⟩ :: ⟨some (IsV x523_13), [(30, some 9), (33, some 12)]⟩ :: []) hs (by kernel_rfl) ⟨ob1 rfl fun b q hk hn => ok_move rfl (up i0 hk hn.1), ob1 rfl fun b q hk hn => ok_move rfl (up i1 hk hn.1), ob1 rfl fun b q hk hn => ok_call rfl Try.call23 (few_ok hn.1 hn.2.1 hx523_2), ob1 rfl fun b q hk hn => ok_not rfl hn.1, ob1 rfl fun b q hk hn => ok_move rfl hn.1, gdF rfl rfl fun hp b q hk hn => ok_move rfl (up i2 hk hn.1), gdF rfl rfl fun hp b q hk hn => ok_call rfl Try.call24 (within_ok (Gd.get hn.1 hp) (isV_int.2 rfl) (isV_int.2 rfl) (hx523_6 hp)), gdF rfl rfl fun hp b q hk hn => ok_not rfl (Gd.get hn.1 hp), ob1 rfl fun b q hk hn => ok_pickM rfl hn.1 hx523_8 (fun _ => (isV_bool.2 rfl)) (fun hm => (Gd.get hn.2.1 hm)), ob1 rfl fun b q hk hn => ok_move rfl hn.1, gdF rfl rfl fun hp b q hk hn => ok_move rfl (up i3 hk hn.1), gdF rfl rfl fun hp b q hk hn => ok_call rfl Try.call24 (within_ok (Gd.get hn.1 hp) (isV_int.2 rfl) (isV_int.2 rfl) (hx523_11 hp)), gdF rfl rfl fun hp b q hk hn => ok_not rfl (Gd.get hn.1 hp), ob1 rfl fun b q hk hn => ok_pickM rfl hn.1 hx523_13 (fun _ => (isV_bool.2 rfl)) (fun hm => (Gd.get hn.2.1 hm)), trivial⟩ hQQ657 fun b q p => ?_
    exact tail_done (k := q) (hp658 _ _ ⟨Bs.post ⟨hg, hs, hd⟩ p, keep p 0 rfl i0, keep p 1 rfl i1, keep p 2 rfl i2, keep p 3 rfl i3, keep p 9 rfl i9, out p 13 34 _ rfl rfl rfl, trivial⟩)
  rintro a k ⟨⟨hg, hs, hd⟩, i0, i1, i2, i3, i9, i34, _⟩
  refine wp_cond_split (isBool i34) (fun hc656 => ?_) (fun hc656 => ?_)
  · rw [if_pos hc656] at hr
    refine wp_seq ?_
    refine cut (fun a' k' => Bs noF k0 174 a' k' ∧ (IsV x522_0) (a'.get 8) k' ∧ True) ?_ hQ ?_
    · intro Q525 hQQ525 hp526
      refine regionS (a0 := a) (k0 := k) (n := 174) (m := 2) (⟨some (IsV x522_0), [(9, none)]⟩ :: ⟨some (IsV x522_0), [(35, some 0)]⟩ :: []) hs (by kernel_rfl) ⟨ob1 rfl fun b q hk hn => ok_move rfl (up i9 hk hn.1), ob1 rfl fun b q hk hn => ok_assign rfl hn.1, trivial⟩ hQQ525 fun b q p => ?_
      exact tail_done (k := q) (hp526 _ _ ⟨Bs.post ⟨hg, hs, hd⟩ p, out p 1 8 _ rfl rfl rfl, trivial⟩)
    rintro a k ⟨⟨hg, hs, hd⟩, i8, _⟩
    refine wp_ret ?_
    obtain rfl := Option.some.inj hr
    exact retC1 rfl hd hg i8
  rw [if_neg (by rw [hc656]; decide)] at hr
  refine wp_skip ?_
  refine wp_seq ?_
  obtain ⟨x527_1, hx527_1, hr⟩ := bind_some hr
  refine cut (fun a' k' => Bs noF k0 174 a' k' ∧ (IsV holidays) (a'.get 0) k' ∧ (IsV stays) (a'.get 1) k' ∧ (IsV a_) (a'.get 2) k' ∧ (IsV days) (a'.get 3) k' ∧ (IsV x522_0) (a'.get 9) k' ∧ (IsV x527_1) (a'.get 10) k' ∧ True) ?_ hQ ?_
  · intro Q654 hQQ654 hp655
    refine regionS (a0 := a) (k0 := k) (n := 174) (m := 3) (⟨some (IsV holidays), [(0, none)]⟩ :: ⟨some (IsV x527_1), [(36, some 0)]⟩ :: ⟨some (IsV x527_1), [(37, some 1)]⟩ :: []) hs (by kernel_rfl) ⟨ob1 rfl fun b q hk hn => ok_move rfl (up i0 hk hn.1), ob1 rfl fun b q hk hn => ok_call rfl Try.call13 (calRight_ok hn.1 hx527_1), ob1 rfl fun b q hk hn => ok_assign rfl hn.1, trivial⟩ hQQ654 fun b q p => ?_
    exact tail_done (k := q) (hp655 _ _ ⟨Bs.post ⟨hg, hs, hd⟩ p, keep p 0 rfl i0, keep p 1 rfl i1, keep p 2 rfl i2, keep p 3 rfl i3, keep p 9 rfl i9, out p 2 10 _ rfl rfl rfl, trivial⟩)
  rintro a k ⟨⟨hg, hs, hd⟩, i0, i1, i2, i3, i9, i10, _⟩
  refine wp_seq ?_
  refine cut (fun a' k' => Bs noF k0 174 a' k' ∧ (IsV holidays) (a'.get 0) k' ∧ (IsV stays) (a'.get 1) k' ∧ (IsV a_) (a'.get 2) k' ∧ (IsV days) (a'.get 3) k' ∧ (IsV x522_0) (a'.get 9) k' ∧ (IsV x527_1) (a'.get 10) k' ∧ (IsV true) (a'.get 11) k' ∧ True) ?_ hQ ?_
  · intro Q652 hQQ652 hp653
    refine regionS (a0 := a) (k0 := k) (n := 174) (m := 1) (⟨some (IsV true), []⟩ :: []) hs (by kernel_rfl) ⟨ob1 rfl fun b q hk hn => ok_assign rfl (isV_bool.2 rfl), trivial⟩ hQQ652 fun b q p => ?_
    exact tail_done (k := q) (hp653 _ _ ⟨Bs.post ⟨hg, hs, hd⟩ p, keep p 0 rfl i0, keep p 1 rfl i1, keep p 2 rfl i2, keep p 3 rfl i3, keep p 9 rfl i9, keep p 10 rfl i10, out p 0 11 _ rfl rfl rfl, trivial⟩)
  rintro a k ⟨⟨hg, hs, hd⟩, i0, i1, i2, i3, i9, i10, i11, _⟩
  refine wp_seq ?_
  refine wp_seq ?_
  refine cut (fun a' k' => Bs noF k0 174 a' k' ∧ (IsV holidays) (a'.get 0) k' ∧ (IsV stays) (a'.get 1) k' ∧ (IsV a_) (a'.get 2) k' ∧ (IsV days) (a'.get 3) k' ∧ (IsV x522_0) (a'.get 9) k' ∧ (IsV x527_1) (a'.get 10) k' ∧ (IsV true) (a'.get 11) k' ∧ (IsV (α := Int) 0) (a'.get 12) k' ∧ True) ?_ hQ ?_
  · intro Q650 hQQ650 hp651
    refine regionS (a0 := a) (k0 := k) (n := 174) (m := 1) (⟨some (IsV (α := Int) 0), []⟩ :: []) hs (by kernel_rfl) ⟨ob1 rfl fun b q hk hn => ok_assign rfl (isV_int.2 rfl), trivial⟩ hQQ650 fun b q p => ?_
    exact tail_done (k := q) (hp651 _ _ ⟨Bs.post ⟨hg, hs, hd⟩ p, keep p 0 rfl i0, keep p 1 rfl i1, keep p 2 rfl i2, keep p 3 rfl i3, keep p 9 rfl i9, keep p 10 rfl i10, keep p 11 rfl i11, out p 0 12 _ rfl rfl rfl, trivial⟩)
  rintro a k ⟨⟨hg, hs, hd⟩, i0, i1, i2, i3, i9, i10, i11, i12, _⟩
  refine wp_block ?_
  obtain ⟨f544, hf544, hr⟩ := bind_some hr
  refine cutFe f544 (fun s' a' k' => Bs noF k0 174 a' k' ∧ (IsV holidays) (a'.get 0) k' ∧ (IsV stays) (a'.get 1) k' ∧ (IsV a_) (a'.get 2) k' ∧ (IsV days) (a'.get 3) k' ∧ (IsV x522_0) (a'.get 9) k' ∧ (IsV x527_1) (a'.get 10) k' ∧ (IsV s'.1) (a'.get 11) k' ∧ (IsV s'.2) (a'.get 12) k' ∧ True) (fun i' s' a' k' => (i' = 0 ∧ Bs noF k0 174 a' k' ∧ (IsV holidays) (a'.get 0) k' ∧ (IsV stays) (a'.get 1) k' ∧ (IsV a_) (a'.get 2) k' ∧ (IsV days) (a'.get 3) k' ∧ (IsV x522_0) (a'.get 9) k' ∧ (IsV x527_1) (a'.get 10) k' ∧ (IsV s'.1) (a'.get 11) k' ∧ True)) (fun r' a' k' => bodyPost Try.prog Try.f4 (RetC noF k0 (IsV r')) .ret a' k'.w) ?_ hQ ?_ ?_ ?_
  · intro Q649 hQQ649 hgo hex hret
    refine sim_loop ?_ _ _ _ _ _ hf544 ⟨⟨hg, hs, hd⟩, i0, i1, i2, i3, i9, i10, i11, i12, trivial⟩ Q649 hQQ649 hgo hex hret
    clear hr hf544 hgo hex hret hQQ649 hQ hg hs hd i0 i1 i10 i11 i12 i2 i3 i9
    intro s530 fl_ a k hr hS Q hQ hgo531 hex532 hret533
    obtain ⟨⟨hg, hs, hd⟩, i0, i1, i2, i3, i9, i10, i11, i12, _⟩ := hS
    unfold lawDays_L0 at hr
    refine wp_seq ?_
    refine wp_seq ?_
    refine cut (fun a' k' => Bs noF k0 174 a' k' ∧ (IsV holidays) (a'.get 0) k' ∧ (IsV stays) (a'.get 1) k' ∧ (IsV a_) (a'.get 2) k' ∧ (IsV days) (a'.get 3) k' ∧ (IsV x522_0) (a'.get 9) k' ∧ (IsV x527_1) (a'.get 10) k' ∧ (IsV s530.1) (a'.get 11) k' ∧ (IsV s530.2) (a'.get 12) k' ∧ (IsV (decide (s530.2 < (stays.length : Int)))) (a'.get 41) k' ∧ True) ?_ hQ ?_
    · intro Q542 hQQ542 hp543
      refine regionS (a0 := a) (k0 := k) (n := 174) (m := 4) (⟨some (IsV s530.2), [(12, none)]⟩ :: ⟨some (IsV stays), [(1, none)]⟩ :: ⟨some (IsV (α := Int) (stays.length : Int)), [(39, some 1)]⟩ :: ⟨some (IsV (decide (s530.2 < (stays.length : Int)))), [(38, some 0), (40, some 2)]⟩ :: []) hs (by kernel_rfl) ⟨ob1 rfl fun b q hk hn => ok_move rfl (up i12 hk hn.1), ob1 rfl fun b q hk hn => ok_move rfl (up i1 hk hn.1), ob1 rfl fun b q hk hn => ok_len rfl rfl Try.underlying23 (IsV.rd hn.1), ob1 rfl fun b q hk hn => ok_lss rfl hn.1 hn.2.1, trivial⟩ hQQ542 fun b q p => ?_
      exact tail_done (k := q) (hp543 _ _ ⟨Bs.post ⟨hg, hs, hd⟩ p, keep p 0 rfl i0, keep p 1 rfl i1, keep p 2 rfl i2, keep p 3 rfl i3, keep p 9 rfl i9, keep p 10 rfl i10, keep p 11 rfl i11, keep p 12 rfl i12, out p 3 41 _ rfl rfl rfl, trivial⟩)
    rintro a k ⟨⟨hg, hs, hd⟩, i0, i1, i2, i3, i9, i10, i11, i12, i41, _⟩
    refine wp_cond_split (isBool i41) (fun hc541 => ?_) (fun hc541 => ?_)
    · rw [if_pos hc541] at hr
      refine wp_skip ?_
      refine wp_seq ?_
      refine wp_block ?_
      obtain ⟨x535_8, hx535_8, hr⟩ := bind_some hr
      obtain ⟨x535_4, hx535_4, hx535_8⟩ := ite_bind hx535_8
      obtain ⟨x535_21, hx535_21, hr⟩ := bind_some hr
      obtain ⟨x535_12, hx535_12, hx535_21⟩ := ite_bind hx535_21
      obtain ⟨x535_17, hx535_17, hx535_21⟩ := ite_bind hx535_21
      obtain ⟨x535_29, hx535_29, hr⟩ := bind_some hr
      obtain ⟨x535_25, hx535_25, hx535_29⟩ := ite_bind hx535_29
      refine cut (fun a' k' => Bs noF k0 174 a' k' ∧ (IsV holidays) (a'.get 0) k' ∧ (IsV stays) (a'.get 1) k' ∧ (IsV a_) (a'.get 2) k' ∧ (IsV days) (a'.get 3) k' ∧ (IsV x522_0) (a'.get 9) k' ∧ (IsV x527_1) (a'.get 10) k' ∧ (IsV x535_29) (a'.get 11) k' ∧ (IsV s530.2) (a'.get 12) k' ∧ True) ?_ hQ ?_
      · intro Q539 hQQ539 hp540
        refine region (a0 := a) (k0 := k) (n := 174) (m := 31) (⟨some (IsV s530.1), [(11, none)]⟩ :: ⟨some (IsV s530.1), [(44, some 0)]⟩ :: ⟨some (Gd (s530.1 = true) (IsV stays)), [(1, none)]⟩ :: ⟨some (Gd (s530.1 = true) (IsV s530.2)), [(12, none)]⟩ :: ⟨some (Gd (s530.1 = true) (IsPtr x535_4)), [(46, some 2), (47, some 3)]⟩ :: ⟨some (Gd (s530.1 = true) (IsPtr x535_4.From)), [(48, some 4)]⟩ :: ⟨some (Gd (s530.1 = true) (IsV x535_4.From)), [(49, some 5)]⟩ :: ⟨some (Gd (s530.1 = true) (IsV (decide (0 ≤ x535_4.From)))), [(50, some 6)]⟩ :: ⟨some (IsV x535_8), [(45, some 1), (51, some 7)]⟩ :: ⟨some (IsV x535_8), [(52, some 8)]⟩ :: ⟨some (Gd (x535_8 = true) (IsV stays)), [(1, none)]⟩ :: ⟨some (Gd (x535_8 = true) (IsV s530.2)), [(12, none)]⟩ :: ⟨some (Gd (x535_8 = true) (IsPtr x535_12)), [(54, some 10), (55, some 11)]⟩ :: ⟨some (Gd (x535_8 = true) (IsPtr x535_12.From)), [(56, some 12)]⟩ :: ⟨some (Gd (x535_8 = true) (IsV x535_12.From)), [(57, some 13)]⟩ :: ⟨some (Gd (x535_8 = true) (IsV stays)), [(1, none)]⟩ :: ⟨some (Gd (x535_8 = true) (IsV s530.2)), [(12, none)]⟩ :: ⟨some (Gd (x535_8 = true) (IsPtr x535_17)), [(59, some 15), (60, some 16)]⟩ :: ⟨some (Gd (x535_8 = true) (IsPtr x535_17.To)), [(61, some 17)]⟩ :: ⟨some (Gd (x535_8 = true) (IsV x535_17.To)), [(62, some 18)]⟩ :: ⟨some (Gd (x535_8 = true) (IsV (decide (x535_12.From ≤ x535_17.To)))), [(58, some 14), (63, some 19)]⟩ :: ⟨some (IsV x535_21), [(53, some 9), (64, some 20)]⟩ :: ⟨some (IsV x535_21), [(65, some 21)]⟩ :: ⟨some (Gd (x535_21 = true) (IsV stays)), [(1, none)]⟩ :: ⟨some (Gd (x535_21 = true) (IsV s530.2)), [(12, none)]⟩ :: ⟨some (Gd (x535_21 = true) (IsPtr x535_25)), [(67, some 23), (68, some 24)]⟩ :: ⟨some (Gd (x535_21 = true) (IsPtr x535_25.To)), [(69, some 25)]⟩ :: ⟨some (Gd (x535_21 = true) (IsV x535_25.To)), [(70, some 26)]⟩ :: ⟨some (Gd (x535_21 = true) (IsV (decide (x535_25.To ≤ 1073741824)))), [(71, some 27)]⟩ :: ⟨some (IsV x535_29), [(66, some 22), (72, some 28)]⟩ :: ⟨some (IsV x535_29), [(73, some 29)]⟩ :: []) hmix hs (by kernel_rfl) ⟨ob1 rfl fun b q hk hn => ok_move rfl (up i11 hk hn.1), ob1 rfl fun b q hk hn => ok_move rfl hn.1, gdT rfl rfl fun hp b q hk hn => ok_move rfl (up i1 hk hn.1), gdT rfl rfl fun hp b q hk hn => ok_move rfl (up i12 hk hn.1), gdT rfl rfl fun hp b q hk hn => ok_indexAddr rfl Try.underlying23 ty38 (IsV.rd (Gd.get hn.1 hp)) (Gd.get hn.2.1 hp) (hx535_4 hp), gdT rfl rfl fun hp b q hk hn => ok_fieldAddr rfl fo38_0 (at_Stay_0 _) (Gd.get hn.1 hp), gdT rfl rfl fun hp b q hk hn => ok_load rfl ty3 (Gd.get hn.1 hp), gdT rfl rfl fun hp b q hk hn => ok_geq rfl (Gd.get hn.1 hp) (isV_int.2 rfl), ob1 rfl fun b q hk hn => ok_pickM rfl hn.1 hx535_8 (fun hm => (Gd.get hn.2.1 hm)) (fun _ => (isV_bool.2 rfl)), ob1 rfl fun b q hk hn => ok_move rfl hn.1, gdT rfl rfl fun hp b q hk hn => ok_move rfl (up i1 hk hn.1), gdT rfl rfl fun hp b q hk hn => ok_move rfl (up i12 hk hn.1), gdT rfl rfl fun hp b q hk hn => ok_indexAddr rfl Try.underlying23 ty38 (IsV.rd (Gd.get hn.1 hp)) (Gd.get hn.2.1 hp) (hx535_12 hp), gdT rfl rfl fun hp b q hk hn => ok_fieldAddr rfl fo38_0 (at_Stay_0 _) (Gd.get hn.1 hp), gdT rfl rfl fun hp b q hk hn => ok_load rfl ty3 (Gd.get hn.1 hp), gdT rfl rfl fun hp b q hk hn => ok_move rfl (up i1 hk hn.1), gdT rfl rfl fun hp b q hk hn => ok_move rfl (up i12 hk hn.1), gdT rfl rfl fun hp b q hk hn => ok_indexAddr rfl Try.underlying23 ty38 (IsV.rd (Gd.get hn.1 hp)) (Gd.get hn.2.1 hp) (hx535_17 hp), gdT rfl rfl fun hp b q hk hn => ok_fieldAddr rfl fo38_1 (at_Stay_1 _) (Gd.get hn.1 hp), gdT rfl rfl fun hp b q hk hn => ok_load rfl ty3 (Gd.get hn.1 hp), gdT rfl rfl fun hp b q hk hn => ok_leq rfl (Gd.get hn.1 hp) (Gd.get hn.2.1 hp), ob1 rfl fun b q hk hn => ok_pickM rfl hn.1 hx535_21 (fun hm => (Gd.get hn.2.1 hm)) (fun _ => (isV_bool.2 rfl)), ob1 rfl fun b q hk hn => ok_move rfl hn.1, gdT rfl rfl fun hp b q hk hn => ok_move rfl (up i1 hk hn.1), gdT rfl rfl fun hp b q hk hn => ok_move rfl (up i12 hk hn.1), gdT rfl rfl fun hp b q hk hn => ok_indexAddr rfl Try.underlying23 ty38 (IsV.rd (Gd.get hn.1 hp)) (Gd.get hn.2.1 hp) (hx535_25 hp), gdT rfl rfl fun hp b q hk hn => ok_fieldAddr rfl fo38_1 (at_Stay_1 _) (Gd.get hn.1 hp), gdT rfl rfl fun hp b q hk hn => ok_load rfl ty3 (Gd.get hn.1 hp), gdT rfl rfl fun hp b q hk hn => ok_leq rfl (Gd.get hn.1 hp) (isV_int.2 rfl), ob1 rfl fun b q hk hn => ok_pickM rfl hn.1 hx535_29 (fun hm => (Gd.get hn.2.1 hm)) (fun _ => (isV_bool.2 rfl)), ob1 rfl fun b q hk hn => ok_assign rfl hn.1, trivial⟩ hQQ539 fun b q p => ?_
        exact tail_done (k := q) (hp540 _ _ ⟨Bs.post ⟨hg, hs, hd⟩ p, keep p 0 rfl i0, keep p 1 rfl i1, keep p 2 rfl i2, keep p 3 rfl i3, keep p 9 rfl i9, keep p 10 rfl i10, out p 30 11 _ rfl rfl rfl, keep p 12 rfl i12, trivial⟩)
      rintro a k ⟨⟨hg, hs, hd⟩, i0, i1, i2, i3, i9, i10, i11, i12, _⟩
      obtain ⟨x536_1, hx536_1, hr⟩ := bind_some hr
      refine cut (fun a' k' => Bs noF k0 174 a' k' ∧ (IsV holidays) (a'.get 0) k' ∧ (IsV stays) (a'.get 1) k' ∧ (IsV a_) (a'.get 2) k' ∧ (IsV days) (a'.get 3) k' ∧ (IsV x522_0) (a'.get 9) k' ∧ (IsV x527_1) (a'.get 10) k' ∧ (IsV x535_29) (a'.get 11) k' ∧ (IsV x536_1) (a'.get 12) k' ∧ True) ?_ hQ ?_
      · intro Q537 hQQ537 hp538
        refine regionS (a0 := a) (k0 := k) (n := 174) (m := 3) (⟨some (IsV s530.2), [(12, none)]⟩ :: ⟨some (IsV x536_1), [(42, some 0)]⟩ :: ⟨some (IsV x536_1), [(43, some 1)]⟩ :: []) hs (by kernel_rfl) ⟨ob1 rfl fun b q hk hn => ok_move rfl (up i12 hk hn.1), ob1 rfl fun b q hk hn => ok_add rfl hn.1 (isV_int.2 rfl) hx536_1, ob1 rfl fun b q hk hn => ok_assign rfl hn.1, trivial⟩ hQQ537 fun b q p => ?_
        exact tail_done (k := q) (hp538 _ _ ⟨Bs.post ⟨hg, hs, hd⟩ p, keep p 0 rfl i0, keep p 1 rfl i1, keep p 2 rfl i2, keep p 3 rfl i3, keep p 9 rfl i9, keep p 10 rfl i10, keep p 11 rfl i11, out p 2 12 _ rfl rfl rfl, trivial⟩)
      rintro a k ⟨⟨hg, hs, hd⟩, i0, i1, i2, i3, i9, i10, i11, i12, _⟩
      exact hgo531 _ _ _ (Option.some.inj hr).symm ⟨⟨hg, hs, hd⟩, i0, i1, i2, i3, i9, i10, i11, i12, trivial⟩
    rw [if_neg (by rw [hc541]; decide)] at hr
    refine wp_exit ?_
    exact hex532 _ _ _ _ (Option.some.inj hr).symm ⟨rfl, ⟨hg, hs, hd⟩, i0, i1, i2, i3, i9, i10, i11, trivial⟩
  · rintro r648 a k rfl hR
    dsimp only at hr
    obtain rfl := Option.some.inj hr
    exact hR
  · rintro _ _ _ rfl _
    simp at hr
  clear hf544
  rintro _ s545 a k rfl ⟨rfl, ⟨hg, hs, hd⟩, i0, i1, i2, i3, i9, i10, i11, _⟩
  dsimp only at hr
  refine wp_seq ?_
  refine cut (fun a' k' => Bs noF k0 174 a' k' ∧ (IsV holidays) (a'.get 0) k' ∧ (IsV stays) (a'.get 1) k' ∧ (IsV a_) (a'.get 2) k' ∧ (IsV days) (a'.get 3) k' ∧ (IsV x522_0) (a'.get 9) k' ∧ (IsV x527_1) (a'.get 10) k' ∧ (IsV s545.1) (a'.get 11) k' ∧ (IsV (α := Int) 0) (a'.get 13) k' ∧ True) ?_ hQ ?_
  · intro Q646 hQQ646 hp647
    refine regionS (a0 := a) (k0 := k) (n := 174) (m := 1) (⟨some (IsV (α := Int) 0), []⟩ :: []) hs (by kernel_rfl) ⟨ob1 rfl fun b q hk hn => ok_assign rfl (isV_int.2 rfl), trivial⟩ hQQ646 fun b q p => ?_
    exact tail_done (k := q) (hp647 _ _ ⟨Bs.post ⟨hg, hs, hd⟩ p, keep p 0 rfl i0, keep p 1 rfl i1, keep p 2 rfl i2, keep p 3 rfl i3, keep p 9 rfl i9, keep p 10 rfl i10, keep p 11 rfl i11, out p 0 13 _ rfl rfl rfl, trivial⟩)
  rintro a k ⟨⟨hg, hs, hd⟩, i0, i1, i2, i3, i9, i10, i11, i13, _⟩
  refine wp_seq ?_
  refine cut (fun a' k' => Bs noF k0 174 a' k' ∧ (IsV holidays) (a'.get 0) k' ∧ (IsV stays) (a'.get 1) k' ∧ (IsV a_) (a'.get 2) k' ∧ (IsV days) (a'.get 3) k' ∧ (IsV x522_0) (a'.get 9) k' ∧ (IsV x527_1) (a'.get 10) k' ∧ (IsV s545.1) (a'.get 11) k' ∧ (IsV (α := Int) 0) (a'.get 13) k' ∧ (IsV (α := Int) 0) (a'.get 14) k' ∧ True) ?_ hQ ?_
  · intro Q644 hQQ644 hp645
    refine regionS (a0 := a) (k0 := k) (n := 174) (m := 1) (⟨some (IsV (α := Int) 0), []⟩ :: []) hs (by kernel_rfl) ⟨ob1 rfl fun b q hk hn => ok_assign rfl (isV_int.2 rfl), trivial⟩ hQQ644 fun b q p => ?_
    exact tail_done (k := q) (hp645 _ _ ⟨Bs.post ⟨hg, hs, hd⟩ p, keep p 0 rfl i0, keep p 1 rfl i1, keep p 2 rfl i2, keep p 3 rfl i3, keep p 9 rfl i9, keep p 10 rfl i10, keep p 11 rfl i11, keep p 13 rfl i13, out p 0 14 _ rfl rfl rfl, trivial⟩)
  rintro a k ⟨⟨hg, hs, hd⟩, i0, i1, i2, i3, i9, i10, i11, i13, i14, _⟩
  refine wp_seq ?_
  refine wp_seq ?_
  obtain ⟨x548_1, hx548_1, hr⟩ := bind_some hr
  refine cut (fun a' k' => Bs noF k0 174 a' k' ∧ (IsV holidays) (a'.get 0) k' ∧ (IsV stays) (a'.get 1) k' ∧ (IsV a_) (a'.get 2) k' ∧ (IsV days) (a'.get 3) k' ∧ (IsV x522_0) (a'.get 9) k' ∧ (IsV x527_1) (a'.get 10) k' ∧ (IsV s545.1) (a'.get 11) k' ∧ (IsV (α := Int) 0) (a'.get 13) k' ∧ (IsV (α := Int) 0) (a'.get 14) k' ∧ (IsV x548_1) (a'.get 15) k' ∧ True) ?_ hQ ?_
  · intro Q642 hQQ642 hp643
    refine regionS (a0 := a) (k0 := k) (n := 174) (m := 3) (⟨some (IsV a_), [(2, none)]⟩ :: ⟨some (IsV x548_1), [(74, some 0)]⟩ :: ⟨some (IsV x548_1), [(75, some 1)]⟩ :: []) hs (by kernel_rfl) ⟨ob1 rfl fun b q hk hn => ok_move rfl (up i2 hk hn.1), ob1 rfl fun b q hk hn => ok_add rfl hn.1 (isV_int.2 rfl) hx548_1, ob1 rfl fun b q hk hn => ok_assign rfl hn.1, trivial⟩ hQQ642 fun b q p => ?_
    exact tail_done (k := q) (hp643 _ _ ⟨Bs.post ⟨hg, hs, hd⟩ p, keep p 0 rfl i0, keep p 1 rfl i1, keep p 2 rfl i2, keep p 3 rfl i3, keep p 9 rfl i9, keep p 10 rfl i10, keep p 11 rfl i11, keep p 13 rfl i13, keep p 14 rfl i14, out p 2 15 _ rfl rfl rfl, trivial⟩)
  rintro a k ⟨⟨hg, hs, hd⟩, i0, i1, i2, i3, i9, i10, i11, i13, i14, i15, _⟩
  refine wp_block ?_
  obtain ⟨f635, hf635, hr⟩ := bind_some hr
  refine cutFe f635 (fun s' a' k' => Bs noF k0 174 a' k' ∧ (IsV holidays) (a'.get 0) k' ∧ (IsV stays) (a'.get 1) k' ∧ (IsV a_) (a'.get 2) k' ∧ (IsV days) (a'.get 3) k' ∧ (IsV x522_0) (a'.get 9) k' ∧ (IsV x527_1) (a'.get 10) k' ∧ (IsV s545.1) (a'.get 11) k' ∧ (IsV s'.1) (a'.get 13) k' ∧ (IsV s'.2.1) (a'.get 14) k' ∧ (IsV s'.2.2) (a'.get 15) k' ∧ True) (fun i' s' a' k' => (i' = 2 ∧ Bs noF k0 174 a' k' ∧ (IsV holidays) (a'.get 0) k' ∧ (IsV stays) (a'.get 1) k' ∧ (IsV a_) (a'.get 2) k' ∧ (IsV days) (a'.get 3) k' ∧ (IsV x522_0) (a'.get 9) k' ∧ (IsV s'.1) (a'.get 13) k' ∧ (IsV s'.2.1) (a'.get 14) k' ∧ True)) (fun r' a' k' => bodyPost Try.prog Try.f4 (RetC noF k0 (IsV r')) .ret a' k'.w) ?_ hQ ?_ ?_ ?_
  · intro Q641 hQQ641 hgo hex hret
    refine sim_loop ?_ _ _ _ _ _ hf635 ⟨⟨hg, hs, hd⟩, i0, i1, i2, i3, i9, i10, i11, i13, i14, i15, trivial⟩ Q641 hQQ641 hgo hex hret
    clear hr hf635 hgo hex hret hQQ641 hQ hg hs hd i0 i1 i10 i11 i13 i14 i15 i2 i3 i9
    intro s549 fl_ a k hr hS Q hQ hgo550 hex551 hret552
    obtain ⟨⟨hg, hs, hd⟩, i0, i1, i2, i3, i9, i10, i11, i13, i14, i15, _⟩ := hS
    unfold lawDays_L1 at hr
    refine wp_seq ?_
    refine wp_seq ?_
    obtain ⟨x553_3, hx553_3, hr⟩ := bind_some hr
    refine cut (fun a' k' => Bs noF k0 174 a' k' ∧ (IsV holidays) (a'.get 0) k' ∧ (IsV stays) (a'.get 1) k' ∧ (IsV a_) (a'.get 2) k' ∧ (IsV days) (a'.get 3) k' ∧ (IsV x522_0) (a'.get 9) k' ∧ (IsV x527_1) (a'.get 10) k' ∧ (IsV s545.1) (a'.get 11) k' ∧ (IsV s549.1) (a'.get 13) k' ∧ (IsV s549.2.1) (a'.get 14) k' ∧ (IsV s549.2.2) (a'.get 15) k' ∧ (IsV (decide (s549.2.2 ≤ x553_3))) (a'.get 80) k' ∧ True) ?_ hQ ?_
    · intro Q633 hQQ633 hp634
      refine regionS (a0 := a) (k0 := k) (n := 174) (m := 5) (⟨some (IsV s549.2.2), [(15, none)]⟩ :: ⟨some (IsV a_), [(2, none)]⟩ :: ⟨some (IsV days), [(3, none)]⟩ :: ⟨some (IsV x553_3), [(77, some 1), (78, some 2)]⟩ :: ⟨some (IsV (decide (s549.2.2 ≤ x553_3))), [(76, some 0), (79, some 3)]⟩ :: []) hs (by kernel_rfl) ⟨ob1 rfl fun b q hk hn => ok_move rfl (up i15 hk hn.1), ob1 rfl fun b q hk hn => ok_move rfl (up i2 hk hn.1), ob1 rfl fun b q hk hn => ok_move rfl (up i3 hk hn.1), ob1 rfl fun b q hk hn => ok_add rfl hn.1 hn.2.1 hx553_3, ob1 rfl fun b q hk hn => ok_leq rfl hn.1 hn.2.1, trivial⟩ hQQ633 fun b q p => ?_
      exact tail_done (k := q) (hp634 _ _ ⟨Bs.post ⟨hg, hs, hd⟩ p, keep p 0 rfl i0, keep p 1 rfl i1, keep p 2 rfl i2, keep p 3 rfl i3, keep p 9 rfl i9, keep p 10 rfl i10, keep p 11 rfl i11, keep p 13 rfl i13, keep p 14 rfl i14, keep p 15 rfl i15, out p 4 80 _ rfl rfl rfl, trivial⟩)
    rintro a k ⟨⟨hg, hs, hd⟩, i0, i1, i2, i3, i9, i10, i11, i13, i14, i15, i80, _⟩
    refine wp_cond_split (isBool i80) (fun hc632 => ?_) (fun hc632 => ?_)
    · rw [if_pos hc632] at hr
      refine wp_skip ?_
      refine wp_seq ?_
      refine wp_block ?_
      refine wp_seq ?_
      obtain ⟨x554_5, hx554_5, hr⟩ := bind_some hr
      obtain ⟨x554_3, hx554_3, hx554_5⟩ := ite_bind hx554_5
      refine cut (fun a' k' => Bs noF k0 174 a' k' ∧ (IsV holidays) (a'.get 0) k' ∧ (IsV stays) (a'.get 1) k' ∧ (IsV a_) (a'.get 2) k' ∧ (IsV days) (a'.get 3) k' ∧ (IsV x522_0) (a'.get 9) k' ∧ (IsV x527_1) (a'.get 10) k' ∧ (IsV s545.1) (a'.get 11) k' ∧ (IsV s549.1) (a'.get 13) k' ∧ (IsV s549.2.1) (a'.get 14) k' ∧ (IsV s549.2.2) (a'.get 15) k' ∧ (IsV x554_5) (a'.get 16) k' ∧ True) ?_ hQ ?_
      · intro Q630 hQQ630 hp631
        refine regionS (a0 := a) (k0 := k) (n := 174) (m := 7) (⟨some (IsV x527_1), [(10, none)]⟩ :: ⟨some (IsV x527_1), [(83, some 0)]⟩ :: ⟨some (Gd (x527_1 = true) (IsV s549.2.2)), [(15, none)]⟩ :: ⟨some (Gd (x527_1 = true) (IsV x554_3)), [(85, some 2)]⟩ :: ⟨some (Gd (x527_1 = true) (IsV (decide (x554_3 < 5)))), [(86, some 3)]⟩ :: ⟨some (IsV x554_5), [(84, some 1), (87, some 4)]⟩ :: ⟨some (IsV x554_5), [(88, some 5)]⟩ :: []) hs (by kernel_rfl) ⟨ob1 rfl fun b q hk hn => ok_move rfl (up i10 hk hn.1), ob1 rfl fun b q hk hn => ok_move rfl hn.1, gdT rfl rfl fun hp b q hk hn => ok_move rfl (up i15 hk hn.1), gdT rfl rfl fun hp b q hk hn => ok_rem rfl (Gd.get hn.1 hp) (isV_int.2 rfl) (hx554_3 hp), gdT rfl rfl fun hp b q hk hn => ok_lss rfl (Gd.get hn.1 hp) (isV_int.2 rfl), ob1 rfl fun b q hk hn => ok_pickM rfl hn.1 hx554_5 (fun hm => (Gd.get hn.2.1 hm)) (fun _ => (isV_bool.2 rfl)), ob1 rfl fun b q hk hn => ok_assign rfl hn.1, trivial⟩ hQQ630 fun b q p => ?_
        exact tail_done (k := q) (hp631 _ _ ⟨Bs.post ⟨hg, hs, hd⟩ p, keep p 0 rfl i0, keep p 1 rfl i1, keep p 2 rfl i2, keep p 3 rfl i3, keep p 9 rfl i9, keep p 10 rfl i10, keep p 11 rfl i11, keep p 13 rfl i13, keep p 14 rfl i14, keep p 15 rfl i15, out p 6 16 _ rfl rfl rfl, trivial⟩)
      rintro a k ⟨⟨hg, hs, hd⟩, i0, i1, i2, i3, i9, i10, i11, i13, i14, i15, i16, _⟩
      refine wp_seq ?_
      refine wp_seq ?_
      refine cut (fun a' k' => Bs noF k0 174 a' k' ∧ (IsV holidays) (a'.get 0) k' ∧ (IsV stays) (a'.get 1) k' ∧ (IsV a_) (a'.get 2) k' ∧ (IsV days) (a'.get 3) k' ∧ (IsV x522_0) (a'.get 9) k' ∧ (IsV x527_1) (a'.get 10) k' ∧ (IsV s545.1) (a'.get 11) k' ∧ (IsV s549.1) (a'.get 13) k' ∧ (IsV s549.2.1) (a'.get 14) k' ∧ (IsV s549.2.2) (a'.get 15) k' ∧ (IsV x554_5) (a'.get 16) k' ∧ (IsV (α := Int) 0) (a'.get 17) k' ∧ True) ?_ hQ ?_
      · intro Q628 hQQ628 hp629
        refine regionS (a0 := a) (k0 := k) (n := 174) (m := 1) (⟨some (IsV (α := Int) 0), []⟩ :: []) hs (by kernel_rfl) ⟨ob1 rfl fun b q hk hn => ok_assign rfl (isV_int.2 rfl), trivial⟩ hQQ628 fun b q p => ?_
        exact tail_done (k := q) (hp629 _ _ ⟨Bs.post ⟨hg, hs, hd⟩ p, keep p 0 rfl i0, keep p 1 rfl i1, keep p 2 rfl i2, keep p 3 rfl i3, keep p 9 rfl i9, keep p 10 rfl i10, keep p 11 rfl i11, keep p 13 rfl i13, keep p 14 rfl i14, keep p 15 rfl i15, keep p 16 rfl i16, out p 0 17 _ rfl rfl rfl, trivial⟩)
      rintro a k ⟨⟨hg, hs, hd⟩, i0, i1, i2, i3, i9, i10, i11, i13, i14, i15, i16, i17, _⟩
      refine wp_block ?_
      obtain ⟨f570, hf570, hr⟩ := bind_some hr
      refine cutFe f570 (fun s' a' k' => Bs noF k0 174 a' k' ∧ (IsV holidays) (a'.get 0) k' ∧ (IsV stays) (a'.get 1) k' ∧ (IsV a_) (a'.get 2) k' ∧ (IsV days) (a'.get 3) k' ∧ (IsV x522_0) (a'.get 9) k' ∧ (IsV x527_1) (a'.get 10) k' ∧ (IsV s545.1) (a'.get 11) k' ∧ (IsV s549.1) (a'.get 13) k' ∧ (IsV s549.2.1) (a'.get 14) k' ∧ (IsV s549.2.2) (a'.get 15) k' ∧ (IsV s'.1) (a'.get 16) k' ∧ (IsV s'.2) (a'.get 17) k' ∧ True) (fun i' s' a' k' => (i' = 4 ∧ Bs noF k0 174 a' k' ∧ (IsV holidays) (a'.get 0) k' ∧ (IsV stays) (a'.get 1) k' ∧ (IsV a_) (a'.get 2) k' ∧ (IsV days) (a'.get 3) k' ∧ (IsV x522_0) (a'.get 9) k' ∧ (IsV x527_1) (a'.get 10) k' ∧ (IsV s545.1) (a'.get 11) k' ∧ (IsV s549.1) (a'.get 13) k' ∧ (IsV s549.2.1) (a'.get 14) k' ∧ (IsV s549.2.2) (a'.get 15) k' ∧ (IsV s'.1) (a'.get 16) k' ∧ True)) (fun r' a' k' => bodyPost Try.prog Try.f4 (RetC noF k0 (IsV r')) .ret a' k'.w) ?_ hQ ?_ ?_ ?_
      · intro Q627 hQQ627 hgo hex hret
        refine sim_loop ?_ _ _ _ _ _ hf570 ⟨⟨hg, hs, hd⟩, i0, i1, i2, i3, i9, i10, i11, i13, i14, i15, i16, i17, trivial⟩ Q627 hQQ627 hgo hex hret
        clear hr hf570 hgo hex hret hQQ627 hQ hg hs hd i0 i1 i10 i11 i13 i14 i15 i16 i17 i2 i3 i9
        intro s556 fl_ a k hr hS Q hQ hgo557 hex558 hret559
        obtain ⟨⟨hg, hs, hd⟩, i0, i1, i2, i3, i9, i10, i11, i13, i14, i15, i16, i17, _⟩ := hS
        unfold lawDays_L2 at hr
        refine wp_seq ?_
        refine wp_seq ?_
        refine cut (fun a' k' => Bs noF k0 174 a' k' ∧ (IsV holidays) (a'.get 0) k' ∧ (IsV stays) (a'.get 1) k' ∧ (IsV a_) (a'.get 2) k' ∧ (IsV days) (a'.get 3) k' ∧ (IsV x522_0) (a'.get 9) k' ∧ (IsV x527_1) (a'.get 10) k' ∧ (IsV s545.1) (a'.get 11) k' ∧ (IsV s549.1) (a'.get 13) k' ∧ (IsV s549.2.1) (a'.get 14) k' ∧ (IsV s549.2.2) (a'.get 15) k' ∧ (IsV s556.1) (a'.get 16) k' ∧ (IsV s556.2) (a'.get 17) k' ∧ (IsV (decide (s556.2 < (holidays.length : Int)))) (a'.get 92) k' ∧ True) ?_ hQ ?_
        · intro Q568 hQQ568 hp569
          refine regionS (a0 := a) (k0 := k) (n := 174) (m := 4) (⟨some (IsV s556.2), [(17, none)]⟩ :: ⟨some (IsV holidays), [(0, none)]⟩ :: ⟨some (IsV (α := Int) (holidays.length : Int)), [(90, some 1)]⟩ :: ⟨some (IsV (decide (s556.2 < (holidays.length : Int)))), [(89, some 0), (91, some 2)]⟩ :: []) hs (by kernel_rfl) ⟨ob1 rfl fun b q hk hn => ok_move rfl (up i17 hk hn.1), ob1 rfl fun b q hk hn => ok_move rfl (up i0 hk hn.1), ob1 rfl fun b q hk hn => ok_len rfl rfl Try.underlying22 (IsV.rd hn.1), ob1 rfl fun b q hk hn => ok_lss rfl hn.1 hn.2.1, trivial⟩ hQQ568 fun b q p => ?_
          exact tail_done (k := q) (hp569 _ _ ⟨Bs.post ⟨hg, hs, hd⟩ p, keep p 0 rfl i0, keep p 1 rfl i1, keep p 2 rfl i2, keep p 3 rfl i3, keep p 9 rfl i9, keep p 10 rfl i10, keep p 11 rfl i11, keep p 13 rfl i13, keep p 14 rfl i14, keep p 15 rfl i15, keep p 16 rfl i16, keep p 17 rfl i17, out p 3 92 _ rfl rfl rfl, trivial⟩)
        rintro a k ⟨⟨hg, hs, hd⟩, i0, i1, i2, i3, i9, i10, i11, i13, i14, i15, i16, i17, i92, _⟩
        refine wp_cond_split (isBool i92) (fun hc567 => ?_) (fun hc567 => ?_)
        · rw [if_pos hc567] at hr
          refine wp_skip ?_
          refine wp_seq ?_
          refine wp_block ?_
          obtain ⟨x561_8, hx561_8, hr⟩ := bind_some hr
          obtain ⟨x561_4, hx561_4, hx561_8⟩ := ite_bind hx561_8
          refine cut (fun a' k' => Bs noF k0 174 a' k' ∧ (IsV holidays) (a'.get 0) k' ∧ (IsV stays) (a'.get 1) k' ∧ (IsV a_) (a'.get 2) k' ∧ (IsV days) (a'.get 3) k' ∧ (IsV x522_0) (a'.get 9) k' ∧ (IsV x527_1) (a'.get 10) k' ∧ (IsV s545.1) (a'.get 11) k' ∧ (IsV s549.1) (a'.get 13) k' ∧ (IsV s549.2.1) (a'.get 14) k' ∧ (IsV s549.2.2) (a'.get 15) k' ∧ (IsV x561_8) (a'.get 16) k' ∧ (IsV s556.2) (a'.get 17) k' ∧ True) ?_ hQ ?_
          · intro Q565 hQQ565 hp566
            refine regionS (a0 := a) (k0 := k) (n := 174) (m := 10) (⟨some (IsV s556.1), [(16, none)]⟩ :: ⟨some (IsV s556.1), [(95, some 0)]⟩ :: ⟨some (Gd (s556.1 = true) (IsV holidays)), [(0, none)]⟩ :: ⟨some (Gd (s556.1 = true) (IsV s556.2)), [(17, none)]⟩ :: ⟨some (Gd (s556.1 = true) (IsPtr x561_4)), [(97, some 2), (98, some 3)]⟩ :: ⟨some (Gd (s556.1 = true) (IsV x561_4)), [(99, some 4)]⟩ :: ⟨some (Gd (s556.1 = true) (IsV s549.2.2)), [(15, none)]⟩ :: ⟨some (Gd (s556.1 = true) (IsV (x561_4 != s549.2.2))), [(100, some 5), (101, some 6)]⟩ :: ⟨some (IsV x561_8), [(96, some 1), (102, some 7)]⟩ :: ⟨some (IsV x561_8), [(103, some 8)]⟩ :: []) hs (by kernel_rfl) ⟨ob1 rfl fun b q hk hn => ok_move rfl (up i16 hk hn.1), ob1 rfl fun b q hk hn => ok_move rfl hn.1, gdT rfl rfl fun hp b q hk hn => ok_move rfl (up i0 hk hn.1), gdT rfl rfl fun hp b q hk hn => ok_move rfl (up i17 hk hn.1), gdT rfl rfl fun hp b q hk hn => ok_indexAddr rfl Try.underlying22 ty3 (IsV.rd (Gd.get hn.1 hp)) (Gd.get hn.2.1 hp) (hx561_4 hp), gdT rfl rfl fun hp b q hk hn => ok_load rfl ty3 (Gd.get hn.1 hp), gdT rfl rfl fun hp b q hk hn => ok_move rfl (up i15 hk hn.1), gdT rfl rfl fun hp b q hk hn => ok_neI rfl (Gd.get hn.1 hp) (Gd.get hn.2.1 hp), ob1 rfl fun b q hk hn => ok_pickM rfl hn.1 hx561_8 (fun hm => (Gd.get hn.2.1 hm)) (fun _ => (isV_bool.2 rfl)), ob1 rfl fun b q hk hn => ok_assign rfl hn.1, trivial⟩ hQQ565 fun b q p => ?_
            exact tail_done (k := q) (hp566 _ _ ⟨Bs.post ⟨hg, hs, hd⟩ p, keep p 0 rfl i0, keep p 1 rfl i1, keep p 2 rfl i2, keep p 3 rfl i3, keep p 9 rfl i9, keep p 10 rfl i10, keep p 11 rfl i11, keep p 13 rfl i13, keep p 14 rfl i14, keep p 15 rfl i15, out p 9 16 _ rfl rfl rfl, keep p 17 rfl i17, trivial⟩)
          rintro a k ⟨⟨hg, hs, hd⟩, i0, i1, i2, i3, i9, i10, i11, i13, i14, i15, i16, i17, _⟩
          obtain ⟨x562_1, hx562_1, hr⟩ := bind_some hr
          refine cut (fun a' k' => Bs noF k0 174 a' k' ∧ (IsV holidays) (a'.get 0) k' ∧ (IsV stays) (a'.get 1) k' ∧ (IsV a_) (a'.get 2) k' ∧ (IsV days) (a'.get 3) k' ∧ (IsV x522_0) (a'.get 9) k' ∧ (IsV x527_1) (a'.get 10) k' ∧ (IsV s545.1) (a'.get 11) k' ∧ (IsV s549.1) (a'.get 13) k' ∧ (IsV s549.2.1) (a'.get 14) k' ∧ (IsV s549.2.2) (a'.get 15) k' ∧ (IsV x561_8) (a'.get 16) k' ∧ (IsV x562_1) (a'.get 17) k' ∧ True) ?_ hQ ?_
          · intro Q563 hQQ563 hp564
            refine regionS (a0 := a) (k0 := k) (n := 174) (m := 3) (⟨some (IsV s556.2), [(17, none)]⟩ :: ⟨some (IsV x562_1), [(93, some 0)]⟩ :: ⟨some (IsV x562_1), [(94, some 1)]⟩ :: []) hs (by kernel_rfl) ⟨ob1 rfl fun b q hk hn => ok_move rfl (up i17 hk hn.1), ob1 rfl fun b q hk hn => ok_add rfl hn.1 (isV_int.2 rfl) hx562_1, ob1 rfl fun b q hk hn => ok_assign rfl hn.1, trivial⟩ hQQ563 fun b q p => ?_
            exact tail_done (k := q) (hp564 _ _ ⟨Bs.post ⟨hg, hs, hd⟩ p, keep p 0 rfl i0, keep p 1 rfl i1, keep p 2 rfl i2, keep p 3 rfl i3, keep p 9 rfl i9, keep p 10 rfl i10, keep p 11 rfl i11, keep p 13 rfl i13, keep p 14 rfl i14, keep p 15 rfl i15, keep p 16 rfl i16, out p 2 17 _ rfl rfl rfl, trivial⟩)
          rintro a k ⟨⟨hg, hs, hd⟩, i0, i1, i2, i3, i9, i10, i11, i13, i14, i15, i16, i17, _⟩
          exact hgo557 _ _ _ (Option.some.inj hr).symm ⟨⟨hg, hs, hd⟩, i0, i1, i2, i3, i9, i10, i11, i13, i14, i15, i16, i17, trivial⟩
        rw [if_neg (by rw [hc567]; decide)] at hr
        refine wp_exit ?_
        exact hex558 _ _ _ _ (Option.some.inj hr).symm ⟨rfl, ⟨hg, hs, hd⟩, i0, i1, i2, i3, i9, i10, i11, i13, i14, i15, i16, trivial⟩
      · rintro r626 a k rfl hR
        dsimp only at hr
        exact hret552 _ _ _ (Option.some.inj hr).symm hR
      · rintro _ _ _ rfl _
        simp at hr
      clear hf570
      rintro _ s571 a k rfl ⟨rfl, ⟨hg, hs, hd⟩, i0, i1, i2, i3, i9, i10, i11, i13, i14, i15, i16, _⟩
      dsimp only at hr
      refine wp_seq ?_
      refine cut (fun a' k' => Bs noF k0 174 a' k' ∧ (IsV holidays) (a'.get 0) k' ∧ (IsV stays) (a'.get 1) k' ∧ (IsV a_) (a'.get 2) k' ∧ (IsV days) (a'.get 3) k' ∧ (IsV x522_0) (a'.get 9) k' ∧ (IsV x527_1) (a'.get 10) k' ∧ (IsV s545.1) (a'.get 11) k' ∧ (IsV s549.1) (a'.get 13) k' ∧ (IsV s549.2.1) (a'.get 14) k' ∧ (IsV s549.2.2) (a'.get 15) k' ∧ (IsV s571.1) (a'.get 16) k' ∧ (IsV (s571.1 && s545.1)) (a'.get 18) k' ∧ True) ?_ hQ ?_
      · intro Q624 hQQ624 hp625
        refine regionS (a0 := a) (k0 := k) (n := 174) (m := 5) (⟨some (IsV s571.1), [(16, none)]⟩ :: ⟨some (IsV s571.1), [(104, some 0)]⟩ :: ⟨some (Gd (s571.1 = true) (IsV s545.1)), [(11, none)]⟩ :: ⟨some (IsV (s571.1 && s545.1)), [(105, some 1), (106, some 2)]⟩ :: ⟨some (IsV (s571.1 && s545.1)), [(107, some 3)]⟩ :: []) hs (by kernel_rfl) ⟨ob1 rfl fun b q hk hn => ok_move rfl (up i16 hk hn.1), ob1 rfl fun b q hk hn => ok_move rfl hn.1, gdT rfl rfl fun hp b q hk hn => ok_move rfl (up i11 hk hn.1), ob1 rfl fun b q hk hn => ok_pickAnd rfl hn.1 (fun hm => (Gd.get hn.2.1 hm)) (fun _ => (isV_bool.2 rfl)), ob1 rfl fun b q hk hn => ok_assign rfl hn.1, trivial⟩ hQQ624 fun b q p => ?_
        exact tail_done (k := q) (hp625 _ _ ⟨Bs.post ⟨hg, hs, hd⟩ p, keep p 0 rfl i0, keep p 1 rfl i1, keep p 2 rfl i2, keep p 3 rfl i3, keep p 9 rfl i9, keep p 10 rfl i10, keep p 11 rfl i11, keep p 13 rfl i13, keep p 14 rfl i14, keep p 15 rfl i15, keep p 16 rfl i16, out p 4 18 _ rfl rfl rfl, trivial⟩)
      rintro a k ⟨⟨hg, hs, hd⟩, i0, i1, i2, i3, i9, i10, i11, i13, i14, i15, i16, i18, _⟩
      refine wp_seq ?_
      refine wp_seq ?_
      refine cut (fun a' k' => Bs noF k0 174 a' k' ∧ (IsV holidays) (a'.get 0) k' ∧ (IsV stays) (a'.get 1) k' ∧ (IsV a_) (a'.get 2) k' ∧ (IsV days) (a'.get 3) k' ∧ (IsV x522_0) (a'.get 9) k' ∧ (IsV x527_1) (a'.get 10) k' ∧ (IsV s545.1) (a'.get 11) k' ∧ (IsV s549.1) (a'.get 13) k' ∧ (IsV s549.2.1) (a'.get 14) k' ∧ (IsV s549.2.2) (a'.get 15) k' ∧ (IsV s571.1) (a'.get 16) k' ∧ (IsV (s571.1 && s545.1)) (a'.get 18) k' ∧ (IsV (α := Int) 0) (a'.get 19) k' ∧ True) ?_ hQ ?_
      · intro Q622 hQQ622 hp623
        refine regionS (a0 := a) (k0 := k) (n := 174) (m := 1) (⟨some (IsV (α := Int) 0), []⟩ :: []) hs (by kernel_rfl) ⟨ob1 rfl fun b q hk hn => ok_assign rfl (isV_int.2 rfl), trivial⟩ hQQ622 fun b q p => ?_
        exact tail_done (k := q) (hp623 _ _ ⟨Bs.post ⟨hg, hs, hd⟩ p, keep p 0 rfl i0, keep p 1 rfl i1, keep p 2 rfl i2, keep p 3 rfl i3, keep p 9 rfl i9, keep p 10 rfl i10, keep p 11 rfl i11, keep p 13 rfl i13, keep p 14 rfl i14, keep p 15 rfl i15, keep p 16 rfl i16, keep p 18 rfl i18, out p 0 19 _ rfl rfl rfl, trivial⟩)
      rintro a k ⟨⟨hg, hs, hd⟩, i0, i1, i2, i3, i9, i10, i11, i13, i14, i15, i16, i18, i19, _⟩
      refine wp_block ?_
      obtain ⟨f588, hf588, hr⟩ := bind_some hr
      refine cutFe f588 (fun s' a' k' => Bs noF k0 174 a' k' ∧ (IsV holidays) (a'.get 0) k' ∧ (IsV stays) (a'.get 1) k' ∧ (IsV a_) (a'.get 2) k' ∧ (IsV days) (a'.get 3) k' ∧ (IsV x522_0) (a'.get 9) k' ∧ (IsV x527_1) (a'.get 10) k' ∧ (IsV s545.1) (a'.get 11) k' ∧ (IsV s549.1) (a'.get 13) k' ∧ (IsV s549.2.1) (a'.get 14) k' ∧ (IsV s549.2.2) (a'.get 15) k' ∧ (IsV s571.1) (a'.get 16) k' ∧ (IsV s'.1) (a'.get 18) k' ∧ (IsV s'.2) (a'.get 19) k' ∧ True) (fun i' s' a' k' => (i' = 6 ∧ Bs noF k0 174 a' k' ∧ (IsV holidays) (a'.get 0) k' ∧ (IsV stays) (a'.get 1) k' ∧ (IsV a_) (a'.get 2) k' ∧ (IsV days) (a'.get 3) k' ∧ (IsV x522_0) (a'.get 9) k' ∧ (IsV x527_1) (a'.get 10) k' ∧ (IsV s545.1) (a'.get 11) k' ∧ (IsV s549.1) (a'.get 13) k' ∧ (IsV s549.2.1) (a'.get 14) k' ∧ (IsV s549.2.2) (a'.get 15) k' ∧ (IsV s571.1) (a'.get 16) k' ∧ (IsV s'.1) (a'.get 18) k' ∧ True)) (fun r' a' k' => bodyPost Try.prog Try.f4 (RetC noF k0 (IsV r')) .ret a' k'.w) ?_ hQ ?_ ?_ ?_
      · intro Q621 hQQ621 hgo hex hret
        refine sim_loop ?_ _ _ _ _ _ hf588 ⟨⟨hg, hs, hd⟩, i0, i1, i2, i3, i9, i10, i11, i13, i14, i15, i16, i18, i19, trivial⟩ Q621 hQQ621 hgo hex hret
        clear hr hf588 hgo hex hret hQQ621 hQ hg hs hd i0 i1 i10 i11 i13 i14 i15 i16 i18 i19 i2 i3 i9
        intro s574 fl_ a k hr hS Q hQ hgo575 hex576 hret577
        obtain ⟨⟨hg, hs, hd⟩, i0, i1, i2, i3, i9, i10, i11, i13, i14, i15, i16, i18, i19, _⟩ := hS
        unfold lawDays_L3 at hr
        refine wp_seq ?_
        refine wp_seq ?_
        refine cut (fun a' k' => Bs noF k0 174 a' k' ∧ (IsV holidays) (a'.get 0) k' ∧ (IsV stays) (a'.get 1) k' ∧ (IsV a_) (a'.get 2) k' ∧ (IsV days) (a'.get 3) k' ∧ (IsV x522_0) (a'.get 9) k' ∧ (IsV x527_1) (a'.get 10) k' ∧ (IsV s545.1) (a'.get 11) k' ∧ (IsV s549.1) (a'.get 13) k' ∧ (IsV s549.2.1) (a'.get 14) k' ∧ (IsV s549.2.2) (a'.get 15) k' ∧ (IsV s571.1) (a'.get 16) k' ∧ (IsV s574.1) (a'.get 18) k' ∧ (IsV s574.2) (a'.get 19) k' ∧ (IsV (decide (s574.2 < (stays.length : Int)))) (a'.get 111) k' ∧ True) ?_ hQ ?_
        · intro Q586 hQQ586 hp587
          refine regionS (a0 := a) (k0 := k) (n := 174) (m := 4) (⟨some (IsV s574.2), [(19, none)]⟩ :: ⟨some (IsV stays), [(1, none)]⟩ :: ⟨some (IsV (α := Int) (stays.length : Int)), [(109, some 1)]⟩ :: ⟨some (IsV (decide (s574.2 < (stays.length : Int)))), [(108, some 0), (110, some 2)]⟩ :: []) hs (by kernel_rfl) ⟨ob1 rfl fun b q hk hn => ok_move rfl (up i19 hk hn.1), ob1 rfl fun b q hk hn => ok_move rfl (up i1 hk hn.1), ob1 rfl fun b q hk hn => ok_len rfl rfl Try.underlying23 (IsV.rd hn.1), ob1 rfl fun b q hk hn => ok_lss rfl hn.1 hn.2.1, trivial⟩ hQQ586 fun b q p => ?_
          exact tail_done (k := q) (hp587 _ _ ⟨Bs.post ⟨hg, hs, hd⟩ p, keep p 0 rfl i0, keep p 1 rfl i1, keep p 2 rfl i2, keep p 3 rfl i3, keep p 9 rfl i9, keep p 10 rfl i10, keep p 11 rfl i11, keep p 13 rfl i13, keep p 14 rfl i14, keep p 15 rfl i15, keep p 16 rfl i16, keep p 18 rfl i18, keep p 19 rfl i19, out p 3 111 _ rfl rfl rfl, trivial⟩)
        rintro a k ⟨⟨hg, hs, hd⟩, i0, i1, i2, i3, i9, i10, i11, i13, i14, i15, i16, i18, i19, i111, _⟩
        refine wp_cond_split (isBool i111) (fun hc585 => ?_) (fun hc585 => ?_)
        · rw [if_pos hc585] at hr
          refine wp_skip ?_
          refine wp_seq ?_
          refine wp_block ?_
          obtain ⟨x579_18, hx579_18, hr⟩ := bind_some hr
          obtain ⟨x579_5, hx579_5, hx579_18⟩ := ite_bind hx579_18
          obtain ⟨x579_17, hx579_17, hx579_18⟩ := ite_bind hx579_18
          obtain ⟨x579_13, hx579_13, hx579_17⟩ := ite_bindFP hx579_17
          refine cut (fun a' k' => Bs noF k0 174 a' k' ∧ (IsV holidays) (a'.get 0) k' ∧ (IsV stays) (a'.get 1) k' ∧ (IsV a_) (a'.get 2) k' ∧ (IsV days) (a'.get 3) k' ∧ (IsV x522_0) (a'.get 9) k' ∧ (IsV x527_1) (a'.get 10) k' ∧ (IsV s545.1) (a'.get 11) k' ∧ (IsV s549.1) (a'.get 13) k' ∧ (IsV s549.2.1) (a'.get 14) k' ∧ (IsV s549.2.2) (a'.get 15) k' ∧ (IsV s571.1) (a'.get 16) k' ∧ (IsV x579_18) (a'.get 18) k' ∧ (IsV s574.2) (a'.get 19) k' ∧ True) ?_ hQ ?_
          · intro Q583 hQQ583 hp584
            refine regionS (a0 := a) (k0 := k) (n := 174) (m := 20) (⟨some (IsV s574.1), [(18, none)]⟩ :: ⟨some (IsV s574.1), [(114, some 0)]⟩ :: ⟨some (Gd (s574.1 = true) (IsV s549.2.2)), [(15, none)]⟩ :: ⟨some (Gd (s574.1 = true) (IsV stays)), [(1, none)]⟩ :: ⟨some (Gd (s574.1 = true) (IsV s574.2)), [(19, none)]⟩ :: ⟨some (Gd (s574.1 = true) (IsPtr x579_5)), [(117, some 3), (118, some 4)]⟩ :: ⟨some (Gd (s574.1 = true) (IsPtr x579_5.From)), [(119, some 5)]⟩ :: ⟨some (Gd (s574.1 = true) (IsV x579_5.From)), [(120, some 6)]⟩ :: ⟨some (Gd (s574.1 = true) (IsV (decide (s549.2.2 < x579_5.From)))), [(116, some 2), (121, some 7)]⟩ :: ⟨some (Gd (s574.1 = true) (IsV (decide (s549.2.2 < x579_5.From)))), [(122, some 8)]⟩ :: ⟨some (Gd ((s574.1 = true) ∧ (decide (s549.2.2 < x579_5.From)) = false) (IsV s549.2.2)), [(15, none)]⟩ :: ⟨some (Gd ((s574.1 = true) ∧ (decide (s549.2.2 < x579_5.From)) = false) (IsV stays)), [(1, none)]⟩ :: ⟨some (Gd ((s574.1 = true) ∧ (decide (s549.2.2 < x579_5.From)) = false) (IsV s574.2)), [(19, none)]⟩ :: ⟨some (Gd ((s574.1 = true) ∧ (decide (s549.2.2 < x579_5.From)) = false) (IsPtr x579_13)), [(125, some 11), (126, some 12)]⟩ :: ⟨some (Gd ((s574.1 = true) ∧ (decide (s549.2.2 < x579_5.From)) = false) (IsPtr x579_13.To)), [(127, some 13)]⟩ :: ⟨some (Gd ((s574.1 = true) ∧ (decide (s549.2.2 < x579_5.From)) = false) (IsV x579_13.To)), [(128, some 14)]⟩ :: ⟨some (Gd ((s574.1 = true) ∧ (decide (s549.2.2 < x579_5.From)) = false) (IsV (decide (x579_13.To < s549.2.2)))), [(124, some 10), (129, some 15)]⟩ :: ⟨some (Gd (s574.1 = true) (IsV x579_17)), [(123, some 9), (130, some 16)]⟩ :: ⟨some (IsV x579_18), [(115, some 1), (131, some 17)]⟩ :: ⟨some (IsV x579_18), [(132, some 18)]⟩ :: []) hs (by kernel_rfl) ⟨ob1 rfl fun b q hk hn => ok_move rfl (up i18 hk hn.1), ob1 rfl fun b q hk hn => ok_move rfl hn.1, gdT rfl rfl fun hp b q hk hn => ok_move rfl (up i15 hk hn.1), gdT rfl rfl fun hp b q hk hn => ok_move rfl (up i1 hk hn.1), gdT rfl rfl fun hp b q hk hn => ok_move rfl (up i19 hk hn.1), gdT rfl rfl fun hp b q hk hn => ok_indexAddr rfl Try.underlying23 ty38 (IsV.rd (Gd.get hn.1 hp)) (Gd.get hn.2.1 hp) (hx579_5 hp), gdT rfl rfl fun hp b q hk hn => ok_fieldAddr rfl fo38_0 (at_Stay_0 _) (Gd.get hn.1 hp), gdT rfl rfl fun hp b q hk hn => ok_load rfl ty3 (Gd.get hn.1 hp), gdT rfl rfl fun hp b q hk hn => ok_lss rfl (Gd.get hn.1 hp) (Gd.get hn.2.1 hp), gdT rfl rfl fun hp b q hk hn => ok_move rfl (Gd.get hn.1 hp), gdTF rfl rfl fun hp b q hk hn => ok_move rfl (up i15 hk hn.1), gdTF rfl rfl fun hp b q hk hn => ok_move rfl (up i1 hk hn.1), gdTF rfl rfl fun hp b q hk hn => ok_move rfl (up i19 hk hn.1), gdTF rfl rfl fun hp b q hk hn => ok_indexAddr rfl Try.underlying23 ty38 (IsV.rd (Gd.get hn.1 hp)) (Gd.get hn.2.1 hp) (hx579_13 hp), gdTF rfl rfl fun hp b q hk hn => ok_fieldAddr rfl fo38_1 (at_Stay_1 _) (Gd.get hn.1 hp), gdTF rfl rfl fun hp b q hk hn => ok_load rfl ty3 (Gd.get hn.1 hp), gdTF rfl rfl fun hp b q hk hn => ok_gtr rfl (Gd.get hn.1 hp) (Gd.get hn.2.1 hp), gdT rfl rfl fun hp b q hk hn => ok_pickM rfl (Gd.get hn.1 hp) (hx579_17 hp) (fun _ => (isV_bool.2 rfl)) (fun hm => (Gd.get hn.2.1 ⟨hp, hm⟩)), ob1 rfl fun b q hk hn => ok_pickM rfl hn.1 hx579_18 (fun hm => (Gd.get hn.2.1 hm)) (fun _ => (isV_bool.2 rfl)), ob1 rfl fun b q hk hn => ok_assign rfl hn.1, trivial⟩ hQQ583 fun b q p => ?_
            exact tail_done (k := q) (hp584 _ _ ⟨Bs.post ⟨hg, hs, hd⟩ p, keep p 0 rfl i0, keep p 1 rfl i1, keep p 2 rfl i2, keep p 3 rfl i3, keep p 9 rfl i9, keep p 10 rfl i10, keep p 11 rfl i11, keep p 13 rfl i13, keep p 14 rfl i14, keep p 15 rfl i15, keep p 16 rfl i16, out p 19 18 _ rfl rfl rfl, keep p 19 rfl i19, trivial⟩)
          rintro a k ⟨⟨hg, hs, hd⟩, i0, i1, i2, i3, i9, i10, i11, i13, i14, i15, i16, i18, i19, _⟩
          obtain ⟨x580_1, hx580_1, hr⟩ := bind_some hr
          refine cut (fun a' k' => Bs noF k0 174 a' k' ∧ (IsV holidays) (a'.get 0) k' ∧ (IsV stays) (a'.get 1) k' ∧ (IsV a_) (a'.get 2) k' ∧ (IsV days) (a'.get 3) k' ∧ (IsV x522_0) (a'.get 9) k' ∧ (IsV x527_1) (a'.get 10) k' ∧ (IsV s545.1) (a'.get 11) k' ∧ (IsV s549.1) (a'.get 13) k' ∧ (IsV s549.2.1) (a'.get 14) k' ∧ (IsV s549.2.2) (a'.get 15) k' ∧ (IsV s571.1) (a'.get 16) k' ∧ (IsV x579_18) (a'.get 18) k' ∧ (IsV x580_1) (a'.get 19) k' ∧ True) ?_ hQ ?_
          · intro Q581 hQQ581 hp582
            refine regionS (a0 := a) (k0 := k) (n := 174) (m := 3) (⟨some (IsV s574.2), [(19, none)]⟩ :: ⟨some (IsV x580_1), [(112, some 0)]⟩ :: ⟨some (IsV x580_1), [(113, some 1)]⟩ :: []) hs (by kernel_rfl) ⟨ob1 rfl fun b q hk hn => ok_move rfl (up i19 hk hn.1), ob1 rfl fun b q hk hn => ok_add rfl hn.1 (isV_int.2 rfl) hx580_1, ob1 rfl fun b q hk hn => ok_assign rfl hn.1, trivial⟩ hQQ581 fun b q p => ?_
            exact tail_done (k := q) (hp582 _ _ ⟨Bs.post ⟨hg, hs, hd⟩ p, keep p 0 rfl i0, keep p 1 rfl i1, keep p 2 rfl i2, keep p 3 rfl i3, keep p 9 rfl i9, keep p 10 rfl i10, keep p 11 rfl i11, keep p 13 rfl i13, keep p 14 rfl i14, keep p 15 rfl i15, keep p 16 rfl i16, keep p 18 rfl i18, out p 2 19 _ rfl rfl rfl, trivial⟩)
          rintro a k ⟨⟨hg, hs, hd⟩, i0, i1, i2, i3, i9, i10, i11, i13, i14, i15, i16, i18, i19, _⟩
          exact hgo575 _ _ _ (Option.some.inj hr).symm ⟨⟨hg, hs, hd⟩, i0, i1, i2, i3, i9, i10, i11, i13, i14, i15, i16, i18, i19, trivial⟩
        rw [if_neg (by rw [hc585]; decide)] at hr
        refine wp_exit ?_
        exact hex576 _ _ _ _ (Option.some.inj hr).symm ⟨rfl, ⟨hg, hs, hd⟩, i0, i1, i2, i3, i9, i10, i11, i13, i14, i15, i16, i18, trivial⟩
      · rintro r620 a k rfl hR
        dsimp only at hr
        exact hret552 _ _ _ (Option.some.inj hr).symm hR
      · rintro _ _ _ rfl _
        simp at hr
      clear hf588
      rintro _ s589 a k rfl ⟨rfl, ⟨hg, hs, hd⟩, i0, i1, i2, i3, i9, i10, i11, i13, i14, i15, i16, i18, _⟩
      dsimp only at hr
      refine wp_seq ?_
      refine wp_seq ?_
      obtain ⟨x590_2, hx590_2, hr⟩ := bind_some hr
      obtain ⟨x590_12, hx590_12, hr⟩ := bind_some hr
      obtain ⟨x590_9, hx590_9, hx590_12⟩ := ite_bindF hx590_12
      refine cut (fun a' k' => Bs noF k0 174 a' k' ∧ (IsV holidays) (a'.get 0) k' ∧ (IsV stays) (a'.get 1) k' ∧ (IsV a_) (a'.get 2) k' ∧ (IsV days) (a'.get 3) k' ∧ (IsV x522_0) (a'.get 9) k' ∧ (IsV x527_1) (a'.get 10) k' ∧ (IsV s545.1) (a'.get 11) k' ∧ (IsV s549.1) (a'.get 13) k' ∧ (IsV s549.2.1) (a'.get 14) k' ∧ (IsV s549.2.2) (a'.get 15) k' ∧ (IsV s571.1) (a'.get 16) k' ∧ (IsV s589.1) (a'.get 18) k' ∧ (IsV x590_12) (a'.get 145) k' ∧ True) ?_ hQ ?_
      · intro Q618 hQQ618 hp619
        refine regionS (a0 := a) (k0 := k) (n := 174) (m := 13) (⟨some (IsV holidays), [(0, none)]⟩ :: ⟨some (IsV s549.2.2), [(15, none)]⟩ :: ⟨some (IsV x590_2), [(133, some 0), (134, some 1)]⟩ :: ⟨some (IsV s571.1), [(16, none)]⟩ :: ⟨some (IsV (x590_2 != s571.1)), [(135, some 2), (136, some 3)]⟩ :: ⟨some (IsV (x590_2 != s571.1)), [(137, some 4)]⟩ :: ⟨some (Gd ((x590_2 != s571.1) = false) (IsV holidays)), [(0, none)]⟩ :: ⟨some (Gd ((x590_2 != s571.1) = false) (IsV stays)), [(1, none)]⟩ :: ⟨some (Gd ((x590_2 != s571.1) = false) (IsV s549.2.2)), [(15, none)]⟩ :: ⟨some (Gd ((x590_2 != s571.1) = false) (IsV x590_9)), [(139, some 6), (140, some 7), (141, some 8)]⟩ :: ⟨some (Gd ((x590_2 != s571.1) = false) (IsV s589.1)), [(18, none)]⟩ :: ⟨some (Gd ((x590_2 != s571.1) = false) (IsV (x590_9 != s589.1))), [(142, some 9), (143, some 10)]⟩ :: ⟨some (IsV x590_12), [(138, some 5), (144, some 11)]⟩ :: []) hs (by kernel_rfl) ⟨ob1 rfl fun b q hk hn => ok_move rfl (up i0 hk hn.1), ob1 rfl fun b q hk hn => ok_move rfl (up i15 hk hn.1), ob1 rfl fun b q hk hn => ok_call rfl Try.call15 (calIsWork_ok hn.1 hn.2.1 hx590_2), ob1 rfl fun b q hk hn => ok_move rfl (up i16 hk hn.1), ob1 rfl fun b q hk hn => ok_neB rfl Try.underlying4 hn.1 hn.2.1, ob1 rfl fun b q hk hn => ok_move rfl hn.1, gdF rfl rfl fun hp b q hk hn => ok_move rfl (up i0 hk hn.1), gdF rfl rfl fun hp b q hk hn => ok_move rfl (up i1 hk hn.1), gdF rfl rfl fun hp b q hk hn => ok_move rfl (up i15 hk hn.1), gdF rfl rfl fun hp b q hk hn => ok_call rfl Try.call17 (calCounts_ok (Gd.get hn.1 hp) (Gd.get hn.2.1 hp) (Gd.get hn.2.2.1 hp) (hx590_9 hp)), gdF rfl rfl fun hp b q hk hn => ok_move rfl (up i18 hk hn.1), gdF rfl rfl fun hp b q hk hn => ok_neB rfl Try.underlying4 (Gd.get hn.1 hp) (Gd.get hn.2.1 hp), ob1 rfl fun b q hk hn => ok_pickM rfl hn.1 hx590_12 (fun _ => (isV_bool.2 rfl)) (fun hm => (Gd.get hn.2.1 hm)), trivial⟩ hQQ618 fun b q p => ?_
        exact tail_done (k := q) (hp619 _ _ ⟨Bs.post ⟨hg, hs, hd⟩ p, keep p 0 rfl i0, keep p 1 rfl i1, keep p 2 rfl i2, keep p 3 rfl i3, keep p 9 rfl i9, keep p 10 rfl i10, keep p 11 rfl i11, keep p 13 rfl i13, keep p 14 rfl i14, keep p 15 rfl i15, keep p 16 rfl i16, keep p 18 rfl i18, out p 12 145 _ rfl rfl rfl, trivial⟩)
      rintro a k ⟨⟨hg, hs, hd⟩, i0, i1, i2, i3, i9, i10, i11, i13, i14, i15, i16, i18, i145, _⟩
      refine wp_cond_split (isBool i145) (fun hc617 => ?_) (fun hc617 => ?_)
      · rw [if_pos hc617] at hr
        refine wp_seq ?_
        refine cut (fun a' k' => Bs noF k0 174 a' k' ∧ (IsV false) (a'.get 8) k' ∧ True) ?_ hQ ?_
        · intro Q592 hQQ592 hp593
          refine regionS (a0 := a) (k0 := k) (n := 174) (m := 1) (⟨some (IsV false), []⟩ :: []) hs (by kernel_rfl) ⟨ob1 rfl fun b q hk hn => ok_assign rfl (isV_bool.2 rfl), trivial⟩ hQQ592 fun b q p => ?_
          exact tail_done (k := q) (hp593 _ _ ⟨Bs.post ⟨hg, hs, hd⟩ p, out p 0 8 _ rfl rfl rfl, trivial⟩)
        rintro a k ⟨⟨hg, hs, hd⟩, i8, _⟩
        refine wp_ret ?_
        exact hret552 _ _ _ (Option.some.inj hr).symm (retC1 rfl hd hg i8)
      rw [if_neg (by rw [hc617]; decide)] at hr
      refine wp_skip ?_
      refine wp_seq ?_
      refine wp_seq ?_
      refine cut (fun a' k' => Bs noF k0 174 a' k' ∧ (IsV holidays) (a'.get 0) k' ∧ (IsV stays) (a'.get 1) k' ∧ (IsV a_) (a'.get 2) k' ∧ (IsV days) (a'.get 3) k' ∧ (IsV x522_0) (a'.get 9) k' ∧ (IsV x527_1) (a'.get 10) k' ∧ (IsV s545.1) (a'.get 11) k' ∧ (IsV s549.1) (a'.get 13) k' ∧ (IsV s549.2.1) (a'.get 14) k' ∧ (IsV s549.2.2) (a'.get 15) k' ∧ (IsV s589.1) (a'.get 18) k' ∧ (IsV s571.1) (a'.get 146) k' ∧ True) ?_ hQ ?_
      · intro Q615 hQQ615 hp616
        refine regionS (a0 := a) (k0 := k) (n := 174) (m := 1) (⟨some (IsV s571.1), [(16, none)]⟩ :: []) hs (by kernel_rfl) ⟨ob1 rfl fun b q hk hn => ok_move rfl (up i16 hk hn.1), trivial⟩ hQQ615 fun b q p => ?_
        exact tail_done (k := q) (hp616 _ _ ⟨Bs.post ⟨hg, hs, hd⟩ p, keep p 0 rfl i0, keep p 1 rfl i1, keep p 2 rfl i2, keep p 3 rfl i3, keep p 9 rfl i9, keep p 10 rfl i10, keep p 11 rfl i11, keep p 13 rfl i13, keep p 14 rfl i14, keep p 15 rfl i15, keep p 18 rfl i18, out p 0 146 _ rfl rfl rfl, trivial⟩)
      rintro a k ⟨⟨hg, hs, hd⟩, i0, i1, i2, i3, i9, i10, i11, i13, i14, i15, i18, i146, _⟩
      obtain ⟨s595, hs595, hr⟩ := bind_some hr
      refine cut (fun a' k' => Bs noF k0 174 a' k' ∧ (IsV holidays) (a'.get 0) k' ∧ (IsV stays) (a'.get 1) k' ∧ (IsV a_) (a'.get 2) k' ∧ (IsV days) (a'.get 3) k' ∧ (IsV x522_0) (a'.get 9) k' ∧ (IsV x527_1) (a'.get 10) k' ∧ (IsV s545.1) (a'.get 11) k' ∧ (IsV s595) (a'.get 13) k' ∧ (IsV s549.2.1) (a'.get 14) k' ∧ (IsV s549.2.2) (a'.get 15) k' ∧ (IsV s589.1) (a'.get 18) k' ∧ True) ?_ hQ ?_
      · intro Q614 hQQ614 hp596
        replace hr := hs595
        clear hQ
        have hQ := hQQ614
        refine wp_cond_split (isBool i146) (fun hc600 => ?_) (fun hc600 => ?_)
        · rw [if_pos hc600] at hr
          obtain ⟨x597_1, hx597_1, hr⟩ := bind_some hr
          refine cut (fun a' k' => Bs noF k0 174 a' k' ∧ (IsV holidays) (a'.get 0) k' ∧ (IsV stays) (a'.get 1) k' ∧ (IsV a_) (a'.get 2) k' ∧ (IsV days) (a'.get 3) k' ∧ (IsV x522_0) (a'.get 9) k' ∧ (IsV x527_1) (a'.get 10) k' ∧ (IsV s545.1) (a'.get 11) k' ∧ (IsV x597_1) (a'.get 13) k' ∧ (IsV s549.2.1) (a'.get 14) k' ∧ (IsV s549.2.2) (a'.get 15) k' ∧ (IsV s589.1) (a'.get 18) k' ∧ True) ?_ hQ ?_
          · intro Q598 hQQ598 hp599
            refine regionS (a0 := a) (k0 := k) (n := 174) (m := 3) (⟨some (IsV s549.1), [(13, none)]⟩ :: ⟨some (IsV x597_1), [(147, some 0)]⟩ :: ⟨some (IsV x597_1), [(148, some 1)]⟩ :: []) hs (by kernel_rfl) ⟨ob1 rfl fun b q hk hn => ok_move rfl (up i13 hk hn.1), ob1 rfl fun b q hk hn => ok_add rfl hn.1 (isV_int.2 rfl) hx597_1, ob1 rfl fun b q hk hn => ok_assign rfl hn.1, trivial⟩ hQQ598 fun b q p => ?_
            exact tail_done (k := q) (hp599 _ _ ⟨Bs.post ⟨hg, hs, hd⟩ p, keep p 0 rfl i0, keep p 1 rfl i1, keep p 2 rfl i2, keep p 3 rfl i3, keep p 9 rfl i9, keep p 10 rfl i10, keep p 11 rfl i11, out p 2 13 _ rfl rfl rfl, keep p 14 rfl i14, keep p 15 rfl i15, keep p 18 rfl i18, trivial⟩)
          rintro a k ⟨⟨hg, hs, hd⟩, i0, i1, i2, i3, i9, i10, i11, i13, i14, i15, i18, _⟩
          obtain rfl := Option.some.inj hr
          exact hp596 _ _ ⟨⟨hg, hs, hd⟩, i0, i1, i2, i3, i9, i10, i11, i13, i14, i15, i18, trivial⟩
        rw [if_neg (by rw [hc600]; decide)] at hr
        refine wp_skip ?_
        obtain rfl := Option.some.inj hr
        exact hp596 _ _ ⟨⟨hg, hs, hd⟩, i0, i1, i2, i3, i9, i10, i11, i13, i14, i15, i18, trivial⟩
      clear hs595
      rintro a k ⟨⟨hg, hs, hd⟩, i0, i1, i2, i3, i9, i10, i11, i13, i14, i15, i18, _⟩
      refine wp_seq ?_
      refine cut (fun a' k' => Bs noF k0 174 a' k' ∧ (IsV holidays) (a'.get 0) k' ∧ (IsV stays) (a'.get 1) k' ∧ (IsV a_) (a'.get 2) k' ∧ (IsV days) (a'.get 3) k' ∧ (IsV x522_0) (a'.get 9) k' ∧ (IsV x527_1) (a'.get 10) k' ∧ (IsV s545.1) (a'.get 11) k' ∧ (IsV s595) (a'.get 13) k' ∧ (IsV s549.2.1) (a'.get 14) k' ∧ (IsV s549.2.2) (a'.get 15) k' ∧ (IsV s589.1) (a'.get 149) k' ∧ True) ?_ hQ ?_
      · intro Q612 hQQ612 hp613
        refine regionS (a0 := a) (k0 := k) (n := 174) (m := 1) (⟨some (IsV s589.1), [(18, none)]⟩ :: []) hs (by kernel_rfl) ⟨ob1 rfl fun b q hk hn => ok_move rfl (up i18 hk hn.1), trivial⟩ hQQ612 fun b q p => ?_
        exact tail_done (k := q) (hp613 _ _ ⟨Bs.post ⟨hg, hs, hd⟩ p, keep p 0 rfl i0, keep p 1 rfl i1, keep p 2 rfl i2, keep p 3 rfl i3, keep p 9 rfl i9, keep p 10 rfl i10, keep p 11 rfl i11, keep p 13 rfl i13, keep p 14 rfl i14, keep p 15 rfl i15, out p 0 149 _ rfl rfl rfl, trivial⟩)
      rintro a k ⟨⟨hg, hs, hd⟩, i0, i1, i2, i3, i9, i10, i11, i13, i14, i15, i149, _⟩
      obtain ⟨s602, hs602, hr⟩ := bind_some hr
      refine cut (fun a' k' => Bs noF k0 174 a' k' ∧ (IsV holidays) (a'.get 0) k' ∧ (IsV stays) (a'.get 1) k' ∧ (IsV a_) (a'.get 2) k' ∧ (IsV days) (a'.get 3) k' ∧ (IsV x522_0) (a'.get 9) k' ∧ (IsV x527_1) (a'.get 10) k' ∧ (IsV s545.1) (a'.get 11) k' ∧ (IsV s595) (a'.get 13) k' ∧ (IsV s602) (a'.get 14) k' ∧ (IsV s549.2.2) (a'.get 15) k' ∧ True) ?_ hQ ?_
      · intro Q611 hQQ611 hp603
        replace hr := hs602
        clear hQ
        have hQ := hQQ611
        refine wp_cond_split (isBool i149) (fun hc607 => ?_) (fun hc607 => ?_)
        · rw [if_pos hc607] at hr
          obtain ⟨x604_1, hx604_1, hr⟩ := bind_some hr
          refine cut (fun a' k' => Bs noF k0 174 a' k' ∧ (IsV holidays) (a'.get 0) k' ∧ (IsV stays) (a'.get 1) k' ∧ (IsV a_) (a'.get 2) k' ∧ (IsV days) (a'.get 3) k' ∧ (IsV x522_0) (a'.get 9) k' ∧ (IsV x527_1) (a'.get 10) k' ∧ (IsV s545.1) (a'.get 11) k' ∧ (IsV s595) (a'.get 13) k' ∧ (IsV x604_1) (a'.get 14) k' ∧ (IsV s549.2.2) (a'.get 15) k' ∧ True) ?_ hQ ?_
          · intro Q605 hQQ605 hp606
            refine regionS (a0 := a) (k0 := k) (n := 174) (m := 3) (⟨some (IsV s549.2.1), [(14, none)]⟩ :: ⟨some (IsV x604_1), [(150, some 0)]⟩ :: ⟨some (IsV x604_1), [(151, some 1)]⟩ :: []) hs (by kernel_rfl) ⟨ob1 rfl fun b q hk hn => ok_move rfl (up i14 hk hn.1), ob1 rfl fun b q hk hn => ok_add rfl hn.1 (isV_int.2 rfl) hx604_1, ob1 rfl fun b q hk hn => ok_assign rfl hn.1, trivial⟩ hQQ605 fun b q p => ?_
            exact tail_done (k := q) (hp606 _ _ ⟨Bs.post ⟨hg, hs, hd⟩ p, keep p 0 rfl i0, keep p 1 rfl i1, keep p 2 rfl i2, keep p 3 rfl i3, keep p 9 rfl i9, keep p 10 rfl i10, keep p 11 rfl i11, keep p 13 rfl i13, out p 2 14 _ rfl rfl rfl, keep p 15 rfl i15, trivial⟩)
          rintro a k ⟨⟨hg, hs, hd⟩, i0, i1, i2, i3, i9, i10, i11, i13, i14, i15, _⟩
          obtain rfl := Option.some.inj hr
          exact hp603 _ _ ⟨⟨hg, hs, hd⟩, i0, i1, i2, i3, i9, i10, i11, i13, i14, i15, trivial⟩
        rw [if_neg (by rw [hc607]; decide)] at hr
        refine wp_skip ?_
        obtain rfl := Option.some.inj hr
        exact hp603 _ _ ⟨⟨hg, hs, hd⟩, i0, i1, i2, i3, i9, i10, i11, i13, i14, i15, trivial⟩
      clear hs602
      rintro a k ⟨⟨hg, hs, hd⟩, i0, i1, i2, i3, i9, i10, i11, i13, i14, i15, _⟩
      obtain ⟨x608_1, hx608_1, hr⟩ := bind_some hr
      refine cut (fun a' k' => Bs noF k0 174 a' k' ∧ (IsV holidays) (a'.get 0) k' ∧ (IsV stays) (a'.get 1) k' ∧ (IsV a_) (a'.get 2) k' ∧ (IsV days) (a'.get 3) k' ∧ (IsV x522_0) (a'.get 9) k' ∧ (IsV x527_1) (a'.get 10) k' ∧ (IsV s545.1) (a'.get 11) k' ∧ (IsV s595) (a'.get 13) k' ∧ (IsV s602) (a'.get 14) k' ∧ (IsV x608_1) (a'.get 15) k' ∧ True) ?_ hQ ?_
      · intro Q609 hQQ609 hp610
        refine regionS (a0 := a) (k0 := k) (n := 174) (m := 3) (⟨some (IsV s549.2.2), [(15, none)]⟩ :: ⟨some (IsV x608_1), [(81, some 0)]⟩ :: ⟨some (IsV x608_1), [(82, some 1)]⟩ :: []) hs (by kernel_rfl) ⟨ob1 rfl fun b q hk hn => ok_move rfl (up i15 hk hn.1), ob1 rfl fun b q hk hn => ok_add rfl hn.1 (isV_int.2 rfl) hx608_1, ob1 rfl fun b q hk hn => ok_assign rfl hn.1, trivial⟩ hQQ609 fun b q p => ?_
        exact tail_done (k := q) (hp610 _ _ ⟨Bs.post ⟨hg, hs, hd⟩ p, keep p 0 rfl i0, keep p 1 rfl i1, keep p 2 rfl i2, keep p 3 rfl i3, keep p 9 rfl i9, keep p 10 rfl i10, keep p 11 rfl i11, keep p 13 rfl i13, keep p 14 rfl i14, out p 2 15 _ rfl rfl rfl, trivial⟩)
      rintro a k ⟨⟨hg, hs, hd⟩, i0, i1, i2, i3, i9, i10, i11, i13, i14, i15, _⟩
      exact hgo550 _ _ _ (Option.some.inj hr).symm ⟨⟨hg, hs, hd⟩, i0, i1, i2, i3, i9, i10, i11, i13, i14, i15, trivial⟩
    rw [if_neg (by rw [hc632]; decide)] at hr
    refine wp_exit ?_
    exact hex551 _ _ _ _ (Option.some.inj hr).symm ⟨rfl, ⟨hg, hs, hd⟩, i0, i1, i2, i3, i9, i13, i14, trivial⟩
  · rintro r640 a k rfl hR
    dsimp only at hr
    obtain rfl := Option.some.inj hr
    exact hR
  · rintro _ _ _ rfl _
    simp at hr
  clear hf635
  rintro _ s636 a k rfl ⟨rfl, ⟨hg, hs, hd⟩, i0, i1, i2, i3, i9, i13, i14, _⟩
  dsimp only at hr
  refine wp_seq ?_
  obtain ⟨x637_10, hx637_10, hr⟩ := bind_some hr
  obtain ⟨x637_6, hx637_6, hx637_10⟩ := ite_bind hx637_10
  obtain ⟨x637_7, hx637_7, hx637_10⟩ := ite_bind hx637_10
  obtain ⟨x637_21, hx637_21, hr⟩ := bind_some hr
  obtain ⟨x637_17, hx637_17, hx637_21⟩ := ite_bind hx637_21
  obtain ⟨x637_18, hx637_18, hx637_21⟩ := ite_bind hx637_21
  refine cut (fun a' k' => Bs noF k0 174 a' k' ∧ (IsV x637_21) (a'.get 8) k' ∧ True) ?_ hQ ?_
  · intro Q638 hQQ638 hp639
    refine regionS (a0 := a) (k0 := k) (n := 174) (m := 23) (⟨some (IsV x522_0), [(9, none)]⟩ :: ⟨some (IsV x522_0), [(152, some 0)]⟩ :: ⟨some (Gd (x522_0 = true) (IsV holidays)), [(0, none)]⟩ :: ⟨some (Gd (x522_0 = true) (IsV a_)), [(2, none)]⟩ :: ⟨some (Gd (x522_0 = true) (IsV a_)), [(2, none)]⟩ :: ⟨some (Gd (x522_0 = true) (IsV days)), [(3, none)]⟩ :: ⟨some (Gd (x522_0 = true) (IsV x637_6)), [(156, some 4), (157, some 5)]⟩ :: ⟨some (Gd (x522_0 = true) (IsV x637_7)), [(154, some 2), (155, some 3), (158, some 6)]⟩ :: ⟨some (Gd (x522_0 = true) (IsV s636.1)), [(13, none)]⟩ :: ⟨some (Gd (x522_0 = true) (IsV (x637_7 == s636.1))), [(159, some 7), (160, some 8)]⟩ :: ⟨some (IsV x637_10), [(153, some 1), (161, some 9)]⟩ :: ⟨some (IsV x637_10), [(162, some 10)]⟩ :: ⟨some (Gd (x637_10 = true) (IsV holidays)), [(0, none)]⟩ :: ⟨some (Gd (x637_10 = true) (IsV stays)), [(1, none)]⟩ :: ⟨some (Gd (x637_10 = true) (IsV a_)), [(2, none)]⟩ :: ⟨some (Gd (x637_10 = true) (IsV a_)), [(2, none)]⟩ :: ⟨some (Gd (x637_10 = true) (IsV days)), [(3, none)]⟩ :: ⟨some (Gd (x637_10 = true) (IsV x637_17)), [(167, some 15), (168, some 16)]⟩ :: ⟨some (Gd (x637_10 = true) (IsV x637_18)), [(164, some 12), (165, some 13), (166, some 14), (169, some 17)]⟩ :: ⟨some (Gd (x637_10 = true) (IsV s636.2.1)), [(14, none)]⟩ :: ⟨some (Gd (x637_10 = true) (IsV (x637_18 == s636.2.1))), [(170, some 18), (171, some 19)]⟩ :: ⟨some (IsV x637_21), [(163, some 11), (172, some 20)]⟩ :: ⟨some (IsV x637_21), [(173, some 21)]⟩ :: []) hs (by kernel_rfl) ⟨ob1 rfl fun b q hk hn => ok_move rfl (up i9 hk hn.1), ob1 rfl fun b q hk hn => ok_move rfl hn.1, gdT rfl rfl fun hp b q hk hn => ok_move rfl (up i0 hk hn.1), gdT rfl rfl fun hp b q hk hn => ok_move rfl (up i2 hk hn.1), gdT rfl rfl fun hp b q hk hn => ok_move rfl (up i2 hk hn.1), gdT rfl rfl fun hp b q hk hn => ok_move rfl (up i3 hk hn.1), gdT rfl rfl fun hp b q hk hn => ok_add rfl (Gd.get hn.1 hp) (Gd.get hn.2.1 hp) (hx637_6 hp), gdT rfl rfl fun hp b q hk hn => ok_call rfl Try.call19 (calBetween_ok (Gd.get hn.1 hp) (Gd.get hn.2.1 hp) (Gd.get hn.2.2.1 hp) (hx637_7 hp)), gdT rfl rfl fun hp b q hk hn => ok_move rfl (up i13 hk hn.1), gdT rfl rfl fun hp b q hk hn => ok_eqI rfl (Gd.get hn.1 hp) (Gd.get hn.2.1 hp), ob1 rfl fun b q hk hn => ok_pickM rfl hn.1 hx637_10 (fun hm => (Gd.get hn.2.1 hm)) (fun _ => (isV_bool.2 rfl)), ob1 rfl fun b q hk hn => ok_move rfl hn.1, gdT rfl rfl fun hp b q hk hn => ok_move rfl (up i0 hk hn.1), gdT rfl rfl fun hp b q hk hn => ok_move rfl (up i1 hk hn.1), gdT rfl rfl fun hp b q hk hn => ok_move rfl (up i2 hk hn.1), gdT rfl rfl fun hp b q hk hn => ok_move rfl (up i2 hk hn.1), gdT rfl rfl fun hp b q hk hn => ok_move rfl (up i3 hk hn.1), gdT rfl rfl fun hp b q hk hn => ok_add rfl (Gd.get hn.1 hp) (Gd.get hn.2.1 hp) (hx637_17 hp), gdT rfl rfl fun hp b q hk hn => ok_call rfl Try.call21 (calCount_ok (Gd.get hn.1 hp) (Gd.get hn.2.1 hp) (Gd.get hn.2.2.1 hp) (Gd.get hn.2.2.2.1 hp) (hx637_18 hp)), gdT rfl rfl fun hp b q hk hn => ok_move rfl (up i14 hk hn.1), gdT rfl rfl fun hp b q hk hn => ok_eqI rfl (Gd.get hn.1 hp) (Gd.get hn.2.1 hp), ob1 rfl fun b q hk hn => ok_pickM rfl hn.1 hx637_21 (fun hm => (Gd.get hn.2.1 hm)) (fun _ => (isV_bool.2 rfl)), ob1 rfl fun b q hk hn => ok_assign rfl hn.1, trivial⟩ hQQ638 fun b q p => ?_
    exact tail_done (k := q) (hp639 _ _ ⟨Bs.post ⟨hg, hs, hd⟩ p, out p 22 8 _ rfl rfl rfl, trivial⟩)
  rintro a k ⟨⟨hg, hs, hd⟩, i8, _⟩
  refine wp_ret ?_
  obtain rfl := Option.some.inj hr
  exact retC1 rfl hd hg i8
def lawDeadline (holidays : (List Int)) (stays : (List Stay)) (day : Int) (n_ : Int) (m_ : Int) : Option (Bool) :=
  (small).bind fun x664_0 =>
  (few holidays stays).bind fun x665_2 =>
  (if (!x665_2) then
    some true
  else
    (within n_ 1 1000000).bind fun x665_6 =>
    some (!x665_6)).bind fun x665_8 =>
  (if x665_8 then
    some true
  else
    (within m_ 1 1000000).bind fun x665_11 =>
    some (!x665_11)).bind fun x665_13 =>
  if x665_13 then
    some x664_0
  else
    (calDeadline holidays stays day n_).bind fun x669_4 =>
    if (x669_4.2 == 1) then
      some (x664_0 && (x669_4.1 == 0))
    else
      (calCount holidays stays day 1073741824).bind fun x674_3 =>
      if (x669_4.2 != 0) then
        some (((x664_0 && (x669_4.2 == 20)) && (x669_4.1 == 0)) && (decide (x674_3 < n_)))
      else
        (if ((decide (x669_4.1 ≤ day)) || (decide (x674_3 < n_))) then
          some true
        else
          (calCounts holidays stays x669_4.1).bind fun x679_12 =>
          some (!x679_12)).bind fun x679_14 =>
        (if x679_14 then
          some true
        else
          (calCount holidays stays day x669_4.1).bind fun x679_20 =>
          some (x679_20 != n_)).bind fun x679_23 =>
        (if x679_23 then
          some true
        else
          (subI x669_4.1 1).bind fun x679_26 =>
          (if (decide (day < x679_26)) then
            (subI x669_4.1 1).bind fun x679_34 =>
            (calCount holidays stays day x679_34).bind fun x679_35 =>
            (subI n_ 1).bind fun x679_37 =>
            some (x679_35 != x679_37)
          else
            some false).bind fun x679_39 =>
          some x679_39).bind fun x679_40 =>
        if x679_40 then
          some false
        else
          (calDeadline holidays stays x669_4.1 m_).bind fun x683_4 =>
          (addI n_ m_).bind fun x684_5 =>
          (calDeadline holidays stays day x684_5).bind fun x684_6 =>
          (calDeadline holidays stays day 0).bind fun x685_3 =>
          some (((((x664_0 && (x683_4.1 == x684_6.1)) && (x683_4.2 == x684_6.2)) && (x685_3.1 == day)) && (x685_3.2 == 0)) && ((x683_4.2 != 0) || (decide (x669_4.1 < x683_4.1))))
theorem lawDeadline_ok {k0 : K} {v0 v1 v2 v3 v4 : Value} {holidays : (List Int)} {stays : (List Stay)} {day : Int} {n_ : Int} {m_ : Int} {r : Bool} (i0 : (IsV holidays) v0 k0) (i1 : (IsV stays) v1 k0) (i2 : (IsV day) v2 k0) (i3 : (IsV n_) v3 k0) (i4 : (IsV m_) v4 k0) (hr : lawDeadline holidays stays day n_ m_ = some r) :
    Calls Try.prog 5 #[v0, v1, v2, v3, v4] k0.w (Ret k0 (IsV r)) := by
  unfold lawDeadline at hr
  refine Ret.ofC ?_
  refine enterK Try.func5 rfl Try.ntmps5 (show 5 ≤ 167 by decide) fun a k hk0 hs hd ha => ?_
  obtain ⟨e0, e1, e2, e3, e4, _⟩ := ha
  replace i0 : (IsV holidays) (a.get 0) k := by rw [e0, hk0]; exact i0
  replace i1 : (IsV stays) (a.get 1) k := by rw [e1, hk0]; exact i1
  replace i2 : (IsV day) (a.get 2) k := by rw [e2, hk0]; exact i2
  replace i3 : (IsV n_) (a.get 3) k := by rw [e3, hk0]; exact i3
  replace i4 : (IsV m_) (a.get 4) k := by rw [e4, hk0]; exact i4
  have hQ : Gb.LetsOut (bodyPost Try.prog Try.f5 (RetC noF k0 (IsV r))) := letsOutC
  have hg : Chg noF k0 k := by rw [hk0]; exact Chg.refl _ k0
  refine wp_seq ?_
  refine cut (fun a' k' => Bs noF k0 167 a' k' ∧ (IsV holidays) (a'.get 0) k' ∧ (IsV stays) (a'.get 1) k' ∧ (IsV day) (a'.get 2) k' ∧ (IsV n_) (a'.get 3) k' ∧ (IsV m_) (a'.get 4) k' ∧ True) ?_ hQ ?_
  · intro Q713 hQQ713 hp714
    refine regionS (a0 := a) (k0 := k) (n := 167) (m := 1) (⟨some (IsV false), []⟩ :: []) hs (by kernel_rfl) ⟨ob1 rfl fun b q hk hn => ok_assign rfl (isV_bool.2 rfl), trivial⟩ hQQ713 fun b q p => ?_
    exact tail_done (k := q) (hp714 _ _ ⟨Bs.post ⟨hg, hs, hd⟩ p, keep p 0 rfl i0, keep p 1 rfl i1, keep p 2 rfl i2, keep p 3 rfl i3, keep p 4 rfl i4, trivial⟩)
  rintro a k ⟨⟨hg, hs, hd⟩, i0, i1, i2, i3, i4, _⟩
  refine wp_seq ?_
  obtain ⟨x664_0, hx664_0, hr⟩ := bind_some hr
  refine cut (fun a' k' => Bs noF k0 167 a' k' ∧ (IsV holidays) (a'.get 0) k' ∧ (IsV stays) (a'.get 1) k' ∧ (IsV day) (a'.get 2) k' ∧ (IsV n_) (a'.get 3) k' ∧ (IsV m_) (a'.get 4) k' ∧ (IsV x664_0) (a'.get 11) k' ∧ True) ?_ hQ ?_
  · intro Q711 hQQ711 hp712
    refine regionS (a0 := a) (k0 := k) (n := 167) (m := 2) (⟨some (IsV x664_0), []⟩ :: ⟨some (IsV x664_0), [(21, some 0)]⟩ :: []) hs (by kernel_rfl) ⟨ob1 rfl fun b q hk hn => ok_call rfl Try.call8 (small_ok hx664_0), ob1 rfl fun b q hk hn => ok_assign rfl hn.1, trivial⟩ hQQ711 fun b q p => ?_
    exact tail_done (k := q) (hp712 _ _ ⟨Bs.post ⟨hg, hs, hd⟩ p, keep p 0 rfl i0, keep p 1 rfl i1, keep p 2 rfl i2, keep p 3 rfl i3, keep p 4 rfl i4, out p 1 11 _ rfl rfl rfl, trivial⟩)
  rintro a k ⟨⟨hg, hs, hd⟩, i0, i1, i2, i3, i4, i11, _⟩
  refine wp_seq ?_
  refine wp_seq ?_
  obtain ⟨x665_2, hx665_2, hr⟩ := bind_some hr
  obtain ⟨x665_8, hx665_8, hr⟩ := bind_some hr
  obtain ⟨x665_6, hx665_6, hx665_8⟩ := ite_bindF hx665_8
  obtain ⟨x665_13, hx665_13, hr⟩ := bind_some hr
  obtain ⟨x665_11, hx665_11, hx665_13⟩ := ite_bindF hx665_13
  refine cut (fun a' k' => Bs noF k0 167 a' k' ∧ (IsV holidays) (a'.get 0) k' ∧ (IsV stays) (a'.get 1) k' ∧ (IsV day) (a'.get 2) k' ∧ (IsV n_) (a'.get 3) k' ∧ (IsV m_) (a'.get 4) k' ∧ (IsV x664_0) (a'.get 11) k' ∧ (IsV x665_13) (a'.get 35) k' ∧ True) ?_ hQ ?_
  · intro Q709 hQQ709 hp710
    refine regionS (a0 := a) (k0 := k) (n := 167) (m := 14) (⟨some (IsV holidays), [(0, none)]⟩ :: ⟨some (IsV stays), [(1, none)]⟩ :: ⟨some (IsV x665_2), [(22, some 0), (23, some 1)]⟩ :: ⟨some (IsV (!x665_2)), [(24, some 2)]⟩ :: ⟨some (IsV (!x665_2)), [(25, some 3)]⟩ :: ⟨some (Gd ((!x665_2) = false) (IsV n_)), [(3, none)]⟩ :: ⟨some (Gd ((!x665_2) = false) (IsV x665_6)), [(27, some 5)]⟩ :: ⟨some (Gd ((!x665_2) = false) (IsV (!x665_6))), [(28, some 6)]⟩ :: ⟨some (IsV x665_8), [(26, some 4), (29, some 7)]⟩ :: ⟨some (IsV x665_8), [(30, some 8)]⟩ :: ⟨some (Gd (x665_8 = false) (IsV m_)), [(4, none)]⟩ :: ⟨some (Gd (x665_8 = false) (IsV x665_11)), [(32, some 10)]⟩ :: ⟨some (Gd (x665_8 = false) (IsV (!x665_11))), [(33, some 11)]⟩ :: ⟨some (IsV x665_13), [(31, some 9), (34, some 12)]⟩ :: []) hs (by kernel_rfl) ⟨ob1 rfl fun b q hk hn => ok_move rfl (up i0 hk hn.1), ob1 rfl fun b q hk hn => ok_move rfl (up i1 hk hn.1), ob1 rfl fun b q hk hn => ok_call rfl Try.call23 (few_ok hn.1 hn.2.1 hx665_2), ob1 rfl fun b q hk hn => ok_not rfl hn.1, ob1 rfl fun b q hk hn => ok_move rfl hn.1, gdF rfl rfl fun hp b q hk hn => ok_move rfl (up i3 hk hn.1), gdF rfl rfl fun hp b q hk hn => ok_call rfl Try.call24 (within_ok (Gd.get hn.1 hp) (isV_int.2 rfl) (isV_int.2 rfl) (hx665_6 hp)), gdF rfl rfl fun hp b q hk hn => ok_not rfl (Gd.get hn.1 hp), ob1 rfl fun b q hk hn => ok_pickM rfl hn.1 hx665_8 (fun _ => (isV_bool.2 rfl)) (fun hm => (Gd.get hn.2.1 hm)), ob1 rfl fun b q hk hn => ok_move rfl hn.1, gdF rfl rfl fun hp b q hk hn => ok_move rfl (up i4 hk hn.1), gdF rfl rfl fun hp b q hk hn => ok_call rfl Try.call24 (within_ok (Gd.get hn.1 hp) (isV_int.2 rfl) (isV_int.2 rfl) (hx665_11 hp)), gdF rfl rfl fun hp b q hk hn => ok_not rfl (Gd.get hn.1 hp), ob1 rfl fun b q hk hn => ok_pickM rfl hn.1 hx665_13 (fun _ => (isV_bool.2 rfl)) (fun hm => (Gd.get hn.2.1 hm)), trivial⟩ hQQ709 fun b q p => ?_
    exact tail_done (k := q) (hp710 _ _ ⟨Bs.post ⟨hg, hs, hd⟩ p, keep p 0 rfl i0, keep p 1 rfl i1, keep p 2 rfl i2, keep p 3 rfl i3, keep p 4 rfl i4, keep p 11 rfl i11, out p 13 35 _ rfl rfl rfl, trivial⟩)
  rintro a k ⟨⟨hg, hs, hd⟩, i0, i1, i2, i3, i4, i11, i35, _⟩
  refine wp_cond_split (isBool i35) (fun hc708 => ?_) (fun hc708 => ?_)
  · rw [if_pos hc708] at hr
    refine wp_seq ?_
    refine cut (fun a' k' => Bs noF k0 167 a' k' ∧ (IsV x664_0) (a'.get 10) k' ∧ True) ?_ hQ ?_
    · intro Q667 hQQ667 hp668
      refine regionS (a0 := a) (k0 := k) (n := 167) (m := 2) (⟨some (IsV x664_0), [(11, none)]⟩ :: ⟨some (IsV x664_0), [(36, some 0)]⟩ :: []) hs (by kernel_rfl) ⟨ob1 rfl fun b q hk hn => ok_move rfl (up i11 hk hn.1), ob1 rfl fun b q hk hn => ok_assign rfl hn.1, trivial⟩ hQQ667 fun b q p => ?_
      exact tail_done (k := q) (hp668 _ _ ⟨Bs.post ⟨hg, hs, hd⟩ p, out p 1 10 _ rfl rfl rfl, trivial⟩)
    rintro a k ⟨⟨hg, hs, hd⟩, i10, _⟩
    refine wp_ret ?_
    obtain rfl := Option.some.inj hr
    exact retC1 rfl hd hg i10
  rw [if_neg (by rw [hc708]; decide)] at hr
  refine wp_skip ?_
  refine wp_seq ?_
  obtain ⟨x669_4, hx669_4, hr⟩ := bind_some hr
  refine cut (fun a' k' => Bs noF k0 167 a' k' ∧ (IsV holidays) (a'.get 0) k' ∧ (IsV stays) (a'.get 1) k' ∧ (IsV day) (a'.get 2) k' ∧ (IsV n_) (a'.get 3) k' ∧ (IsV m_) (a'.get 4) k' ∧ (IsV x664_0) (a'.get 11) k' ∧ (IsV x669_4.1) (a'.get 12) k' ∧ (IsV x669_4.2) (a'.get 13) k' ∧ True) ?_ hQ ?_
  · intro Q706 hQQ706 hp707
    refine regionS (a0 := a) (k0 := k) (n := 167) (m := 10) (⟨some (IsV holidays), [(0, none)]⟩ :: ⟨some (IsV stays), [(1, none)]⟩ :: ⟨some (IsV day), [(2, none)]⟩ :: ⟨some (IsV n_), [(3, none)]⟩ :: ⟨some (IsTup2 (IsV x669_4.1) (IsV x669_4.2)), [(38, some 0), (39, some 1), (40, some 2), (41, some 3)]⟩ :: ⟨some (IsTup2 (IsV x669_4.1) (IsV x669_4.2)), [(42, some 4)]⟩ :: ⟨some (IsV x669_4.1), [(37, some 5)]⟩ :: ⟨some (IsV x669_4.2), [(37, some 5)]⟩ :: ⟨some (IsV x669_4.1), [(43, some 6)]⟩ :: ⟨some (IsV x669_4.2), [(44, some 7)]⟩ :: []) hs (by kernel_rfl) ⟨ob1 rfl fun b q hk hn => ok_move rfl (up i0 hk hn.1), ob1 rfl fun b q hk hn => ok_move rfl (up i1 hk hn.1), ob1 rfl fun b q hk hn => ok_move rfl (up i2 hk hn.1), ob1 rfl fun b q hk hn => ok_move rfl (up i3 hk hn.1), ob1 rfl fun b q hk hn => ok_call rfl Try.call11 (calDeadline_ok hn.1 hn.2.1 hn.2.2.1 hn.2.2.2.1 hx669_4), ob1 rfl fun b q hk hn => ok_move rfl hn.1, ob1 rfl fun b q hk hn => ok_ext2_0 rfl hn.1, ob1 rfl fun b q hk hn => ok_ext2_1 rfl hn.1, ob1 rfl fun b q hk hn => ok_assign rfl hn.1, ob1 rfl fun b q hk hn => ok_assign rfl hn.1, trivial⟩ hQQ706 fun b q p => ?_
    exact tail_done (k := q) (hp707 _ _ ⟨Bs.post ⟨hg, hs, hd⟩ p, keep p 0 rfl i0, keep p 1 rfl i1, keep p 2 rfl i2, keep p 3 rfl i3, keep p 4 rfl i4, keep p 11 rfl i11, out p 8 12 _ rfl rfl rfl, out p 9 13 _ rfl rfl rfl, trivial⟩)
  rintro a k ⟨⟨hg, hs, hd⟩, i0, i1, i2, i3, i4, i11, i12, i13, _⟩
  refine wp_seq ?_
  refine wp_seq ?_
  refine cut (fun a' k' => Bs noF k0 167 a' k' ∧ (IsV holidays) (a'.get 0) k' ∧ (IsV stays) (a'.get 1) k' ∧ (IsV day) (a'.get 2) k' ∧ (IsV n_) (a'.get 3) k' ∧ (IsV m_) (a'.get 4) k' ∧ (IsV x664_0) (a'.get 11) k' ∧ (IsV x669_4.1) (a'.get 12) k' ∧ (IsV x669_4.2) (a'.get 13) k' ∧ (IsV (x669_4.2 == 1)) (a'.get 46) k' ∧ True) ?_ hQ ?_
  · intro Q704 hQQ704 hp705
    refine regionS (a0 := a) (k0 := k) (n := 167) (m := 2) (⟨some (IsV x669_4.2), [(13, none)]⟩ :: ⟨some (IsV (x669_4.2 == 1)), [(45, some 0)]⟩ :: []) hs (by kernel_rfl) ⟨ob1 rfl fun b q hk hn => ok_move rfl (up i13 hk hn.1), ob1 rfl fun b q hk hn => ok_eqI rfl hn.1 (isV_int.2 rfl), trivial⟩ hQQ704 fun b q p => ?_
    exact tail_done (k := q) (hp705 _ _ ⟨Bs.post ⟨hg, hs, hd⟩ p, keep p 0 rfl i0, keep p 1 rfl i1, keep p 2 rfl i2, keep p 3 rfl i3, keep p 4 rfl i4, keep p 11 rfl i11, keep p 12 rfl i12, keep p 13 rfl i13, out p 1 46 _ rfl rfl rfl, trivial⟩)
  rintro a k ⟨⟨hg, hs, hd⟩, i0, i1, i2, i3, i4, i11, i12, i13, i46, _⟩
  refine wp_cond_split (isBool i46) (fun hc703 => ?_) (fun hc703 => ?_)
  · rw [if_pos hc703] at hr
    refine wp_seq ?_
    refine cut (fun a' k' => Bs noF k0 167 a' k' ∧ (IsV (x664_0 && (x669_4.1 == 0))) (a'.get 10) k' ∧ True) ?_ hQ ?_
    · intro Q672 hQQ672 hp673
      refine regionS (a0 := a) (k0 := k) (n := 167) (m := 6) (⟨some (IsV x664_0), [(11, none)]⟩ :: ⟨some (IsV x664_0), [(47, some 0)]⟩ :: ⟨some (Gd (x664_0 = true) (IsV x669_4.1)), [(12, none)]⟩ :: ⟨some (Gd (x664_0 = true) (IsV (x669_4.1 == 0))), [(49, some 2)]⟩ :: ⟨some (IsV (x664_0 && (x669_4.1 == 0))), [(48, some 1), (50, some 3)]⟩ :: ⟨some (IsV (x664_0 && (x669_4.1 == 0))), [(51, some 4)]⟩ :: []) hs (by kernel_rfl) ⟨ob1 rfl fun b q hk hn => ok_move rfl (up i11 hk hn.1), ob1 rfl fun b q hk hn => ok_move rfl hn.1, gdT rfl rfl fun hp b q hk hn => ok_move rfl (up i12 hk hn.1), gdT rfl rfl fun hp b q hk hn => ok_eqI rfl (Gd.get hn.1 hp) (isV_int.2 rfl), ob1 rfl fun b q hk hn => ok_pickAnd rfl hn.1 (fun hm => (Gd.get hn.2.1 hm)) (fun _ => (isV_bool.2 rfl)), ob1 rfl fun b q hk hn => ok_assign rfl hn.1, trivial⟩ hQQ672 fun b q p => ?_
      exact tail_done (k := q) (hp673 _ _ ⟨Bs.post ⟨hg, hs, hd⟩ p, out p 5 10 _ rfl rfl rfl, trivial⟩)
    rintro a k ⟨⟨hg, hs, hd⟩, i10, _⟩
    refine wp_ret ?_
    obtain rfl := Option.some.inj hr
    exact retC1 rfl hd hg i10
  rw [if_neg (by rw [hc703]; decide)] at hr
  refine wp_skip ?_
  refine wp_seq ?_
  obtain ⟨x674_3, hx674_3, hr⟩ := bind_some hr
  refine cut (fun a' k' => Bs noF k0 167 a' k' ∧ (IsV holidays) (a'.get 0) k' ∧ (IsV stays) (a'.get 1) k' ∧ (IsV day) (a'.get 2) k' ∧ (IsV n_) (a'.get 3) k' ∧ (IsV m_) (a'.get 4) k' ∧ (IsV x664_0) (a'.get 11) k' ∧ (IsV x669_4.1) (a'.get 12) k' ∧ (IsV x669_4.2) (a'.get 13) k' ∧ (IsV x674_3) (a'.get 14) k' ∧ True) ?_ hQ ?_
  · intro Q701 hQQ701 hp702
    refine regionS (a0 := a) (k0 := k) (n := 167) (m := 5) (⟨some (IsV holidays), [(0, none)]⟩ :: ⟨some (IsV stays), [(1, none)]⟩ :: ⟨some (IsV day), [(2, none)]⟩ :: ⟨some (IsV x674_3), [(52, some 0), (53, some 1), (54, some 2)]⟩ :: ⟨some (IsV x674_3), [(55, some 3)]⟩ :: []) hs (by kernel_rfl) ⟨ob1 rfl fun b q hk hn => ok_move rfl (up i0 hk hn.1), ob1 rfl fun b q hk hn => ok_move rfl (up i1 hk hn.1), ob1 rfl fun b q hk hn => ok_move rfl (up i2 hk hn.1), ob1 rfl fun b q hk hn => ok_call rfl Try.call21 (calCount_ok hn.1 hn.2.1 hn.2.2.1 (isV_int.2 rfl) hx674_3), ob1 rfl fun b q hk hn => ok_assign rfl hn.1, trivial⟩ hQQ701 fun b q p => ?_
    exact tail_done (k := q) (hp702 _ _ ⟨Bs.post ⟨hg, hs, hd⟩ p, keep p 0 rfl i0, keep p 1 rfl i1, keep p 2 rfl i2, keep p 3 rfl i3, keep p 4 rfl i4, keep p 11 rfl i11, keep p 12 rfl i12, keep p 13 rfl i13, out p 4 14 _ rfl rfl rfl, trivial⟩)
  rintro a k ⟨⟨hg, hs, hd⟩, i0, i1, i2, i3, i4, i11, i12, i13, i14, _⟩
  refine wp_seq ?_
  refine wp_seq ?_
  refine cut (fun a' k' => Bs noF k0 167 a' k' ∧ (IsV holidays) (a'.get 0) k' ∧ (IsV stays) (a'.get 1) k' ∧ (IsV day) (a'.get 2) k' ∧ (IsV n_) (a'.get 3) k' ∧ (IsV m_) (a'.get 4) k' ∧ (IsV x664_0) (a'.get 11) k' ∧ (IsV x669_4.1) (a'.get 12) k' ∧ (IsV x669_4.2) (a'.get 13) k' ∧ (IsV x674_3) (a'.get 14) k' ∧ (IsV (x669_4.2 != 0)) (a'.get 57) k' ∧ True) ?_ hQ ?_
  · intro Q699 hQQ699 hp700
    refine regionS (a0 := a) (k0 := k) (n := 167) (m := 2) (⟨some (IsV x669_4.2), [(13, none)]⟩ :: ⟨some (IsV (x669_4.2 != 0)), [(56, some 0)]⟩ :: []) hs (by kernel_rfl) ⟨ob1 rfl fun b q hk hn => ok_move rfl (up i13 hk hn.1), ob1 rfl fun b q hk hn => ok_neI rfl hn.1 (isV_int.2 rfl), trivial⟩ hQQ699 fun b q p => ?_
    exact tail_done (k := q) (hp700 _ _ ⟨Bs.post ⟨hg, hs, hd⟩ p, keep p 0 rfl i0, keep p 1 rfl i1, keep p 2 rfl i2, keep p 3 rfl i3, keep p 4 rfl i4, keep p 11 rfl i11, keep p 12 rfl i12, keep p 13 rfl i13, keep p 14 rfl i14, out p 1 57 _ rfl rfl rfl, trivial⟩)
  rintro a k ⟨⟨hg, hs, hd⟩, i0, i1, i2, i3, i4, i11, i12, i13, i14, i57, _⟩
  refine wp_cond_split (isBool i57) (fun hc698 => ?_) (fun hc698 => ?_)
  · rw [if_pos hc698] at hr
    refine wp_seq ?_
    refine cut (fun a' k' => Bs noF k0 167 a' k' ∧ (IsV (((x664_0 && (x669_4.2 == 20)) && (x669_4.1 == 0)) && (decide (x674_3 < n_)))) (a'.get 10) k' ∧ True) ?_ hQ ?_
    · intro Q677 hQQ677 hp678
      refine regionS (a0 := a) (k0 := k) (n := 167) (m := 15) (⟨some (IsV x664_0), [(11, none)]⟩ :: ⟨some (IsV x664_0), [(58, some 0)]⟩ :: ⟨some (Gd (x664_0 = true) (IsV x669_4.2)), [(13, none)]⟩ :: ⟨some (Gd (x664_0 = true) (IsV (x669_4.2 == 20))), [(60, some 2)]⟩ :: ⟨some (IsV (x664_0 && (x669_4.2 == 20))), [(59, some 1), (61, some 3)]⟩ :: ⟨some (IsV (x664_0 && (x669_4.2 == 20))), [(62, some 4)]⟩ :: ⟨some (Gd ((x664_0 && (x669_4.2 == 20)) = true) (IsV x669_4.1)), [(12, none)]⟩ :: ⟨some (Gd ((x664_0 && (x669_4.2 == 20)) = true) (IsV (x669_4.1 == 0))), [(64, some 6)]⟩ :: ⟨some (IsV ((x664_0 && (x669_4.2 == 20)) && (x669_4.1 == 0))), [(63, some 5), (65, some 7)]⟩ :: ⟨some (IsV ((x664_0 && (x669_4.2 == 20)) && (x669_4.1 == 0))), [(66, some 8)]⟩ :: ⟨some (Gd (((x664_0 && (x669_4.2 == 20)) && (x669_4.1 == 0)) = true) (IsV x674_3)), [(14, none)]⟩ :: ⟨some (Gd (((x664_0 && (x669_4.2 == 20)) && (x669_4.1 == 0)) = true) (IsV n_)), [(3, none)]⟩ :: ⟨some (Gd (((x664_0 && (x669_4.2 == 20)) && (x669_4.1 == 0)) = true) (IsV (decide (x674_3 < n_)))), [(68, some 10), (69, some 11)]⟩ :: ⟨some (IsV (((x664_0 && (x669_4.2 == 20)) && (x669_4.1 == 0)) && (decide (x674_3 < n_)))), [(67, some 9), (70, some 12)]⟩ :: ⟨some (IsV (((x664_0 && (x669_4.2 == 20)) && (x669_4.1 == 0)) && (decide (x674_3 < n_)))), [(71, some 13)]⟩ :: []) hs (by kernel_rfl) ⟨ob1 rfl fun b q hk hn => ok_move rfl (up i11 hk hn.1), ob1 rfl fun b q hk hn => ok_move rfl hn.1, gdT rfl rfl fun hp b q hk hn => ok_move rfl (up i13 hk hn.1), gdT rfl rfl fun hp b q hk hn => ok_eqI rfl (Gd.get hn.1 hp) (isV_int.2 rfl), ob1 rfl fun b q hk hn => ok_pickAnd rfl hn.1 (fun hm => (Gd.get hn.2.1 hm)) (fun _ => (isV_bool.2 rfl)), ob1 rfl fun b q hk hn => ok_move rfl hn.1, gdT rfl rfl fun hp b q hk hn => ok_move rfl (up i12 hk hn.1), gdT rfl rfl fun hp b q hk hn => ok_eqI rfl (Gd.get hn.1 hp) (isV_int.2 rfl), ob1 rfl fun b q hk hn => ok_pickAnd rfl hn.1 (fun hm => (Gd.get hn.2.1 hm)) (fun _ => (isV_bool.2 rfl)), ob1 rfl fun b q hk hn => ok_move rfl hn.1, gdT rfl rfl fun hp b q hk hn => ok_move rfl (up i14 hk hn.1), gdT rfl rfl fun hp b q hk hn => ok_move rfl (up i3 hk hn.1), gdT rfl rfl fun hp b q hk hn => ok_lss rfl (Gd.get hn.1 hp) (Gd.get hn.2.1 hp), ob1 rfl fun b q hk hn => ok_pickAnd rfl hn.1 (fun hm => (Gd.get hn.2.1 hm)) (fun _ => (isV_bool.2 rfl)), ob1 rfl fun b q hk hn => ok_assign rfl hn.1, trivial⟩ hQQ677 fun b q p => ?_
      exact tail_done (k := q) (hp678 _ _ ⟨Bs.post ⟨hg, hs, hd⟩ p, out p 14 10 _ rfl rfl rfl, trivial⟩)
    rintro a k ⟨⟨hg, hs, hd⟩, i10, _⟩
    refine wp_ret ?_
    obtain rfl := Option.some.inj hr
    exact retC1 rfl hd hg i10
  rw [if_neg (by rw [hc698]; decide)] at hr
  refine wp_skip ?_
  refine wp_seq ?_
  refine wp_seq ?_
  obtain ⟨x679_14, hx679_14, hr⟩ := bind_some hr
  obtain ⟨x679_12, hx679_12, hx679_14⟩ := ite_bindF hx679_14
  obtain ⟨x679_23, hx679_23, hr⟩ := bind_some hr
  obtain ⟨x679_20, hx679_20, hx679_23⟩ := ite_bindF hx679_23
  obtain ⟨x679_40, hx679_40, hr⟩ := bind_some hr
  obtain ⟨x679_26, hx679_26, hx679_40⟩ := ite_bindF hx679_40
  obtain ⟨x679_39, hx679_39, hx679_40⟩ := ite_bindF hx679_40
  obtain ⟨x679_34, hx679_34, hx679_39⟩ := ite_bindP hx679_39
  obtain ⟨x679_35, hx679_35, hx679_39⟩ := ite_bindP hx679_39
  obtain ⟨x679_37, hx679_37, hx679_39⟩ := ite_bindP hx679_39
  refine cut (fun a' k' => Bs noF k0 167 a' k' ∧ (IsV holidays) (a'.get 0) k' ∧ (IsV stays) (a'.get 1) k' ∧ (IsV day) (a'.get 2) k' ∧ (IsV n_) (a'.get 3) k' ∧ (IsV m_) (a'.get 4) k' ∧ (IsV x664_0) (a'.get 11) k' ∧ (IsV x669_4.1) (a'.get 12) k' ∧ (IsV x679_40) (a'.get 112) k' ∧ True) ?_ hQ ?_
  · intro Q696 hQQ696 hp697
    refine regionS (a0 := a) (k0 := k) (n := 167) (m := 41) (⟨some (IsV x669_4.1), [(12, none)]⟩ :: ⟨some (IsV day), [(2, none)]⟩ :: ⟨some (IsV (decide (x669_4.1 ≤ day))), [(72, some 0), (73, some 1)]⟩ :: ⟨some (IsV (decide (x669_4.1 ≤ day))), [(74, some 2)]⟩ :: ⟨some (Gd ((decide (x669_4.1 ≤ day)) = false) (IsV x674_3)), [(14, none)]⟩ :: ⟨some (Gd ((decide (x669_4.1 ≤ day)) = false) (IsV n_)), [(3, none)]⟩ :: ⟨some (Gd ((decide (x669_4.1 ≤ day)) = false) (IsV (decide (x674_3 < n_)))), [(76, some 4), (77, some 5)]⟩ :: ⟨some (IsV ((decide (x669_4.1 ≤ day)) || (decide (x674_3 < n_)))), [(75, some 3), (78, some 6)]⟩ :: ⟨some (IsV ((decide (x669_4.1 ≤ day)) || (decide (x674_3 < n_)))), [(79, some 7)]⟩ :: ⟨some (Gd (((decide (x669_4.1 ≤ day)) || (decide (x674_3 < n_))) = false) (IsV holidays)), [(0, none)]⟩ :: ⟨some (Gd (((decide (x669_4.1 ≤ day)) || (decide (x674_3 < n_))) = false) (IsV stays)), [(1, none)]⟩ :: ⟨some (Gd (((decide (x669_4.1 ≤ day)) || (decide (x674_3 < n_))) = false) (IsV x669_4.1)), [(12, none)]⟩ :: ⟨some (Gd (((decide (x669_4.1 ≤ day)) || (decide (x674_3 < n_))) = false) (IsV x679_12)), [(81, some 9), (82, some 10), (83, some 11)]⟩ :: ⟨some (Gd (((decide (x669_4.1 ≤ day)) || (decide (x674_3 < n_))) = false) (IsV (!x679_12))), [(84, some 12)]⟩ :: ⟨some (IsV x679_14), [(80, some 8), (85, some 13)]⟩ :: ⟨some (IsV x679_14), [(86, some 14)]⟩ :: ⟨some (Gd (x679_14 = false) (IsV holidays)), [(0, none)]⟩ :: ⟨some (Gd (x679_14 = false) (IsV stays)), [(1, none)]⟩ :: ⟨some (Gd (x679_14 = false) (IsV day)), [(2, none)]⟩ :: ⟨some (Gd (x679_14 = false) (IsV x669_4.1)), [(12, none)]⟩ :: ⟨some (Gd (x679_14 = false) (IsV x679_20)), [(88, some 16), (89, some 17), (90, some 18), (91, some 19)]⟩ :: ⟨some (Gd (x679_14 = false) (IsV n_)), [(3, none)]⟩ :: ⟨some (Gd (x679_14 = false) (IsV (x679_20 != n_))), [(92, some 20), (93, some 21)]⟩ :: ⟨some (IsV x679_23), [(87, some 15), (94, some 22)]⟩ :: ⟨some (IsV x679_23), [(95, some 23)]⟩ :: ⟨some (Gd (x679_23 = false) (IsV x669_4.1)), [(12, none)]⟩ :: ⟨some (Gd (x679_23 = false) (IsV x679_26)), [(97, some 25)]⟩ :: ⟨some (Gd (x679_23 = false) (IsV day)), [(2, none)]⟩ :: ⟨some (Gd (x679_23 = false) (IsV (decide (day < x679_26)))), [(98, some 26), (99, some 27)]⟩ :: ⟨some (Gd (x679_23 = false) (IsV (decide (day < x679_26)))), [(100, some 28)]⟩ :: ⟨some (Gd ((x679_23 = false) ∧ (decide (day < x679_26)) = true) (IsV holidays)), [(0, none)]⟩ :: ⟨some (Gd ((x679_23 = false) ∧ (decide (day < x679_26)) = true) (IsV stays)), [(1, none)]⟩ :: ⟨some (Gd ((x679_23 = false) ∧ (decide (day < x679_26)) = true) (IsV day)), [(2, none)]⟩ :: ⟨some (Gd ((x679_23 = false) ∧ (decide (day < x679_26)) = true) (IsV x669_4.1)), [(12, none)]⟩ :: ⟨some (Gd ((x679_23 = false) ∧ (decide (day < x679_26)) = true) (IsV x679_34)), [(105, some 33)]⟩ :: ⟨some (Gd ((x679_23 = false) ∧ (decide (day < x679_26)) = true) (IsV x679_35)), [(102, some 30), (103, some 31), (104, some 32), (106, some 34)]⟩ :: ⟨some (Gd ((x679_23 = false) ∧ (decide (day < x679_26)) = true) (IsV n_)), [(3, none)]⟩ :: ⟨some (Gd ((x679_23 = false) ∧ (decide (day < x679_26)) = true) (IsV x679_37)), [(108, some 36)]⟩ :: ⟨some (Gd ((x679_23 = false) ∧ (decide (day < x679_26)) = true) (IsV (x679_35 != x679_37))), [(107, some 35), (109, some 37)]⟩ :: ⟨some (Gd (x679_23 = false) (IsV x679_39)), [(101, some 29), (110, some 38)]⟩ :: ⟨some (IsV x679_40), [(96, some 24), (111, some 39)]⟩ :: []) hs (by kernel_rfl) ⟨ob1 rfl fun b q hk hn => ok_move rfl (up i12 hk hn.1), ob1 rfl fun b q hk hn => ok_move rfl (up i2 hk hn.1), ob1 rfl fun b q hk hn => ok_leq rfl hn.1 hn.2.1, ob1 rfl fun b q hk hn => ok_move rfl hn.1, gdF rfl rfl fun hp b q hk hn => ok_move rfl (up i14 hk hn.1), gdF rfl rfl fun hp b q hk hn => ok_move rfl (up i3 hk hn.1), gdF rfl rfl fun hp b q hk hn => ok_lss rfl (Gd.get hn.1 hp) (Gd.get hn.2.1 hp), ob1 rfl fun b q hk hn => ok_pickOr rfl hn.1 (fun _ => (isV_bool.2 rfl)) (fun hm => (Gd.get hn.2.1 hm)), ob1 rfl fun b q hk hn => ok_move rfl hn.1, gdF rfl rfl fun hp b q hk hn => ok_move rfl (up i0 hk hn.1), gdF rfl rfl fun hp b q hk hn => ok_move rfl (up i1 hk hn.1), gdF rfl rfl fun hp b q hk hn => ok_move rfl (up i12 hk hn.1), gdF rfl rfl fun hp b q hk hn => ok_call rfl Try.call17 (calCounts_ok (Gd.get hn.1 hp) (Gd.get hn.2.1 hp) (Gd.get hn.2.2.1 hp) (hx679_12 hp)), gdF rfl rfl fun hp b q hk hn => ok_not rfl (Gd.get hn.1 hp), ob1 rfl fun b q hk hn => ok_pickM rfl hn.1 hx679_14 (fun _ => (isV_bool.2 rfl)) (fun hm => (Gd.get hn.2.1 hm)), ob1 rfl fun b q hk hn => ok_move rfl hn.1, gdF rfl rfl fun hp b q hk hn => ok_move rfl (up i0 hk hn.1), gdF rfl rfl fun hp b q hk hn => ok_move rfl (up i1 hk hn.1), gdF rfl rfl fun hp b q hk hn => ok_move rfl (up i2 hk hn.1), gdF rfl rfl fun hp b q hk hn => ok_move rfl (up i12 hk hn.1), gdF rfl rfl fun hp b q hk hn => ok_call rfl Try.call21 (calCount_ok (Gd.get hn.1 hp) (Gd.get hn.2.1 hp) (Gd.get hn.2.2.1 hp) (Gd.get hn.2.2.2.1 hp) (hx679_20 hp)), gdF rfl rfl fun hp b q hk hn => ok_move rfl (up i3 hk hn.1), gdF rfl rfl fun hp b q hk hn => ok_neI rfl (Gd.get hn.1 hp) (Gd.get hn.2.1 hp), ob1 rfl fun b q hk hn => ok_pickM rfl hn.1 hx679_23 (fun _ => (isV_bool.2 rfl)) (fun hm => (Gd.get hn.2.1 hm)), ob1 rfl fun b q hk hn => ok_move rfl hn.1, gdF rfl rfl fun hp b q hk hn => ok_move rfl (up i12 hk hn.1), gdF rfl rfl fun hp b q hk hn => ok_sub rfl (Gd.get hn.1 hp) (isV_int.2 rfl) (hx679_26 hp), gdF rfl rfl fun hp b q hk hn => ok_move rfl (up i2 hk hn.1), gdF rfl rfl fun hp b q hk hn => ok_gtr rfl (Gd.get hn.1 hp) (Gd.get hn.2.1 hp), gdF rfl rfl fun hp b q hk hn => ok_move rfl (Gd.get hn.1 hp), gdTT rfl rfl fun hp b q hk hn => ok_move rfl (up i0 hk hn.1), gdTT rfl rfl fun hp b q hk hn => ok_move rfl (up i1 hk hn.1), gdTT rfl rfl fun hp b q hk hn => ok_move rfl (up i2 hk hn.1), gdTT rfl rfl fun hp b q hk hn => ok_move rfl (up i12 hk hn.1), gdTT rfl rfl fun hp b q hk hn => ok_sub rfl (Gd.get hn.1 hp) (isV_int.2 rfl) (hx679_34 hp), gdTT rfl rfl fun hp b q hk hn => ok_call rfl Try.call21 (calCount_ok (Gd.get hn.1 hp) (Gd.get hn.2.1 hp) (Gd.get hn.2.2.1 hp) (Gd.get hn.2.2.2.1 hp) (hx679_35 hp)), gdTT rfl rfl fun hp b q hk hn => ok_move rfl (up i3 hk hn.1), gdTT rfl rfl fun hp b q hk hn => ok_sub rfl (Gd.get hn.1 hp) (isV_int.2 rfl) (hx679_37 hp), gdTT rfl rfl fun hp b q hk hn => ok_neI rfl (Gd.get hn.1 hp) (Gd.get hn.2.1 hp), gdF rfl rfl fun hp b q hk hn => ok_pickM rfl (Gd.get hn.1 hp) (hx679_39 hp) (fun hm => (Gd.get hn.2.1 ⟨hp, hm⟩)) (fun _ => (isV_bool.2 rfl)), ob1 rfl fun b q hk hn => ok_pickM rfl hn.1 hx679_40 (fun _ => (isV_bool.2 rfl)) (fun hm => (Gd.get hn.2.1 hm)), trivial⟩ hQQ696 fun b q p => ?_
    exact tail_done (k := q) (hp697 _ _ ⟨Bs.post ⟨hg, hs, hd⟩ p, keep p 0 rfl i0, keep p 1 rfl i1, keep p 2 rfl i2, keep p 3 rfl i3, keep p 4 rfl i4, keep p 11 rfl i11, keep p 12 rfl i12, out p 40 112 _ rfl rfl rfl, trivial⟩)
  rintro a k ⟨⟨hg, hs, hd⟩, i0, i1, i2, i3, i4, i11, i12, i112, _⟩
  refine wp_cond_split (isBool i112) (fun hc695 => ?_) (fun hc695 => ?_)
  · rw [if_pos hc695] at hr
    refine wp_seq ?_
    refine cut (fun a' k' => Bs noF k0 167 a' k' ∧ (IsV false) (a'.get 10) k' ∧ True) ?_ hQ ?_
    · intro Q681 hQQ681 hp682
      refine regionS (a0 := a) (k0 := k) (n := 167) (m := 1) (⟨some (IsV false), []⟩ :: []) hs (by kernel_rfl) ⟨ob1 rfl fun b q hk hn => ok_assign rfl (isV_bool.2 rfl), trivial⟩ hQQ681 fun b q p => ?_
      exact tail_done (k := q) (hp682 _ _ ⟨Bs.post ⟨hg, hs, hd⟩ p, out p 0 10 _ rfl rfl rfl, trivial⟩)
    rintro a k ⟨⟨hg, hs, hd⟩, i10, _⟩
    refine wp_ret ?_
    obtain rfl := Option.some.inj hr
    exact retC1 rfl hd hg i10
  rw [if_neg (by rw [hc695]; decide)] at hr
  refine wp_skip ?_
  refine wp_seq ?_
  obtain ⟨x683_4, hx683_4, hr⟩ := bind_some hr
  refine cut (fun a' k' => Bs noF k0 167 a' k' ∧ (IsV holidays) (a'.get 0) k' ∧ (IsV stays) (a'.get 1) k' ∧ (IsV day) (a'.get 2) k' ∧ (IsV n_) (a'.get 3) k' ∧ (IsV m_) (a'.get 4) k' ∧ (IsV x664_0) (a'.get 11) k' ∧ (IsV x669_4.1) (a'.get 12) k' ∧ (IsV x683_4.1) (a'.get 15) k' ∧ (IsV x683_4.2) (a'.get 16) k' ∧ True) ?_ hQ ?_
  · intro Q693 hQQ693 hp694
    refine regionS (a0 := a) (k0 := k) (n := 167) (m := 10) (⟨some (IsV holidays), [(0, none)]⟩ :: ⟨some (IsV stays), [(1, none)]⟩ :: ⟨some (IsV x669_4.1), [(12, none)]⟩ :: ⟨some (IsV m_), [(4, none)]⟩ :: ⟨some (IsTup2 (IsV x683_4.1) (IsV x683_4.2)), [(114, some 0), (115, some 1), (116, some 2), (117, some 3)]⟩ :: ⟨some (IsTup2 (IsV x683_4.1) (IsV x683_4.2)), [(118, some 4)]⟩ :: ⟨some (IsV x683_4.1), [(113, some 5)]⟩ :: ⟨some (IsV x683_4.2), [(113, some 5)]⟩ :: ⟨some (IsV x683_4.1), [(119, some 6)]⟩ :: ⟨some (IsV x683_4.2), [(120, some 7)]⟩ :: []) hs (by kernel_rfl) ⟨ob1 rfl fun b q hk hn => ok_move rfl (up i0 hk hn.1), ob1 rfl fun b q hk hn => ok_move rfl (up i1 hk hn.1), ob1 rfl fun b q hk hn => ok_move rfl (up i12 hk hn.1), ob1 rfl fun b q hk hn => ok_move rfl (up i4 hk hn.1), ob1 rfl fun b q hk hn => ok_call rfl Try.call11 (calDeadline_ok hn.1 hn.2.1 hn.2.2.1 hn.2.2.2.1 hx683_4), ob1 rfl fun b q hk hn => ok_move rfl hn.1, ob1 rfl fun b q hk hn => ok_ext2_0 rfl hn.1, ob1 rfl fun b q hk hn => ok_ext2_1 rfl hn.1, ob1 rfl fun b q hk hn => ok_assign rfl hn.1, ob1 rfl fun b q hk hn => ok_assign rfl hn.1, trivial⟩ hQQ693 fun b q p => ?_
    exact tail_done (k := q) (hp694 _ _ ⟨Bs.post ⟨hg, hs, hd⟩ p, keep p 0 rfl i0, keep p 1 rfl i1, keep p 2 rfl i2, keep p 3 rfl i3, keep p 4 rfl i4, keep p 11 rfl i11, keep p 12 rfl i12, out p 8 15 _ rfl rfl rfl, out p 9 16 _ rfl rfl rfl, trivial⟩)
  rintro a k ⟨⟨hg, hs, hd⟩, i0, i1, i2, i3, i4, i11, i12, i15, i16, _⟩
  refine wp_seq ?_
  obtain ⟨x684_5, hx684_5, hr⟩ := bind_some hr
  obtain ⟨x684_6, hx684_6, hr⟩ := bind_some hr
  refine cut (fun a' k' => Bs noF k0 167 a' k' ∧ (IsV holidays) (a'.get 0) k' ∧ (IsV stays) (a'.get 1) k' ∧ (IsV day) (a'.get 2) k' ∧ (IsV x664_0) (a'.get 11) k' ∧ (IsV x669_4.1) (a'.get 12) k' ∧ (IsV x683_4.1) (a'.get 15) k' ∧ (IsV x683_4.2) (a'.get 16) k' ∧ (IsV x684_6.1) (a'.get 17) k' ∧ (IsV x684_6.2) (a'.get 18) k' ∧ True) ?_ hQ ?_
  · intro Q691 hQQ691 hp692
    refine regionS (a0 := a) (k0 := k) (n := 167) (m := 12) (⟨some (IsV holidays), [(0, none)]⟩ :: ⟨some (IsV stays), [(1, none)]⟩ :: ⟨some (IsV day), [(2, none)]⟩ :: ⟨some (IsV n_), [(3, none)]⟩ :: ⟨some (IsV m_), [(4, none)]⟩ :: ⟨some (IsV x684_5), [(125, some 3), (126, some 4)]⟩ :: ⟨some (IsTup2 (IsV x684_6.1) (IsV x684_6.2)), [(122, some 0), (123, some 1), (124, some 2), (127, some 5)]⟩ :: ⟨some (IsTup2 (IsV x684_6.1) (IsV x684_6.2)), [(128, some 6)]⟩ :: ⟨some (IsV x684_6.1), [(121, some 7)]⟩ :: ⟨some (IsV x684_6.2), [(121, some 7)]⟩ :: ⟨some (IsV x684_6.1), [(129, some 8)]⟩ :: ⟨some (IsV x684_6.2), [(130, some 9)]⟩ :: []) hs (by kernel_rfl) ⟨ob1 rfl fun b q hk hn => ok_move rfl (up i0 hk hn.1), ob1 rfl fun b q hk hn => ok_move rfl (up i1 hk hn.1), ob1 rfl fun b q hk hn => ok_move rfl (up i2 hk hn.1), ob1 rfl fun b q hk hn => ok_move rfl (up i3 hk hn.1), ob1 rfl fun b q hk hn => ok_move rfl (up i4 hk hn.1), ob1 rfl fun b q hk hn => ok_add rfl hn.1 hn.2.1 hx684_5, ob1 rfl fun b q hk hn => ok_call rfl Try.call11 (calDeadline_ok hn.1 hn.2.1 hn.2.2.1 hn.2.2.2.1 hx684_6), ob1 rfl fun b q hk hn => ok_move rfl hn.1, ob1 rfl fun b q hk hn => ok_ext2_0 rfl hn.1, ob1 rfl fun b q hk hn => ok_ext2_1 rfl hn.1, ob1 rfl fun b q hk hn => ok_assign rfl hn.1, ob1 rfl fun b q hk hn => ok_assign rfl hn.1, trivial⟩ hQQ691 fun b q p => ?_
    exact tail_done (k := q) (hp692 _ _ ⟨Bs.post ⟨hg, hs, hd⟩ p, keep p 0 rfl i0, keep p 1 rfl i1, keep p 2 rfl i2, keep p 11 rfl i11, keep p 12 rfl i12, keep p 15 rfl i15, keep p 16 rfl i16, out p 10 17 _ rfl rfl rfl, out p 11 18 _ rfl rfl rfl, trivial⟩)
  rintro a k ⟨⟨hg, hs, hd⟩, i0, i1, i2, i11, i12, i15, i16, i17, i18, _⟩
  refine wp_seq ?_
  obtain ⟨x685_3, hx685_3, hr⟩ := bind_some hr
  refine cut (fun a' k' => Bs noF k0 167 a' k' ∧ (IsV day) (a'.get 2) k' ∧ (IsV x664_0) (a'.get 11) k' ∧ (IsV x669_4.1) (a'.get 12) k' ∧ (IsV x683_4.1) (a'.get 15) k' ∧ (IsV x683_4.2) (a'.get 16) k' ∧ (IsV x684_6.1) (a'.get 17) k' ∧ (IsV x684_6.2) (a'.get 18) k' ∧ (IsV x685_3.1) (a'.get 19) k' ∧ (IsV x685_3.2) (a'.get 20) k' ∧ True) ?_ hQ ?_
  · intro Q689 hQQ689 hp690
    refine regionS (a0 := a) (k0 := k) (n := 167) (m := 9) (⟨some (IsV holidays), [(0, none)]⟩ :: ⟨some (IsV stays), [(1, none)]⟩ :: ⟨some (IsV day), [(2, none)]⟩ :: ⟨some (IsTup2 (IsV x685_3.1) (IsV x685_3.2)), [(132, some 0), (133, some 1), (134, some 2)]⟩ :: ⟨some (IsTup2 (IsV x685_3.1) (IsV x685_3.2)), [(135, some 3)]⟩ :: ⟨some (IsV x685_3.1), [(131, some 4)]⟩ :: ⟨some (IsV x685_3.2), [(131, some 4)]⟩ :: ⟨some (IsV x685_3.1), [(136, some 5)]⟩ :: ⟨some (IsV x685_3.2), [(137, some 6)]⟩ :: []) hs (by kernel_rfl) ⟨ob1 rfl fun b q hk hn => ok_move rfl (up i0 hk hn.1), ob1 rfl fun b q hk hn => ok_move rfl (up i1 hk hn.1), ob1 rfl fun b q hk hn => ok_move rfl (up i2 hk hn.1), ob1 rfl fun b q hk hn => ok_call rfl Try.call11 (calDeadline_ok hn.1 hn.2.1 hn.2.2.1 (isV_int.2 rfl) hx685_3), ob1 rfl fun b q hk hn => ok_move rfl hn.1, ob1 rfl fun b q hk hn => ok_ext2_0 rfl hn.1, ob1 rfl fun b q hk hn => ok_ext2_1 rfl hn.1, ob1 rfl fun b q hk hn => ok_assign rfl hn.1, ob1 rfl fun b q hk hn => ok_assign rfl hn.1, trivial⟩ hQQ689 fun b q p => ?_
    exact tail_done (k := q) (hp690 _ _ ⟨Bs.post ⟨hg, hs, hd⟩ p, keep p 2 rfl i2, keep p 11 rfl i11, keep p 12 rfl i12, keep p 15 rfl i15, keep p 16 rfl i16, keep p 17 rfl i17, keep p 18 rfl i18, out p 7 19 _ rfl rfl rfl, out p 8 20 _ rfl rfl rfl, trivial⟩)
  rintro a k ⟨⟨hg, hs, hd⟩, i2, i11, i12, i15, i16, i17, i18, i19, i20, _⟩
  refine wp_seq ?_
  refine cut (fun a' k' => Bs noF k0 167 a' k' ∧ (IsV (((((x664_0 && (x683_4.1 == x684_6.1)) && (x683_4.2 == x684_6.2)) && (x685_3.1 == day)) && (x685_3.2 == 0)) && ((x683_4.2 != 0) || (decide (x669_4.1 < x683_4.1))))) (a'.get 10) k' ∧ True) ?_ hQ ?_
  · intro Q687 hQQ687 hp688
    refine regionS (a0 := a) (k0 := k) (n := 167) (m := 30) (⟨some (IsV x664_0), [(11, none)]⟩ :: ⟨some (IsV x664_0), [(138, some 0)]⟩ :: ⟨some (Gd (x664_0 = true) (IsV x683_4.1)), [(15, none)]⟩ :: ⟨some (Gd (x664_0 = true) (IsV x684_6.1)), [(17, none)]⟩ :: ⟨some (Gd (x664_0 = true) (IsV (x683_4.1 == x684_6.1))), [(140, some 2), (141, some 3)]⟩ :: ⟨some (IsV (x664_0 && (x683_4.1 == x684_6.1))), [(139, some 1), (142, some 4)]⟩ :: ⟨some (IsV (x664_0 && (x683_4.1 == x684_6.1))), [(143, some 5)]⟩ :: ⟨some (Gd ((x664_0 && (x683_4.1 == x684_6.1)) = true) (IsV x683_4.2)), [(16, none)]⟩ :: ⟨some (Gd ((x664_0 && (x683_4.1 == x684_6.1)) = true) (IsV x684_6.2)), [(18, none)]⟩ :: ⟨some (Gd ((x664_0 && (x683_4.1 == x684_6.1)) = true) (IsV (x683_4.2 == x684_6.2))), [(145, some 7), (146, some 8)]⟩ :: ⟨some (IsV ((x664_0 && (x683_4.1 == x684_6.1)) && (x683_4.2 == x684_6.2))), [(144, some 6), (147, some 9)]⟩ :: ⟨some (IsV ((x664_0 && (x683_4.1 == x684_6.1)) && (x683_4.2 == x684_6.2))), [(148, some 10)]⟩ :: ⟨some (Gd (((x664_0 && (x683_4.1 == x684_6.1)) && (x683_4.2 == x684_6.2)) = true) (IsV x685_3.1)), [(19, none)]⟩ :: ⟨some (Gd (((x664_0 && (x683_4.1 == x684_6.1)) && (x683_4.2 == x684_6.2)) = true) (IsV day)), [(2, none)]⟩ :: ⟨some (Gd (((x664_0 && (x683_4.1 == x684_6.1)) && (x683_4.2 == x684_6.2)) = true) (IsV (x685_3.1 == day))), [(150, some 12), (151, some 13)]⟩ :: ⟨some (IsV (((x664_0 && (x683_4.1 == x684_6.1)) && (x683_4.2 == x684_6.2)) && (x685_3.1 == day))), [(149, some 11), (152, some 14)]⟩ :: ⟨some (IsV (((x664_0 && (x683_4.1 == x684_6.1)) && (x683_4.2 == x684_6.2)) && (x685_3.1 == day))), [(153, some 15)]⟩ :: ⟨some (Gd ((((x664_0 && (x683_4.1 == x684_6.1)) && (x683_4.2 == x684_6.2)) && (x685_3.1 == day)) = true) (IsV x685_3.2)), [(20, none)]⟩ :: ⟨some (Gd ((((x664_0 && (x683_4.1 == x684_6.1)) && (x683_4.2 == x684_6.2)) && (x685_3.1 == day)) = true) (IsV (x685_3.2 == 0))), [(155, some 17)]⟩ :: ⟨some (IsV ((((x664_0 && (x683_4.1 == x684_6.1)) && (x683_4.2 == x684_6.2)) && (x685_3.1 == day)) && (x685_3.2 == 0))), [(154, some 16), (156, some 18)]⟩ :: ⟨some (IsV ((((x664_0 && (x683_4.1 == x684_6.1)) && (x683_4.2 == x684_6.2)) && (x685_3.1 == day)) && (x685_3.2 == 0))), [(157, some 19)]⟩ :: ⟨some (Gd (((((x664_0 && (x683_4.1 == x684_6.1)) && (x683_4.2 == x684_6.2)) && (x685_3.1 == day)) && (x685_3.2 == 0)) = true) (IsV x683_4.2)), [(16, none)]⟩ :: ⟨some (Gd (((((x664_0 && (x683_4.1 == x684_6.1)) && (x683_4.2 == x684_6.2)) && (x685_3.1 == day)) && (x685_3.2 == 0)) = true) (IsV (x683_4.2 != 0))), [(159, some 21)]⟩ :: ⟨some (Gd (((((x664_0 && (x683_4.1 == x684_6.1)) && (x683_4.2 == x684_6.2)) && (x685_3.1 == day)) && (x685_3.2 == 0)) = true) (IsV (x683_4.2 != 0))), [(160, some 22)]⟩ :: ⟨some (Gd ((((((x664_0 && (x683_4.1 == x684_6.1)) && (x683_4.2 == x684_6.2)) && (x685_3.1 == day)) && (x685_3.2 == 0)) = true) ∧ (x683_4.2 != 0) = false) (IsV x683_4.1)), [(15, none)]⟩ :: ⟨some (Gd ((((((x664_0 && (x683_4.1 == x684_6.1)) && (x683_4.2 == x684_6.2)) && (x685_3.1 == day)) && (x685_3.2 == 0)) = true) ∧ (x683_4.2 != 0) = false) (IsV x669_4.1)), [(12, none)]⟩ :: ⟨some (Gd ((((((x664_0 && (x683_4.1 == x684_6.1)) && (x683_4.2 == x684_6.2)) && (x685_3.1 == day)) && (x685_3.2 == 0)) = true) ∧ (x683_4.2 != 0) = false) (IsV (decide (x669_4.1 < x683_4.1)))), [(162, some 24), (163, some 25)]⟩ :: ⟨some (Gd (((((x664_0 && (x683_4.1 == x684_6.1)) && (x683_4.2 == x684_6.2)) && (x685_3.1 == day)) && (x685_3.2 == 0)) = true) (IsV ((x683_4.2 != 0) || (decide (x669_4.1 < x683_4.1))))), [(161, some 23), (164, some 26)]⟩ :: ⟨some (IsV (((((x664_0 && (x683_4.1 == x684_6.1)) && (x683_4.2 == x684_6.2)) && (x685_3.1 == day)) && (x685_3.2 == 0)) && ((x683_4.2 != 0) || (decide (x669_4.1 < x683_4.1))))), [(158, some 20), (165, some 27)]⟩ :: ⟨some (IsV (((((x664_0 && (x683_4.1 == x684_6.1)) && (x683_4.2 == x684_6.2)) && (x685_3.1 == day)) && (x685_3.2 == 0)) && ((x683_4.2 != 0) || (decide (x669_4.1 < x683_4.1))))), [(166, some 28)]⟩ :: []) hs (by kernel_rfl) ⟨ob1 rfl fun b q hk hn => ok_move rfl (up i11 hk hn.1), ob1 rfl fun b q hk hn => ok_move rfl hn.1, gdT rfl rfl fun hp b q hk hn => ok_move rfl (up i15 hk hn.1), gdT rfl rfl fun hp b q hk hn => ok_move rfl (up i17 hk hn.1), gdT rfl rfl fun hp b q hk hn => ok_eqI rfl (Gd.get hn.1 hp) (Gd.get hn.2.1 hp), ob1 rfl fun b q hk hn => ok_pickAnd rfl hn.1 (fun hm => (Gd.get hn.2.1 hm)) (fun _ => (isV_bool.2 rfl)), ob1 rfl fun b q hk hn => ok_move rfl hn.1, gdT rfl rfl fun hp b q hk hn => ok_move rfl (up i16 hk hn.1), gdT rfl rfl fun hp b q hk hn => ok_move rfl (up i18 hk hn.1), gdT rfl rfl fun hp b q hk hn => ok_eqI rfl (Gd.get hn.1 hp) (Gd.get hn.2.1 hp), ob1 rfl fun b q hk hn => ok_pickAnd rfl hn.1 (fun hm => (Gd.get hn.2.1 hm)) (fun _ => (isV_bool.2 rfl)), ob1 rfl fun b q hk hn => ok_move rfl hn.1, gdT rfl rfl fun hp b q hk hn => ok_move rfl (up i19 hk hn.1), gdT rfl rfl fun hp b q hk hn => ok_move rfl (up i2 hk hn.1), gdT rfl rfl fun hp b q hk hn => ok_eqI rfl (Gd.get hn.1 hp) (Gd.get hn.2.1 hp), ob1 rfl fun b q hk hn => ok_pickAnd rfl hn.1 (fun hm => (Gd.get hn.2.1 hm)) (fun _ => (isV_bool.2 rfl)), ob1 rfl fun b q hk hn => ok_move rfl hn.1, gdT rfl rfl fun hp b q hk hn => ok_move rfl (up i20 hk hn.1), gdT rfl rfl fun hp b q hk hn => ok_eqI rfl (Gd.get hn.1 hp) (isV_int.2 rfl), ob1 rfl fun b q hk hn => ok_pickAnd rfl hn.1 (fun hm => (Gd.get hn.2.1 hm)) (fun _ => (isV_bool.2 rfl)), ob1 rfl fun b q hk hn => ok_move rfl hn.1, gdT rfl rfl fun hp b q hk hn => ok_move rfl (up i16 hk hn.1), gdT rfl rfl fun hp b q hk hn => ok_neI rfl (Gd.get hn.1 hp) (isV_int.2 rfl), gdT rfl rfl fun hp b q hk hn => ok_move rfl (Gd.get hn.1 hp), gdTF rfl rfl fun hp b q hk hn => ok_move rfl (up i15 hk hn.1), gdTF rfl rfl fun hp b q hk hn => ok_move rfl (up i12 hk hn.1), gdTF rfl rfl fun hp b q hk hn => ok_gtr rfl (Gd.get hn.1 hp) (Gd.get hn.2.1 hp), gdT rfl rfl fun hp b q hk hn => ok_pickOr rfl (Gd.get hn.1 hp) (fun _ => (isV_bool.2 rfl)) (fun hm => (Gd.get hn.2.1 ⟨hp, hm⟩)), ob1 rfl fun b q hk hn => ok_pickAnd rfl hn.1 (fun hm => (Gd.get hn.2.1 hm)) (fun _ => (isV_bool.2 rfl)), ob1 rfl fun b q hk hn => ok_assign rfl hn.1, trivial⟩ hQQ687 fun b q p => ?_
    exact tail_done (k := q) (hp688 _ _ ⟨Bs.post ⟨hg, hs, hd⟩ p, out p 29 10 _ rfl rfl rfl, trivial⟩)
  rintro a k ⟨⟨hg, hs, hd⟩, i10, _⟩
  refine wp_ret ?_
  obtain rfl := Option.some.inj hr
  exact retC1 rfl hd hg i10
def lawStays_L0 (x726_5 : (List Stay)) (s730 : (List Stay) × Int) : Option (Flow ((List Stay) × Int) (Bool)) :=
  if (decide (s730.2 < (x726_5.length : Int))) then
    (subI (x726_5.length : Int) 1).bind fun x735_4 =>
    (subI x735_4 s730.2).bind fun x735_6 =>
    (getI x726_5 x735_6).bind fun x735_7 =>
    (appI s730.1 ([x735_7])).bind fun x735_10 =>
    (addI s730.2 1).bind fun x736_1 =>
    some (.go (x735_10, x736_1))
  else
    some (.ex 0 (s730.1, s730.2))
def lawStays (holidays : (List Int)) (stays : (List Stay)) (more : Stay) (day : Int) (n_ : Int) (at_ : Int) : Option (Bool) :=
  (small).bind fun x716_0 =>
  (if ((decide (30 < (holidays.length : Int))) || (decide (8 < (stays.length : Int)))) then
    some true
  else
    (within n_ 1 1000000).bind fun x717_10 =>
    some (!x717_10)).bind fun x717_12 =>
  if (((x717_12 || (decide (more.From < 0))) || (decide (more.To < more.From))) || (decide (1073741824 < more.To))) then
    some x716_0
  else
    (calDeadline holidays stays day n_).bind fun x721_4 =>
    if (x721_4.2 != 0) then
      some x716_0
    else
      (appI [] stays).bind fun x726_2 =>
      (appI x726_2 ([more])).bind fun x726_5 =>
      (iterL (lawStays_L0 x726_5) (holidays.length + stays.length + x726_5.length + ([] : List Stay).length + 1) (([] : List Stay), 0)).bind fun f744 => match f744 with
        | .go _ => none
        | .ex _ s745 =>
          (calDeadline holidays x726_5 day n_).bind fun x746_4 =>
          (appI s745.1 ([more])).bind fun x747_4 =>
          (calDeadline holidays x747_4 day n_).bind fun x747_7 =>
          if (((((x746_4.1 != x747_7.1) || (x746_4.2 != x747_7.2)) || ((x746_4.2 == 0) && (decide (x746_4.1 < x721_4.1)))) || ((x746_4.2 != 0) && (x746_4.2 != 20))) || (((decide (more.To ≤ day)) || (decide (x721_4.1 < more.From))) && ((x746_4.2 != 0) || (x746_4.1 != x721_4.1)))) then
            some false
          else
            (if (decide (more.From < more.To)) then
              (subI more.To more.From).bind fun x758_8 =>
              (remI (andI at_ 4611686018427387903) x758_8).bind fun x758_9 =>
              (addI more.From x758_9).bind fun x758_10 =>
              (appI [] stays).bind fun x759_2 =>
              (addI x758_10 1).bind fun x759_8 =>
              (appI x759_2 ([(⟨more.From, x758_10⟩ : Stay), (⟨x759_8, more.To⟩ : Stay)])).bind fun x759_13 =>
              (calDeadline holidays x759_13 day n_).bind fun x761_4 =>
              if ((x761_4.1 != x746_4.1) || (x761_4.2 != x746_4.2)) then
                some (.ret false)
              else
                some (.go ())
            else
              some (.go ()) : Option (Flow (Unit) (Bool))).bind fun f776 => match f776 with
              | .go _ =>
                (if (decide (0 < (holidays.length : Int))) then
                  (subI (holidays.length : Int) 1).bind fun x778_7 =>
                  (getI holidays x778_7).bind fun x778_8 =>
                  some (decide (more.From ≤ x778_8))
                else
                  some false).bind fun x778_13 =>
                if x778_13 then
                  some x716_0
                else
                  (appI [] holidays).bind fun x782_2 =>
                  (appI x782_2 ([more.From])).bind fun x782_6 =>
                  (calDeadline x782_6 stays day n_).bind fun x782_10 =>
                  some (x716_0 && (((x782_10.2 == 0) && (decide (x721_4.1 ≤ x782_10.1))) || (x782_10.2 == 20)))
              | .ex _ _ => none
              | .ret r791 => some r791
        | .ret r802 => some r802
theorem lawStays_ok {k0 : K} {v0 v1 v2 v3 v4 v5 : Value} {holidays : (List Int)} {stays : (List Stay)} {more : Stay} {day : Int} {n_ : Int} {at_ : Int} {r : Bool} (i0 : (IsV holidays) v0 k0) (i1 : (IsV stays) v1 k0) (i2 : (IsV more) v2 k0) (i3 : (IsV day) v3 k0) (i4 : (IsV n_) v4 k0) (i5 : (IsV at_) v5 k0) (hr : lawStays holidays stays more day n_ at_ = some r) :
    Calls Try.prog 6 #[v0, v1, v2, v3, v4, v5] k0.w (Ret k0 (IsV r)) := by
  unfold lawStays at hr
  refine Ret.ofC ?_
  refine enterK Try.func6 rfl Try.ntmps6 (show 6 ≤ 249 by decide) fun a k hk0 hs hd ha => ?_
  obtain ⟨e0, e1, e2, e3, e4, e5, _⟩ := ha
  replace i0 : (IsV holidays) (a.get 0) k := by rw [e0, hk0]; exact i0
  replace i1 : (IsV stays) (a.get 1) k := by rw [e1, hk0]; exact i1
  replace i2 : (IsV more) (a.get 2) k := by rw [e2, hk0]; exact i2
  replace i3 : (IsV day) (a.get 3) k := by rw [e3, hk0]; exact i3
  replace i4 : (IsV n_) (a.get 4) k := by rw [e4, hk0]; exact i4
  replace i5 : (IsV at_) (a.get 5) k := by rw [e5, hk0]; exact i5
  have hQ : Gb.LetsOut (bodyPost Try.prog Try.f6 (RetC noF k0 (IsV r))) := letsOutC
  have hg : Chg noF k0 k := by rw [hk0]; exact Chg.refl _ k0
  refine wp_seq ?_
  refine cut (fun a' k' => Bs noF k0 249 a' k' ∧ (IsV holidays) (a'.get 0) k' ∧ (IsV stays) (a'.get 1) k' ∧ (IsV day) (a'.get 3) k' ∧ (IsV n_) (a'.get 4) k' ∧ (IsV at_) (a'.get 5) k' ∧ (IsRef more) (a'.get 8) k' ∧ True) ?_ hQ ?_
  · intro Q820 hQQ820 hp821
    refine regionS (a0 := a) (k0 := k) (n := 249) (m := 2) (⟨some (IsRef more), [(2, none)]⟩ :: ⟨some (IsV false), []⟩ :: []) hs (by kernel_rfl) ⟨ob1 rfl fun b q hk hn => ok_boxR rfl (up i2 hk hn.1), ob1 rfl fun b q hk hn => ok_assign rfl (isV_bool.2 rfl), trivial⟩ hQQ820 fun b q p => ?_
    exact tail_done (k := q) (hp821 _ _ ⟨Bs.post ⟨hg, hs, hd⟩ p, keep p 0 rfl i0, keep p 1 rfl i1, keep p 3 rfl i3, keep p 4 rfl i4, keep p 5 rfl i5, out p 0 8 _ rfl rfl rfl, trivial⟩)
  rintro a k ⟨⟨hg, hs, hd⟩, i0, i1, i3, i4, i5, i8, _⟩
  refine wp_seq ?_
  obtain ⟨x716_0, hx716_0, hr⟩ := bind_some hr
  refine cut (fun a' k' => Bs noF k0 249 a' k' ∧ (IsV holidays) (a'.get 0) k' ∧ (IsV stays) (a'.get 1) k' ∧ (IsV day) (a'.get 3) k' ∧ (IsV n_) (a'.get 4) k' ∧ (IsV at_) (a'.get 5) k' ∧ (IsRef more) (a'.get 8) k' ∧ (IsV x716_0) (a'.get 13) k' ∧ True) ?_ hQ ?_
  · intro Q818 hQQ818 hp819
    refine regionS (a0 := a) (k0 := k) (n := 249) (m := 2) (⟨some (IsV x716_0), []⟩ :: ⟨some (IsV x716_0), [(29, some 0)]⟩ :: []) hs (by kernel_rfl) ⟨ob1 rfl fun b q hk hn => ok_call rfl Try.call8 (small_ok hx716_0), ob1 rfl fun b q hk hn => ok_assign rfl hn.1, trivial⟩ hQQ818 fun b q p => ?_
    exact tail_done (k := q) (hp819 _ _ ⟨Bs.post ⟨hg, hs, hd⟩ p, keep p 0 rfl i0, keep p 1 rfl i1, keep p 3 rfl i3, keep p 4 rfl i4, keep p 5 rfl i5, keep p 8 rfl i8, out p 1 13 _ rfl rfl rfl, trivial⟩)
  rintro a k ⟨⟨hg, hs, hd⟩, i0, i1, i3, i4, i5, i8, i13, _⟩
  refine wp_seq ?_
  refine wp_seq ?_
  obtain ⟨x717_12, hx717_12, hr⟩ := bind_some hr
  obtain ⟨x717_10, hx717_10, hx717_12⟩ := ite_bindF hx717_12
  refine cut (fun a' k' => Bs noF k0 249 a' k' ∧ (IsV holidays) (a'.get 0) k' ∧ (IsV stays) (a'.get 1) k' ∧ (IsV day) (a'.get 3) k' ∧ (IsV n_) (a'.get 4) k' ∧ (IsV at_) (a'.get 5) k' ∧ (IsRef more) (a'.get 8) k' ∧ (IsV x716_0) (a'.get 13) k' ∧ (IsV (((x717_12 || (decide (more.From < 0))) || (decide (more.To < more.From))) || (decide (1073741824 < more.To)))) (a'.get 59) k' ∧ True) ?_ hQ ?_
  · intro Q816 hQQ816 hp817
    refine regionS (a0 := a) (k0 := k) (n := 249) (m := 30) (⟨some (IsV holidays), [(0, none)]⟩ :: ⟨some (IsV (α := Int) (holidays.length : Int)), [(30, some 0)]⟩ :: ⟨some (IsV (decide (30 < (holidays.length : Int)))), [(31, some 1)]⟩ :: ⟨some (IsV (decide (30 < (holidays.length : Int)))), [(32, some 2)]⟩ :: ⟨some (Gd ((decide (30 < (holidays.length : Int))) = false) (IsV stays)), [(1, none)]⟩ :: ⟨some (Gd ((decide (30 < (holidays.length : Int))) = false) (IsV (α := Int) (stays.length : Int))), [(34, some 4)]⟩ :: ⟨some (Gd ((decide (30 < (holidays.length : Int))) = false) (IsV (decide (8 < (stays.length : Int))))), [(35, some 5)]⟩ :: ⟨some (IsV ((decide (30 < (holidays.length : Int))) || (decide (8 < (stays.length : Int))))), [(33, some 3), (36, some 6)]⟩ :: ⟨some (IsV ((decide (30 < (holidays.length : Int))) || (decide (8 < (stays.length : Int))))), [(37, some 7)]⟩ :: ⟨some (Gd (((decide (30 < (holidays.length : Int))) || (decide (8 < (stays.length : Int)))) = false) (IsV n_)), [(4, none)]⟩ :: ⟨some (Gd (((decide (30 < (holidays.length : Int))) || (decide (8 < (stays.length : Int)))) = false) (IsV x717_10)), [(39, some 9)]⟩ :: ⟨some (Gd (((decide (30 < (holidays.length : Int))) || (decide (8 < (stays.length : Int)))) = false) (IsV (!x717_10))), [(40, some 10)]⟩ :: ⟨some (IsV x717_12), [(38, some 8), (41, some 11)]⟩ :: ⟨some (IsV x717_12), [(42, some 12)]⟩ :: ⟨some (Gd (x717_12 = false) (IsPtr more.From)), [(8, none)]⟩ :: ⟨some (Gd (x717_12 = false) (IsV more.From)), [(44, some 14)]⟩ :: ⟨some (Gd (x717_12 = false) (IsV (decide (more.From < 0)))), [(45, some 15)]⟩ :: ⟨some (IsV (x717_12 || (decide (more.From < 0)))), [(43, some 13), (46, some 16)]⟩ :: ⟨some (IsV (x717_12 || (decide (more.From < 0)))), [(47, some 17)]⟩ :: ⟨some (Gd ((x717_12 || (decide (more.From < 0))) = false) (IsPtr more.From)), [(8, none)]⟩ :: ⟨some (Gd ((x717_12 || (decide (more.From < 0))) = false) (IsV more.From)), [(49, some 19)]⟩ :: ⟨some (Gd ((x717_12 || (decide (more.From < 0))) = false) (IsPtr more.To)), [(8, none)]⟩ :: ⟨some (Gd ((x717_12 || (decide (more.From < 0))) = false) (IsV more.To)), [(51, some 21)]⟩ :: ⟨some (Gd ((x717_12 || (decide (more.From < 0))) = false) (IsV (decide (more.To < more.From)))), [(50, some 20), (52, some 22)]⟩ :: ⟨some (IsV ((x717_12 || (decide (more.From < 0))) || (decide (more.To < more.From)))), [(48, some 18), (53, some 23)]⟩ :: ⟨some (IsV ((x717_12 || (decide (more.From < 0))) || (decide (more.To < more.From)))), [(54, some 24)]⟩ :: ⟨some (Gd (((x717_12 || (decide (more.From < 0))) || (decide (more.To < more.From))) = false) (IsPtr more.To)), [(8, none)]⟩ :: ⟨some (Gd (((x717_12 || (decide (more.From < 0))) || (decide (more.To < more.From))) = false) (IsV more.To)), [(56, some 26)]⟩ :: ⟨some (Gd (((x717_12 || (decide (more.From < 0))) || (decide (more.To < more.From))) = false) (IsV (decide (1073741824 < more.To)))), [(57, some 27)]⟩ :: ⟨some (IsV (((x717_12 || (decide (more.From < 0))) || (decide (more.To < more.From))) || (decide (1073741824 < more.To)))), [(55, some 25), (58, some 28)]⟩ :: []) hs (by kernel_rfl) ⟨ob1 rfl fun b q hk hn => ok_move rfl (up i0 hk hn.1), ob1 rfl fun b q hk hn => ok_len rfl rfl Try.underlying22 (IsV.rd hn.1), ob1 rfl fun b q hk hn => ok_gtr rfl hn.1 (isV_int.2 rfl), ob1 rfl fun b q hk hn => ok_move rfl hn.1, gdF rfl rfl fun hp b q hk hn => ok_move rfl (up i1 hk hn.1), gdF rfl rfl fun hp b q hk hn => ok_len rfl rfl Try.underlying23 (IsV.rd (Gd.get hn.1 hp)), gdF rfl rfl fun hp b q hk hn => ok_gtr rfl (Gd.get hn.1 hp) (isV_int.2 rfl), ob1 rfl fun b q hk hn => ok_pickOr rfl hn.1 (fun _ => (isV_bool.2 rfl)) (fun hm => (Gd.get hn.2.1 hm)), ob1 rfl fun b q hk hn => ok_move rfl hn.1, gdF rfl rfl fun hp b q hk hn => ok_move rfl (up i4 hk hn.1), gdF rfl rfl fun hp b q hk hn => ok_call rfl Try.call24 (within_ok (Gd.get hn.1 hp) (isV_int.2 rfl) (isV_int.2 rfl) (hx717_10 hp)), gdF rfl rfl fun hp b q hk hn => ok_not rfl (Gd.get hn.1 hp), ob1 rfl fun b q hk hn => ok_pickM rfl hn.1 hx717_12 (fun _ => (isV_bool.2 rfl)) (fun hm => (Gd.get hn.2.1 hm)), ob1 rfl fun b q hk hn => ok_move rfl hn.1, gdF rfl rfl fun hp b q hk hn => ok_fieldAddr rfl fo38_0 (at_Stay_0 _) ((up i8 hk hn.1)).ptr, gdF rfl rfl fun hp b q hk hn => ok_load rfl ty3 (Gd.get hn.1 hp), gdF rfl rfl fun hp b q hk hn => ok_lss rfl (Gd.get hn.1 hp) (isV_int.2 rfl), ob1 rfl fun b q hk hn => ok_pickOr rfl hn.1 (fun _ => (isV_bool.2 rfl)) (fun hm => (Gd.get hn.2.1 hm)), ob1 rfl fun b q hk hn => ok_move rfl hn.1, gdF rfl rfl fun hp b q hk hn => ok_fieldAddr rfl fo38_0 (at_Stay_0 _) ((up i8 hk hn.1)).ptr, gdF rfl rfl fun hp b q hk hn => ok_load rfl ty3 (Gd.get hn.1 hp), gdF rfl rfl fun hp b q hk hn => ok_fieldAddr rfl fo38_1 (at_Stay_1 _) ((up i8 hk hn.1)).ptr, gdF rfl rfl fun hp b q hk hn => ok_load rfl ty3 (Gd.get hn.1 hp), gdF rfl rfl fun hp b q hk hn => ok_gtr rfl (Gd.get hn.1 hp) (Gd.get hn.2.1 hp), ob1 rfl fun b q hk hn => ok_pickOr rfl hn.1 (fun _ => (isV_bool.2 rfl)) (fun hm => (Gd.get hn.2.1 hm)), ob1 rfl fun b q hk hn => ok_move rfl hn.1, gdF rfl rfl fun hp b q hk hn => ok_fieldAddr rfl fo38_1 (at_Stay_1 _) ((up i8 hk hn.1)).ptr, gdF rfl rfl fun hp b q hk hn => ok_load rfl ty3 (Gd.get hn.1 hp), gdF rfl rfl fun hp b q hk hn => ok_gtr rfl (Gd.get hn.1 hp) (isV_int.2 rfl), ob1 rfl fun b q hk hn => ok_pickOr rfl hn.1 (fun _ => (isV_bool.2 rfl)) (fun hm => (Gd.get hn.2.1 hm)), trivial⟩ hQQ816 fun b q p => ?_
    exact tail_done (k := q) (hp817 _ _ ⟨Bs.post ⟨hg, hs, hd⟩ p, keep p 0 rfl i0, keep p 1 rfl i1, keep p 3 rfl i3, keep p 4 rfl i4, keep p 5 rfl i5, keep p 8 rfl i8, keep p 13 rfl i13, out p 29 59 _ rfl rfl rfl, trivial⟩)
  rintro a k ⟨⟨hg, hs, hd⟩, i0, i1, i3, i4, i5, i8, i13, i59, _⟩
  refine wp_cond_split (isBool i59) (fun hc815 => ?_) (fun hc815 => ?_)
  · rw [if_pos hc815] at hr
    refine wp_seq ?_
    refine cut (fun a' k' => Bs noF k0 249 a' k' ∧ (IsV x716_0) (a'.get 12) k' ∧ True) ?_ hQ ?_
    · intro Q719 hQQ719 hp720
      refine regionS (a0 := a) (k0 := k) (n := 249) (m := 2) (⟨some (IsV x716_0), [(13, none)]⟩ :: ⟨some (IsV x716_0), [(60, some 0)]⟩ :: []) hs (by kernel_rfl) ⟨ob1 rfl fun b q hk hn => ok_move rfl (up i13 hk hn.1), ob1 rfl fun b q hk hn => ok_assign rfl hn.1, trivial⟩ hQQ719 fun b q p => ?_
      exact tail_done (k := q) (hp720 _ _ ⟨Bs.post ⟨hg, hs, hd⟩ p, out p 1 12 _ rfl rfl rfl, trivial⟩)
    rintro a k ⟨⟨hg, hs, hd⟩, i12, _⟩
    refine wp_ret ?_
    obtain rfl := Option.some.inj hr
    exact retC1 rfl hd hg i12
  rw [if_neg (by rw [hc815]; decide)] at hr
  refine wp_skip ?_
  refine wp_seq ?_
  obtain ⟨x721_4, hx721_4, hr⟩ := bind_some hr
  refine cut (fun a' k' => Bs noF k0 249 a' k' ∧ (IsV holidays) (a'.get 0) k' ∧ (IsV stays) (a'.get 1) k' ∧ (IsV day) (a'.get 3) k' ∧ (IsV n_) (a'.get 4) k' ∧ (IsV at_) (a'.get 5) k' ∧ (IsRef more) (a'.get 8) k' ∧ (IsV x716_0) (a'.get 13) k' ∧ (IsV x721_4.1) (a'.get 14) k' ∧ (IsV x721_4.2) (a'.get 15) k' ∧ True) ?_ hQ ?_
  · intro Q813 hQQ813 hp814
    refine regionS (a0 := a) (k0 := k) (n := 249) (m := 10) (⟨some (IsV holidays), [(0, none)]⟩ :: ⟨some (IsV stays), [(1, none)]⟩ :: ⟨some (IsV day), [(3, none)]⟩ :: ⟨some (IsV n_), [(4, none)]⟩ :: ⟨some (IsTup2 (IsV x721_4.1) (IsV x721_4.2)), [(62, some 0), (63, some 1), (64, some 2), (65, some 3)]⟩ :: ⟨some (IsTup2 (IsV x721_4.1) (IsV x721_4.2)), [(66, some 4)]⟩ :: ⟨some (IsV x721_4.1), [(61, some 5)]⟩ :: ⟨some (IsV x721_4.2), [(61, some 5)]⟩ :: ⟨some (IsV x721_4.1), [(67, some 6)]⟩ :: ⟨some (IsV x721_4.2), [(68, some 7)]⟩ :: []) hs (by kernel_rfl) ⟨ob1 rfl fun b q hk hn => ok_move rfl (up i0 hk hn.1), ob1 rfl fun b q hk hn => ok_move rfl (up i1 hk hn.1), ob1 rfl fun b q hk hn => ok_move rfl (up i3 hk hn.1), ob1 rfl fun b q hk hn => ok_move rfl (up i4 hk hn.1), ob1 rfl fun b q hk hn => ok_call rfl Try.call11 (calDeadline_ok hn.1 hn.2.1 hn.2.2.1 hn.2.2.2.1 hx721_4), ob1 rfl fun b q hk hn => ok_move rfl hn.1, ob1 rfl fun b q hk hn => ok_ext2_0 rfl hn.1, ob1 rfl fun b q hk hn => ok_ext2_1 rfl hn.1, ob1 rfl fun b q hk hn => ok_assign rfl hn.1, ob1 rfl fun b q hk hn => ok_assign rfl hn.1, trivial⟩ hQQ813 fun b q p => ?_
    exact tail_done (k := q) (hp814 _ _ ⟨Bs.post ⟨hg, hs, hd⟩ p, keep p 0 rfl i0, keep p 1 rfl i1, keep p 3 rfl i3, keep p 4 rfl i4, keep p 5 rfl i5, keep p 8 rfl i8, keep p 13 rfl i13, out p 8 14 _ rfl rfl rfl, out p 9 15 _ rfl rfl rfl, trivial⟩)
  rintro a k ⟨⟨hg, hs, hd⟩, i0, i1, i3, i4, i5, i8, i13, i14, i15, _⟩
  refine wp_seq ?_
  refine wp_seq ?_
  refine cut (fun a' k' => Bs noF k0 249 a' k' ∧ (IsV holidays) (a'.get 0) k' ∧ (IsV stays) (a'.get 1) k' ∧ (IsV day) (a'.get 3) k' ∧ (IsV n_) (a'.get 4) k' ∧ (IsV at_) (a'.get 5) k' ∧ (IsRef more) (a'.get 8) k' ∧ (IsV x716_0) (a'.get 13) k' ∧ (IsV x721_4.1) (a'.get 14) k' ∧ (IsV (x721_4.2 != 0)) (a'.get 70) k' ∧ True) ?_ hQ ?_
  · intro Q811 hQQ811 hp812
    refine regionS (a0 := a) (k0 := k) (n := 249) (m := 2) (⟨some (IsV x721_4.2), [(15, none)]⟩ :: ⟨some (IsV (x721_4.2 != 0)), [(69, some 0)]⟩ :: []) hs (by kernel_rfl) ⟨ob1 rfl fun b q hk hn => ok_move rfl (up i15 hk hn.1), ob1 rfl fun b q hk hn => ok_neI rfl hn.1 (isV_int.2 rfl), trivial⟩ hQQ811 fun b q p => ?_
    exact tail_done (k := q) (hp812 _ _ ⟨Bs.post ⟨hg, hs, hd⟩ p, keep p 0 rfl i0, keep p 1 rfl i1, keep p 3 rfl i3, keep p 4 rfl i4, keep p 5 rfl i5, keep p 8 rfl i8, keep p 13 rfl i13, keep p 14 rfl i14, out p 1 70 _ rfl rfl rfl, trivial⟩)
  rintro a k ⟨⟨hg, hs, hd⟩, i0, i1, i3, i4, i5, i8, i13, i14, i70, _⟩
  refine wp_cond_split (isBool i70) (fun hc810 => ?_) (fun hc810 => ?_)
  · rw [if_pos hc810] at hr
    refine wp_seq ?_
    refine cut (fun a' k' => Bs noF k0 249 a' k' ∧ (IsV x716_0) (a'.get 12) k' ∧ True) ?_ hQ ?_
    · intro Q724 hQQ724 hp725
      refine regionS (a0 := a) (k0 := k) (n := 249) (m := 2) (⟨some (IsV x716_0), [(13, none)]⟩ :: ⟨some (IsV x716_0), [(71, some 0)]⟩ :: []) hs (by kernel_rfl) ⟨ob1 rfl fun b q hk hn => ok_move rfl (up i13 hk hn.1), ob1 rfl fun b q hk hn => ok_assign rfl hn.1, trivial⟩ hQQ724 fun b q p => ?_
      exact tail_done (k := q) (hp725 _ _ ⟨Bs.post ⟨hg, hs, hd⟩ p, out p 1 12 _ rfl rfl rfl, trivial⟩)
    rintro a k ⟨⟨hg, hs, hd⟩, i12, _⟩
    refine wp_ret ?_
    obtain rfl := Option.some.inj hr
    exact retC1 rfl hd hg i12
  rw [if_neg (by rw [hc810]; decide)] at hr
  refine wp_skip ?_
  refine wp_seq ?_
  obtain ⟨x726_2, hx726_2, hr⟩ := bind_some hr
  obtain ⟨x726_5, hx726_5, hr⟩ := bind_some hr
  refine cut (fun a' k' => Bs noF k0 249 a' k' ∧ (IsV holidays) (a'.get 0) k' ∧ (IsV stays) (a'.get 1) k' ∧ (IsV day) (a'.get 3) k' ∧ (IsV n_) (a'.get 4) k' ∧ (IsV at_) (a'.get 5) k' ∧ (IsRef more) (a'.get 8) k' ∧ (IsV x716_0) (a'.get 13) k' ∧ (IsV x721_4.1) (a'.get 14) k' ∧ IsOwn 0 38 x726_5 (a'.get 16) k' ∧ Lo k0 (obF (a'.get 16)) ∧ True) ?_ hQ ?_
  · intro Q808 hQQ808 hp809
    refine region (a0 := a) (k0 := k) (n := 249) (m := 5) (⟨some IsE0, []⟩ :: ⟨some (IsV stays), [(1, none)]⟩ :: ⟨some (IsOwn k.w.heap.size 38 x726_2), [(72, some 0), (73, some 1)]⟩ :: ⟨some (IsV more), [(8, none)]⟩ :: ⟨some (IsV ([more])), [(75, some 3)]⟩ :: []) hmix hs (by kernel_rfl) ⟨ob1 rfl fun b q hk hn => ok_buildSlice0 rfl Try.underlying23 eo38, ob1 rfl fun b q hk hn => ok_move rfl (up i1 hk hn.1), ob1 rfl fun b q hk hn => ok_append0 rfl Try.underlying23 eo38 hk.size hn.1 (IsV.rd hn.2.1) hx726_2, ob1 rfl fun b q hk hn => ok_load rfl ty38 ((up i8 hk hn.1)).ptr, ob1 rfl fun b q hk hn => ok_buildSlice rfl Try.underlying23 eo38 rfl (by decide) (by decide) ⟨rfl, hn.1, trivial⟩, trivial⟩ hQQ808 fun b q p => ?_
    have hgq := hg.then p.grow
    have hsb := p.size.trans hs
    have hdb := p.defers.trans hd
    have j0 := keep p 0 rfl i0
    have j1 := keep p 1 rfl i1
    have j3 := keep p 3 rfl i3
    have j4 := keep p 4 rfl i4
    have j5 := keep p 5 rfl i5
    have j8 := keep p 8 rfl i8
    have j13 := keep p 13 rfl i13
    have j14 := keep p 14 rfl i14
    have j74 : (IsOwn k.w.heap.size 38 x726_2) (b.get 74) q := out p 2 74 _ rfl rfl rfl
    have x74 : Lo k (obF (b.get 74)) := j74.loF
    have y74 := x74.chg hg
    replace j74 := j74.weaken (Nat.zero_le _)
    have j76 : (IsV ([more])) (b.get 76) q := out p 4 76 _ rfl rfl rfl
    have hns := j74.nshF
    refine tail_appendS (i := 5) (d := 77) rfl rfl rfl rfl (by rw [hsb]; decide) (e := 38) Try.underlying23 eo38 j74 (IsV.rd j76) hx726_5 fun b2 q2 hsz hdf hoth hch hown hob => ?_
    have hle := hch.le hns
    have yn : Lo k0 (obF (b2.get 77)) := y74.app hgq hob
    replace j0 := Pers.pers hle j0
    replace j1 := Pers.pers hle j1
    replace j3 := Pers.pers hle j3
    replace j4 := Pers.pers hle j4
    replace j5 := Pers.pers hle j5
    replace j8 := Pers.pers hle j8
    replace j13 := Pers.pers hle j13
    replace j14 := Pers.pers hle j14
    replace j76 := Pers.pers hle j76
    replace hgq := hgq.step hch y74.wr
    rw [← hoth 0 (by decide)] at j0
    rw [← hoth 1 (by decide)] at j1
    rw [← hoth 3 (by decide)] at j3
    rw [← hoth 4 (by decide)] at j4
    rw [← hoth 5 (by decide)] at j5
    rw [← hoth 8 (by decide)] at j8
    rw [← hoth 13 (by decide)] at j13
    rw [← hoth 14 (by decide)] at j14
    rw [← hoth 76 (by decide)] at j76
    have j77 := hown
    have y77 := yn
    replace hsb := hsz.trans hsb
    replace hdb := hdf.trans hdb
    clear hle hch hown hob hns yn hsz hdf hoth
    obtain ⟨b, hbb⟩ : ∃ b, b = b2 := ⟨b2, rfl⟩
    subst hbb
    obtain ⟨q, hqq⟩ : ∃ q, q = q2 := ⟨q2, rfl⟩
    subst hqq
    refine tail_assign (i := 6) (d := 16) rfl rfl (.inl rfl) rfl (by rw [hsb]; decide) fun b2 hsz hdf hnew hoth => ?_
    have jn : (IsOwn 0 38 x726_5) (b2.get 16) q := by rw [hnew]; exact j77
    have yn : Lo k0 (obF (b2.get 16)) := by rw [hnew]; exact y77
    rw [← hoth 0 (by decide)] at j0
    rw [← hoth 1 (by decide)] at j1
    rw [← hoth 3 (by decide)] at j3
    rw [← hoth 4 (by decide)] at j4
    rw [← hoth 5 (by decide)] at j5
    rw [← hoth 8 (by decide)] at j8
    rw [← hoth 13 (by decide)] at j13
    rw [← hoth 14 (by decide)] at j14
    rw [← hoth 76 (by decide)] at j76
    have j16 := jn
    have y16 := yn
    replace hsb := hsz.trans hsb
    replace hdb := hdf.trans hdb
    clear hsz hdf hoth
    obtain ⟨b, hbb⟩ : ∃ b, b = b2 := ⟨b2, rfl⟩
    subst hbb
    exact tail_done (k := q) (hp809 _ _ ⟨⟨hgq, hsb, hdb⟩, j0, j1, j3, j4, j5, j8, j13, j14, j16, y16, trivial⟩)
  rintro a k ⟨⟨hg, hs, hd⟩, i0, i1, i3, i4, i5, i8, i13, i14, i16, n16, _⟩
  refine wp_seq ?_
  obtain ⟨kk, sh727, ii16⟩ := i16.give
  replace i0 := Pers.pers sh727.le i0
  replace i1 := Pers.pers sh727.le i1
  replace i3 := Pers.pers sh727.le i3
  replace i4 := Pers.pers sh727.le i4
  replace i5 := Pers.pers sh727.le i5
  replace i8 := Pers.pers sh727.le i8
  replace i13 := Pers.pers sh727.le i13
  replace i14 := Pers.pers sh727.le i14
  replace i16 := ii16
  replace hg := hg.hand sh727 n16.wr
  rw [← sh727.w]
  clear sh727
  obtain ⟨k, hkk⟩ : ∃ k, k = kk := ⟨kk, rfl⟩
  subst hkk
  refine cut (fun a' k' => Bs noF k0 249 a' k' ∧ (IsV holidays) (a'.get 0) k' ∧ (IsV stays) (a'.get 1) k' ∧ (IsV day) (a'.get 3) k' ∧ (IsV n_) (a'.get 4) k' ∧ (IsV at_) (a'.get 5) k' ∧ (IsRef more) (a'.get 8) k' ∧ (IsV x716_0) (a'.get 13) k' ∧ (IsV x721_4.1) (a'.get 14) k' ∧ (IsV x726_5) (a'.get 16) k' ∧ IsOwn 0 38 ([] : List Stay) (a'.get 17) k' ∧ Lo k0 (obF (a'.get 17)) ∧ True) ?_ hQ ?_
  · intro Q806 hQQ806 hp807
    refine regionS (a0 := a) (k0 := k) (n := 249) (m := 1) (⟨some IsE0, []⟩ :: []) hs (by kernel_rfl) ⟨ob1 rfl fun b q hk hn => ok_assign rfl isE0_nil, trivial⟩ hQQ806 fun b q p => ?_
    have hgq := hg.then p.grow
    have hsb := p.size.trans hs
    have hdb := p.defers.trans hd
    have j0 := keep p 0 rfl i0
    have j1 := keep p 1 rfl i1
    have j3 := keep p 3 rfl i3
    have j4 := keep p 4 rfl i4
    have j5 := keep p 5 rfl i5
    have j8 := keep p 8 rfl i8
    have j13 := keep p 13 rfl i13
    have j14 := keep p 14 rfl i14
    have j16 := keep p 16 rfl i16
    have j17 : IsE0 (b.get 17) q := out p 0 17 _ rfl rfl rfl
    have y17 : Lo k0 (obF (b.get 17)) := j17.lo
    replace j17 : IsOwn 0 38 ([] : List Stay) (b.get 17) q := j17.own0
    exact tail_done (k := q) (hp807 _ _ ⟨⟨hgq, hsb, hdb⟩, j0, j1, j3, j4, j5, j8, j13, j14, j16, j17, y17, trivial⟩)
  rintro a k ⟨⟨hg, hs, hd⟩, i0, i1, i3, i4, i5, i8, i13, i14, i16, i17, n17, _⟩
  refine wp_seq ?_
  refine wp_seq ?_
  refine cut (fun a' k' => Bs noF k0 249 a' k' ∧ (IsV holidays) (a'.get 0) k' ∧ (IsV stays) (a'.get 1) k' ∧ (IsV day) (a'.get 3) k' ∧ (IsV n_) (a'.get 4) k' ∧ (IsV at_) (a'.get 5) k' ∧ (IsRef more) (a'.get 8) k' ∧ (IsV x716_0) (a'.get 13) k' ∧ (IsV x721_4.1) (a'.get 14) k' ∧ (IsV x726_5) (a'.get 16) k' ∧ IsOwn 0 38 ([] : List Stay) (a'.get 17) k' ∧ Lo k0 (obF (a'.get 17)) ∧ (IsV (α := Int) 0) (a'.get 18) k' ∧ True) ?_ hQ ?_
  · intro Q804 hQQ804 hp805
    refine regionS (a0 := a) (k0 := k) (n := 249) (m := 1) (⟨some (IsV (α := Int) 0), []⟩ :: []) hs (by kernel_rfl) ⟨ob1 rfl fun b q hk hn => ok_assign rfl (isV_int.2 rfl), trivial⟩ hQQ804 fun b q p => ?_
    exact tail_done (k := q) (hp805 _ _ ⟨Bs.post ⟨hg, hs, hd⟩ p, keep p 0 rfl i0, keep p 1 rfl i1, keep p 3 rfl i3, keep p 4 rfl i4, keep p 5 rfl i5, keep p 8 rfl i8, keep p 13 rfl i13, keep p 14 rfl i14, keep p 16 rfl i16, keep p 17 rfl i17, (by rw [p.old 17 rfl]; exact n17), out p 0 18 _ rfl rfl rfl, trivial⟩)
  rintro a k ⟨⟨hg, hs, hd⟩, i0, i1, i3, i4, i5, i8, i13, i14, i16, i17, n17, i18, _⟩
  refine wp_block ?_
  obtain ⟨f744, hf744, hr⟩ := bind_some hr
  refine cutFe f744 (fun s' a' k' => Bs noF k0 249 a' k' ∧ (IsV holidays) (a'.get 0) k' ∧ (IsV stays) (a'.get 1) k' ∧ (IsV day) (a'.get 3) k' ∧ (IsV n_) (a'.get 4) k' ∧ (IsV at_) (a'.get 5) k' ∧ (IsRef more) (a'.get 8) k' ∧ (IsV x716_0) (a'.get 13) k' ∧ (IsV x721_4.1) (a'.get 14) k' ∧ (IsV x726_5) (a'.get 16) k' ∧ IsOwn 0 38 s'.1 (a'.get 17) k' ∧ Lo k0 (obF (a'.get 17)) ∧ (IsV s'.2) (a'.get 18) k' ∧ True) (fun i' s' a' k' => (i' = 0 ∧ Bs noF k0 249 a' k' ∧ (IsV holidays) (a'.get 0) k' ∧ (IsV stays) (a'.get 1) k' ∧ (IsV day) (a'.get 3) k' ∧ (IsV n_) (a'.get 4) k' ∧ (IsV at_) (a'.get 5) k' ∧ (IsRef more) (a'.get 8) k' ∧ (IsV x716_0) (a'.get 13) k' ∧ (IsV x721_4.1) (a'.get 14) k' ∧ (IsV x726_5) (a'.get 16) k' ∧ IsOwn 0 38 s'.1 (a'.get 17) k' ∧ Lo k0 (obF (a'.get 17)) ∧ True)) (fun r' a' k' => bodyPost Try.prog Try.f6 (RetC noF k0 (IsV r')) .ret a' k'.w) ?_ hQ ?_ ?_ ?_
  · intro Q803 hQQ803 hgo hex hret
    refine sim_loop ?_ _ _ _ _ _ hf744 ⟨⟨hg, hs, hd⟩, i0, i1, i3, i4, i5, i8, i13, i14, i16, i17, n17, i18, trivial⟩ Q803 hQQ803 hgo hex hret
    clear hr hf744 hgo hex hret hQQ803 hQ hg hs hd i0 i1 i13 i14 i16 i17 i18 i3 i4 i5 i8 n17
    intro s730 fl_ a k hr hS Q hQ hgo731 hex732 hret733
    obtain ⟨⟨hg, hs, hd⟩, i0, i1, i3, i4, i5, i8, i13, i14, i16, i17, n17, i18, _⟩ := hS
    unfold lawStays_L0 at hr
    refine wp_seq ?_
    refine wp_seq ?_
    refine cut (fun a' k' => Bs noF k0 249 a' k' ∧ (IsV holidays) (a'.get 0) k' ∧ (IsV stays) (a'.get 1) k' ∧ (IsV day) (a'.get 3) k' ∧ (IsV n_) (a'.get 4) k' ∧ (IsV at_) (a'.get 5) k' ∧ (IsRef more) (a'.get 8) k' ∧ (IsV x716_0) (a'.get 13) k' ∧ (IsV x721_4.1) (a'.get 14) k' ∧ (IsV x726_5) (a'.get 16) k' ∧ IsOwn 0 38 s730.1 (a'.get 17) k' ∧ Lo k0 (obF (a'.get 17)) ∧ (IsV s730.2) (a'.get 18) k' ∧ (IsV (decide (s730.2 < (x726_5.length : Int)))) (a'.get 81) k' ∧ True) ?_ hQ ?_
    · intro Q742 hQQ742 hp743
      refine regionS (a0 := a) (k0 := k) (n := 249) (m := 4) (⟨some (IsV s730.2), [(18, none)]⟩ :: ⟨some (IsV x726_5), [(16, none)]⟩ :: ⟨some (IsV (α := Int) (x726_5.length : Int)), [(79, some 1)]⟩ :: ⟨some (IsV (decide (s730.2 < (x726_5.length : Int)))), [(78, some 0), (80, some 2)]⟩ :: []) hs (by kernel_rfl) ⟨ob1 rfl fun b q hk hn => ok_move rfl (up i18 hk hn.1), ob1 rfl fun b q hk hn => ok_move rfl (up i16 hk hn.1), ob1 rfl fun b q hk hn => ok_len rfl rfl Try.underlying23 (IsV.rd hn.1), ob1 rfl fun b q hk hn => ok_lss rfl hn.1 hn.2.1, trivial⟩ hQQ742 fun b q p => ?_
      exact tail_done (k := q) (hp743 _ _ ⟨Bs.post ⟨hg, hs, hd⟩ p, keep p 0 rfl i0, keep p 1 rfl i1, keep p 3 rfl i3, keep p 4 rfl i4, keep p 5 rfl i5, keep p 8 rfl i8, keep p 13 rfl i13, keep p 14 rfl i14, keep p 16 rfl i16, keep p 17 rfl i17, (by rw [p.old 17 rfl]; exact n17), keep p 18 rfl i18, out p 3 81 _ rfl rfl rfl, trivial⟩)
    rintro a k ⟨⟨hg, hs, hd⟩, i0, i1, i3, i4, i5, i8, i13, i14, i16, i17, n17, i18, i81, _⟩
    refine wp_cond_split (isBool i81) (fun hc741 => ?_) (fun hc741 => ?_)
    · rw [if_pos hc741] at hr
      refine wp_skip ?_
      refine wp_seq ?_
      refine wp_block ?_
      obtain ⟨x735_4, hx735_4, hr⟩ := bind_some hr
      obtain ⟨x735_6, hx735_6, hr⟩ := bind_some hr
      obtain ⟨x735_7, hx735_7, hr⟩ := bind_some hr
      obtain ⟨x735_10, hx735_10, hr⟩ := bind_some hr
      refine cut (fun a' k' => Bs noF k0 249 a' k' ∧ (IsV holidays) (a'.get 0) k' ∧ (IsV stays) (a'.get 1) k' ∧ (IsV day) (a'.get 3) k' ∧ (IsV n_) (a'.get 4) k' ∧ (IsV at_) (a'.get 5) k' ∧ (IsRef more) (a'.get 8) k' ∧ (IsV x716_0) (a'.get 13) k' ∧ (IsV x721_4.1) (a'.get 14) k' ∧ (IsV x726_5) (a'.get 16) k' ∧ IsOwn 0 38 x735_10 (a'.get 17) k' ∧ Lo k0 (obF (a'.get 17)) ∧ (IsV s730.2) (a'.get 18) k' ∧ True) ?_ hQ ?_
      · intro Q739 hQQ739 hp740
        refine regionS (a0 := a) (k0 := k) (n := 249) (m := 10) (⟨some (OwnAt (a.get 17) 0 38 s730.1), [(17, none)]⟩ :: ⟨some (IsV x726_5), [(16, none)]⟩ :: ⟨some (IsV x726_5), [(16, none)]⟩ :: ⟨some (IsV (α := Int) (x726_5.length : Int)), [(86, some 2)]⟩ :: ⟨some (IsV x735_4), [(87, some 3)]⟩ :: ⟨some (IsV s730.2), [(18, none)]⟩ :: ⟨some (IsV x735_6), [(88, some 4), (89, some 5)]⟩ :: ⟨some (IsPtr x735_7), [(85, some 1), (90, some 6)]⟩ :: ⟨some (IsV x735_7), [(91, some 7)]⟩ :: ⟨some (IsV ([x735_7])), [(92, some 8)]⟩ :: []) hs (by kernel_rfl) ⟨ob1 rfl fun b q hk hn => ok_moveOA (.inl rfl) ⟨hn.1, up i17 hk hn.1⟩, ob1 rfl fun b q hk hn => ok_move rfl (up i16 hk hn.1), ob1 rfl fun b q hk hn => ok_move rfl (up i16 hk hn.1), ob1 rfl fun b q hk hn => ok_len rfl rfl Try.underlying23 (IsV.rd hn.1), ob1 rfl fun b q hk hn => ok_sub rfl hn.1 (isV_int.2 rfl) hx735_4, ob1 rfl fun b q hk hn => ok_move rfl (up i18 hk hn.1), ob1 rfl fun b q hk hn => ok_sub rfl hn.1 hn.2.1 hx735_6, ob1 rfl fun b q hk hn => ok_indexAddr rfl Try.underlying23 ty38 (IsV.rd hn.1) hn.2.1 hx735_7, ob1 rfl fun b q hk hn => ok_load rfl ty38 hn.1, ob1 rfl fun b q hk hn => ok_buildSlice rfl Try.underlying23 eo38 rfl (by decide) (by decide) ⟨rfl, hn.1, trivial⟩, trivial⟩ hQQ739 fun b q p => ?_
        have hgq := hg.then p.grow
        have hsb := p.size.trans hs
        have hdb := p.defers.trans hd
        have j0 := keep p 0 rfl i0
        have j1 := keep p 1 rfl i1
        have j3 := keep p 3 rfl i3
        have j4 := keep p 4 rfl i4
        have j5 := keep p 5 rfl i5
        have j8 := keep p 8 rfl i8
        have j13 := keep p 13 rfl i13
        have j14 := keep p 14 rfl i14
        have j16 := keep p 16 rfl i16
        have j18 := keep p 18 rfl i18
        have e84 : b.get 84 = a.get 17 := (out p 0 84 _ rfl rfl rfl).1
        have j84 : IsOwn 0 38 s730.1 (b.get 84) q := (out p 0 84 _ rfl rfl rfl).2
        have y84 : Lo k0 (obF (b.get 84)) := by rw [e84]; exact n17
        have j93 : (IsV ([x735_7])) (b.get 93) q := out p 9 93 _ rfl rfl rfl
        have hns := j84.nshF
        refine tail_appendS (i := 10) (d := 94) rfl rfl rfl rfl (by rw [hsb]; decide) (e := 38) Try.underlying23 eo38 j84 (IsV.rd j93) hx735_10 fun b2 q2 hsz hdf hoth hch hown hob => ?_
        have hle := hch.le hns
        have yn : Lo k0 (obF (b2.get 94)) := y84.app hgq hob
        replace j0 := Pers.pers hle j0
        replace j1 := Pers.pers hle j1
        replace j3 := Pers.pers hle j3
        replace j4 := Pers.pers hle j4
        replace j5 := Pers.pers hle j5
        replace j8 := Pers.pers hle j8
        replace j13 := Pers.pers hle j13
        replace j14 := Pers.pers hle j14
        replace j16 := Pers.pers hle j16
        replace j18 := Pers.pers hle j18
        replace j93 := Pers.pers hle j93
        replace hgq := hgq.step hch y84.wr
        rw [← hoth 0 (by decide)] at j0
        rw [← hoth 1 (by decide)] at j1
        rw [← hoth 3 (by decide)] at j3
        rw [← hoth 4 (by decide)] at j4
        rw [← hoth 5 (by decide)] at j5
        rw [← hoth 8 (by decide)] at j8
        rw [← hoth 13 (by decide)] at j13
        rw [← hoth 14 (by decide)] at j14
        rw [← hoth 16 (by decide)] at j16
        rw [← hoth 18 (by decide)] at j18
        rw [← hoth 93 (by decide)] at j93
        have j94 := hown
        have y94 := yn
        replace hsb := hsz.trans hsb
        replace hdb := hdf.trans hdb
        clear hle hch hown hob hns yn hsz hdf hoth
        obtain ⟨b, hbb⟩ : ∃ b, b = b2 := ⟨b2, rfl⟩
        subst hbb
        obtain ⟨q, hqq⟩ : ∃ q, q = q2 := ⟨q2, rfl⟩
        subst hqq
        refine tail_assign (i := 11) (d := 17) rfl rfl (.inl rfl) rfl (by rw [hsb]; decide) fun b2 hsz hdf hnew hoth => ?_
        have jn : (IsOwn 0 38 x735_10) (b2.get 17) q := by rw [hnew]; exact j94
        have yn : Lo k0 (obF (b2.get 17)) := by rw [hnew]; exact y94
        rw [← hoth 0 (by decide)] at j0
        rw [← hoth 1 (by decide)] at j1
        rw [← hoth 3 (by decide)] at j3
        rw [← hoth 4 (by decide)] at j4
        rw [← hoth 5 (by decide)] at j5
        rw [← hoth 8 (by decide)] at j8
        rw [← hoth 13 (by decide)] at j13
        rw [← hoth 14 (by decide)] at j14
        rw [← hoth 16 (by decide)] at j16
        rw [← hoth 18 (by decide)] at j18
        rw [← hoth 93 (by decide)] at j93
        have j17 := jn
        have y17 := yn
        replace hsb := hsz.trans hsb
        replace hdb := hdf.trans hdb
        clear hsz hdf hoth
        obtain ⟨b, hbb⟩ : ∃ b, b = b2 := ⟨b2, rfl⟩
        subst hbb
        exact tail_done (k := q) (hp740 _ _ ⟨⟨hgq, hsb, hdb⟩, j0, j1, j3, j4, j5, j8, j13, j14, j16, j17, y17, j18, trivial⟩)
      rintro a k ⟨⟨hg, hs, hd⟩, i0, i1, i3, i4, i5, i8, i13, i14, i16, i17, n17, i18, _⟩
      obtain ⟨x736_1, hx736_1, hr⟩ := bind_some hr
      refine cut (fun a' k' => Bs noF k0 249 a' k' ∧ (IsV holidays) (a'.get 0) k' ∧ (IsV stays) (a'.get 1) k' ∧ (IsV day) (a'.get 3) k' ∧ (IsV n_) (a'.get 4) k' ∧ (IsV at_) (a'.get 5) k' ∧ (IsRef more) (a'.get 8) k' ∧ (IsV x716_0) (a'.get 13) k' ∧ (IsV x721_4.1) (a'.get 14) k' ∧ (IsV x726_5) (a'.get 16) k' ∧ IsOwn 0 38 x735_10 (a'.get 17) k' ∧ Lo k0 (obF (a'.get 17)) ∧ (IsV x736_1) (a'.get 18) k' ∧ True) ?_ hQ ?_
      · intro Q737 hQQ737 hp738
        refine regionS (a0 := a) (k0 := k) (n := 249) (m := 3) (⟨some (IsV s730.2), [(18, none)]⟩ :: ⟨some (IsV x736_1), [(82, some 0)]⟩ :: ⟨some (IsV x736_1), [(83, some 1)]⟩ :: []) hs (by kernel_rfl) ⟨ob1 rfl fun b q hk hn => ok_move rfl (up i18 hk hn.1), ob1 rfl fun b q hk hn => ok_add rfl hn.1 (isV_int.2 rfl) hx736_1, ob1 rfl fun b q hk hn => ok_assign rfl hn.1, trivial⟩ hQQ737 fun b q p => ?_
        exact tail_done (k := q) (hp738 _ _ ⟨Bs.post ⟨hg, hs, hd⟩ p, keep p 0 rfl i0, keep p 1 rfl i1, keep p 3 rfl i3, keep p 4 rfl i4, keep p 5 rfl i5, keep p 8 rfl i8, keep p 13 rfl i13, keep p 14 rfl i14, keep p 16 rfl i16, keep p 17 rfl i17, (by rw [p.old 17 rfl]; exact n17), out p 2 18 _ rfl rfl rfl, trivial⟩)
      rintro a k ⟨⟨hg, hs, hd⟩, i0, i1, i3, i4, i5, i8, i13, i14, i16, i17, n17, i18, _⟩
      exact hgo731 _ _ _ (Option.some.inj hr).symm ⟨⟨hg, hs, hd⟩, i0, i1, i3, i4, i5, i8, i13, i14, i16, i17, n17, i18, trivial⟩
    rw [if_neg (by rw [hc741]; decide)] at hr
    refine wp_exit ?_
    exact hex732 _ _ _ _ (Option.some.inj hr).symm ⟨rfl, ⟨hg, hs, hd⟩, i0, i1, i3, i4, i5, i8, i13, i14, i16, i17, n17, trivial⟩
  · rintro r802 a k rfl hR
    dsimp only at hr
    obtain rfl := Option.some.inj hr
    exact hR
  · rintro _ _ _ rfl _
    simp at hr
  clear hf744
  rintro _ s745 a k rfl ⟨rfl, ⟨hg, hs, hd⟩, i0, i1, i3, i4, i5, i8, i13, i14, i16, i17, n17, _⟩
  dsimp only at hr
  refine wp_seq ?_
  obtain ⟨x746_4, hx746_4, hr⟩ := bind_some hr
  refine cut (fun a' k' => Bs noF k0 249 a' k' ∧ (IsV holidays) (a'.get 0) k' ∧ (IsV stays) (a'.get 1) k' ∧ (IsV day) (a'.get 3) k' ∧ (IsV n_) (a'.get 4) k' ∧ (IsV at_) (a'.get 5) k' ∧ (IsRef more) (a'.get 8) k' ∧ (IsV x716_0) (a'.get 13) k' ∧ (IsV x721_4.1) (a'.get 14) k' ∧ IsOwn 0 38 s745.1 (a'.get 17) k' ∧ Lo k0 (obF (a'.get 17)) ∧ (IsV x746_4.1) (a'.get 19) k' ∧ (IsV x746_4.2) (a'.get 20) k' ∧ True) ?_ hQ ?_
  · intro Q800 hQQ800 hp801
    refine regionS (a0 := a) (k0 := k) (n := 249) (m := 10) (⟨some (IsV holidays), [(0, none)]⟩ :: ⟨some (IsV x726_5), [(16, none)]⟩ :: ⟨some (IsV day), [(3, none)]⟩ :: ⟨some (IsV n_), [(4, none)]⟩ :: ⟨some (IsTup2 (IsV x746_4.1) (IsV x746_4.2)), [(96, some 0), (97, some 1), (98, some 2), (99, some 3)]⟩ :: ⟨some (IsTup2 (IsV x746_4.1) (IsV x746_4.2)), [(100, some 4)]⟩ :: ⟨some (IsV x746_4.1), [(95, some 5)]⟩ :: ⟨some (IsV x746_4.2), [(95, some 5)]⟩ :: ⟨some (IsV x746_4.1), [(101, some 6)]⟩ :: ⟨some (IsV x746_4.2), [(102, some 7)]⟩ :: []) hs (by kernel_rfl) ⟨ob1 rfl fun b q hk hn => ok_move rfl (up i0 hk hn.1), ob1 rfl fun b q hk hn => ok_move rfl (up i16 hk hn.1), ob1 rfl fun b q hk hn => ok_move rfl (up i3 hk hn.1), ob1 rfl fun b q hk hn => ok_move rfl (up i4 hk hn.1), ob1 rfl fun b q hk hn => ok_call rfl Try.call11 (calDeadline_ok hn.1 hn.2.1 hn.2.2.1 hn.2.2.2.1 hx746_4), ob1 rfl fun b q hk hn => ok_move rfl hn.1, ob1 rfl fun b q hk hn => ok_ext2_0 rfl hn.1, ob1 rfl fun b q hk hn => ok_ext2_1 rfl hn.1, ob1 rfl fun b q hk hn => ok_assign rfl hn.1, ob1 rfl fun b q hk hn => ok_assign rfl hn.1, trivial⟩ hQQ800 fun b q p => ?_
    exact tail_done (k := q) (hp801 _ _ ⟨Bs.post ⟨hg, hs, hd⟩ p, keep p 0 rfl i0, keep p 1 rfl i1, keep p 3 rfl i3, keep p 4 rfl i4, keep p 5 rfl i5, keep p 8 rfl i8, keep p 13 rfl i13, keep p 14 rfl i14, keep p 17 rfl i17, (by rw [p.old 17 rfl]; exact n17), out p 8 19 _ rfl rfl rfl, out p 9 20 _ rfl rfl rfl, trivial⟩)
  rintro a k ⟨⟨hg, hs, hd⟩, i0, i1, i3, i4, i5, i8, i13, i14, i17, n17, i19, i20, _⟩
  refine wp_seq ?_
  obtain ⟨x747_4, hx747_4, hr⟩ := bind_some hr
  obtain ⟨x747_7, hx747_7, hr⟩ := bind_some hr
  refine cut (fun a' k' => Bs noF k0 249 a' k' ∧ (IsV holidays) (a'.get 0) k' ∧ (IsV stays) (a'.get 1) k' ∧ (IsV day) (a'.get 3) k' ∧ (IsV n_) (a'.get 4) k' ∧ (IsV at_) (a'.get 5) k' ∧ (IsRef more) (a'.get 8) k' ∧ (IsV x716_0) (a'.get 13) k' ∧ (IsV x721_4.1) (a'.get 14) k' ∧ (IsV x746_4.1) (a'.get 19) k' ∧ (IsV x746_4.2) (a'.get 20) k' ∧ (IsV x747_7.1) (a'.get 21) k' ∧ (IsV x747_7.2) (a'.get 22) k' ∧ True) ?_ hQ ?_
  · intro Q798 hQQ798 hp799
    refine regionS (a0 := a) (k0 := k) (n := 249) (m := 4) (⟨some (IsV holidays), [(0, none)]⟩ :: ⟨some (OwnAt (a.get 17) 0 38 s745.1), [(17, none)]⟩ :: ⟨some (IsV more), [(8, none)]⟩ :: ⟨some (IsV ([more])), [(106, some 2)]⟩ :: []) hs (by kernel_rfl) ⟨ob1 rfl fun b q hk hn => ok_move rfl (up i0 hk hn.1), ob1 rfl fun b q hk hn => ok_moveOA (.inl rfl) ⟨hn.1, up i17 hk hn.1⟩, ob1 rfl fun b q hk hn => ok_load rfl ty38 ((up i8 hk hn.1)).ptr, ob1 rfl fun b q hk hn => ok_buildSlice rfl Try.underlying23 eo38 rfl (by decide) (by decide) ⟨rfl, hn.1, trivial⟩, trivial⟩ hQQ798 fun b q p => ?_
    have hgq := hg.then p.grow
    have hsb := p.size.trans hs
    have hdb := p.defers.trans hd
    have j0 := keep p 0 rfl i0
    have j1 := keep p 1 rfl i1
    have j3 := keep p 3 rfl i3
    have j4 := keep p 4 rfl i4
    have j5 := keep p 5 rfl i5
    have j8 := keep p 8 rfl i8
    have j13 := keep p 13 rfl i13
    have j14 := keep p 14 rfl i14
    have j19 := keep p 19 rfl i19
    have j20 := keep p 20 rfl i20
    have j104 : (IsV holidays) (b.get 104) q := out p 0 104 _ rfl rfl rfl
    have e105 : b.get 105 = a.get 17 := (out p 1 105 _ rfl rfl rfl).1
    have j105 : IsOwn 0 38 s745.1 (b.get 105) q := (out p 1 105 _ rfl rfl rfl).2
    have y105 : Lo k0 (obF (b.get 105)) := by rw [e105]; exact n17
    have j107 : (IsV ([more])) (b.get 107) q := out p 3 107 _ rfl rfl rfl
    have hns := j105.nshF
    refine tail_appendS (i := 4) (d := 108) rfl rfl rfl rfl (by rw [hsb]; decide) (e := 38) Try.underlying23 eo38 j105 (IsV.rd j107) hx747_4 fun b2 q2 hsz hdf hoth hch hown hob => ?_
    have hle := hch.le hns
    have yn : Lo k0 (obF (b2.get 108)) := y105.app hgq hob
    replace j0 := Pers.pers hle j0
    replace j1 := Pers.pers hle j1
    replace j3 := Pers.pers hle j3
    replace j4 := Pers.pers hle j4
    replace j5 := Pers.pers hle j5
    replace j8 := Pers.pers hle j8
    replace j13 := Pers.pers hle j13
    replace j14 := Pers.pers hle j14
    replace j19 := Pers.pers hle j19
    replace j20 := Pers.pers hle j20
    replace j104 := Pers.pers hle j104
    replace j107 := Pers.pers hle j107
    replace hgq := hgq.step hch y105.wr
    rw [← hoth 0 (by decide)] at j0
    rw [← hoth 1 (by decide)] at j1
    rw [← hoth 3 (by decide)] at j3
    rw [← hoth 4 (by decide)] at j4
    rw [← hoth 5 (by decide)] at j5
    rw [← hoth 8 (by decide)] at j8
    rw [← hoth 13 (by decide)] at j13
    rw [← hoth 14 (by decide)] at j14
    rw [← hoth 19 (by decide)] at j19
    rw [← hoth 20 (by decide)] at j20
    rw [← hoth 104 (by decide)] at j104
    rw [← hoth 107 (by decide)] at j107
    have j108 := hown
    have y108 := yn
    replace hsb := hsz.trans hsb
    replace hdb := hdf.trans hdb
    clear hle hch hown hob hns yn hsz hdf hoth
    obtain ⟨b, hbb⟩ : ∃ b, b = b2 := ⟨b2, rfl⟩
    subst hbb
    obtain ⟨q, hqq⟩ : ∃ q, q = q2 := ⟨q2, rfl⟩
    subst hqq
    refine tail_assign (i := 5) (d := 109) rfl rfl (.inr rfl) rfl (by rw [hsb]; decide) fun b2 hsz hdf hnew hoth => ?_
    have jn : (IsV day) (b2.get 109) q := by rw [hnew]; exact j3
    rw [← hoth 0 (by decide)] at j0
    rw [← hoth 1 (by decide)] at j1
    rw [← hoth 3 (by decide)] at j3
    rw [← hoth 4 (by decide)] at j4
    rw [← hoth 5 (by decide)] at j5
    rw [← hoth 8 (by decide)] at j8
    rw [← hoth 13 (by decide)] at j13
    rw [← hoth 14 (by decide)] at j14
    rw [← hoth 19 (by decide)] at j19
    rw [← hoth 20 (by decide)] at j20
    rw [← hoth 104 (by decide)] at j104
    rw [← hoth 107 (by decide)] at j107
    rw [← hoth 108 (by decide)] at j108
    rw [← hoth 108 (by decide)] at y108
    have j109 := jn
    replace hsb := hsz.trans hsb
    replace hdb := hdf.trans hdb
    clear hsz hdf hoth
    obtain ⟨b, hbb⟩ : ∃ b, b = b2 := ⟨b2, rfl⟩
    subst hbb
    refine tail_assign (i := 6) (d := 110) rfl rfl (.inr rfl) rfl (by rw [hsb]; decide) fun b2 hsz hdf hnew hoth => ?_
    have jn : (IsV n_) (b2.get 110) q := by rw [hnew]; exact j4
    rw [← hoth 0 (by decide)] at j0
    rw [← hoth 1 (by decide)] at j1
    rw [← hoth 3 (by decide)] at j3
    rw [← hoth 4 (by decide)] at j4
    rw [← hoth 5 (by decide)] at j5
    rw [← hoth 8 (by decide)] at j8
    rw [← hoth 13 (by decide)] at j13
    rw [← hoth 14 (by decide)] at j14
    rw [← hoth 19 (by decide)] at j19
    rw [← hoth 20 (by decide)] at j20
    rw [← hoth 104 (by decide)] at j104
    rw [← hoth 107 (by decide)] at j107
    rw [← hoth 108 (by decide)] at j108
    rw [← hoth 108 (by decide)] at y108
    rw [← hoth 109 (by decide)] at j109
    have j110 := jn
    replace hsb := hsz.trans hsb
    replace hdb := hdf.trans hdb
    clear hsz hdf hoth
    obtain ⟨b, hbb⟩ : ∃ b, b = b2 := ⟨b2, rfl⟩
    subst hbb
    obtain ⟨q2, hsh, jn⟩ := j108.give
    replace j0 := Pers.pers hsh.le j0
    replace j1 := Pers.pers hsh.le j1
    replace j3 := Pers.pers hsh.le j3
    replace j4 := Pers.pers hsh.le j4
    replace j5 := Pers.pers hsh.le j5
    replace j8 := Pers.pers hsh.le j8
    replace j13 := Pers.pers hsh.le j13
    replace j14 := Pers.pers hsh.le j14
    replace j19 := Pers.pers hsh.le j19
    replace j20 := Pers.pers hsh.le j20
    replace j104 := Pers.pers hsh.le j104
    replace j107 := Pers.pers hsh.le j107
    replace j109 := Pers.pers hsh.le j109
    replace j110 := Pers.pers hsh.le j110
    replace j108 := jn
    replace hgq := hgq.hand hsh y108.wr
    rw [← hsh.w]
    clear hsh
    obtain ⟨q, hqq⟩ : ∃ q, q = q2 := ⟨q2, rfl⟩
    subst hqq
    refine tail_call (F := noF) (i := 7) (d := 111) rfl rfl rfl rfl (by rw [hsb]; decide) Try.call11 hQQ798 (Ret.toC (calDeadline_ok j104 j108 j109 j110 hx747_7)) fun b2 q2 hsz hdf hoth hch hres => ?_
    have hgr := hch.grow
    replace j0 := Pers.pers hgr.le j0
    replace j1 := Pers.pers hgr.le j1
    replace j3 := Pers.pers hgr.le j3
    replace j4 := Pers.pers hgr.le j4
    replace j5 := Pers.pers hgr.le j5
    replace j8 := Pers.pers hgr.le j8
    replace j13 := Pers.pers hgr.le j13
    replace j14 := Pers.pers hgr.le j14
    replace j19 := Pers.pers hgr.le j19
    replace j20 := Pers.pers hgr.le j20
    replace j104 := Pers.pers hgr.le j104
    replace j107 := Pers.pers hgr.le j107
    replace j108 := Pers.pers hgr.le j108
    replace j109 := Pers.pers hgr.le j109
    replace j110 := Pers.pers hgr.le j110
    replace hgq := hgq.then hgr
    rw [← hoth 0 (by decide)] at j0
    rw [← hoth 1 (by decide)] at j1
    rw [← hoth 3 (by decide)] at j3
    rw [← hoth 4 (by decide)] at j4
    rw [← hoth 5 (by decide)] at j5
    rw [← hoth 8 (by decide)] at j8
    rw [← hoth 13 (by decide)] at j13
    rw [← hoth 14 (by decide)] at j14
    rw [← hoth 19 (by decide)] at j19
    rw [← hoth 20 (by decide)] at j20
    rw [← hoth 104 (by decide)] at j104
    rw [← hoth 107 (by decide)] at j107
    rw [← hoth 108 (by decide)] at j108
    rw [← hoth 109 (by decide)] at j109
    rw [← hoth 110 (by decide)] at j110
    have j111 : (IsTup2 (IsV x747_7.1) (IsV x747_7.2)) (b2.get 111) q2 := hres
    replace hsb := hsz.trans hsb
    replace hdb := hdf.trans hdb
    clear hch hgr hres hsz hdf hoth
    obtain ⟨b, hbb⟩ : ∃ b, b = b2 := ⟨b2, rfl⟩
    subst hbb
    obtain ⟨q, hqq⟩ : ∃ q, q = q2 := ⟨q2, rfl⟩
    subst hqq
    refine tail_assign (i := 8) (d := 103) rfl rfl (.inr rfl) rfl (by rw [hsb]; decide) fun b2 hsz hdf hnew hoth => ?_
    have jn : (IsTup2 (IsV x747_7.1) (IsV x747_7.2)) (b2.get 103) q := by rw [hnew]; exact j111
    rw [← hoth 0 (by decide)] at j0
    rw [← hoth 1 (by decide)] at j1
    rw [← hoth 3 (by decide)] at j3
    rw [← hoth 4 (by decide)] at j4
    rw [← hoth 5 (by decide)] at j5
    rw [← hoth 8 (by decide)] at j8
    rw [← hoth 13 (by decide)] at j13
    rw [← hoth 14 (by decide)] at j14
    rw [← hoth 19 (by decide)] at j19
    rw [← hoth 20 (by decide)] at j20
    rw [← hoth 104 (by decide)] at j104
    rw [← hoth 107 (by decide)] at j107
    rw [← hoth 108 (by decide)] at j108
    rw [← hoth 109 (by decide)] at j109
    rw [← hoth 110 (by decide)] at j110
    rw [← hoth 111 (by decide)] at j111
    have j103 := jn
    replace hsb := hsz.trans hsb
    replace hdb := hdf.trans hdb
    clear hsz hdf hoth
    obtain ⟨b, hbb⟩ : ∃ b, b = b2 := ⟨b2, rfl⟩
    subst hbb
    have jx : (IsTup2 (IsV x747_7.1) (IsV x747_7.2)) (b.get 103) q := j103
    obtain ⟨y0_, y1_, hxt, jy0_, jy1_⟩ := jx
    refine tail_ext (i := 9) (d := 112) rfl rfl rfl rfl (by rw [hsb]; decide) hxt rfl fun b2 hsz hdf hnew hoth => ?_
    have jn : (IsV x747_7.1) (b2.get 112) q := by rw [hnew]; exact jy0_
    rw [← hoth 0 (by decide)] at j0
    rw [← hoth 1 (by decide)] at j1
    rw [← hoth 3 (by decide)] at j3
    rw [← hoth 4 (by decide)] at j4
    rw [← hoth 5 (by decide)] at j5
    rw [← hoth 8 (by decide)] at j8
    rw [← hoth 13 (by decide)] at j13
    rw [← hoth 14 (by decide)] at j14
    rw [← hoth 19 (by decide)] at j19
    rw [← hoth 20 (by decide)] at j20
    rw [← hoth 103 (by decide)] at j103
    rw [← hoth 104 (by decide)] at j104
    rw [← hoth 107 (by decide)] at j107
    rw [← hoth 108 (by decide)] at j108
    rw [← hoth 109 (by decide)] at j109
    rw [← hoth 110 (by decide)] at j110
    rw [← hoth 111 (by decide)] at j111
    have j112 := jn
    replace hsb := hsz.trans hsb
    replace hdb := hdf.trans hdb
    clear hsz hdf hoth jn hnew hxt
    obtain ⟨b, hbb⟩ : ∃ b, b = b2 := ⟨b2, rfl⟩
    subst hbb
    have jx : (IsTup2 (IsV x747_7.1) (IsV x747_7.2)) (b.get 103) q := j103
    obtain ⟨y0_, y1_, hxt, jy0_, jy1_⟩ := jx
    refine tail_ext (i := 10) (d := 113) rfl rfl rfl rfl (by rw [hsb]; decide) hxt rfl fun b2 hsz hdf hnew hoth => ?_
    have jn : (IsV x747_7.2) (b2.get 113) q := by rw [hnew]; exact jy1_
    rw [← hoth 0 (by decide)] at j0
    rw [← hoth 1 (by decide)] at j1
    rw [← hoth 3 (by decide)] at j3
    rw [← hoth 4 (by decide)] at j4
    rw [← hoth 5 (by decide)] at j5
    rw [← hoth 8 (by decide)] at j8
    rw [← hoth 13 (by decide)] at j13
    rw [← hoth 14 (by decide)] at j14
    rw [← hoth 19 (by decide)] at j19
    rw [← hoth 20 (by decide)] at j20
    rw [← hoth 103 (by decide)] at j103
    rw [← hoth 104 (by decide)] at j104
    rw [← hoth 107 (by decide)] at j107
    rw [← hoth 108 (by decide)] at j108
    rw [← hoth 109 (by decide)] at j109
    rw [← hoth 110 (by decide)] at j110
    rw [← hoth 111 (by decide)] at j111
    rw [← hoth 112 (by decide)] at j112
    have j113 := jn
    replace hsb := hsz.trans hsb
    replace hdb := hdf.trans hdb
    clear hsz hdf hoth jn hnew hxt
    obtain ⟨b, hbb⟩ : ∃ b, b = b2 := ⟨b2, rfl⟩
    subst hbb
    refine tail_assign (i := 11) (d := 21) rfl rfl (.inl rfl) rfl (by rw [hsb]; decide) fun b2 hsz hdf hnew hoth => ?_
    have jn : (IsV x747_7.1) (b2.get 21) q := by rw [hnew]; exact j112
    rw [← hoth 0 (by decide)] at j0
    rw [← hoth 1 (by decide)] at j1
    rw [← hoth 3 (by decide)] at j3
    rw [← hoth 4 (by decide)] at j4
    rw [← hoth 5 (by decide)] at j5
    rw [← hoth 8 (by decide)] at j8
    rw [← hoth 13 (by decide)] at j13
    rw [← hoth 14 (by decide)] at j14
    rw [← hoth 19 (by decide)] at j19
    rw [← hoth 20 (by decide)] at j20
    rw [← hoth 103 (by decide)] at j103
    rw [← hoth 104 (by decide)] at j104
    rw [← hoth 107 (by decide)] at j107
    rw [← hoth 108 (by decide)] at j108
    rw [← hoth 109 (by decide)] at j109
    rw [← hoth 110 (by decide)] at j110
    rw [← hoth 111 (by decide)] at j111
    rw [← hoth 112 (by decide)] at j112
    rw [← hoth 113 (by decide)] at j113
    have j21 := jn
    replace hsb := hsz.trans hsb
    replace hdb := hdf.trans hdb
    clear hsz hdf hoth
    obtain ⟨b, hbb⟩ : ∃ b, b = b2 := ⟨b2, rfl⟩
    subst hbb
    refine tail_assign (i := 12) (d := 22) rfl rfl (.inl rfl) rfl (by rw [hsb]; decide) fun b2 hsz hdf hnew hoth => ?_
    have jn : (IsV x747_7.2) (b2.get 22) q := by rw [hnew]; exact j113
    rw [← hoth 0 (by decide)] at j0
    rw [← hoth 1 (by decide)] at j1
    rw [← hoth 3 (by decide)] at j3
    rw [← hoth 4 (by decide)] at j4
    rw [← hoth 5 (by decide)] at j5
    rw [← hoth 8 (by decide)] at j8
    rw [← hoth 13 (by decide)] at j13
    rw [← hoth 14 (by decide)] at j14
    rw [← hoth 19 (by decide)] at j19
    rw [← hoth 20 (by decide)] at j20
    rw [← hoth 21 (by decide)] at j21
    rw [← hoth 103 (by decide)] at j103
    rw [← hoth 104 (by decide)] at j104
    rw [← hoth 107 (by decide)] at j107
    rw [← hoth 108 (by decide)] at j108
    rw [← hoth 109 (by decide)] at j109
    rw [← hoth 110 (by decide)] at j110
    rw [← hoth 111 (by decide)] at j111
    rw [← hoth 112 (by decide)] at j112
    rw [← hoth 113 (by decide)] at j113
    have j22 := jn
    replace hsb := hsz.trans hsb
    replace hdb := hdf.trans hdb
    clear hsz hdf hoth
    obtain ⟨b, hbb⟩ : ∃ b, b = b2 := ⟨b2, rfl⟩
    subst hbb
    exact tail_done (k := q) (hp799 _ _ ⟨⟨hgq, hsb, hdb⟩, j0, j1, j3, j4, j5, j8, j13, j14, j19, j20, j21, j22, trivial⟩)
  rintro a k ⟨⟨hg, hs, hd⟩, i0, i1, i3, i4, i5, i8, i13, i14, i19, i20, i21, i22, _⟩
  refine wp_seq ?_
  refine wp_seq ?_
  refine cut (fun a' k' => Bs noF k0 249 a' k' ∧ (IsV holidays) (a'.get 0) k' ∧ (IsV stays) (a'.get 1) k' ∧ (IsV day) (a'.get 3) k' ∧ (IsV n_) (a'.get 4) k' ∧ (IsV at_) (a'.get 5) k' ∧ (IsRef more) (a'.get 8) k' ∧ (IsV x716_0) (a'.get 13) k' ∧ (IsV x721_4.1) (a'.get 14) k' ∧ (IsV x746_4.1) (a'.get 19) k' ∧ (IsV x746_4.2) (a'.get 20) k' ∧ (IsV (((((x746_4.1 != x747_7.1) || (x746_4.2 != x747_7.2)) || ((x746_4.2 == 0) && (decide (x746_4.1 < x721_4.1)))) || ((x746_4.2 != 0) && (x746_4.2 != 20))) || (((decide (more.To ≤ day)) || (decide (x721_4.1 < more.From))) && ((x746_4.2 != 0) || (x746_4.1 != x721_4.1))))) (a'.get 159) k' ∧ True) ?_ hQ ?_
  · intro Q796 hQQ796 hp797
    refine regionS (a0 := a) (k0 := k) (n := 249) (m := 46) (⟨some (IsV x746_4.1), [(19, none)]⟩ :: ⟨some (IsV x747_7.1), [(21, none)]⟩ :: ⟨some (IsV (x746_4.1 != x747_7.1)), [(114, some 0), (115, some 1)]⟩ :: ⟨some (IsV (x746_4.1 != x747_7.1)), [(116, some 2)]⟩ :: ⟨some (Gd ((x746_4.1 != x747_7.1) = false) (IsV x746_4.2)), [(20, none)]⟩ :: ⟨some (Gd ((x746_4.1 != x747_7.1) = false) (IsV x747_7.2)), [(22, none)]⟩ :: ⟨some (Gd ((x746_4.1 != x747_7.1) = false) (IsV (x746_4.2 != x747_7.2))), [(118, some 4), (119, some 5)]⟩ :: ⟨some (IsV ((x746_4.1 != x747_7.1) || (x746_4.2 != x747_7.2))), [(117, some 3), (120, some 6)]⟩ :: ⟨some (IsV ((x746_4.1 != x747_7.1) || (x746_4.2 != x747_7.2))), [(121, some 7)]⟩ :: ⟨some (Gd (((x746_4.1 != x747_7.1) || (x746_4.2 != x747_7.2)) = false) (IsV x746_4.2)), [(20, none)]⟩ :: ⟨some (Gd (((x746_4.1 != x747_7.1) || (x746_4.2 != x747_7.2)) = false) (IsV (x746_4.2 == 0))), [(123, some 9)]⟩ :: ⟨some (Gd (((x746_4.1 != x747_7.1) || (x746_4.2 != x747_7.2)) = false) (IsV (x746_4.2 == 0))), [(124, some 10)]⟩ :: ⟨some (Gd ((((x746_4.1 != x747_7.1) || (x746_4.2 != x747_7.2)) = false) ∧ (x746_4.2 == 0) = true) (IsV x746_4.1)), [(19, none)]⟩ :: ⟨some (Gd ((((x746_4.1 != x747_7.1) || (x746_4.2 != x747_7.2)) = false) ∧ (x746_4.2 == 0) = true) (IsV x721_4.1)), [(14, none)]⟩ :: ⟨some (Gd ((((x746_4.1 != x747_7.1) || (x746_4.2 != x747_7.2)) = false) ∧ (x746_4.2 == 0) = true) (IsV (decide (x746_4.1 < x721_4.1)))), [(126, some 12), (127, some 13)]⟩ :: ⟨some (Gd (((x746_4.1 != x747_7.1) || (x746_4.2 != x747_7.2)) = false) (IsV ((x746_4.2 == 0) && (decide (x746_4.1 < x721_4.1))))), [(125, some 11), (128, some 14)]⟩ :: ⟨some (IsV (((x746_4.1 != x747_7.1) || (x746_4.2 != x747_7.2)) || ((x746_4.2 == 0) && (decide (x746_4.1 < x721_4.1))))), [(122, some 8), (129, some 15)]⟩ :: ⟨some (IsV (((x746_4.1 != x747_7.1) || (x746_4.2 != x747_7.2)) || ((x746_4.2 == 0) && (decide (x746_4.1 < x721_4.1))))), [(130, some 16)]⟩ :: ⟨some (Gd ((((x746_4.1 != x747_7.1) || (x746_4.2 != x747_7.2)) || ((x746_4.2 == 0) && (decide (x746_4.1 < x721_4.1)))) = false) (IsV x746_4.2)), [(20, none)]⟩ :: ⟨some (Gd ((((x746_4.1 != x747_7.1) || (x746_4.2 != x747_7.2)) || ((x746_4.2 == 0) && (decide (x746_4.1 < x721_4.1)))) = false) (IsV (x746_4.2 != 0))), [(132, some 18)]⟩ :: ⟨some (Gd ((((x746_4.1 != x747_7.1) || (x746_4.2 != x747_7.2)) || ((x746_4.2 == 0) && (decide (x746_4.1 < x721_4.1)))) = false) (IsV (x746_4.2 != 0))), [(133, some 19)]⟩ :: ⟨some (Gd (((((x746_4.1 != x747_7.1) || (x746_4.2 != x747_7.2)) || ((x746_4.2 == 0) && (decide (x746_4.1 < x721_4.1)))) = false) ∧ (x746_4.2 != 0) = true) (IsV x746_4.2)), [(20, none)]⟩ :: ⟨some (Gd (((((x746_4.1 != x747_7.1) || (x746_4.2 != x747_7.2)) || ((x746_4.2 == 0) && (decide (x746_4.1 < x721_4.1)))) = false) ∧ (x746_4.2 != 0) = true) (IsV (x746_4.2 != 20))), [(135, some 21)]⟩ :: ⟨some (Gd ((((x746_4.1 != x747_7.1) || (x746_4.2 != x747_7.2)) || ((x746_4.2 == 0) && (decide (x746_4.1 < x721_4.1)))) = false) (IsV ((x746_4.2 != 0) && (x746_4.2 != 20)))), [(134, some 20), (136, some 22)]⟩ :: ⟨some (IsV ((((x746_4.1 != x747_7.1) || (x746_4.2 != x747_7.2)) || ((x746_4.2 == 0) && (decide (x746_4.1 < x721_4.1)))) || ((x746_4.2 != 0) && (x746_4.2 != 20)))), [(131, some 17), (137, some 23)]⟩ :: ⟨some (IsV ((((x746_4.1 != x747_7.1) || (x746_4.2 != x747_7.2)) || ((x746_4.2 == 0) && (decide (x746_4.1 < x721_4.1)))) || ((x746_4.2 != 0) && (x746_4.2 != 20)))), [(138, some 24)]⟩ :: ⟨some (Gd (((((x746_4.1 != x747_7.1) || (x746_4.2 != x747_7.2)) || ((x746_4.2 == 0) && (decide (x746_4.1 < x721_4.1)))) || ((x746_4.2 != 0) && (x746_4.2 != 20))) = false) (IsPtr more.To)), [(8, none)]⟩ :: ⟨some (Gd (((((x746_4.1 != x747_7.1) || (x746_4.2 != x747_7.2)) || ((x746_4.2 == 0) && (decide (x746_4.1 < x721_4.1)))) || ((x746_4.2 != 0) && (x746_4.2 != 20))) = false) (IsV more.To)), [(140, some 26)]⟩ :: ⟨some (Gd (((((x746_4.1 != x747_7.1) || (x746_4.2 != x747_7.2)) || ((x746_4.2 == 0) && (decide (x746_4.1 < x721_4.1)))) || ((x746_4.2 != 0) && (x746_4.2 != 20))) = false) (IsV day)), [(3, none)]⟩ :: ⟨some (Gd (((((x746_4.1 != x747_7.1) || (x746_4.2 != x747_7.2)) || ((x746_4.2 == 0) && (decide (x746_4.1 < x721_4.1)))) || ((x746_4.2 != 0) && (x746_4.2 != 20))) = false) (IsV (decide (more.To ≤ day)))), [(141, some 27), (142, some 28)]⟩ :: ⟨some (Gd (((((x746_4.1 != x747_7.1) || (x746_4.2 != x747_7.2)) || ((x746_4.2 == 0) && (decide (x746_4.1 < x721_4.1)))) || ((x746_4.2 != 0) && (x746_4.2 != 20))) = false) (IsV (decide (more.To ≤ day)))), [(143, some 29)]⟩ :: ⟨some (Gd ((((((x746_4.1 != x747_7.1) || (x746_4.2 != x747_7.2)) || ((x746_4.2 == 0) && (decide (x746_4.1 < x721_4.1)))) || ((x746_4.2 != 0) && (x746_4.2 != 20))) = false) ∧ (decide (more.To ≤ day)) = false) (IsPtr more.From)), [(8, none)]⟩ :: ⟨some (Gd ((((((x746_4.1 != x747_7.1) || (x746_4.2 != x747_7.2)) || ((x746_4.2 == 0) && (decide (x746_4.1 < x721_4.1)))) || ((x746_4.2 != 0) && (x746_4.2 != 20))) = false) ∧ (decide (more.To ≤ day)) = false) (IsV more.From)), [(145, some 31)]⟩ :: ⟨some (Gd ((((((x746_4.1 != x747_7.1) || (x746_4.2 != x747_7.2)) || ((x746_4.2 == 0) && (decide (x746_4.1 < x721_4.1)))) || ((x746_4.2 != 0) && (x746_4.2 != 20))) = false) ∧ (decide (more.To ≤ day)) = false) (IsV x721_4.1)), [(14, none)]⟩ :: ⟨some (Gd ((((((x746_4.1 != x747_7.1) || (x746_4.2 != x747_7.2)) || ((x746_4.2 == 0) && (decide (x746_4.1 < x721_4.1)))) || ((x746_4.2 != 0) && (x746_4.2 != 20))) = false) ∧ (decide (more.To ≤ day)) = false) (IsV (decide (x721_4.1 < more.From)))), [(146, some 32), (147, some 33)]⟩ :: ⟨some (Gd (((((x746_4.1 != x747_7.1) || (x746_4.2 != x747_7.2)) || ((x746_4.2 == 0) && (decide (x746_4.1 < x721_4.1)))) || ((x746_4.2 != 0) && (x746_4.2 != 20))) = false) (IsV ((decide (more.To ≤ day)) || (decide (x721_4.1 < more.From))))), [(144, some 30), (148, some 34)]⟩ :: ⟨some (Gd (((((x746_4.1 != x747_7.1) || (x746_4.2 != x747_7.2)) || ((x746_4.2 == 0) && (decide (x746_4.1 < x721_4.1)))) || ((x746_4.2 != 0) && (x746_4.2 != 20))) = false) (IsV ((decide (more.To ≤ day)) || (decide (x721_4.1 < more.From))))), [(149, some 35)]⟩ :: ⟨some (Gd ((((((x746_4.1 != x747_7.1) || (x746_4.2 != x747_7.2)) || ((x746_4.2 == 0) && (decide (x746_4.1 < x721_4.1)))) || ((x746_4.2 != 0) && (x746_4.2 != 20))) = false) ∧ ((decide (more.To ≤ day)) || (decide (x721_4.1 < more.From))) = true) (IsV x746_4.2)), [(20, none)]⟩ :: ⟨some (Gd ((((((x746_4.1 != x747_7.1) || (x746_4.2 != x747_7.2)) || ((x746_4.2 == 0) && (decide (x746_4.1 < x721_4.1)))) || ((x746_4.2 != 0) && (x746_4.2 != 20))) = false) ∧ ((decide (more.To ≤ day)) || (decide (x721_4.1 < more.From))) = true) (IsV (x746_4.2 != 0))), [(151, some 37)]⟩ :: ⟨some (Gd ((((((x746_4.1 != x747_7.1) || (x746_4.2 != x747_7.2)) || ((x746_4.2 == 0) && (decide (x746_4.1 < x721_4.1)))) || ((x746_4.2 != 0) && (x746_4.2 != 20))) = false) ∧ ((decide (more.To ≤ day)) || (decide (x721_4.1 < more.From))) = true) (IsV (x746_4.2 != 0))), [(152, some 38)]⟩ :: ⟨some (Gd (((((((x746_4.1 != x747_7.1) || (x746_4.2 != x747_7.2)) || ((x746_4.2 == 0) && (decide (x746_4.1 < x721_4.1)))) || ((x746_4.2 != 0) && (x746_4.2 != 20))) = false) ∧ ((decide (more.To ≤ day)) || (decide (x721_4.1 < more.From))) = true) ∧ (x746_4.2 != 0) = false) (IsV x746_4.1)), [(19, none)]⟩ :: ⟨some (Gd (((((((x746_4.1 != x747_7.1) || (x746_4.2 != x747_7.2)) || ((x746_4.2 == 0) && (decide (x746_4.1 < x721_4.1)))) || ((x746_4.2 != 0) && (x746_4.2 != 20))) = false) ∧ ((decide (more.To ≤ day)) || (decide (x721_4.1 < more.From))) = true) ∧ (x746_4.2 != 0) = false) (IsV x721_4.1)), [(14, none)]⟩ :: ⟨some (Gd (((((((x746_4.1 != x747_7.1) || (x746_4.2 != x747_7.2)) || ((x746_4.2 == 0) && (decide (x746_4.1 < x721_4.1)))) || ((x746_4.2 != 0) && (x746_4.2 != 20))) = false) ∧ ((decide (more.To ≤ day)) || (decide (x721_4.1 < more.From))) = true) ∧ (x746_4.2 != 0) = false) (IsV (x746_4.1 != x721_4.1))), [(154, some 40), (155, some 41)]⟩ :: ⟨some (Gd ((((((x746_4.1 != x747_7.1) || (x746_4.2 != x747_7.2)) || ((x746_4.2 == 0) && (decide (x746_4.1 < x721_4.1)))) || ((x746_4.2 != 0) && (x746_4.2 != 20))) = false) ∧ ((decide (more.To ≤ day)) || (decide (x721_4.1 < more.From))) = true) (IsV ((x746_4.2 != 0) || (x746_4.1 != x721_4.1)))), [(153, some 39), (156, some 42)]⟩ :: ⟨some (Gd (((((x746_4.1 != x747_7.1) || (x746_4.2 != x747_7.2)) || ((x746_4.2 == 0) && (decide (x746_4.1 < x721_4.1)))) || ((x746_4.2 != 0) && (x746_4.2 != 20))) = false) (IsV (((decide (more.To ≤ day)) || (decide (x721_4.1 < more.From))) && ((x746_4.2 != 0) || (x746_4.1 != x721_4.1))))), [(150, some 36), (157, some 43)]⟩ :: ⟨some (IsV (((((x746_4.1 != x747_7.1) || (x746_4.2 != x747_7.2)) || ((x746_4.2 == 0) && (decide (x746_4.1 < x721_4.1)))) || ((x746_4.2 != 0) && (x746_4.2 != 20))) || (((decide (more.To ≤ day)) || (decide (x721_4.1 < more.From))) && ((x746_4.2 != 0) || (x746_4.1 != x721_4.1))))), [(139, some 25), (158, some 44)]⟩ :: []) hs (by kernel_rfl) ⟨ob1 rfl fun b q hk hn => ok_move rfl (up i19 hk hn.1), ob1 rfl fun b q hk hn => ok_move rfl (up i21 hk hn.1), ob1 rfl fun b q hk hn => ok_neI rfl hn.1 hn.2.1, ob1 rfl fun b q hk hn => ok_move rfl hn.1, gdF rfl rfl fun hp b q hk hn => ok_move rfl (up i20 hk hn.1), gdF rfl rfl fun hp b q hk hn => ok_move rfl (up i22 hk hn.1), gdF rfl rfl fun hp b q hk hn => ok_neI rfl (Gd.get hn.1 hp) (Gd.get hn.2.1 hp), ob1 rfl fun b q hk hn => ok_pickOr rfl hn.1 (fun _ => (isV_bool.2 rfl)) (fun hm => (Gd.get hn.2.1 hm)), ob1 rfl fun b q hk hn => ok_move rfl hn.1, gdF rfl rfl fun hp b q hk hn => ok_move rfl (up i20 hk hn.1), gdF rfl rfl fun hp b q hk hn => ok_eqI rfl (Gd.get hn.1 hp) (isV_int.2 rfl), gdF rfl rfl fun hp b q hk hn => ok_move rfl (Gd.get hn.1 hp), gdTT rfl rfl fun hp b q hk hn => ok_move rfl (up i19 hk hn.1), gdTT rfl rfl fun hp b q hk hn => ok_move rfl (up i14 hk hn.1), gdTT rfl rfl fun hp b q hk hn => ok_lss rfl (Gd.get hn.1 hp) (Gd.get hn.2.1 hp), gdF rfl rfl fun hp b q hk hn => ok_pickAnd rfl (Gd.get hn.1 hp) (fun hm => (Gd.get hn.2.1 ⟨hp, hm⟩)) (fun _ => (isV_bool.2 rfl)), ob1 rfl fun b q hk hn => ok_pickOr rfl hn.1 (fun _ => (isV_bool.2 rfl)) (fun hm => (Gd.get hn.2.1 hm)), ob1 rfl fun b q hk hn => ok_move rfl hn.1, gdF rfl rfl fun hp b q hk hn => ok_move rfl (up i20 hk hn.1), gdF rfl rfl fun hp b q hk hn => ok_neI rfl (Gd.get hn.1 hp) (isV_int.2 rfl), gdF rfl rfl fun hp b q hk hn => ok_move rfl (Gd.get hn.1 hp), gdTT rfl rfl fun hp b q hk hn => ok_move rfl (up i20 hk hn.1), gdTT rfl rfl fun hp b q hk hn => ok_neI rfl (Gd.get hn.1 hp) (isV_int.2 rfl), gdF rfl rfl fun hp b q hk hn => ok_pickAnd rfl (Gd.get hn.1 hp) (fun hm => (Gd.get hn.2.1 ⟨hp, hm⟩)) (fun _ => (isV_bool.2 rfl)), ob1 rfl fun b q hk hn => ok_pickOr rfl hn.1 (fun _ => (isV_bool.2 rfl)) (fun hm => (Gd.get hn.2.1 hm)), ob1 rfl fun b q hk hn => ok_move rfl hn.1, gdF rfl rfl fun hp b q hk hn => ok_fieldAddr rfl fo38_1 (at_Stay_1 _) ((up i8 hk hn.1)).ptr, gdF rfl rfl fun hp b q hk hn => ok_load rfl ty3 (Gd.get hn.1 hp), gdF rfl rfl fun hp b q hk hn => ok_move rfl (up i3 hk hn.1), gdF rfl rfl fun hp b q hk hn => ok_leq rfl (Gd.get hn.1 hp) (Gd.get hn.2.1 hp), gdF rfl rfl fun hp b q hk hn => ok_move rfl (Gd.get hn.1 hp), gdTF rfl rfl fun hp b q hk hn => ok_fieldAddr rfl fo38_0 (at_Stay_0 _) ((up i8 hk hn.1)).ptr, gdTF rfl rfl fun hp b q hk hn => ok_load rfl ty3 (Gd.get hn.1 hp), gdTF rfl rfl fun hp b q hk hn => ok_move rfl (up i14 hk hn.1), gdTF rfl rfl fun hp b q hk hn => ok_gtr rfl (Gd.get hn.1 hp) (Gd.get hn.2.1 hp), gdF rfl rfl fun hp b q hk hn => ok_pickOr rfl (Gd.get hn.1 hp) (fun _ => (isV_bool.2 rfl)) (fun hm => (Gd.get hn.2.1 ⟨hp, hm⟩)), gdF rfl rfl fun hp b q hk hn => ok_move rfl (Gd.get hn.1 hp), gdTT rfl rfl fun hp b q hk hn => ok_move rfl (up i20 hk hn.1), gdTT rfl rfl fun hp b q hk hn => ok_neI rfl (Gd.get hn.1 hp) (isV_int.2 rfl), gdTT rfl rfl fun hp b q hk hn => ok_move rfl (Gd.get hn.1 hp), gdTF rfl rfl fun hp b q hk hn => ok_move rfl (up i19 hk hn.1), gdTF rfl rfl fun hp b q hk hn => ok_move rfl (up i14 hk hn.1), gdTF rfl rfl fun hp b q hk hn => ok_neI rfl (Gd.get hn.1 hp) (Gd.get hn.2.1 hp), gdTT rfl rfl fun hp b q hk hn => ok_pickOr rfl (Gd.get hn.1 hp) (fun _ => (isV_bool.2 rfl)) (fun hm => (Gd.get hn.2.1 ⟨hp, hm⟩)), gdF rfl rfl fun hp b q hk hn => ok_pickAnd rfl (Gd.get hn.1 hp) (fun hm => (Gd.get hn.2.1 ⟨hp, hm⟩)) (fun _ => (isV_bool.2 rfl)), ob1 rfl fun b q hk hn => ok_pickOr rfl hn.1 (fun _ => (isV_bool.2 rfl)) (fun hm => (Gd.get hn.2.1 hm)), trivial⟩ hQQ796 fun b q p => ?_
    exact tail_done (k := q) (hp797 _ _ ⟨Bs.post ⟨hg, hs, hd⟩ p, keep p 0 rfl i0, keep p 1 rfl i1, keep p 3 rfl i3, keep p 4 rfl i4, keep p 5 rfl i5, keep p 8 rfl i8, keep p 13 rfl i13, keep p 14 rfl i14, keep p 19 rfl i19, keep p 20 rfl i20, out p 45 159 _ rfl rfl rfl, trivial⟩)
  rintro a k ⟨⟨hg, hs, hd⟩, i0, i1, i3, i4, i5, i8, i13, i14, i19, i20, i159, _⟩
  refine wp_cond_split (isBool i159) (fun hc795 => ?_) (fun hc795 => ?_)
  · rw [if_pos hc795] at hr
    refine wp_seq ?_
    refine cut (fun a' k' => Bs noF k0 249 a' k' ∧ (IsV false) (a'.get 12) k' ∧ True) ?_ hQ ?_
    · intro Q750 hQQ750 hp751
      refine regionS (a0 := a) (k0 := k) (n := 249) (m := 1) (⟨some (IsV false), []⟩ :: []) hs (by kernel_rfl) ⟨ob1 rfl fun b q hk hn => ok_assign rfl (isV_bool.2 rfl), trivial⟩ hQQ750 fun b q p => ?_
      exact tail_done (k := q) (hp751 _ _ ⟨Bs.post ⟨hg, hs, hd⟩ p, out p 0 12 _ rfl rfl rfl, trivial⟩)
    rintro a k ⟨⟨hg, hs, hd⟩, i12, _⟩
    refine wp_ret ?_
    obtain rfl := Option.some.inj hr
    exact retC1 rfl hd hg i12
  rw [if_neg (by rw [hc795]; decide)] at hr
  refine wp_skip ?_
  refine wp_seq ?_
  refine wp_seq ?_
  refine cut (fun a' k' => Bs noF k0 249 a' k' ∧ (IsV holidays) (a'.get 0) k' ∧ (IsV stays) (a'.get 1) k' ∧ (IsV day) (a'.get 3) k' ∧ (IsV n_) (a'.get 4) k' ∧ (IsV at_) (a'.get 5) k' ∧ (IsRef more) (a'.get 8) k' ∧ (IsV x716_0) (a'.get 13) k' ∧ (IsV x721_4.1) (a'.get 14) k' ∧ (IsV x746_4.1) (a'.get 19) k' ∧ (IsV x746_4.2) (a'.get 20) k' ∧ (IsV (decide (more.From < more.To))) (a'.get 164) k' ∧ True) ?_ hQ ?_
  · intro Q793 hQQ793 hp794
    refine regionS (a0 := a) (k0 := k) (n := 249) (m := 5) (⟨some (IsPtr more.From), [(8, none)]⟩ :: ⟨some (IsV more.From), [(160, some 0)]⟩ :: ⟨some (IsPtr more.To), [(8, none)]⟩ :: ⟨some (IsV more.To), [(162, some 2)]⟩ :: ⟨some (IsV (decide (more.From < more.To))), [(161, some 1), (163, some 3)]⟩ :: []) hs (by kernel_rfl) ⟨ob1 rfl fun b q hk hn => ok_fieldAddr rfl fo38_0 (at_Stay_0 _) ((up i8 hk hn.1)).ptr, ob1 rfl fun b q hk hn => ok_load rfl ty3 hn.1, ob1 rfl fun b q hk hn => ok_fieldAddr rfl fo38_1 (at_Stay_1 _) ((up i8 hk hn.1)).ptr, ob1 rfl fun b q hk hn => ok_load rfl ty3 hn.1, ob1 rfl fun b q hk hn => ok_lss rfl hn.1 hn.2.1, trivial⟩ hQQ793 fun b q p => ?_
    exact tail_done (k := q) (hp794 _ _ ⟨Bs.post ⟨hg, hs, hd⟩ p, keep p 0 rfl i0, keep p 1 rfl i1, keep p 3 rfl i3, keep p 4 rfl i4, keep p 5 rfl i5, keep p 8 rfl i8, keep p 13 rfl i13, keep p 14 rfl i14, keep p 19 rfl i19, keep p 20 rfl i20, out p 4 164 _ rfl rfl rfl, trivial⟩)
  rintro a k ⟨⟨hg, hs, hd⟩, i0, i1, i3, i4, i5, i8, i13, i14, i19, i20, i164, _⟩
  obtain ⟨f776, hf776, hr⟩ := bind_some hr
  refine cutFg f776 (fun s' a' k' => Bs noF k0 249 a' k' ∧ (IsV holidays) (a'.get 0) k' ∧ (IsV stays) (a'.get 1) k' ∧ (IsV day) (a'.get 3) k' ∧ (IsV n_) (a'.get 4) k' ∧ (IsRef more) (a'.get 8) k' ∧ (IsV x716_0) (a'.get 13) k' ∧ (IsV x721_4.1) (a'.get 14) k' ∧ True) (fun i' s' a' k' => False) (fun r' a' k' => bodyPost Try.prog Try.f6 (RetC noF k0 (IsV r')) .ret a' k'.w) ?_ hQ ?_ ?_ ?_
  · intro Q792 hQQ792 hgo755 hex756 hret757
    replace hr := hf776
    clear hQ
    have hQ := hQQ792
    refine wp_cond_split (isBool i164) (fun hc775 => ?_) (fun hc775 => ?_)
    · rw [if_pos hc775] at hr
      refine wp_seq ?_
      obtain ⟨x758_8, hx758_8, hr⟩ := bind_some hr
      obtain ⟨x758_9, hx758_9, hr⟩ := bind_some hr
      obtain ⟨x758_10, hx758_10, hr⟩ := bind_some hr
      refine cut (fun a' k' => Bs noF k0 249 a' k' ∧ (IsV holidays) (a'.get 0) k' ∧ (IsV stays) (a'.get 1) k' ∧ (IsV day) (a'.get 3) k' ∧ (IsV n_) (a'.get 4) k' ∧ (IsRef more) (a'.get 8) k' ∧ (IsV x716_0) (a'.get 13) k' ∧ (IsV x721_4.1) (a'.get 14) k' ∧ (IsV x746_4.1) (a'.get 19) k' ∧ (IsV x746_4.2) (a'.get 20) k' ∧ (IsV x758_10) (a'.get 23) k' ∧ True) ?_ hQ ?_
      · intro Q773 hQQ773 hp774
        refine region (a0 := a) (k0 := k) (n := 249) (m := 12) (⟨some (IsPtr more.From), [(8, none)]⟩ :: ⟨some (IsV more.From), [(165, some 0)]⟩ :: ⟨some (IsV at_), [(5, none)]⟩ :: ⟨some (IsV (α := Int) (andI at_ 4611686018427387903)), [(167, some 2)]⟩ :: ⟨some (IsPtr more.To), [(8, none)]⟩ :: ⟨some (IsV more.To), [(169, some 4)]⟩ :: ⟨some (IsPtr more.From), [(8, none)]⟩ :: ⟨some (IsV more.From), [(171, some 6)]⟩ :: ⟨some (IsV x758_8), [(170, some 5), (172, some 7)]⟩ :: ⟨some (IsV x758_9), [(168, some 3), (173, some 8)]⟩ :: ⟨some (IsV x758_10), [(166, some 1), (174, some 9)]⟩ :: ⟨some (IsV x758_10), [(175, some 10)]⟩ :: []) hmix hs (by kernel_rfl) ⟨ob1 rfl fun b q hk hn => ok_fieldAddr rfl fo38_0 (at_Stay_0 _) ((up i8 hk hn.1)).ptr, ob1 rfl fun b q hk hn => ok_load rfl ty3 hn.1, ob1 rfl fun b q hk hn => ok_move rfl (up i5 hk hn.1), ob1 rfl fun b q hk hn => ok_and rfl hn.1 (isV_int.2 rfl), ob1 rfl fun b q hk hn => ok_fieldAddr rfl fo38_1 (at_Stay_1 _) ((up i8 hk hn.1)).ptr, ob1 rfl fun b q hk hn => ok_load rfl ty3 hn.1, ob1 rfl fun b q hk hn => ok_fieldAddr rfl fo38_0 (at_Stay_0 _) ((up i8 hk hn.1)).ptr, ob1 rfl fun b q hk hn => ok_load rfl ty3 hn.1, ob1 rfl fun b q hk hn => ok_sub rfl hn.1 hn.2.1 hx758_8, ob1 rfl fun b q hk hn => ok_rem rfl hn.1 hn.2.1 hx758_9, ob1 rfl fun b q hk hn => ok_add rfl hn.1 hn.2.1 hx758_10, ob1 rfl fun b q hk hn => ok_assign rfl hn.1, trivial⟩ hQQ773 fun b q p => ?_
        exact tail_done (k := q) (hp774 _ _ ⟨Bs.post ⟨hg, hs, hd⟩ p, keep p 0 rfl i0, keep p 1 rfl i1, keep p 3 rfl i3, keep p 4 rfl i4, keep p 8 rfl i8, keep p 13 rfl i13, keep p 14 rfl i14, keep p 19 rfl i19, keep p 20 rfl i20, out p 11 23 _ rfl rfl rfl, trivial⟩)
      rintro a k ⟨⟨hg, hs, hd⟩, i0, i1, i3, i4, i8, i13, i14, i19, i20, i23, _⟩
      refine wp_seq ?_
      obtain ⟨x759_2, hx759_2, hr⟩ := bind_some hr
      obtain ⟨x759_8, hx759_8, hr⟩ := bind_some hr
      obtain ⟨x759_13, hx759_13, hr⟩ := bind_some hr
      refine cut (fun a' k' => Bs noF k0 249 a' k' ∧ (IsV holidays) (a'.get 0) k' ∧ (IsV stays) (a'.get 1) k' ∧ (IsV day) (a'.get 3) k' ∧ (IsV n_) (a'.get 4) k' ∧ (IsRef more) (a'.get 8) k' ∧ (IsV x716_0) (a'.get 13) k' ∧ (IsV x721_4.1) (a'.get 14) k' ∧ (IsV x746_4.1) (a'.get 19) k' ∧ (IsV x746_4.2) (a'.get 20) k' ∧ IsOwn 0 38 x759_13 (a'.get 24) k' ∧ Lo k0 (obF (a'.get 24)) ∧ True) ?_ hQ ?_
      · intro Q771 hQQ771 hp772
        refine region (a0 := a) (k0 := k) (n := 249) (m := 13) (⟨some IsE0, []⟩ :: ⟨some (IsV stays), [(1, none)]⟩ :: ⟨some (IsOwn k.w.heap.size 38 x759_2), [(176, some 0), (177, some 1)]⟩ :: ⟨some (IsPtr more.From), [(8, none)]⟩ :: ⟨some (IsV more.From), [(179, some 3)]⟩ :: ⟨some (IsV x758_10), [(23, none)]⟩ :: ⟨some (IsV (⟨more.From, x758_10⟩ : Stay)), [(180, some 4), (181, some 5)]⟩ :: ⟨some (IsV x758_10), [(23, none)]⟩ :: ⟨some (IsV x759_8), [(183, some 7)]⟩ :: ⟨some (IsPtr more.To), [(8, none)]⟩ :: ⟨some (IsV more.To), [(185, some 9)]⟩ :: ⟨some (IsV (⟨x759_8, more.To⟩ : Stay)), [(184, some 8), (186, some 10)]⟩ :: ⟨some (IsV ([(⟨more.From, x758_10⟩ : Stay), (⟨x759_8, more.To⟩ : Stay)])), [(182, some 6), (187, some 11)]⟩ :: []) hmix hs (by kernel_rfl) ⟨ob1 rfl fun b q hk hn => ok_buildSlice0 rfl Try.underlying23 eo38, ob1 rfl fun b q hk hn => ok_move rfl (up i1 hk hn.1), ob1 rfl fun b q hk hn => ok_append0 rfl Try.underlying23 eo38 hk.size hn.1 (IsV.rd hn.2.1) hx759_2, ob1 rfl fun b q hk hn => ok_fieldAddr rfl fo38_0 (at_Stay_0 _) ((up i8 hk hn.1)).ptr, ob1 rfl fun b q hk hn => ok_load rfl ty3 hn.1, ob1 rfl fun b q hk hn => ok_move rfl (up i23 hk hn.1), ob1 rfl fun b q hk hn => ok_build rfl (bld38_0_1 hn.1 hn.2.1), ob1 rfl fun b q hk hn => ok_move rfl (up i23 hk hn.1), ob1 rfl fun b q hk hn => ok_add rfl hn.1 (isV_int.2 rfl) hx759_8, ob1 rfl fun b q hk hn => ok_fieldAddr rfl fo38_1 (at_Stay_1 _) ((up i8 hk hn.1)).ptr, ob1 rfl fun b q hk hn => ok_load rfl ty3 hn.1, ob1 rfl fun b q hk hn => ok_build rfl (bld38_0_1 hn.1 hn.2.1), ob1 rfl fun b q hk hn => ok_buildSlice rfl Try.underlying23 eo38 rfl (by decide) (by decide) ⟨rfl, hn.1, rfl, hn.2.1, trivial⟩, trivial⟩ hQQ771 fun b q p => ?_
        have hgq := hg.then p.grow
        have hsb := p.size.trans hs
        have hdb := p.defers.trans hd
        have j0 := keep p 0 rfl i0
        have j1 := keep p 1 rfl i1
        have j3 := keep p 3 rfl i3
        have j4 := keep p 4 rfl i4
        have j8 := keep p 8 rfl i8
        have j13 := keep p 13 rfl i13
        have j14 := keep p 14 rfl i14
        have j19 := keep p 19 rfl i19
        have j20 := keep p 20 rfl i20
        have j178 : (IsOwn k.w.heap.size 38 x759_2) (b.get 178) q := out p 2 178 _ rfl rfl rfl
        have x178 : Lo k (obF (b.get 178)) := j178.loF
        have y178 := x178.chg hg
        replace j178 := j178.weaken (Nat.zero_le _)
        have j188 : (IsV ([(⟨more.From, x758_10⟩ : Stay), (⟨x759_8, more.To⟩ : Stay)])) (b.get 188) q := out p 12 188 _ rfl rfl rfl
        have hns := j178.nshF
        refine tail_appendS (i := 13) (d := 189) rfl rfl rfl rfl (by rw [hsb]; decide) (e := 38) Try.underlying23 eo38 j178 (IsV.rd j188) hx759_13 fun b2 q2 hsz hdf hoth hch hown hob => ?_
        have hle := hch.le hns
        have yn : Lo k0 (obF (b2.get 189)) := y178.app hgq hob
        replace j0 := Pers.pers hle j0
        replace j1 := Pers.pers hle j1
        replace j3 := Pers.pers hle j3
        replace j4 := Pers.pers hle j4
        replace j8 := Pers.pers hle j8
        replace j13 := Pers.pers hle j13
        replace j14 := Pers.pers hle j14
        replace j19 := Pers.pers hle j19
        replace j20 := Pers.pers hle j20
        replace j188 := Pers.pers hle j188
        replace hgq := hgq.step hch y178.wr
        rw [← hoth 0 (by decide)] at j0
        rw [← hoth 1 (by decide)] at j1
        rw [← hoth 3 (by decide)] at j3
        rw [← hoth 4 (by decide)] at j4
        rw [← hoth 8 (by decide)] at j8
        rw [← hoth 13 (by decide)] at j13
        rw [← hoth 14 (by decide)] at j14
        rw [← hoth 19 (by decide)] at j19
        rw [← hoth 20 (by decide)] at j20
        rw [← hoth 188 (by decide)] at j188
        have j189 := hown
        have y189 := yn
        replace hsb := hsz.trans hsb
        replace hdb := hdf.trans hdb
        clear hle hch hown hob hns yn hsz hdf hoth
        obtain ⟨b, hbb⟩ : ∃ b, b = b2 := ⟨b2, rfl⟩
        subst hbb
        obtain ⟨q, hqq⟩ : ∃ q, q = q2 := ⟨q2, rfl⟩
        subst hqq
        refine tail_assign (i := 14) (d := 24) rfl rfl (.inl rfl) rfl (by rw [hsb]; decide) fun b2 hsz hdf hnew hoth => ?_
        have jn : (IsOwn 0 38 x759_13) (b2.get 24) q := by rw [hnew]; exact j189
        have yn : Lo k0 (obF (b2.get 24)) := by rw [hnew]; exact y189
        rw [← hoth 0 (by decide)] at j0
        rw [← hoth 1 (by decide)] at j1
        rw [← hoth 3 (by decide)] at j3
        rw [← hoth 4 (by decide)] at j4
        rw [← hoth 8 (by decide)] at j8
        rw [← hoth 13 (by decide)] at j13
        rw [← hoth 14 (by decide)] at j14
        rw [← hoth 19 (by decide)] at j19
        rw [← hoth 20 (by decide)] at j20
        rw [← hoth 188 (by decide)] at j188
        have j24 := jn
        have y24 := yn
        replace hsb := hsz.trans hsb
        replace hdb := hdf.trans hdb
        clear hsz hdf hoth
        obtain ⟨b, hbb⟩ : ∃ b, b = b2 := ⟨b2, rfl⟩
        subst hbb
        exact tail_done (k := q) (hp772 _ _ ⟨⟨hgq, hsb, hdb⟩, j0, j1, j3, j4, j8, j13, j14, j19, j20, j24, y24, trivial⟩)
      rintro a k ⟨⟨hg, hs, hd⟩, i0, i1, i3, i4, i8, i13, i14, i19, i20, i24, n24, _⟩
      refine wp_seq ?_
      obtain ⟨kk, sh760, ii24⟩ := i24.give
      replace i0 := Pers.pers sh760.le i0
      replace i1 := Pers.pers sh760.le i1
      replace i3 := Pers.pers sh760.le i3
      replace i4 := Pers.pers sh760.le i4
      replace i8 := Pers.pers sh760.le i8
      replace i13 := Pers.pers sh760.le i13
      replace i14 := Pers.pers sh760.le i14
      replace i19 := Pers.pers sh760.le i19
      replace i20 := Pers.pers sh760.le i20
      replace i24 := ii24
      replace hg := hg.hand sh760 n24.wr
      rw [← sh760.w]
      clear sh760
      obtain ⟨k, hkk⟩ : ∃ k, k = kk := ⟨kk, rfl⟩
      subst hkk
      obtain ⟨x761_4, hx761_4, hr⟩ := bind_some hr
      refine cut (fun a' k' => Bs noF k0 249 a' k' ∧ (IsV holidays) (a'.get 0) k' ∧ (IsV stays) (a'.get 1) k' ∧ (IsV day) (a'.get 3) k' ∧ (IsV n_) (a'.get 4) k' ∧ (IsRef more) (a'.get 8) k' ∧ (IsV x716_0) (a'.get 13) k' ∧ (IsV x721_4.1) (a'.get 14) k' ∧ (IsV x746_4.1) (a'.get 19) k' ∧ (IsV x746_4.2) (a'.get 20) k' ∧ (IsV x761_4.1) (a'.get 25) k' ∧ (IsV x761_4.2) (a'.get 26) k' ∧ True) ?_ hQ ?_
      · intro Q769 hQQ769 hp770
        refine regionS (a0 := a) (k0 := k) (n := 249) (m := 10) (⟨some (IsV holidays), [(0, none)]⟩ :: ⟨some (IsV x759_13), [(24, none)]⟩ :: ⟨some (IsV day), [(3, none)]⟩ :: ⟨some (IsV n_), [(4, none)]⟩ :: ⟨some (IsTup2 (IsV x761_4.1) (IsV x761_4.2)), [(191, some 0), (192, some 1), (193, some 2), (194, some 3)]⟩ :: ⟨some (IsTup2 (IsV x761_4.1) (IsV x761_4.2)), [(195, some 4)]⟩ :: ⟨some (IsV x761_4.1), [(190, some 5)]⟩ :: ⟨some (IsV x761_4.2), [(190, some 5)]⟩ :: ⟨some (IsV x761_4.1), [(196, some 6)]⟩ :: ⟨some (IsV x761_4.2), [(197, some 7)]⟩ :: []) hs (by kernel_rfl) ⟨ob1 rfl fun b q hk hn => ok_move rfl (up i0 hk hn.1), ob1 rfl fun b q hk hn => ok_move rfl (up i24 hk hn.1), ob1 rfl fun b q hk hn => ok_move rfl (up i3 hk hn.1), ob1 rfl fun b q hk hn => ok_move rfl (up i4 hk hn.1), ob1 rfl fun b q hk hn => ok_call rfl Try.call11 (calDeadline_ok hn.1 hn.2.1 hn.2.2.1 hn.2.2.2.1 hx761_4), ob1 rfl fun b q hk hn => ok_move rfl hn.1, ob1 rfl fun b q hk hn => ok_ext2_0 rfl hn.1, ob1 rfl fun b q hk hn => ok_ext2_1 rfl hn.1, ob1 rfl fun b q hk hn => ok_assign rfl hn.1, ob1 rfl fun b q hk hn => ok_assign rfl hn.1, trivial⟩ hQQ769 fun b q p => ?_
        exact tail_done (k := q) (hp770 _ _ ⟨Bs.post ⟨hg, hs, hd⟩ p, keep p 0 rfl i0, keep p 1 rfl i1, keep p 3 rfl i3, keep p 4 rfl i4, keep p 8 rfl i8, keep p 13 rfl i13, keep p 14 rfl i14, keep p 19 rfl i19, keep p 20 rfl i20, out p 8 25 _ rfl rfl rfl, out p 9 26 _ rfl rfl rfl, trivial⟩)
      rintro a k ⟨⟨hg, hs, hd⟩, i0, i1, i3, i4, i8, i13, i14, i19, i20, i25, i26, _⟩
      refine wp_seq ?_
      refine cut (fun a' k' => Bs noF k0 249 a' k' ∧ (IsV holidays) (a'.get 0) k' ∧ (IsV stays) (a'.get 1) k' ∧ (IsV day) (a'.get 3) k' ∧ (IsV n_) (a'.get 4) k' ∧ (IsRef more) (a'.get 8) k' ∧ (IsV x716_0) (a'.get 13) k' ∧ (IsV x721_4.1) (a'.get 14) k' ∧ (IsV ((x761_4.1 != x746_4.1) || (x761_4.2 != x746_4.2))) (a'.get 205) k' ∧ True) ?_ hQ ?_
      · intro Q767 hQQ767 hp768
        refine regionS (a0 := a) (k0 := k) (n := 249) (m := 8) (⟨some (IsV x761_4.1), [(25, none)]⟩ :: ⟨some (IsV x746_4.1), [(19, none)]⟩ :: ⟨some (IsV (x761_4.1 != x746_4.1)), [(198, some 0), (199, some 1)]⟩ :: ⟨some (IsV (x761_4.1 != x746_4.1)), [(200, some 2)]⟩ :: ⟨some (Gd ((x761_4.1 != x746_4.1) = false) (IsV x761_4.2)), [(26, none)]⟩ :: ⟨some (Gd ((x761_4.1 != x746_4.1) = false) (IsV x746_4.2)), [(20, none)]⟩ :: ⟨some (Gd ((x761_4.1 != x746_4.1) = false) (IsV (x761_4.2 != x746_4.2))), [(202, some 4), (203, some 5)]⟩ :: ⟨some (IsV ((x761_4.1 != x746_4.1) || (x761_4.2 != x746_4.2))), [(201, some 3), (204, some 6)]⟩ :: []) hs (by kernel_rfl) ⟨ob1 rfl fun b q hk hn => ok_move rfl (up i25 hk hn.1), ob1 rfl fun b q hk hn => ok_move rfl (up i19 hk hn.1), ob1 rfl fun b q hk hn => ok_neI rfl hn.1 hn.2.1, ob1 rfl fun b q hk hn => ok_move rfl hn.1, gdF rfl rfl fun hp b q hk hn => ok_move rfl (up i26 hk hn.1), gdF rfl rfl fun hp b q hk hn => ok_move rfl (up i20 hk hn.1), gdF rfl rfl fun hp b q hk hn => ok_neI rfl (Gd.get hn.1 hp) (Gd.get hn.2.1 hp), ob1 rfl fun b q hk hn => ok_pickOr rfl hn.1 (fun _ => (isV_bool.2 rfl)) (fun hm => (Gd.get hn.2.1 hm)), trivial⟩ hQQ767 fun b q p => ?_
        exact tail_done (k := q) (hp768 _ _ ⟨Bs.post ⟨hg, hs, hd⟩ p, keep p 0 rfl i0, keep p 1 rfl i1, keep p 3 rfl i3, keep p 4 rfl i4, keep p 8 rfl i8, keep p 13 rfl i13, keep p 14 rfl i14, out p 7 205 _ rfl rfl rfl, trivial⟩)
      rintro a k ⟨⟨hg, hs, hd⟩, i0, i1, i3, i4, i8, i13, i14, i205, _⟩
      refine wp_cond_split (isBool i205) (fun hc766 => ?_) (fun hc766 => ?_)
      · rw [if_pos hc766] at hr
        refine wp_seq ?_
        refine cut (fun a' k' => Bs noF k0 249 a' k' ∧ (IsV false) (a'.get 12) k' ∧ True) ?_ hQ ?_
        · intro Q764 hQQ764 hp765
          refine regionS (a0 := a) (k0 := k) (n := 249) (m := 1) (⟨some (IsV false), []⟩ :: []) hs (by kernel_rfl) ⟨ob1 rfl fun b q hk hn => ok_assign rfl (isV_bool.2 rfl), trivial⟩ hQQ764 fun b q p => ?_
          exact tail_done (k := q) (hp765 _ _ ⟨Bs.post ⟨hg, hs, hd⟩ p, out p 0 12 _ rfl rfl rfl, trivial⟩)
        rintro a k ⟨⟨hg, hs, hd⟩, i12, _⟩
        refine wp_ret ?_
        exact hret757 _ _ _ (Option.some.inj hr).symm (retC1 rfl hd hg i12)
      rw [if_neg (by rw [hc766]; decide)] at hr
      refine wp_skip ?_
      exact hgo755 _ _ _ (Option.some.inj hr).symm ⟨⟨hg, hs, hd⟩, i0, i1, i3, i4, i8, i13, i14, trivial⟩
    rw [if_neg (by rw [hc775]; decide)] at hr
    refine wp_skip ?_
    exact hgo755 _ _ _ (Option.some.inj hr).symm ⟨⟨hg, hs, hd⟩, i0, i1, i3, i4, i8, i13, i14, trivial⟩
  · rintro r791 a k rfl hR
    dsimp only at hr
    obtain rfl := Option.some.inj hr
    exact hR
  · rintro _ _ _ _ _ hX
    exact hX.elim
  clear hf776
  rintro s777 a k rfl ⟨⟨hg, hs, hd⟩, i0, i1, i3, i4, i8, i13, i14, _⟩
  dsimp only at hr
  refine wp_seq ?_
  refine wp_seq ?_
  obtain ⟨x778_13, hx778_13, hr⟩ := bind_some hr
  obtain ⟨x778_7, hx778_7, hx778_13⟩ := ite_bind hx778_13
  obtain ⟨x778_8, hx778_8, hx778_13⟩ := ite_bind hx778_13
  refine cut (fun a' k' => Bs noF k0 249 a' k' ∧ (IsV holidays) (a'.get 0) k' ∧ (IsV stays) (a'.get 1) k' ∧ (IsV day) (a'.get 3) k' ∧ (IsV n_) (a'.get 4) k' ∧ (IsRef more) (a'.get 8) k' ∧ (IsV x716_0) (a'.get 13) k' ∧ (IsV x721_4.1) (a'.get 14) k' ∧ (IsV x778_13) (a'.get 219) k' ∧ True) ?_ hQ ?_
  · intro Q789 hQQ789 hp790
    refine region (a0 := a) (k0 := k) (n := 249) (m := 14) (⟨some (IsV holidays), [(0, none)]⟩ :: ⟨some (IsV (α := Int) (holidays.length : Int)), [(206, some 0)]⟩ :: ⟨some (IsV (decide (0 < (holidays.length : Int)))), [(207, some 1)]⟩ :: ⟨some (IsV (decide (0 < (holidays.length : Int)))), [(208, some 2)]⟩ :: ⟨some (Gd ((decide (0 < (holidays.length : Int))) = true) (IsV holidays)), [(0, none)]⟩ :: ⟨some (Gd ((decide (0 < (holidays.length : Int))) = true) (IsV holidays)), [(0, none)]⟩ :: ⟨some (Gd ((decide (0 < (holidays.length : Int))) = true) (IsV (α := Int) (holidays.length : Int))), [(211, some 5)]⟩ :: ⟨some (Gd ((decide (0 < (holidays.length : Int))) = true) (IsV x778_7)), [(212, some 6)]⟩ :: ⟨some (Gd ((decide (0 < (holidays.length : Int))) = true) (IsPtr x778_8)), [(210, some 4), (213, some 7)]⟩ :: ⟨some (Gd ((decide (0 < (holidays.length : Int))) = true) (IsV x778_8)), [(214, some 8)]⟩ :: ⟨some (Gd ((decide (0 < (holidays.length : Int))) = true) (IsPtr more.From)), [(8, none)]⟩ :: ⟨some (Gd ((decide (0 < (holidays.length : Int))) = true) (IsV more.From)), [(216, some 10)]⟩ :: ⟨some (Gd ((decide (0 < (holidays.length : Int))) = true) (IsV (decide (more.From ≤ x778_8)))), [(215, some 9), (217, some 11)]⟩ :: ⟨some (IsV x778_13), [(209, some 3), (218, some 12)]⟩ :: []) hmix hs (by kernel_rfl) ⟨ob1 rfl fun b q hk hn => ok_move rfl (up i0 hk hn.1), ob1 rfl fun b q hk hn => ok_len rfl rfl Try.underlying22 (IsV.rd hn.1), ob1 rfl fun b q hk hn => ok_gtr rfl hn.1 (isV_int.2 rfl), ob1 rfl fun b q hk hn => ok_move rfl hn.1, gdT rfl rfl fun hp b q hk hn => ok_move rfl (up i0 hk hn.1), gdT rfl rfl fun hp b q hk hn => ok_move rfl (up i0 hk hn.1), gdT rfl rfl fun hp b q hk hn => ok_len rfl rfl Try.underlying22 (IsV.rd (Gd.get hn.1 hp)), gdT rfl rfl fun hp b q hk hn => ok_sub rfl (Gd.get hn.1 hp) (isV_int.2 rfl) (hx778_7 hp), gdT rfl rfl fun hp b q hk hn => ok_indexAddr rfl Try.underlying22 ty3 (IsV.rd (Gd.get hn.1 hp)) (Gd.get hn.2.1 hp) (hx778_8 hp), gdT rfl rfl fun hp b q hk hn => ok_load rfl ty3 (Gd.get hn.1 hp), gdT rfl rfl fun hp b q hk hn => ok_fieldAddr rfl fo38_0 (at_Stay_0 _) ((up i8 hk hn.1)).ptr, gdT rfl rfl fun hp b q hk hn => ok_load rfl ty3 (Gd.get hn.1 hp), gdT rfl rfl fun hp b q hk hn => ok_geq rfl (Gd.get hn.1 hp) (Gd.get hn.2.1 hp), ob1 rfl fun b q hk hn => ok_pickM rfl hn.1 hx778_13 (fun hm => (Gd.get hn.2.1 hm)) (fun _ => (isV_bool.2 rfl)), trivial⟩ hQQ789 fun b q p => ?_
    exact tail_done (k := q) (hp790 _ _ ⟨Bs.post ⟨hg, hs, hd⟩ p, keep p 0 rfl i0, keep p 1 rfl i1, keep p 3 rfl i3, keep p 4 rfl i4, keep p 8 rfl i8, keep p 13 rfl i13, keep p 14 rfl i14, out p 13 219 _ rfl rfl rfl, trivial⟩)
  rintro a k ⟨⟨hg, hs, hd⟩, i0, i1, i3, i4, i8, i13, i14, i219, _⟩
  refine wp_cond_split (isBool i219) (fun hc788 => ?_) (fun hc788 => ?_)
  · rw [if_pos hc788] at hr
    refine wp_seq ?_
    refine cut (fun a' k' => Bs noF k0 249 a' k' ∧ (IsV x716_0) (a'.get 12) k' ∧ True) ?_ hQ ?_
    · intro Q780 hQQ780 hp781
      refine regionS (a0 := a) (k0 := k) (n := 249) (m := 2) (⟨some (IsV x716_0), [(13, none)]⟩ :: ⟨some (IsV x716_0), [(220, some 0)]⟩ :: []) hs (by kernel_rfl) ⟨ob1 rfl fun b q hk hn => ok_move rfl (up i13 hk hn.1), ob1 rfl fun b q hk hn => ok_assign rfl hn.1, trivial⟩ hQQ780 fun b q p => ?_
      exact tail_done (k := q) (hp781 _ _ ⟨Bs.post ⟨hg, hs, hd⟩ p, out p 1 12 _ rfl rfl rfl, trivial⟩)
    rintro a k ⟨⟨hg, hs, hd⟩, i12, _⟩
    refine wp_ret ?_
    obtain rfl := Option.some.inj hr
    exact retC1 rfl hd hg i12
  rw [if_neg (by rw [hc788]; decide)] at hr
  refine wp_skip ?_
  refine wp_seq ?_
  obtain ⟨x782_2, hx782_2, hr⟩ := bind_some hr
  obtain ⟨x782_6, hx782_6, hr⟩ := bind_some hr
  obtain ⟨x782_10, hx782_10, hr⟩ := bind_some hr
  refine cut (fun a' k' => Bs noF k0 249 a' k' ∧ (IsV x716_0) (a'.get 13) k' ∧ (IsV x721_4.1) (a'.get 14) k' ∧ (IsV x782_10.1) (a'.get 27) k' ∧ (IsV x782_10.2) (a'.get 28) k' ∧ True) ?_ hQ ?_
  · intro Q786 hQQ786 hp787
    refine region_late (a0 := a) (k0 := k) (n := 249) (m := 6) (⟨some IsE0, []⟩ :: ⟨some (IsV holidays), [(0, none)]⟩ :: ⟨some (IsOwn k.w.heap.size 3 x782_2), [(222, some 0), (223, some 1)]⟩ :: ⟨some (IsPtr more.From), [(8, none)]⟩ :: ⟨some (IsV more.From), [(225, some 3)]⟩ :: ⟨some (IsV ([more.From])), [(226, some 4)]⟩ :: []) [7, 8, 9] [6, 10, 11, 12, 13, 14, 15] hmix hs (by kernel_rfl) ⟨ob1 rfl fun b q hk hn => ok_buildSlice0 rfl Try.underlying22 eo3, ob1 rfl fun b q hk hn => ok_move rfl (up i0 hk hn.1), ob1 rfl fun b q hk hn => ok_append0 rfl Try.underlying22 eo3 hk.size hn.1 (IsV.rd hn.2.1) hx782_2, ob1 rfl fun b q hk hn => ok_fieldAddr rfl fo38_0 (at_Stay_0 _) ((up i8 hk hn.1)).ptr, ob1 rfl fun b q hk hn => ok_load rfl ty3 hn.1, ob1 rfl fun b q hk hn => ok_buildSlice rfl Try.underlying22 eo3 rfl (by decide) (by decide) ⟨rfl, hn.1, trivial⟩, trivial⟩ hQQ786 fun b q p => ?_
    have hgq := hg.then p.grow
    have hsb := p.size.trans hs
    have hdb := p.defers.trans hd
    have j1 := keepL p 1 rfl i1
    have j3 := keepL p 3 rfl i3
    have j4 := keepL p 4 rfl i4
    have j13 := keepL p 13 rfl i13
    have j14 := keepL p 14 rfl i14
    have j224 : (IsOwn k.w.heap.size 3 x782_2) (b.get 224) q := outL p 2 224 _ rfl rfl rfl
    have x224 : Lo k (obF (b.get 224)) := j224.loF
    have y224 := x224.chg hg
    replace j224 := j224.weaken (Nat.zero_le _)
    have j227 : (IsV ([more.From])) (b.get 227) q := outL p 5 227 _ rfl rfl rfl
    have j229 : (IsV stays) (b.get 229) q := by rw [p.moved 7 229 1 rfl rfl]; exact Mono.mono p.grow i1
    have j230 : (IsV day) (b.get 230) q := by rw [p.moved 8 230 3 rfl rfl]; exact Mono.mono p.grow i3
    have j231 : (IsV n_) (b.get 231) q := by rw [p.moved 9 231 4 rfl rfl]; exact Mono.mono p.grow i4
    have hns := j224.nshF
    refine tail_appendS (i := 6) (d := 228) rfl rfl rfl rfl (by rw [hsb]; decide) (e := 3) Try.underlying22 eo3 j224 (IsV.rd j227) hx782_6 fun b2 q2 hsz hdf hoth hch hown hob => ?_
    have hle := hch.le hns
    have yn : Lo k0 (obF (b2.get 228)) := y224.app hgq hob
    replace j1 := Pers.pers hle j1
    replace j3 := Pers.pers hle j3
    replace j4 := Pers.pers hle j4
    replace j13 := Pers.pers hle j13
    replace j14 := Pers.pers hle j14
    replace j227 := Pers.pers hle j227
    replace j229 := Pers.pers hle j229
    replace j230 := Pers.pers hle j230
    replace j231 := Pers.pers hle j231
    replace hgq := hgq.step hch y224.wr
    rw [← hoth 1 (by decide)] at j1
    rw [← hoth 3 (by decide)] at j3
    rw [← hoth 4 (by decide)] at j4
    rw [← hoth 13 (by decide)] at j13
    rw [← hoth 14 (by decide)] at j14
    rw [← hoth 227 (by decide)] at j227
    rw [← hoth 229 (by decide)] at j229
    rw [← hoth 230 (by decide)] at j230
    rw [← hoth 231 (by decide)] at j231
    have j228 := hown
    have y228 := yn
    replace hsb := hsz.trans hsb
    replace hdb := hdf.trans hdb
    clear hle hch hown hob hns yn hsz hdf hoth
    obtain ⟨b, hbb⟩ : ∃ b, b = b2 := ⟨b2, rfl⟩
    subst hbb
    obtain ⟨q, hqq⟩ : ∃ q, q = q2 := ⟨q2, rfl⟩
    subst hqq
    obtain ⟨q2, hsh, jn⟩ := j228.give
    replace j1 := Pers.pers hsh.le j1
    replace j3 := Pers.pers hsh.le j3
    replace j4 := Pers.pers hsh.le j4
    replace j13 := Pers.pers hsh.le j13
    replace j14 := Pers.pers hsh.le j14
    replace j227 := Pers.pers hsh.le j227
    replace j229 := Pers.pers hsh.le j229
    replace j230 := Pers.pers hsh.le j230
    replace j231 := Pers.pers hsh.le j231
    replace j228 := jn
    replace hgq := hgq.hand hsh y228.wr
    rw [← hsh.w]
    clear hsh
    obtain ⟨q, hqq⟩ : ∃ q, q = q2 := ⟨q2, rfl⟩
    subst hqq
    refine tail_call (F := noF) (i := 10) (d := 232) rfl rfl rfl rfl (by rw [hsb]; decide) Try.call11 hQQ786 (Ret.toC (calDeadline_ok j228 j229 j230 j231 hx782_10)) fun b2 q2 hsz hdf hoth hch hres => ?_
    have hgr := hch.grow
    replace j1 := Pers.pers hgr.le j1
    replace j3 := Pers.pers hgr.le j3
    replace j4 := Pers.pers hgr.le j4
    replace j13 := Pers.pers hgr.le j13
    replace j14 := Pers.pers hgr.le j14
    replace j227 := Pers.pers hgr.le j227
    replace j228 := Pers.pers hgr.le j228
    replace j229 := Pers.pers hgr.le j229
    replace j230 := Pers.pers hgr.le j230
    replace j231 := Pers.pers hgr.le j231
    replace hgq := hgq.then hgr
    rw [← hoth 1 (by decide)] at j1
    rw [← hoth 3 (by decide)] at j3
    rw [← hoth 4 (by decide)] at j4
    rw [← hoth 13 (by decide)] at j13
    rw [← hoth 14 (by decide)] at j14
    rw [← hoth 227 (by decide)] at j227
    rw [← hoth 228 (by decide)] at j228
    rw [← hoth 229 (by decide)] at j229
    rw [← hoth 230 (by decide)] at j230
    rw [← hoth 231 (by decide)] at j231
    have j232 : (IsTup2 (IsV x782_10.1) (IsV x782_10.2)) (b2.get 232) q2 := hres
    replace hsb := hsz.trans hsb
    replace hdb := hdf.trans hdb
    clear hch hgr hres hsz hdf hoth
    obtain ⟨b, hbb⟩ : ∃ b, b = b2 := ⟨b2, rfl⟩
    subst hbb
    obtain ⟨q, hqq⟩ : ∃ q, q = q2 := ⟨q2, rfl⟩
    subst hqq
    refine tail_assign (i := 11) (d := 221) rfl rfl (.inr rfl) rfl (by rw [hsb]; decide) fun b2 hsz hdf hnew hoth => ?_
    have jn : (IsTup2 (IsV x782_10.1) (IsV x782_10.2)) (b2.get 221) q := by rw [hnew]; exact j232
    rw [← hoth 1 (by decide)] at j1
    rw [← hoth 3 (by decide)] at j3
    rw [← hoth 4 (by decide)] at j4
    rw [← hoth 13 (by decide)] at j13
    rw [← hoth 14 (by decide)] at j14
    rw [← hoth 227 (by decide)] at j227
    rw [← hoth 228 (by decide)] at j228
    rw [← hoth 229 (by decide)] at j229
    rw [← hoth 230 (by decide)] at j230
    rw [← hoth 231 (by decide)] at j231
    rw [← hoth 232 (by decide)] at j232
    have j221 := jn
    replace hsb := hsz.trans hsb
    replace hdb := hdf.trans hdb
    clear hsz hdf hoth
    obtain ⟨b, hbb⟩ : ∃ b, b = b2 := ⟨b2, rfl⟩
    subst hbb
    have jx : (IsTup2 (IsV x782_10.1) (IsV x782_10.2)) (b.get 221) q := j221
    obtain ⟨y0_, y1_, hxt, jy0_, jy1_⟩ := jx
    refine tail_ext (i := 12) (d := 233) rfl rfl rfl rfl (by rw [hsb]; decide) hxt rfl fun b2 hsz hdf hnew hoth => ?_
    have jn : (IsV x782_10.1) (b2.get 233) q := by rw [hnew]; exact jy0_
    rw [← hoth 1 (by decide)] at j1
    rw [← hoth 3 (by decide)] at j3
    rw [← hoth 4 (by decide)] at j4
    rw [← hoth 13 (by decide)] at j13
    rw [← hoth 14 (by decide)] at j14
    rw [← hoth 221 (by decide)] at j221
    rw [← hoth 227 (by decide)] at j227
    rw [← hoth 228 (by decide)] at j228
    rw [← hoth 229 (by decide)] at j229
    rw [← hoth 230 (by decide)] at j230
    rw [← hoth 231 (by decide)] at j231
    rw [← hoth 232 (by decide)] at j232
    have j233 := jn
    replace hsb := hsz.trans hsb
    replace hdb := hdf.trans hdb
    clear hsz hdf hoth jn hnew hxt
    obtain ⟨b, hbb⟩ : ∃ b, b = b2 := ⟨b2, rfl⟩
    subst hbb
    have jx : (IsTup2 (IsV x782_10.1) (IsV x782_10.2)) (b.get 221) q := j221
    obtain ⟨y0_, y1_, hxt, jy0_, jy1_⟩ := jx
    refine tail_ext (i := 13) (d := 234) rfl rfl rfl rfl (by rw [hsb]; decide) hxt rfl fun b2 hsz hdf hnew hoth => ?_
    have jn : (IsV x782_10.2) (b2.get 234) q := by rw [hnew]; exact jy1_
    rw [← hoth 1 (by decide)] at j1
    rw [← hoth 3 (by decide)] at j3
    rw [← hoth 4 (by decide)] at j4
    rw [← hoth 13 (by decide)] at j13
    rw [← hoth 14 (by decide)] at j14
    rw [← hoth 221 (by decide)] at j221
    rw [← hoth 227 (by decide)] at j227
    rw [← hoth 228 (by decide)] at j228
    rw [← hoth 229 (by decide)] at j229
    rw [← hoth 230 (by decide)] at j230
    rw [← hoth 231 (by decide)] at j231
    rw [← hoth 232 (by decide)] at j232
    rw [← hoth 233 (by decide)] at j233
    have j234 := jn
    replace hsb := hsz.trans hsb
    replace hdb := hdf.trans hdb
    clear hsz hdf hoth jn hnew hxt
    obtain ⟨b, hbb⟩ : ∃ b, b = b2 := ⟨b2, rfl⟩
    subst hbb
    refine tail_assign (i := 14) (d := 27) rfl rfl (.inl rfl) rfl (by rw [hsb]; decide) fun b2 hsz hdf hnew hoth => ?_
    have jn : (IsV x782_10.1) (b2.get 27) q := by rw [hnew]; exact j233
    rw [← hoth 1 (by decide)] at j1
    rw [← hoth 3 (by decide)] at j3
    rw [← hoth 4 (by decide)] at j4
    rw [← hoth 13 (by decide)] at j13
    rw [← hoth 14 (by decide)] at j14
    rw [← hoth 221 (by decide)] at j221
    rw [← hoth 227 (by decide)] at j227
    rw [← hoth 228 (by decide)] at j228
    rw [← hoth 229 (by decide)] at j229
    rw [← hoth 230 (by decide)] at j230
    rw [← hoth 231 (by decide)] at j231
    rw [← hoth 232 (by decide)] at j232
    rw [← hoth 233 (by decide)] at j233
    rw [← hoth 234 (by decide)] at j234
    have j27 := jn
    replace hsb := hsz.trans hsb
    replace hdb := hdf.trans hdb
    clear hsz hdf hoth
    obtain ⟨b, hbb⟩ : ∃ b, b = b2 := ⟨b2, rfl⟩
    subst hbb
    refine tail_assign (i := 15) (d := 28) rfl rfl (.inl rfl) rfl (by rw [hsb]; decide) fun b2 hsz hdf hnew hoth => ?_
    have jn : (IsV x782_10.2) (b2.get 28) q := by rw [hnew]; exact j234
    rw [← hoth 1 (by decide)] at j1
    rw [← hoth 3 (by decide)] at j3
    rw [← hoth 4 (by decide)] at j4
    rw [← hoth 13 (by decide)] at j13
    rw [← hoth 14 (by decide)] at j14
    rw [← hoth 27 (by decide)] at j27
    rw [← hoth 221 (by decide)] at j221
    rw [← hoth 227 (by decide)] at j227
    rw [← hoth 228 (by decide)] at j228
    rw [← hoth 229 (by decide)] at j229
    rw [← hoth 230 (by decide)] at j230
    rw [← hoth 231 (by decide)] at j231
    rw [← hoth 232 (by decide)] at j232
    rw [← hoth 233 (by decide)] at j233
    rw [← hoth 234 (by decide)] at j234
    have j28 := jn
    replace hsb := hsz.trans hsb
    replace hdb := hdf.trans hdb
    clear hsz hdf hoth
    obtain ⟨b, hbb⟩ : ∃ b, b = b2 := ⟨b2, rfl⟩
    subst hbb
    exact tail_done (k := q) (hp787 _ _ ⟨⟨hgq, hsb, hdb⟩, j13, j14, j27, j28, trivial⟩)
  rintro a k ⟨⟨hg, hs, hd⟩, i13, i14, i27, i28, _⟩
  refine wp_seq ?_
  refine cut (fun a' k' => Bs noF k0 249 a' k' ∧ (IsV (x716_0 && (((x782_10.2 == 0) && (decide (x721_4.1 ≤ x782_10.1))) || (x782_10.2 == 20)))) (a'.get 12) k' ∧ True) ?_ hQ ?_
  · intro Q784 hQQ784 hp785
    refine regionS (a0 := a) (k0 := k) (n := 249) (m := 15) (⟨some (IsV x716_0), [(13, none)]⟩ :: ⟨some (IsV x716_0), [(235, some 0)]⟩ :: ⟨some (Gd (x716_0 = true) (IsV x782_10.2)), [(28, none)]⟩ :: ⟨some (Gd (x716_0 = true) (IsV (x782_10.2 == 0))), [(237, some 2)]⟩ :: ⟨some (Gd (x716_0 = true) (IsV (x782_10.2 == 0))), [(238, some 3)]⟩ :: ⟨some (Gd ((x716_0 = true) ∧ (x782_10.2 == 0) = true) (IsV x782_10.1)), [(27, none)]⟩ :: ⟨some (Gd ((x716_0 = true) ∧ (x782_10.2 == 0) = true) (IsV x721_4.1)), [(14, none)]⟩ :: ⟨some (Gd ((x716_0 = true) ∧ (x782_10.2 == 0) = true) (IsV (decide (x721_4.1 ≤ x782_10.1)))), [(240, some 5), (241, some 6)]⟩ :: ⟨some (Gd (x716_0 = true) (IsV ((x782_10.2 == 0) && (decide (x721_4.1 ≤ x782_10.1))))), [(239, some 4), (242, some 7)]⟩ :: ⟨some (Gd (x716_0 = true) (IsV ((x782_10.2 == 0) && (decide (x721_4.1 ≤ x782_10.1))))), [(243, some 8)]⟩ :: ⟨some (Gd ((x716_0 = true) ∧ ((x782_10.2 == 0) && (decide (x721_4.1 ≤ x782_10.1))) = false) (IsV x782_10.2)), [(28, none)]⟩ :: ⟨some (Gd ((x716_0 = true) ∧ ((x782_10.2 == 0) && (decide (x721_4.1 ≤ x782_10.1))) = false) (IsV (x782_10.2 == 20))), [(245, some 10)]⟩ :: ⟨some (Gd (x716_0 = true) (IsV (((x782_10.2 == 0) && (decide (x721_4.1 ≤ x782_10.1))) || (x782_10.2 == 20)))), [(244, some 9), (246, some 11)]⟩ :: ⟨some (IsV (x716_0 && (((x782_10.2 == 0) && (decide (x721_4.1 ≤ x782_10.1))) || (x782_10.2 == 20)))), [(236, some 1), (247, some 12)]⟩ :: ⟨some (IsV (x716_0 && (((x782_10.2 == 0) && (decide (x721_4.1 ≤ x782_10.1))) || (x782_10.2 == 20)))), [(248, some 13)]⟩ :: []) hs (by kernel_rfl) ⟨ob1 rfl fun b q hk hn => ok_move rfl (up i13 hk hn.1), ob1 rfl fun b q hk hn => ok_move rfl hn.1, gdT rfl rfl fun hp b q hk hn => ok_move rfl (up i28 hk hn.1), gdT rfl rfl fun hp b q hk hn => ok_eqI rfl (Gd.get hn.1 hp) (isV_int.2 rfl), gdT rfl rfl fun hp b q hk hn => ok_move rfl (Gd.get hn.1 hp), gdTT rfl rfl fun hp b q hk hn => ok_move rfl (up i27 hk hn.1), gdTT rfl rfl fun hp b q hk hn => ok_move rfl (up i14 hk hn.1), gdTT rfl rfl fun hp b q hk hn => ok_geq rfl (Gd.get hn.1 hp) (Gd.get hn.2.1 hp), gdT rfl rfl fun hp b q hk hn => ok_pickAnd rfl (Gd.get hn.1 hp) (fun hm => (Gd.get hn.2.1 ⟨hp, hm⟩)) (fun _ => (isV_bool.2 rfl)), gdT rfl rfl fun hp b q hk hn => ok_move rfl (Gd.get hn.1 hp), gdTF rfl rfl fun hp b q hk hn => ok_move rfl (up i28 hk hn.1), gdTF rfl rfl fun hp b q hk hn => ok_eqI rfl (Gd.get hn.1 hp) (isV_int.2 rfl), gdT rfl rfl fun hp b q hk hn => ok_pickOr rfl (Gd.get hn.1 hp) (fun _ => (isV_bool.2 rfl)) (fun hm => (Gd.get hn.2.1 ⟨hp, hm⟩)), ob1 rfl fun b q hk hn => ok_pickAnd rfl hn.1 (fun hm => (Gd.get hn.2.1 hm)) (fun _ => (isV_bool.2 rfl)), ob1 rfl fun b q hk hn => ok_assign rfl hn.1, trivial⟩ hQQ784 fun b q p => ?_
    exact tail_done (k := q) (hp785 _ _ ⟨Bs.post ⟨hg, hs, hd⟩ p, out p 14 12 _ rfl rfl rfl, trivial⟩)
  rintro a k ⟨⟨hg, hs, hd⟩, i12, _⟩
  refine wp_ret ?_
  obtain rfl := Option.some.inj hr
  exact retC1 rfl hd hg i12
def lawWeeks (day : Int) (weeks : Int) (holiday : Int) : Option (Bool) :=
  (small).bind fun x823_0 =>
  (within weeks 0 100000000).bind fun x824_1 =>
  (if (!x824_1) then
    some true
  else
    (mulI 7 weeks).bind fun x824_6 =>
    (subI 1073741824 x824_6).bind fun x824_7 =>
    (within day 0 x824_7).bind fun x824_8 =>
    some (!x824_8)).bind fun x824_10 =>
  if x824_10 then
    some x823_0
  else
    (mulI 7 weeks).bind fun x828_2 =>
    (addI day x828_2).bind fun x828_3 =>
    (mulI 5 weeks).bind fun x829_2 =>
    (calAdd ([] : List Int) day x829_2).bind fun x829_3 =>
    (calBetween ([] : List Int) day x828_3).bind fun x830_2 =>
    (mulI 5 weeks).bind fun x830_4 =>
    (if ((x830_2 != x830_4) || (x829_3.2 != 0)) then
      some true
    else
      (calIsWork ([] : List Int) day).bind fun x830_12 =>
      (remI day 7).bind fun x830_14 =>
      some (x830_12 != (decide (x830_14 < 5)))).bind fun x830_17 =>
    (if x830_17 then
      some true
    else
      (calIsWork ([] : List Int) day).bind fun x830_20 =>
      some (x830_20 && (x829_3.1 != x828_3))).bind fun x830_26 =>
    if x830_26 then
      some false
    else
      (within holiday 0 1073741824).bind fun x834_1 =>
      if (!x834_1) then
        (if x823_0 then
          (calBetween ([holiday]) day x828_3).bind fun x835_6 =>
          some (x835_6 == 0)
        else
          some false).bind fun x835_8 =>
        some x835_8
      else
        (mulI 5 weeks).bind fun x838_1 =>
        (if ((decide (day < holiday)) && (decide (holiday ≤ x828_3))) then
          (remI holiday 7).bind fun x839_10 =>
          some (decide (x839_10 < 5))
        else
          some false).bind fun x839_12 =>
        (if x839_12 then
          (subI x838_1 1).bind fun x842_1 =>
          some x842_1
        else
          some x838_1).bind fun s840 =>
        (if x823_0 then
          (calBetween ([holiday]) day x828_3).bind fun x846_6 =>
          some (x846_6 == s840)
        else
          some false).bind fun x846_9 =>
        some x846_9
theorem lawWeeks_ok {k0 : K} {v0 v1 v2 : Value} {day : Int} {weeks : Int} {holiday : Int} {r : Bool} (i0 : (IsV day) v0 k0) (i1 : (IsV weeks) v1 k0) (i2 : (IsV holiday) v2 k0) (hr : lawWeeks day weeks holiday = some r) :
    Calls Try.prog 7 #[v0, v1, v2] k0.w (Ret k0 (IsV r)) := by
  unfold lawWeeks at hr
  refine Ret.ofC ?_
  refine enterK Try.func7 rfl Try.ntmps7 (show 3 ≤ 102 by decide) fun a k hk0 hs hd ha => ?_
  obtain ⟨e0, e1, e2, _⟩ := ha
  replace i0 : (IsV day) (a.get 0) k := by rw [e0, hk0]; exact i0
  replace i1 : (IsV weeks) (a.get 1) k := by rw [e1, hk0]; exact i1
  replace i2 : (IsV holiday) (a.get 2) k := by rw [e2, hk0]; exact i2
  have hQ : Gb.LetsOut (bodyPost Try.prog Try.f7 (RetC noF k0 (IsV r))) := letsOutC
  have hg : Chg noF k0 k := by rw [hk0]; exact Chg.refl _ k0
  refine wp_seq ?_
  refine cut (fun a' k' => Bs noF k0 102 a' k' ∧ (IsV day) (a'.get 0) k' ∧ (IsV weeks) (a'.get 1) k' ∧ (IsV holiday) (a'.get 2) k' ∧ True) ?_ hQ ?_
  · intro Q869 hQQ869 hp870
    refine regionS (a0 := a) (k0 := k) (n := 102) (m := 1) (⟨some (IsV false), []⟩ :: []) hs (by kernel_rfl) ⟨ob1 rfl fun b q hk hn => ok_assign rfl (isV_bool.2 rfl), trivial⟩ hQQ869 fun b q p => ?_
    exact tail_done (k := q) (hp870 _ _ ⟨Bs.post ⟨hg, hs, hd⟩ p, keep p 0 rfl i0, keep p 1 rfl i1, keep p 2 rfl i2, trivial⟩)
  rintro a k ⟨⟨hg, hs, hd⟩, i0, i1, i2, _⟩
  refine wp_seq ?_
  obtain ⟨x823_0, hx823_0, hr⟩ := bind_some hr
  refine cut (fun a' k' => Bs noF k0 102 a' k' ∧ (IsV day) (a'.get 0) k' ∧ (IsV weeks) (a'.get 1) k' ∧ (IsV holiday) (a'.get 2) k' ∧ (IsV x823_0) (a'.get 7) k' ∧ True) ?_ hQ ?_
  · intro Q867 hQQ867 hp868
    refine regionS (a0 := a) (k0 := k) (n := 102) (m := 2) (⟨some (IsV x823_0), []⟩ :: ⟨some (IsV x823_0), [(12, some 0)]⟩ :: []) hs (by kernel_rfl) ⟨ob1 rfl fun b q hk hn => ok_call rfl Try.call8 (small_ok hx823_0), ob1 rfl fun b q hk hn => ok_assign rfl hn.1, trivial⟩ hQQ867 fun b q p => ?_
    exact tail_done (k := q) (hp868 _ _ ⟨Bs.post ⟨hg, hs, hd⟩ p, keep p 0 rfl i0, keep p 1 rfl i1, keep p 2 rfl i2, out p 1 7 _ rfl rfl rfl, trivial⟩)
  rintro a k ⟨⟨hg, hs, hd⟩, i0, i1, i2, i7, _⟩
  refine wp_seq ?_
  refine wp_seq ?_
  obtain ⟨x824_1, hx824_1, hr⟩ := bind_some hr
  obtain ⟨x824_10, hx824_10, hr⟩ := bind_some hr
  obtain ⟨x824_6, hx824_6, hx824_10⟩ := ite_bindF hx824_10
  obtain ⟨x824_7, hx824_7, hx824_10⟩ := ite_bindF hx824_10
  obtain ⟨x824_8, hx824_8, hx824_10⟩ := ite_bindF hx824_10
  refine cut (fun a' k' => Bs noF k0 102 a' k' ∧ (IsV day) (a'.get 0) k' ∧ (IsV weeks) (a'.get 1) k' ∧ (IsV holiday) (a'.get 2) k' ∧ (IsV x823_0) (a'.get 7) k' ∧ (IsV x824_10) (a'.get 23) k' ∧ True) ?_ hQ ?_
  · intro Q865 hQQ865 hp866
    refine regionS (a0 := a) (k0 := k) (n := 102) (m := 11) (⟨some (IsV weeks), [(1, none)]⟩ :: ⟨some (IsV x824_1), [(13, some 0)]⟩ :: ⟨some (IsV (!x824_1)), [(14, some 1)]⟩ :: ⟨some (IsV (!x824_1)), [(15, some 2)]⟩ :: ⟨some (Gd ((!x824_1) = false) (IsV day)), [(0, none)]⟩ :: ⟨some (Gd ((!x824_1) = false) (IsV weeks)), [(1, none)]⟩ :: ⟨some (Gd ((!x824_1) = false) (IsV x824_6)), [(18, some 5)]⟩ :: ⟨some (Gd ((!x824_1) = false) (IsV x824_7)), [(19, some 6)]⟩ :: ⟨some (Gd ((!x824_1) = false) (IsV x824_8)), [(17, some 4), (20, some 7)]⟩ :: ⟨some (Gd ((!x824_1) = false) (IsV (!x824_8))), [(21, some 8)]⟩ :: ⟨some (IsV x824_10), [(16, some 3), (22, some 9)]⟩ :: []) hs (by kernel_rfl) ⟨ob1 rfl fun b q hk hn => ok_move rfl (up i1 hk hn.1), ob1 rfl fun b q hk hn => ok_call rfl Try.call24 (within_ok hn.1 (isV_int.2 rfl) (isV_int.2 rfl) hx824_1), ob1 rfl fun b q hk hn => ok_not rfl hn.1, ob1 rfl fun b q hk hn => ok_move rfl hn.1, gdF rfl rfl fun hp b q hk hn => ok_move rfl (up i0 hk hn.1), gdF rfl rfl fun hp b q hk hn => ok_move rfl (up i1 hk hn.1), gdF rfl rfl fun hp b q hk hn => ok_mul rfl (isV_int.2 rfl) (Gd.get hn.1 hp) (hx824_6 hp), gdF rfl rfl fun hp b q hk hn => ok_sub rfl (isV_int.2 rfl) (Gd.get hn.1 hp) (hx824_7 hp), gdF rfl rfl fun hp b q hk hn => ok_call rfl Try.call24 (within_ok (Gd.get hn.1 hp) (isV_int.2 rfl) (Gd.get hn.2.1 hp) (hx824_8 hp)), gdF rfl rfl fun hp b q hk hn => ok_not rfl (Gd.get hn.1 hp), ob1 rfl fun b q hk hn => ok_pickM rfl hn.1 hx824_10 (fun _ => (isV_bool.2 rfl)) (fun hm => (Gd.get hn.2.1 hm)), trivial⟩ hQQ865 fun b q p => ?_
    exact tail_done (k := q) (hp866 _ _ ⟨Bs.post ⟨hg, hs, hd⟩ p, keep p 0 rfl i0, keep p 1 rfl i1, keep p 2 rfl i2, keep p 7 rfl i7, out p 10 23 _ rfl rfl rfl, trivial⟩)
  rintro a k ⟨⟨hg, hs, hd⟩, i0, i1, i2, i7, i23, _⟩
  refine wp_cond_split (isBool i23) (fun hc864 => ?_) (fun hc864 => ?_)
  · rw [if_pos hc864] at hr
    refine wp_seq ?_
    refine cut (fun a' k' => Bs noF k0 102 a' k' ∧ (IsV x823_0) (a'.get 6) k' ∧ True) ?_ hQ ?_
    · intro Q826 hQQ826 hp827
      refine regionS (a0 := a) (k0 := k) (n := 102) (m := 2) (⟨some (IsV x823_0), [(7, none)]⟩ :: ⟨some (IsV x823_0), [(24, some 0)]⟩ :: []) hs (by kernel_rfl) ⟨ob1 rfl fun b q hk hn => ok_move rfl (up i7 hk hn.1), ob1 rfl fun b q hk hn => ok_assign rfl hn.1, trivial⟩ hQQ826 fun b q p => ?_
      exact tail_done (k := q) (hp827 _ _ ⟨Bs.post ⟨hg, hs, hd⟩ p, out p 1 6 _ rfl rfl rfl, trivial⟩)
    rintro a k ⟨⟨hg, hs, hd⟩, i6, _⟩
    refine wp_ret ?_
    obtain rfl := Option.some.inj hr
    exact retC1 rfl hd hg i6
  rw [if_neg (by rw [hc864]; decide)] at hr
  refine wp_skip ?_
  refine wp_seq ?_
  obtain ⟨x828_2, hx828_2, hr⟩ := bind_some hr
  obtain ⟨x828_3, hx828_3, hr⟩ := bind_some hr
  refine cut (fun a' k' => Bs noF k0 102 a' k' ∧ (IsV day) (a'.get 0) k' ∧ (IsV weeks) (a'.get 1) k' ∧ (IsV holiday) (a'.get 2) k' ∧ (IsV x823_0) (a'.get 7) k' ∧ (IsV x828_3) (a'.get 8) k' ∧ True) ?_ hQ ?_
  · intro Q862 hQQ862 hp863
    refine regionS (a0 := a) (k0 := k) (n := 102) (m := 5) (⟨some (IsV day), [(0, none)]⟩ :: ⟨some (IsV weeks), [(1, none)]⟩ :: ⟨some (IsV x828_2), [(26, some 1)]⟩ :: ⟨some (IsV x828_3), [(25, some 0), (27, some 2)]⟩ :: ⟨some (IsV x828_3), [(28, some 3)]⟩ :: []) hs (by kernel_rfl) ⟨ob1 rfl fun b q hk hn => ok_move rfl (up i0 hk hn.1), ob1 rfl fun b q hk hn => ok_move rfl (up i1 hk hn.1), ob1 rfl fun b q hk hn => ok_mul rfl (isV_int.2 rfl) hn.1 hx828_2, ob1 rfl fun b q hk hn => ok_add rfl hn.1 hn.2.1 hx828_3, ob1 rfl fun b q hk hn => ok_assign rfl hn.1, trivial⟩ hQQ862 fun b q p => ?_
    exact tail_done (k := q) (hp863 _ _ ⟨Bs.post ⟨hg, hs, hd⟩ p, keep p 0 rfl i0, keep p 1 rfl i1, keep p 2 rfl i2, keep p 7 rfl i7, out p 4 8 _ rfl rfl rfl, trivial⟩)
  rintro a k ⟨⟨hg, hs, hd⟩, i0, i1, i2, i7, i8, _⟩
  refine wp_seq ?_
  obtain ⟨x829_2, hx829_2, hr⟩ := bind_some hr
  obtain ⟨x829_3, hx829_3, hr⟩ := bind_some hr
  refine cut (fun a' k' => Bs noF k0 102 a' k' ∧ (IsV day) (a'.get 0) k' ∧ (IsV weeks) (a'.get 1) k' ∧ (IsV holiday) (a'.get 2) k' ∧ (IsV x823_0) (a'.get 7) k' ∧ (IsV x828_3) (a'.get 8) k' ∧ (IsV x829_3.1) (a'.get 9) k' ∧ (IsV x829_3.2) (a'.get 10) k' ∧ True) ?_ hQ ?_
  · intro Q860 hQQ860 hp861
    refine regionS (a0 := a) (k0 := k) (n := 102) (m := 9) (⟨some (IsV day), [(0, none)]⟩ :: ⟨some (IsV weeks), [(1, none)]⟩ :: ⟨some (IsV x829_2), [(31, some 1)]⟩ :: ⟨some (IsTup2 (IsV x829_3.1) (IsV x829_3.2)), [(30, some 0), (32, some 2)]⟩ :: ⟨some (IsTup2 (IsV x829_3.1) (IsV x829_3.2)), [(33, some 3)]⟩ :: ⟨some (IsV x829_3.1), [(29, some 4)]⟩ :: ⟨some (IsV x829_3.2), [(29, some 4)]⟩ :: ⟨some (IsV x829_3.1), [(34, some 5)]⟩ :: ⟨some (IsV x829_3.2), [(35, some 6)]⟩ :: []) hs (by kernel_rfl) ⟨ob1 rfl fun b q hk hn => ok_move rfl (up i0 hk hn.1), ob1 rfl fun b q hk hn => ok_move rfl (up i1 hk hn.1), ob1 rfl fun b q hk hn => ok_mul rfl (isV_int.2 rfl) hn.1 hx829_2, ob1 rfl fun b q hk hn => ok_call rfl Try.call9 (calAdd_ok (isV_list.2 (.inl ⟨rfl, rfl⟩)) hn.1 hn.2.1 hx829_3), ob1 rfl fun b q hk hn => ok_move rfl hn.1, ob1 rfl fun b q hk hn => ok_ext2_0 rfl hn.1, ob1 rfl fun b q hk hn => ok_ext2_1 rfl hn.1, ob1 rfl fun b q hk hn => ok_assign rfl hn.1, ob1 rfl fun b q hk hn => ok_assign rfl hn.1, trivial⟩ hQQ860 fun b q p => ?_
    exact tail_done (k := q) (hp861 _ _ ⟨Bs.post ⟨hg, hs, hd⟩ p, keep p 0 rfl i0, keep p 1 rfl i1, keep p 2 rfl i2, keep p 7 rfl i7, keep p 8 rfl i8, out p 7 9 _ rfl rfl rfl, out p 8 10 _ rfl rfl rfl, trivial⟩)
  rintro a k ⟨⟨hg, hs, hd⟩, i0, i1, i2, i7, i8, i9, i10, _⟩
  refine wp_seq ?_
  refine wp_seq ?_
  obtain ⟨x830_2, hx830_2, hr⟩ := bind_some hr
  obtain ⟨x830_4, hx830_4, hr⟩ := bind_some hr
  obtain ⟨x830_17, hx830_17, hr⟩ := bind_some hr
  obtain ⟨x830_12, hx830_12, hx830_17⟩ := ite_bindF hx830_17
  obtain ⟨x830_14, hx830_14, hx830_17⟩ := ite_bindF hx830_17
  obtain ⟨x830_26, hx830_26, hr⟩ := bind_some hr
  obtain ⟨x830_20, hx830_20, hx830_26⟩ := ite_bindF hx830_26
  refine cut (fun a' k' => Bs noF k0 102 a' k' ∧ (IsV day) (a'.get 0) k' ∧ (IsV weeks) (a'.get 1) k' ∧ (IsV holiday) (a'.get 2) k' ∧ (IsV x823_0) (a'.get 7) k' ∧ (IsV x828_3) (a'.get 8) k' ∧ (IsV x830_26) (a'.get 62) k' ∧ True) ?_ hQ ?_
  · intro Q858 hQQ858 hp859
    refine regionS (a0 := a) (k0 := k) (n := 102) (m := 27) (⟨some (IsV day), [(0, none)]⟩ :: ⟨some (IsV x828_3), [(8, none)]⟩ :: ⟨some (IsV x830_2), [(36, some 0), (37, some 1)]⟩ :: ⟨some (IsV weeks), [(1, none)]⟩ :: ⟨some (IsV x830_4), [(39, some 3)]⟩ :: ⟨some (IsV (x830_2 != x830_4)), [(38, some 2), (40, some 4)]⟩ :: ⟨some (IsV (x830_2 != x830_4)), [(41, some 5)]⟩ :: ⟨some (Gd ((x830_2 != x830_4) = false) (IsV x829_3.2)), [(10, none)]⟩ :: ⟨some (Gd ((x830_2 != x830_4) = false) (IsV (x829_3.2 != 0))), [(43, some 7)]⟩ :: ⟨some (IsV ((x830_2 != x830_4) || (x829_3.2 != 0))), [(42, some 6), (44, some 8)]⟩ :: ⟨some (IsV ((x830_2 != x830_4) || (x829_3.2 != 0))), [(45, some 9)]⟩ :: ⟨some (Gd (((x830_2 != x830_4) || (x829_3.2 != 0)) = false) (IsV day)), [(0, none)]⟩ :: ⟨some (Gd (((x830_2 != x830_4) || (x829_3.2 != 0)) = false) (IsV x830_12)), [(47, some 11)]⟩ :: ⟨some (Gd (((x830_2 != x830_4) || (x829_3.2 != 0)) = false) (IsV day)), [(0, none)]⟩ :: ⟨some (Gd (((x830_2 != x830_4) || (x829_3.2 != 0)) = false) (IsV x830_14)), [(49, some 13)]⟩ :: ⟨some (Gd (((x830_2 != x830_4) || (x829_3.2 != 0)) = false) (IsV (decide (x830_14 < 5)))), [(50, some 14)]⟩ :: ⟨some (Gd (((x830_2 != x830_4) || (x829_3.2 != 0)) = false) (IsV (x830_12 != (decide (x830_14 < 5))))), [(48, some 12), (51, some 15)]⟩ :: ⟨some (IsV x830_17), [(46, some 10), (52, some 16)]⟩ :: ⟨some (IsV x830_17), [(53, some 17)]⟩ :: ⟨some (Gd (x830_17 = false) (IsV day)), [(0, none)]⟩ :: ⟨some (Gd (x830_17 = false) (IsV x830_20)), [(55, some 19)]⟩ :: ⟨some (Gd (x830_17 = false) (IsV x830_20)), [(56, some 20)]⟩ :: ⟨some (Gd ((x830_17 = false) ∧ x830_20 = true) (IsV x829_3.1)), [(9, none)]⟩ :: ⟨some (Gd ((x830_17 = false) ∧ x830_20 = true) (IsV x828_3)), [(8, none)]⟩ :: ⟨some (Gd ((x830_17 = false) ∧ x830_20 = true) (IsV (x829_3.1 != x828_3))), [(58, some 22), (59, some 23)]⟩ :: ⟨some (Gd (x830_17 = false) (IsV (x830_20 && (x829_3.1 != x828_3)))), [(57, some 21), (60, some 24)]⟩ :: ⟨some (IsV x830_26), [(54, some 18), (61, some 25)]⟩ :: []) hs (by kernel_rfl) ⟨ob1 rfl fun b q hk hn => ok_move rfl (up i0 hk hn.1), ob1 rfl fun b q hk hn => ok_move rfl (up i8 hk hn.1), ob1 rfl fun b q hk hn => ok_call rfl Try.call19 (calBetween_ok (isV_list.2 (.inl ⟨rfl, rfl⟩)) hn.1 hn.2.1 hx830_2), ob1 rfl fun b q hk hn => ok_move rfl (up i1 hk hn.1), ob1 rfl fun b q hk hn => ok_mul rfl (isV_int.2 rfl) hn.1 hx830_4, ob1 rfl fun b q hk hn => ok_neI rfl hn.1 hn.2.1, ob1 rfl fun b q hk hn => ok_move rfl hn.1, gdF rfl rfl fun hp b q hk hn => ok_move rfl (up i10 hk hn.1), gdF rfl rfl fun hp b q hk hn => ok_neI rfl (Gd.get hn.1 hp) (isV_int.2 rfl), ob1 rfl fun b q hk hn => ok_pickOr rfl hn.1 (fun _ => (isV_bool.2 rfl)) (fun hm => (Gd.get hn.2.1 hm)), ob1 rfl fun b q hk hn => ok_move rfl hn.1, gdF rfl rfl fun hp b q hk hn => ok_move rfl (up i0 hk hn.1), gdF rfl rfl fun hp b q hk hn => ok_call rfl Try.call15 (calIsWork_ok (isV_list.2 (.inl ⟨rfl, rfl⟩)) (Gd.get hn.1 hp) (hx830_12 hp)), gdF rfl rfl fun hp b q hk hn => ok_move rfl (up i0 hk hn.1), gdF rfl rfl fun hp b q hk hn => ok_rem rfl (Gd.get hn.1 hp) (isV_int.2 rfl) (hx830_14 hp), gdF rfl rfl fun hp b q hk hn => ok_lss rfl (Gd.get hn.1 hp) (isV_int.2 rfl), gdF rfl rfl fun hp b q hk hn => ok_neB rfl Try.underlying4 (Gd.get hn.1 hp) (Gd.get hn.2.1 hp), ob1 rfl fun b q hk hn => ok_pickM rfl hn.1 hx830_17 (fun _ => (isV_bool.2 rfl)) (fun hm => (Gd.get hn.2.1 hm)), ob1 rfl fun b q hk hn => ok_move rfl hn.1, gdF rfl rfl fun hp b q hk hn => ok_move rfl (up i0 hk hn.1), gdF rfl rfl fun hp b q hk hn => ok_call rfl Try.call15 (calIsWork_ok (isV_list.2 (.inl ⟨rfl, rfl⟩)) (Gd.get hn.1 hp) (hx830_20 hp)), gdF rfl rfl fun hp b q hk hn => ok_move rfl (Gd.get hn.1 hp), gdTT rfl rfl fun hp b q hk hn => ok_move rfl (up i9 hk hn.1), gdTT rfl rfl fun hp b q hk hn => ok_move rfl (up i8 hk hn.1), gdTT rfl rfl fun hp b q hk hn => ok_neI rfl (Gd.get hn.1 hp) (Gd.get hn.2.1 hp), gdF rfl rfl fun hp b q hk hn => ok_pickAnd rfl (Gd.get hn.1 hp) (fun hm => (Gd.get hn.2.1 ⟨hp, hm⟩)) (fun _ => (isV_bool.2 rfl)), ob1 rfl fun b q hk hn => ok_pickM rfl hn.1 hx830_26 (fun _ => (isV_bool.2 rfl)) (fun hm => (Gd.get hn.2.1 hm)), trivial⟩ hQQ858 fun b q p => ?_
    exact tail_done (k := q) (hp859 _ _ ⟨Bs.post ⟨hg, hs, hd⟩ p, keep p 0 rfl i0, keep p 1 rfl i1, keep p 2 rfl i2, keep p 7 rfl i7, keep p 8 rfl i8, out p 26 62 _ rfl rfl rfl, trivial⟩)
  rintro a k ⟨⟨hg, hs, hd⟩, i0, i1, i2, i7, i8, i62, _⟩
  refine wp_cond_split (isBool i62) (fun hc857 => ?_) (fun hc857 => ?_)
  · rw [if_pos hc857] at hr
    refine wp_seq ?_
    refine cut (fun a' k' => Bs noF k0 102 a' k' ∧ (IsV false) (a'.get 6) k' ∧ True) ?_ hQ ?_
    · intro Q832 hQQ832 hp833
      refine regionS (a0 := a) (k0 := k) (n := 102) (m := 1) (⟨some (IsV false), []⟩ :: []) hs (by kernel_rfl) ⟨ob1 rfl fun b q hk hn => ok_assign rfl (isV_bool.2 rfl), trivial⟩ hQQ832 fun b q p => ?_
      exact tail_done (k := q) (hp833 _ _ ⟨Bs.post ⟨hg, hs, hd⟩ p, out p 0 6 _ rfl rfl rfl, trivial⟩)
    rintro a k ⟨⟨hg, hs, hd⟩, i6, _⟩
    refine wp_ret ?_
    obtain rfl := Option.some.inj hr
    exact retC1 rfl hd hg i6
  rw [if_neg (by rw [hc857]; decide)] at hr
  refine wp_skip ?_
  refine wp_seq ?_
  refine wp_seq ?_
  obtain ⟨x834_1, hx834_1, hr⟩ := bind_some hr
  refine cut (fun a' k' => Bs noF k0 102 a' k' ∧ (IsV day) (a'.get 0) k' ∧ (IsV weeks) (a'.get 1) k' ∧ (IsV holiday) (a'.get 2) k' ∧ (IsV x823_0) (a'.get 7) k' ∧ (IsV x828_3) (a'.get 8) k' ∧ (IsV (!x834_1)) (a'.get 65) k' ∧ True) ?_ hQ ?_
  · intro Q855 hQQ855 hp856
    refine regionS (a0 := a) (k0 := k) (n := 102) (m := 3) (⟨some (IsV holiday), [(2, none)]⟩ :: ⟨some (IsV x834_1), [(63, some 0)]⟩ :: ⟨some (IsV (!x834_1)), [(64, some 1)]⟩ :: []) hs (by kernel_rfl) ⟨ob1 rfl fun b q hk hn => ok_move rfl (up i2 hk hn.1), ob1 rfl fun b q hk hn => ok_call rfl Try.call24 (within_ok hn.1 (isV_int.2 rfl) (isV_int.2 rfl) hx834_1), ob1 rfl fun b q hk hn => ok_not rfl hn.1, trivial⟩ hQQ855 fun b q p => ?_
    exact tail_done (k := q) (hp856 _ _ ⟨Bs.post ⟨hg, hs, hd⟩ p, keep p 0 rfl i0, keep p 1 rfl i1, keep p 2 rfl i2, keep p 7 rfl i7, keep p 8 rfl i8, out p 2 65 _ rfl rfl rfl, trivial⟩)
  rintro a k ⟨⟨hg, hs, hd⟩, i0, i1, i2, i7, i8, i65, _⟩
  refine wp_cond_split (isBool i65) (fun hc854 => ?_) (fun hc854 => ?_)
  · rw [if_pos hc854] at hr
    refine wp_seq ?_
    obtain ⟨x835_8, hx835_8, hr⟩ := bind_some hr
    obtain ⟨x835_6, hx835_6, hx835_8⟩ := ite_bind hx835_8
    refine cut (fun a' k' => Bs noF k0 102 a' k' ∧ (IsV x835_8) (a'.get 6) k' ∧ True) ?_ hQ ?_
    · intro Q836 hQQ836 hp837
      refine regionS (a0 := a) (k0 := k) (n := 102) (m := 10) (⟨some (IsV x823_0), [(7, none)]⟩ :: ⟨some (IsV x823_0), [(66, some 0)]⟩ :: ⟨some (Gd (x823_0 = true) (IsV holiday)), [(2, none)]⟩ :: ⟨some (Gd (x823_0 = true) (IsV ([holiday]))), [(68, some 2)]⟩ :: ⟨some (Gd (x823_0 = true) (IsV day)), [(0, none)]⟩ :: ⟨some (Gd (x823_0 = true) (IsV x828_3)), [(8, none)]⟩ :: ⟨some (Gd (x823_0 = true) (IsV x835_6)), [(69, some 3), (70, some 4), (71, some 5)]⟩ :: ⟨some (Gd (x823_0 = true) (IsV (x835_6 == 0))), [(72, some 6)]⟩ :: ⟨some (IsV x835_8), [(67, some 1), (73, some 7)]⟩ :: ⟨some (IsV x835_8), [(74, some 8)]⟩ :: []) hs (by kernel_rfl) ⟨ob1 rfl fun b q hk hn => ok_move rfl (up i7 hk hn.1), ob1 rfl fun b q hk hn => ok_move rfl hn.1, gdT rfl rfl fun hp b q hk hn => ok_move rfl (up i2 hk hn.1), gdT rfl rfl fun hp b q hk hn => ok_buildSlice rfl Try.underlying22 eo3 rfl (by decide) (by decide) ⟨rfl, (Gd.get hn.1 hp), trivial⟩, gdT rfl rfl fun hp b q hk hn => ok_move rfl (up i0 hk hn.1), gdT rfl rfl fun hp b q hk hn => ok_move rfl (up i8 hk hn.1), gdT rfl rfl fun hp b q hk hn => ok_call rfl Try.call19 (calBetween_ok (Gd.get hn.1 hp) (Gd.get hn.2.1 hp) (Gd.get hn.2.2.1 hp) (hx835_6 hp)), gdT rfl rfl fun hp b q hk hn => ok_eqI rfl (Gd.get hn.1 hp) (isV_int.2 rfl), ob1 rfl fun b q hk hn => ok_pickM rfl hn.1 hx835_8 (fun hm => (Gd.get hn.2.1 hm)) (fun _ => (isV_bool.2 rfl)), ob1 rfl fun b q hk hn => ok_assign rfl hn.1, trivial⟩ hQQ836 fun b q p => ?_
      exact tail_done (k := q) (hp837 _ _ ⟨Bs.post ⟨hg, hs, hd⟩ p, out p 9 6 _ rfl rfl rfl, trivial⟩)
    rintro a k ⟨⟨hg, hs, hd⟩, i6, _⟩
    refine wp_ret ?_
    obtain rfl := Option.some.inj hr
    exact retC1 rfl hd hg i6
  rw [if_neg (by rw [hc854]; decide)] at hr
  refine wp_skip ?_
  refine wp_seq ?_
  obtain ⟨x838_1, hx838_1, hr⟩ := bind_some hr
  refine cut (fun a' k' => Bs noF k0 102 a' k' ∧ (IsV day) (a'.get 0) k' ∧ (IsV holiday) (a'.get 2) k' ∧ (IsV x823_0) (a'.get 7) k' ∧ (IsV x828_3) (a'.get 8) k' ∧ (IsV x838_1) (a'.get 11) k' ∧ True) ?_ hQ ?_
  · intro Q852 hQQ852 hp853
    refine regionS (a0 := a) (k0 := k) (n := 102) (m := 3) (⟨some (IsV weeks), [(1, none)]⟩ :: ⟨some (IsV x838_1), [(75, some 0)]⟩ :: ⟨some (IsV x838_1), [(76, some 1)]⟩ :: []) hs (by kernel_rfl) ⟨ob1 rfl fun b q hk hn => ok_move rfl (up i1 hk hn.1), ob1 rfl fun b q hk hn => ok_mul rfl (isV_int.2 rfl) hn.1 hx838_1, ob1 rfl fun b q hk hn => ok_assign rfl hn.1, trivial⟩ hQQ852 fun b q p => ?_
    exact tail_done (k := q) (hp853 _ _ ⟨Bs.post ⟨hg, hs, hd⟩ p, keep p 0 rfl i0, keep p 2 rfl i2, keep p 7 rfl i7, keep p 8 rfl i8, out p 2 11 _ rfl rfl rfl, trivial⟩)
  rintro a k ⟨⟨hg, hs, hd⟩, i0, i2, i7, i8, i11, _⟩
  refine wp_seq ?_
  refine wp_seq ?_
  obtain ⟨x839_12, hx839_12, hr⟩ := bind_some hr
  obtain ⟨x839_10, hx839_10, hx839_12⟩ := ite_bind hx839_12
  refine cut (fun a' k' => Bs noF k0 102 a' k' ∧ (IsV day) (a'.get 0) k' ∧ (IsV holiday) (a'.get 2) k' ∧ (IsV x823_0) (a'.get 7) k' ∧ (IsV x828_3) (a'.get 8) k' ∧ (IsV x838_1) (a'.get 11) k' ∧ (IsV x839_12) (a'.get 89) k' ∧ True) ?_ hQ ?_
  · intro Q850 hQQ850 hp851
    refine regionS (a0 := a) (k0 := k) (n := 102) (m := 13) (⟨some (IsV day), [(0, none)]⟩ :: ⟨some (IsV holiday), [(2, none)]⟩ :: ⟨some (IsV (decide (day < holiday))), [(77, some 0), (78, some 1)]⟩ :: ⟨some (IsV (decide (day < holiday))), [(79, some 2)]⟩ :: ⟨some (Gd ((decide (day < holiday)) = true) (IsV holiday)), [(2, none)]⟩ :: ⟨some (Gd ((decide (day < holiday)) = true) (IsV x828_3)), [(8, none)]⟩ :: ⟨some (Gd ((decide (day < holiday)) = true) (IsV (decide (holiday ≤ x828_3)))), [(81, some 4), (82, some 5)]⟩ :: ⟨some (IsV ((decide (day < holiday)) && (decide (holiday ≤ x828_3)))), [(80, some 3), (83, some 6)]⟩ :: ⟨some (IsV ((decide (day < holiday)) && (decide (holiday ≤ x828_3)))), [(84, some 7)]⟩ :: ⟨some (Gd (((decide (day < holiday)) && (decide (holiday ≤ x828_3))) = true) (IsV holiday)), [(2, none)]⟩ :: ⟨some (Gd (((decide (day < holiday)) && (decide (holiday ≤ x828_3))) = true) (IsV x839_10)), [(86, some 9)]⟩ :: ⟨some (Gd (((decide (day < holiday)) && (decide (holiday ≤ x828_3))) = true) (IsV (decide (x839_10 < 5)))), [(87, some 10)]⟩ :: ⟨some (IsV x839_12), [(85, some 8), (88, some 11)]⟩ :: []) hs (by kernel_rfl) ⟨ob1 rfl fun b q hk hn => ok_move rfl (up i0 hk hn.1), ob1 rfl fun b q hk hn => ok_move rfl (up i2 hk hn.1), ob1 rfl fun b q hk hn => ok_lss rfl hn.1 hn.2.1, ob1 rfl fun b q hk hn => ok_move rfl hn.1, gdT rfl rfl fun hp b q hk hn => ok_move rfl (up i2 hk hn.1), gdT rfl rfl fun hp b q hk hn => ok_move rfl (up i8 hk hn.1), gdT rfl rfl fun hp b q hk hn => ok_leq rfl (Gd.get hn.1 hp) (Gd.get hn.2.1 hp), ob1 rfl fun b q hk hn => ok_pickAnd rfl hn.1 (fun hm => (Gd.get hn.2.1 hm)) (fun _ => (isV_bool.2 rfl)), ob1 rfl fun b q hk hn => ok_move rfl hn.1, gdT rfl rfl fun hp b q hk hn => ok_move rfl (up i2 hk hn.1), gdT rfl rfl fun hp b q hk hn => ok_rem rfl (Gd.get hn.1 hp) (isV_int.2 rfl) (hx839_10 hp), gdT rfl rfl fun hp b q hk hn => ok_lss rfl (Gd.get hn.1 hp) (isV_int.2 rfl), ob1 rfl fun b q hk hn => ok_pickM rfl hn.1 hx839_12 (fun hm => (Gd.get hn.2.1 hm)) (fun _ => (isV_bool.2 rfl)), trivial⟩ hQQ850 fun b q p => ?_
    exact tail_done (k := q) (hp851 _ _ ⟨Bs.post ⟨hg, hs, hd⟩ p, keep p 0 rfl i0, keep p 2 rfl i2, keep p 7 rfl i7, keep p 8 rfl i8, keep p 11 rfl i11, out p 12 89 _ rfl rfl rfl, trivial⟩)
  rintro a k ⟨⟨hg, hs, hd⟩, i0, i2, i7, i8, i11, i89, _⟩
  obtain ⟨s840, hs840, hr⟩ := bind_some hr
  refine cut (fun a' k' => Bs noF k0 102 a' k' ∧ (IsV day) (a'.get 0) k' ∧ (IsV holiday) (a'.get 2) k' ∧ (IsV x823_0) (a'.get 7) k' ∧ (IsV x828_3) (a'.get 8) k' ∧ (IsV s840) (a'.get 11) k' ∧ True) ?_ hQ ?_
  · intro Q849 hQQ849 hp841
    replace hr := hs840
    clear hQ
    have hQ := hQQ849
    refine wp_cond_split (isBool i89) (fun hc845 => ?_) (fun hc845 => ?_)
    · rw [if_pos hc845] at hr
      obtain ⟨x842_1, hx842_1, hr⟩ := bind_some hr
      refine cut (fun a' k' => Bs noF k0 102 a' k' ∧ (IsV day) (a'.get 0) k' ∧ (IsV holiday) (a'.get 2) k' ∧ (IsV x823_0) (a'.get 7) k' ∧ (IsV x828_3) (a'.get 8) k' ∧ (IsV x842_1) (a'.get 11) k' ∧ True) ?_ hQ ?_
      · intro Q843 hQQ843 hp844
        refine regionS (a0 := a) (k0 := k) (n := 102) (m := 3) (⟨some (IsV x838_1), [(11, none)]⟩ :: ⟨some (IsV x842_1), [(90, some 0)]⟩ :: ⟨some (IsV x842_1), [(91, some 1)]⟩ :: []) hs (by kernel_rfl) ⟨ob1 rfl fun b q hk hn => ok_move rfl (up i11 hk hn.1), ob1 rfl fun b q hk hn => ok_sub rfl hn.1 (isV_int.2 rfl) hx842_1, ob1 rfl fun b q hk hn => ok_assign rfl hn.1, trivial⟩ hQQ843 fun b q p => ?_
        exact tail_done (k := q) (hp844 _ _ ⟨Bs.post ⟨hg, hs, hd⟩ p, keep p 0 rfl i0, keep p 2 rfl i2, keep p 7 rfl i7, keep p 8 rfl i8, out p 2 11 _ rfl rfl rfl, trivial⟩)
      rintro a k ⟨⟨hg, hs, hd⟩, i0, i2, i7, i8, i11, _⟩
      obtain rfl := Option.some.inj hr
      exact hp841 _ _ ⟨⟨hg, hs, hd⟩, i0, i2, i7, i8, i11, trivial⟩
    rw [if_neg (by rw [hc845]; decide)] at hr
    refine wp_skip ?_
    obtain rfl := Option.some.inj hr
    exact hp841 _ _ ⟨⟨hg, hs, hd⟩, i0, i2, i7, i8, i11, trivial⟩
  clear hs840
  rintro a k ⟨⟨hg, hs, hd⟩, i0, i2, i7, i8, i11, _⟩
  refine wp_seq ?_
  obtain ⟨x846_9, hx846_9, hr⟩ := bind_some hr
  obtain ⟨x846_6, hx846_6, hx846_9⟩ := ite_bind hx846_9
  refine cut (fun a' k' => Bs noF k0 102 a' k' ∧ (IsV x846_9) (a'.get 6) k' ∧ True) ?_ hQ ?_
  · intro Q847 hQQ847 hp848
    refine regionS (a0 := a) (k0 := k) (n := 102) (m := 11) (⟨some (IsV x823_0), [(7, none)]⟩ :: ⟨some (IsV x823_0), [(92, some 0)]⟩ :: ⟨some (Gd (x823_0 = true) (IsV holiday)), [(2, none)]⟩ :: ⟨some (Gd (x823_0 = true) (IsV ([holiday]))), [(94, some 2)]⟩ :: ⟨some (Gd (x823_0 = true) (IsV day)), [(0, none)]⟩ :: ⟨some (Gd (x823_0 = true) (IsV x828_3)), [(8, none)]⟩ :: ⟨some (Gd (x823_0 = true) (IsV x846_6)), [(95, some 3), (96, some 4), (97, some 5)]⟩ :: ⟨some (Gd (x823_0 = true) (IsV s840)), [(11, none)]⟩ :: ⟨some (Gd (x823_0 = true) (IsV (x846_6 == s840))), [(98, some 6), (99, some 7)]⟩ :: ⟨some (IsV x846_9), [(93, some 1), (100, some 8)]⟩ :: ⟨some (IsV x846_9), [(101, some 9)]⟩ :: []) hs (by kernel_rfl) ⟨ob1 rfl fun b q hk hn => ok_move rfl (up i7 hk hn.1), ob1 rfl fun b q hk hn => ok_move rfl hn.1, gdT rfl rfl fun hp b q hk hn => ok_move rfl (up i2 hk hn.1), gdT rfl rfl fun hp b q hk hn => ok_buildSlice rfl Try.underlying22 eo3 rfl (by decide) (by decide) ⟨rfl, (Gd.get hn.1 hp), trivial⟩, gdT rfl rfl fun hp b q hk hn => ok_move rfl (up i0 hk hn.1), gdT rfl rfl fun hp b q hk hn => ok_move rfl (up i8 hk hn.1), gdT rfl rfl fun hp b q hk hn => ok_call rfl Try.call19 (calBetween_ok (Gd.get hn.1 hp) (Gd.get hn.2.1 hp) (Gd.get hn.2.2.1 hp) (hx846_6 hp)), gdT rfl rfl fun hp b q hk hn => ok_move rfl (up i11 hk hn.1), gdT rfl rfl fun hp b q hk hn => ok_eqI rfl (Gd.get hn.1 hp) (Gd.get hn.2.1 hp), ob1 rfl fun b q hk hn => ok_pickM rfl hn.1 hx846_9 (fun hm => (Gd.get hn.2.1 hm)) (fun _ => (isV_bool.2 rfl)), ob1 rfl fun b q hk hn => ok_assign rfl hn.1, trivial⟩ hQQ847 fun b q p => ?_
    exact tail_done (k := q) (hp848 _ _ ⟨Bs.post ⟨hg, hs, hd⟩ p, out p 10 6 _ rfl rfl rfl, trivial⟩)
  rintro a k ⟨⟨hg, hs, hd⟩, i6, _⟩
  refine wp_ret ?_
  obtain rfl := Option.some.inj hr
  exact retC1 rfl hd hg i6
end Go.Proofs.Ytdpekblabnfjnaa
