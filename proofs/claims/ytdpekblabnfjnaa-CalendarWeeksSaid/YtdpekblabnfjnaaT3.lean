/- What the functions of calendar compute, part 3 -/
import Derived.Test.YtdpekblabnfjnaaT2
namespace Go.Proofs.Ytdpekblabnfjnaa
open Go.Gb
set_option linter.unusedVariables false
set_option linter.unusedSimpArgs false
def lawDays_L0 (stays : (List Stay)) (s530 : Bool × Int) : Option (Flow (Bool × Int) (Bool)) :=
  if (decide (s530.2 < (stays.length : Int))) then
    (if s530.1 then
      (getI stays s530.2).bind fun x535_4 =>
      some (decide (0 ≤ x535_4.From))
    else
      some false).bind fun x535_8 =>
    (if x535_8 then
      (getI stays s530.2).bind fun x535_12 =>
      (getI stays s530.2).bind fun x535_17 =>
      some (decide (x535_12.From ≤ x535_17.To))
    else
      some false).bind fun x535_21 =>
    (if x535_21 then
      (getI stays s530.2).bind fun x535_25 =>
      some (decide (x535_25.To ≤ 1073741824))
    else
      some false).bind fun x535_29 =>
    (addI s530.2 1).bind fun x536_1 =>
    some (.go (x535_29, x536_1))
  else
    some (.ex 0 (s530.1, s530.2))
def lawDays_L2 (holidays : (List Int)) (s549 : Int × Int × Int) (s556 : Bool × Int) : Option (Flow (Bool × Int) (Bool)) :=
  if (decide (s556.2 < (holidays.length : Int))) then
    (if s556.1 then
      (getI holidays s556.2).bind fun x561_4 =>
      some (x561_4 != s549.2.2)
    else
      some false).bind fun x561_8 =>
    (addI s556.2 1).bind fun x562_1 =>
    some (.go (x561_8, x562_1))
  else
    some (.ex 4 (s556.1, s556.2))
def lawDays_L3 (stays : (List Stay)) (s549 : Int × Int × Int) (s574 : Bool × Int) : Option (Flow (Bool × Int) (Bool)) :=
  if (decide (s574.2 < (stays.length : Int))) then
    (if s574.1 then
      (getI stays s574.2).bind fun x579_5 =>
      (if (decide (s549.2.2 < x579_5.From)) then
        some true
      else
        (getI stays s574.2).bind fun x579_13 =>
        some (decide (x579_13.To < s549.2.2))).bind fun x579_17 =>
      some x579_17
    else
      some false).bind fun x579_18 =>
    (addI s574.2 1).bind fun x580_1 =>
    some (.go (x579_18, x580_1))
  else
    some (.ex 6 (s574.1, s574.2))
def lawDays_L1 (holidays : (List Int)) (stays : (List Stay)) (a_ : Int) (days : Int) (x527_1 : Bool) (s545 : Bool × Int) (s549 : Int × Int × Int) : Option (Flow (Int × Int × Int) (Bool)) :=
  (addI a_ days).bind fun x553_3 =>
  if (decide (s549.2.2 ≤ x553_3)) then
    (if x527_1 then
      (remI s549.2.2 7).bind fun x554_3 =>
      some (decide (x554_3 < 5))
    else
      some false).bind fun x554_5 =>
    (iterL (lawDays_L2 holidays s549) (holidays.length + stays.length + 1) (x554_5, 0)).bind fun f570 => match f570 with
      | .go _ => none
      | .ex _ s571 =>
        (iterL (lawDays_L3 stays s549) (holidays.length + stays.length + 1) ((s571.1 && s545.1), 0)).bind fun f588 => match f588 with
          | .go _ => none
          | .ex _ s589 =>
            (calIsWork holidays s549.2.2).bind fun x590_2 =>
            (if (x590_2 != s571.1) then
              some true
            else
              (calCounts holidays stays s549.2.2).bind fun x590_9 =>
              some (x590_9 != s589.1)).bind fun x590_12 =>
            if x590_12 then
              some (.ret false)
            else
              (if s571.1 then
                (addI s549.1 1).bind fun x597_1 =>
                some x597_1
              else
                some s549.1).bind fun s595 =>
              (if s589.1 then
                (addI s549.2.1 1).bind fun x604_1 =>
                some x604_1
              else
                some s549.2.1).bind fun s602 =>
              (addI s549.2.2 1).bind fun x608_1 =>
              some (.go (s595, s602, x608_1))
          | .ret r620 => some (.ret r620)
      | .ret r626 => some (.ret r626)
  else
    some (.ex 2 (s549.1, s549.2.1, s549.2.2))
def lawDays (holidays : (List Int)) (stays : (List Stay)) (a_ : Int) (days : Int) : Option (Bool) :=
  (small).bind fun x522_0 =>
  (few holidays stays).bind fun x523_2 =>
  (if (!x523_2) then
    some true
  else
    (within a_ 0 1073741424).bind fun x523_6 =>
    some (!x523_6)).bind fun x523_8 =>
  (if x523_8 then
    some true
  else
    (within days 0 400).bind fun x523_11 =>
    some (!x523_11)).bind fun x523_13 =>
  if x523_13 then
    some x522_0
  else
    (calRight holidays).bind fun x527_1 =>
    (iterL (lawDays_L0 stays) (holidays.length + stays.length + 1) (true, 0)).bind fun f544 => match f544 with
      | .go _ => none
      | .ex _ s545 =>
        (addI a_ 1).bind fun x548_1 =>
        (iterL (lawDays_L1 holidays stays a_ days x527_1 s545) (days.toNat + 2) (0, 0, x548_1)).bind fun f635 => match f635 with
          | .go _ => none
          | .ex _ s636 =>
            (if x522_0 then
              (addI a_ days).bind fun x637_6 =>
              (calBetween holidays a_ x637_6).bind fun x637_7 =>
              some (x637_7 == s636.1)
            else
              some false).bind fun x637_10 =>
            (if x637_10 then
              (addI a_ days).bind fun x637_17 =>
              (calCount holidays stays a_ x637_17).bind fun x637_18 =>
              some (x637_18 == s636.2.1)
            else
              some false).bind fun x637_21 =>
            some x637_21
          | .ret r640 => some r640
      | .ret r648 => some r648
theorem lawDays_ok {k0 : K} {v0 v1 v2 v3 : Value} {holidays : (List Int)} {stays : (List Stay)} {a_ : Int} {days : Int} {r : Bool} (i0 : (IsV holidays) v0 k0) (i1 : (IsV stays) v1 k0) (i2 : (IsV a_) v2 k0) (i3 : (IsV days) v3 k0) (hr : lawDays holidays stays a_ days = some r) :
    Calls Try.prog 4 #[v0, v1, v2, v3] k0.w (Ret k0 (IsV r)) := by
  unfold lawDays at hr
  refine Ret.ofC ?_
  refine enterK Try.func4 rfl Try.ntmps4 (show 4 ≤ 174 by decide) fun a k hk0 hs hd ha => ?_
  obtain ⟨e0, e1, e2, e3, _⟩ := ha
  replace i0 : (IsV holidays) (a.get 0) k := by rw [e0, hk0]; exact i0
  replace i1 : (IsV stays) (a.get 1) k := by rw [e1, hk0]; exact i1
  replace i2 : (IsV a_) (a.get 2) k := by rw [e2, hk0]; exact i2
  replace i3 : (IsV days) (a.get 3) k := by rw [e3, hk0]; exact i3
  have hQ : Gb.LetsOut (bodyPost Try.prog Try.f4 (RetC noF k0 (IsV r))) := letsOutC
  have hg : Chg noF k0 k := by rw [hk0]; exact Chg.refl _ k0
  refine wp_seq ?_
  refine cut (fun a' k' => Bs noF k0 174 a' k' ∧ (IsV holidays) (a'.get 0) k' ∧ (IsV stays) (a'.get 1) k' ∧ (IsV a_) (a'.get 2) k' ∧ (IsV days) (a'.get 3) k' ∧ True) ?_ hQ ?_
  · intro Q661 hQQ661 hp662
    refine regionS (a0 := a) (k0 := k) (n := 174) (m := 1) (⟨some (IsV false), []⟩ :: []) hs (by kernel_rfl) ⟨ob1 rfl fun b q hk hn => ok_assign rfl (isV_bool.2 rfl), trivial⟩ hQQ661 fun b q p => ?_
    exact tail_done (k := q) (hp662 _ _ ⟨Bs.post ⟨hg, hs, hd⟩ p, keep p 0 rfl i0, keep p 1 rfl i1, keep p 2 rfl i2, keep p 3 rfl i3, trivial⟩)
  rintro a k ⟨⟨hg, hs, hd⟩, i0, i1, i2, i3, _⟩
  refine wp_seq ?_
  obtain ⟨x522_0, hx522_0, hr⟩ := bind_some hr
  refine cut (fun a' k' => Bs noF k0 174 a' k' ∧ (IsV holidays) (a'.get 0) k' ∧ (IsV stays) (a'.get 1) k' ∧ (IsV a_) (a'.get 2) k' ∧ (IsV days) (a'.get 3) k' ∧ (IsV x522_0) (a'.get 9) k' ∧ True) ?_ hQ ?_
  · intro Q659 hQQ659 hp660
    refine regionS (a0 := a) (k0 := k) (n := 174) (m := 2) (⟨some (IsV x522_0), []⟩ :: ⟨some (IsV x522_0), [(20, some 0)]⟩ :: []) hs (by kernel_rfl) ⟨ob1 rfl fun b q hk hn => ok_call rfl Try.call8 (small_ok hx522_0), ob1 rfl fun b q hk hn => ok_assign rfl hn.1, trivial⟩ hQQ659 fun b q p => ?_
    exact tail_done (k := q) (hp660 _ _ ⟨Bs.post ⟨hg, hs, hd⟩ p, keep p 0 rfl i0, keep p 1 rfl i1, keep p 2 rfl i2, keep p 3 rfl i3, out p 1 9 _ rfl rfl rfl, trivial⟩)
  rintro a k ⟨⟨hg, hs, hd⟩, i0, i1, i2, i3, i9, _⟩
  refine wp_seq ?_
  refine wp_seq ?_
  obtain ⟨x523_2, hx523_2, hr⟩ := bind_some hr
  obtain ⟨x523_8, hx523_8, hr⟩ := bind_some hr
  obtain ⟨x523_6, hx523_6, hx523_8⟩ := ite_bindF hx523_8
  obtain ⟨x523_13, hx523_13, hr⟩ := bind_some hr
  obtain ⟨x523_11, hx523_11, hx523_13⟩ := ite_bindF hx523_13
  refine cut (fun a' k' => Bs noF k0 174 a' k' ∧ (IsV holidays) (a'.get 0) k' ∧ (IsV stays) (a'.get 1) k' ∧ (IsV a_) (a'.get 2) k' ∧ (IsV days) (a'.get 3) k' ∧ (IsV x522_0) (a'.get 9) k' ∧ (IsV x523_13) (a'.get 34) k' ∧ True) ?_ hQ ?_
  · intro Q657 hQQ657 hp658
    refine regionS (a0 := a) (k0 := k) (n := 174) (m := 14) (⟨some (IsV holidays), [(0, none)]⟩ :: ⟨some (IsV stays), [(1, none)]⟩ :: ⟨some (IsV x523_2), [(21, some 0), (22, some 1)]⟩ :: ⟨some (IsV (!x523_2)), [(23, some 2)]⟩ :: ⟨some (IsV (!x523_2)), [(24, some 3)]⟩ :: ⟨some (Gd ((!x523_2) = false) (IsV a_)), [(2, none)]⟩ :: ⟨some (Gd ((!x523_2) = false) (IsV x523_6)), [(26, some 5)]⟩ :: ⟨some (Gd ((!x523_2) = false) (IsV (!x523_6))), [(27, some 6)]⟩ :: ⟨some (IsV x523_8), [(25, some 4), (28, some 7)]⟩ :: ⟨some (IsV x523_8), [(29, some 8)]⟩ :: ⟨some (Gd (x523_8 = false) (IsV days)), [(3, none)]⟩ :: ⟨some (Gd (x523_8 = false) (IsV x523_11)), [(31, some 10)]⟩ :: ⟨some (Gd (x523_8 = false) (IsV (!x523_11))), [(32, some 11)]⟩ :: ⟨some (IsV x523_13), [(30, some 9), (33, some 12)]⟩ :: []) hs (by kernel_rfl) ⟨ob1 rfl fun b q hk hn => ok_move rfl (up i0 hk hn.1), ob1 rfl fun b q hk hn => ok_move rfl (up i1 hk hn.1), ob1 rfl fun b q hk hn => ok_call rfl Try.call23 (few_ok hn.1 hn.2.1 hx523_2), ob1 rfl fun b q hk hn => ok_not rfl hn.1, ob1 rfl fun b q hk hn => ok_move rfl hn.1, gdF rfl rfl fun hp b q hk hn => ok_move rfl (up i2 hk hn.1), gdF rfl rfl fun hp b q hk hn => ok_call rfl Try.call24 (within_ok (Gd.get hn.1 hp) (isV_int.2 rfl) (isV_int.2 rfl) (hx523_6 hp)), gdF rfl rfl fun hp b q hk hn => ok_not rfl (Gd.get hn.1 hp), ob1 rfl fun b q hk hn => ok_pickM rfl hn.1 hx523_8 (fun _ => (isV_bool.2 rfl)) (fun hm => (Gd.get hn.2.1 hm)), ob1 rfl fun b q hk hn => ok_move rfl hn.1, gdF rfl rfl fun hp b q hk hn => ok_move rfl (up i3 hk hn.1), gdF rfl rfl fun hp b q hk hn => ok_call rfl Try.call24 (within_ok (Gd.get hn.1 hp) (isV_int.2 rfl) (isV_int.2 rfl) (hx523_11 hp)), gdF rfl rfl fun hp b q hk hn => ok_not rfl (Gd.get hn.1 hp), ob1 rfl fun b q hk hn => ok_pickM rfl hn.1 hx523_13 (fun _ => (isV_bool.2 rfl)) (fun hm => (Gd.get hn.2.1 hm)), trivial⟩ hQQ657 fun b q p => ?_
    exact tail_done (k := q) (hp658 _ _ ⟨Bs.post ⟨hg, hs, hd⟩ p, keep p 0 rfl i0, keep p 1 rfl i1, keep p 2 rfl i2, keep p 3 rfl i3, keep p 9 rfl i9, out p 13 34 _ rfl rfl rfl, trivial⟩)
  rintro a k ⟨⟨hg, hs, hd⟩, i0, i1, i2, i3, i9, i34, _⟩
  refine wp_cond_split (isBool i34) (fun hc656 => ?_) (fun hc656 => ?_)
  · rw [if_pos hc656] at hr
    refine wp_seq ?_
    refine cut (fun a' k' => Bs noF k0 174 a' k' ∧ (IsV x522_0) (a'.get 8) k' ∧ True) ?_ hQ ?_
    · intro Q525 hQQ525 hp526
      refine regionS (a0 := a) (k0 := k) (n := 174) (m := 2) (⟨some (IsV x522_0), [(9, none)]⟩ :: ⟨some (IsV x522_0), [(35, some 0)]⟩ :: []) hs (by kernel_rfl) ⟨ob1 rfl fun b q hk hn => ok_move rfl (up i9 hk hn.1), ob1 rfl fun b q hk hn => ok_assign rfl hn.1, trivial⟩ hQQ525 fun b q p => ?_
      exact tail_done (k := q) (hp526 _ _ ⟨Bs.post ⟨hg, hs, hd⟩ p, out p 1 8 _ rfl rfl rfl, trivial⟩)
    rintro a k ⟨⟨hg, hs, hd⟩, i8, _⟩
    refine wp_ret ?_
    obtain rfl := Option.some.inj hr
    exact retC1 rfl hd hg i8
  rw [if_neg (by rw [hc656]; decide)] at hr
  refine wp_skip ?_
  refine wp_seq ?_
  obtain ⟨x527_1, hx527_1, hr⟩ := bind_some hr
  refine cut (fun a' k' => Bs noF k0 174 a' k' ∧ (IsV holidays) (a'.get 0) k' ∧ (IsV stays) (a'.get 1) k' ∧ (IsV a_) (a'.get 2) k' ∧ (IsV days) (a'.get 3) k' ∧ (IsV x522_0) (a'.get 9) k' ∧ (IsV x527_1) (a'.get 10) k' ∧ True) ?_ hQ ?_
  · intro Q654 hQQ654 hp655
    refine regionS (a0 := a) (k0 := k) (n := 174) (m := 3) (⟨some (IsV holidays), [(0, none)]⟩ :: ⟨some (IsV x527_1), [(36, some 0)]⟩ :: ⟨some (IsV x527_1), [(37, some 1)]⟩ :: []) hs (by kernel_rfl) ⟨ob1 rfl fun b q hk hn => ok_move rfl (up i0 hk hn.1), ob1 rfl fun b q hk hn => ok_call rfl Try.call13 (calRight_ok hn.1 hx527_1), ob1 rfl fun b q hk hn => ok_assign rfl hn.1, trivial⟩ hQQ654 fun b q p => ?_
    exact tail_done (k := q) (hp655 _ _ ⟨Bs.post ⟨hg, hs, hd⟩ p, keep p 0 rfl i0, keep p 1 rfl i1, keep p 2 rfl i2, keep p 3 rfl i3, keep p 9 rfl i9, out p 2 10 _ rfl rfl rfl, trivial⟩)
  rintro a k ⟨⟨hg, hs, hd⟩, i0, i1, i2, i3, i9, i10, _⟩
  refine wp_seq ?_
  refine cut (fun a' k' => Bs noF k0 174 a' k' ∧ (IsV holidays) (a'.get 0) k' ∧ (IsV stays) (a'.get 1) k' ∧ (IsV a_) (a'.get 2) k' ∧ (IsV days) (a'.get 3) k' ∧ (IsV x522_0) (a'.get 9) k' ∧ (IsV x527_1) (a'.get 10) k' ∧ (IsV true) (a'.get 11) k' ∧ True) ?_ hQ ?_
  · intro Q652 hQQ652 hp653
    refine regionS (a0 := a) (k0 := k) (n := 174) (m := 1) (⟨some (IsV true), []⟩ :: []) hs (by kernel_rfl) ⟨ob1 rfl fun b q hk hn => ok_assign rfl (isV_bool.2 rfl), trivial⟩ hQQ652 fun b q p => ?_
    exact tail_done (k := q) (hp653 _ _ ⟨Bs.post ⟨hg, hs, hd⟩ p, keep p 0 rfl i0, keep p 1 rfl i1, keep p 2 rfl i2, keep p 3 rfl i3, keep p 9 rfl i9, keep p 10 rfl i10, out p 0 11 _ rfl rfl rfl, trivial⟩)
  rintro a k ⟨⟨hg, hs, hd⟩, i0, i1, i2, i3, i9, i10, i11, _⟩
  refine wp_seq ?_
  refine wp_seq ?_
  refine cut (fun a' k' => Bs noF k0 174 a' k' ∧ (IsV holidays) (a'.get 0) k' ∧ (IsV stays) (a'.get 1) k' ∧ (IsV a_) (a'.get 2) k' ∧ (IsV days) (a'.get 3) k' ∧ (IsV x522_0) (a'.get 9) k' ∧ (IsV x527_1) (a'.get 10) k' ∧ (IsV true) (a'.get 11) k' ∧ (IsV (α := Int) 0) (a'.get 12) k' ∧ True) ?_ hQ ?_
  · intro Q650 hQQ650 hp651
    refine regionS (a0 := a) (k0 := k) (n := 174) (m := 1) (⟨some (IsV (α := Int) 0), []⟩ :: []) hs (by kernel_rfl) ⟨ob1 rfl fun b q hk hn => ok_assign rfl (isV_int.2 rfl), trivial⟩ hQQ650 fun b q p => ?_
    exact tail_done (k := q) (hp651 _ _ ⟨Bs.post ⟨hg, hs, hd⟩ p, keep p 0 rfl i0, keep p 1 rfl i1, keep p 2 rfl i2, keep p 3 rfl i3, keep p 9 rfl i9, keep p 10 rfl i10, keep p 11 rfl i11, out p 0 12 _ rfl rfl rfl, trivial⟩)
  rintro a k ⟨⟨hg, hs, hd⟩, i0, i1, i2, i3, i9, i10, i11, i12, _⟩
  refine wp_block ?_
  obtain ⟨f544, hf544, hr⟩ := bind_some hr
  refine cutFe f544 (fun s' a' k' => Bs noF k0 174 a' k' ∧ (IsV holidays) (a'.get 0) k' ∧ (IsV stays) (a'.get 1) k' ∧ (IsV a_) (a'.get 2) k' ∧ (IsV days) (a'.get 3) k' ∧ (IsV x522_0) (a'.get 9) k' ∧ (IsV x527_1) (a'.get 10) k' ∧ (IsV s'.1) (a'.get 11) k' ∧ (IsV s'.2) (a'.get 12) k' ∧ True) (fun i' s' a' k' => (i' = 0 ∧ Bs noF k0 174 a' k' ∧ (IsV holidays) (a'.get 0) k' ∧ (IsV stays) (a'.get 1) k' ∧ (IsV a_) (a'.get 2) k' ∧ (IsV days) (a'.get 3) k' ∧ (IsV x522_0) (a'.get 9) k' ∧ (IsV x527_1) (a'.get 10) k' ∧ (IsV s'.1) (a'.get 11) k' ∧ True)) (fun r' a' k' => bodyPost Try.prog Try.f4 (RetC noF k0 (IsV r')) .ret a' k'.w) ?_ hQ ?_ ?_ ?_
  · intro Q649 hQQ649 hgo hex hret
    refine sim_loop ?_ _ _ _ _ _ hf544 ⟨⟨hg, hs, hd⟩, i0, i1, i2, i3, i9, i10, i11, i12, trivial⟩ Q649 hQQ649 hgo hex hret
    clear hr hf544 hgo hex hret hQQ649 hQ hg hs hd i0 i1 i10 i11 i12 i2 i3 i9
    intro s530 fl_ a k hr hS Q hQ hgo531 hex532 hret533
    obtain ⟨⟨hg, hs, hd⟩, i0, i1, i2, i3, i9, i10, i11, i12, _⟩ := hS
    unfold lawDays_L0 at hr
    refine wp_seq ?_
    refine wp_seq ?_
    refine cut (fun a' k' => Bs noF k0 174 a' k' ∧ (IsV holidays) (a'.get 0) k' ∧ (IsV stays) (a'.get 1) k' ∧ (IsV a_) (a'.get 2) k' ∧ (IsV days) (a'.get 3) k' ∧ (IsV x522_0) (a'.get 9) k' ∧ (IsV x527_1) (a'.get 10) k' ∧ (IsV s530.1) (a'.get 11) k' ∧ (IsV s530.2) (a'.get 12) k' ∧ (IsV (decide (s530.2 < (stays.length : Int)))) (a'.get 41) k' ∧ True) ?_ hQ ?_
    · intro Q542 hQQ542 hp543
      refine regionS (a0 := a) (k0 := k) (n := 174) (m := 4) (⟨some (IsV s530.2), [(12, none)]⟩ :: ⟨some (IsV stays), [(1, none)]⟩ :: ⟨some (IsV (α := Int) (stays.length : Int)), [(39, some 1)]⟩ :: ⟨some (IsV (decide (s530.2 < (stays.length : Int)))), [(38, some 0), (40, some 2)]⟩ :: []) hs (by kernel_rfl) ⟨ob1 rfl fun b q hk hn => ok_move rfl (up i12 hk hn.1), ob1 rfl fun b q hk hn => ok_move rfl (up i1 hk hn.1), ob1 rfl fun b q hk hn => ok_len rfl rfl Try.underlying23 (IsV.rd hn.1), ob1 rfl fun b q hk hn => ok_lss rfl hn.1 hn.2.1, trivial⟩ hQQ542 fun b q p => ?_
      exact tail_done (k := q) (hp543 _ _ ⟨Bs.post ⟨hg, hs, hd⟩ p, keep p 0 rfl i0, keep p 1 rfl i1, keep p 2 rfl i2, keep p 3 rfl i3, keep p 9 rfl i9, keep p 10 rfl i10, keep p 11 rfl i11, keep p 12 rfl i12, out p 3 41 _ rfl rfl rfl, trivial⟩)
    rintro a k ⟨⟨hg, hs, hd⟩, i0, i1, i2, i3, i9, i10, i11, i12, i41, _⟩
    refine wp_cond_split (isBool i41) (fun hc541 => ?_) (fun hc541 => ?_)
    · rw [if_pos hc541] at hr
      refine wp_skip ?_
      refine wp_seq ?_
      refine wp_block ?_
      obtain ⟨x535_8, hx535_8, hr⟩ := bind_some hr
      obtain ⟨x535_4, hx535_4, hx535_8⟩ := ite_bind hx535_8
      obtain ⟨x535_21, hx535_21, hr⟩ := bind_some hr
      obtain ⟨x535_12, hx535_12, hx535_21⟩ := ite_bind hx535_21
      obtain ⟨x535_17, hx535_17, hx535_21⟩ := ite_bind hx535_21
      obtain ⟨x535_29, hx535_29, hr⟩ := bind_some hr
      obtain ⟨x535_25, hx535_25, hx535_29⟩ := ite_bind hx535_29
      refine cut (fun a' k' => Bs noF k0 174 a' k' ∧ (IsV holidays) (a'.get 0) k' ∧ (IsV stays) (a'.get 1) k' ∧ (IsV a_) (a'.get 2) k' ∧ (IsV days) (a'.get 3) k' ∧ (IsV x522_0) (a'.get 9) k' ∧ (IsV x527_1) (a'.get 10) k' ∧ (IsV x535_29) (a'.get 11) k' ∧ (IsV s530.2) (a'.get 12) k' ∧ True) ?_ hQ ?_
      · intro Q539 hQQ539 hp540
        refine region (a0 := a) (k0 := k) (n := 174) (m := 31) (⟨some (IsV s530.1), [(11, none)]⟩ :: ⟨some (IsV s530.1), [(44, some 0)]⟩ :: ⟨some (Gd (s530.1 = true) (IsV stays)), [(1, none)]⟩ :: ⟨some (Gd (s530.1 = true) (IsV s530.2)), [(12, none)]⟩ :: ⟨some (Gd (s530.1 = true) (IsPtr x535_4)), [(46, some 2), (47, some 3)]⟩ :: ⟨some (Gd (s530.1 = true) (IsPtr x535_4.From)), [(48, some 4)]⟩ :: ⟨some (Gd (s530.1 = true) (IsV x535_4.From)), [(49, some 5)]⟩ :: ⟨some (Gd (s530.1 = true) (IsV (decide (0 ≤ x535_4.From)))), [(50, some 6)]⟩ :: ⟨some (IsV x535_8), [(45, some 1), (51, some 7)]⟩ :: ⟨some (IsV x535_8), [(52, some 8)]⟩ :: ⟨some (Gd (x535_8 = true) (IsV stays)), [(1, none)]⟩ :: ⟨some (Gd (x535_8 = true) (IsV s530.2)), [(12, none)]⟩ :: ⟨some (Gd (x535_8 = true) (IsPtr x535_12)), [(54, some 10), (55, some 11)]⟩ :: ⟨some (Gd (x535_8 = true) (IsPtr x535_12.From)), [(56, some 12)]⟩ :: ⟨some (Gd (x535_8 = true) (IsV x535_12.From)), [(57, some 13)]⟩ :: ⟨some (Gd (x535_8 = true) (IsV stays)), [(1, none)]⟩ :: ⟨some (Gd (x535_8 = true) (IsV s530.2)), [(12, none)]⟩ :: ⟨some (Gd (x535_8 = true) (IsPtr x535_17)), [(59, some 15), (60, some 16)]⟩ :: ⟨some (Gd (x535_8 = true) (IsPtr x535_17.To)), [(61, some 17)]⟩ :: ⟨some (Gd (x535_8 = true) (IsV x535_17.To)), [(62, some 18)]⟩ :: ⟨some (Gd (x535_8 = true) (IsV (decide (x535_12.From ≤ x535_17.To)))), [(58, some 14), (63, some 19)]⟩ :: ⟨some (IsV x535_21), [(53, some 9), (64, some 20)]⟩ :: ⟨some (IsV x535_21), [(65, some 21)]⟩ :: ⟨some (Gd (x535_21 = true) (IsV stays)), [(1, none)]⟩ :: ⟨some (Gd (x535_21 = true) (IsV s530.2)), [(12, none)]⟩ :: ⟨some (Gd (x535_21 = true) (IsPtr x535_25)), [(67, some 23), (68, some 24)]⟩ :: ⟨some (Gd (x535_21 = true) (IsPtr x535_25.To)), [(69, some 25)]⟩ :: ⟨some (Gd (x535_21 = true) (IsV x535_25.To)), [(70, some 26)]⟩ :: ⟨some (Gd (x535_21 = true) (IsV (decide (x535_25.To ≤ 1073741824)))), [(71, some 27)]⟩ :: ⟨some (IsV x535_29), [(66, some 22), (72, some 28)]⟩ :: ⟨some (IsV x535_29), [(73, some 29)]⟩ :: []) hmix hs (by kernel_rfl) ⟨ob1 rfl fun b q hk hn => ok_move rfl (up i11 hk hn.1), ob1 rfl fun b q hk hn => ok_move rfl hn.1, gdT rfl rfl fun hp b q hk hn => ok_move rfl (up i1 hk hn.1), gdT rfl rfl fun hp b q hk hn => ok_move rfl (up i12 hk hn.1), gdT rfl rfl fun hp b q hk hn => ok_indexAddr rfl Try.underlying23 ty38 (IsV.rd (Gd.get hn.1 hp)) (Gd.get hn.2.1 hp) (hx535_4 hp), gdT rfl rfl fun hp b q hk hn => ok_fieldAddr rfl fo38_0 (at_Stay_0 _) (Gd.get hn.1 hp), gdT rfl rfl fun hp b q hk hn => ok_load rfl ty3 (Gd.get hn.1 hp), gdT rfl rfl fun hp b q hk hn => ok_geq rfl (Gd.get hn.1 hp) (isV_int.2 rfl), ob1 rfl fun b q hk hn => ok_pickM rfl hn.1 hx535_8 (fun hm => (Gd.get hn.2.1 hm)) (fun _ => (isV_bool.2 rfl)), ob1 rfl fun b q hk hn => ok_move rfl hn.1, gdT rfl rfl fun hp b q hk hn => ok_move rfl (up i1 hk hn.1), gdT rfl rfl fun hp b q hk hn => ok_move rfl (up i12 hk hn.1), gdT rfl rfl fun hp b q hk hn => ok_indexAddr rfl Try.underlying23 ty38 (IsV.rd (Gd.get hn.1 hp)) (Gd.get hn.2.1 hp) (hx535_12 hp), gdT rfl rfl fun hp b q hk hn => ok_fieldAddr rfl fo38_0 (at_Stay_0 _) (Gd.get hn.1 hp), gdT rfl rfl fun hp b q hk hn => ok_load rfl ty3 (Gd.get hn.1 hp), gdT rfl rfl fun hp b q hk hn => ok_move rfl (up i1 hk hn.1), gdT rfl rfl fun hp b q hk hn => ok_move rfl (up i12 hk hn.1), gdT rfl rfl fun hp b q hk hn => ok_indexAddr rfl Try.underlying23 ty38 (IsV.rd (Gd.get hn.1 hp)) (Gd.get hn.2.1 hp) (hx535_17 hp), gdT rfl rfl fun hp b q hk hn => ok_fieldAddr rfl fo38_1 (at_Stay_1 _) (Gd.get hn.1 hp), gdT rfl rfl fun hp b q hk hn => ok_load rfl ty3 (Gd.get hn.1 hp), gdT rfl rfl fun hp b q hk hn => ok_leq rfl (Gd.get hn.1 hp) (Gd.get hn.2.1 hp), ob1 rfl fun b q hk hn => ok_pickM rfl hn.1 hx535_21 (fun hm => (Gd.get hn.2.1 hm)) (fun _ => (isV_bool.2 rfl)), ob1 rfl fun b q hk hn => ok_move rfl hn.1, gdT rfl rfl fun hp b q hk hn => ok_move rfl (up i1 hk hn.1), gdT rfl rfl fun hp b q hk hn => ok_move rfl (up i12 hk hn.1), gdT rfl rfl fun hp b q hk hn => ok_indexAddr rfl Try.underlying23 ty38 (IsV.rd (Gd.get hn.1 hp)) (Gd.get hn.2.1 hp) (hx535_25 hp), gdT rfl rfl fun hp b q hk hn => ok_fieldAddr rfl fo38_1 (at_Stay_1 _) (Gd.get hn.1 hp), gdT rfl rfl fun hp b q hk hn => ok_load rfl ty3 (Gd.get hn.1 hp), gdT rfl rfl fun hp b q hk hn => ok_leq rfl (Gd.get hn.1 hp) (isV_int.2 rfl), ob1 rfl fun b q hk hn => ok_pickM rfl hn.1 hx535_29 (fun hm => (Gd.get hn.2.1 hm)) (fun _ => (isV_bool.2 rfl)), ob1 rfl fun b q hk hn => ok_assign rfl hn.1, trivial⟩ hQQ539 fun b q p => ?_
        exact tail_done (k := q) (hp540 _ _ ⟨Bs.post ⟨hg, hs, hd⟩ p, keep p 0 rfl i0, keep p 1 rfl i1, keep p 2 rfl i2, keep p 3 rfl i3, keep p 9 rfl i9, keep p 10 rfl i10, out p 30 11 _ rfl rfl rfl, keep p 12 rfl i12, trivial⟩)
      rintro a k ⟨⟨hg, hs, hd⟩, i0, i1, i2, i3, i9, i10, i11, i12, _⟩
      obtain ⟨x536_1, hx536_1, hr⟩ := bind_some hr
      refine cut (fun a' k' => Bs noF k0 174 a' k' ∧ (IsV holidays) (a'.get 0) k' ∧ (IsV stays) (a'.get 1) k' ∧ (IsV a_) (a'.get 2) k' ∧ (IsV days) (a'.get 3) k' ∧ (IsV x522_0) (a'.get 9) k' ∧ (IsV x527_1) (a'.get 10) k' ∧ (IsV x535_29) (a'.get 11) k' ∧ (IsV x536_1) (a'.get 12) k' ∧ True) ?_ hQ ?_
      · intro Q537 hQQ537 hp538
        refine regionS (a0 := a) (k0 := k) (n := 174) (m := 3) (⟨some (IsV s530.2), [(12, none)]⟩ :: ⟨some (IsV x536_1), [(42, some 0)]⟩ :: ⟨some (IsV x536_1), [(43, some 1)]⟩ :: []) hs (by kernel_rfl) ⟨ob1 rfl fun b q hk hn => ok_move rfl (up i12 hk hn.1), ob1 rfl fun b q hk hn => ok_add rfl hn.1 (isV_int.2 rfl) hx536_1, ob1 rfl fun b q hk hn => ok_assign rfl hn.1, trivial⟩ hQQ537 fun b q p => ?_
        exact tail_done (k := q) (hp538 _ _ ⟨Bs.post ⟨hg, hs, hd⟩ p, keep p 0 rfl i0, keep p 1 rfl i1, keep p 2 rfl i2, keep p 3 rfl i3, keep p 9 rfl i9, keep p 10 rfl i10, keep p 11 rfl i11, out p 2 12 _ rfl rfl rfl, trivial⟩)
      rintro a k ⟨⟨hg, hs, hd⟩, i0, i1, i2, i3, i9, i10, i11, i12, _⟩
      exact hgo531 _ _ _ (Option.some.inj hr).symm ⟨⟨hg, hs, hd⟩, i0, i1, i2, i3, i9, i10, i11, i12, trivial⟩
    rw [if_neg (by rw [hc541]; decide)] at hr
    refine wp_exit ?_
    exact hex532 _ _ _ _ (Option.some.inj hr).symm ⟨rfl, ⟨hg, hs, hd⟩, i0, i1, i2, i3, i9, i10, i11, trivial⟩
  · rintro r648 a k rfl hR
    dsimp only at hr
    obtain rfl := Option.some.inj hr
    exact hR
  · rintro _ _ _ rfl _
    simp at hr
  clear hf544
  rintro _ s545 a k rfl ⟨rfl, ⟨hg, hs, hd⟩, i0, i1, i2, i3, i9, i10, i11, _⟩
  dsimp only at hr
  refine wp_seq ?_
  refine cut (fun a' k' => Bs noF k0 174 a' k' ∧ (IsV holidays) (a'.get 0) k' ∧ (IsV stays) (a'.get 1) k' ∧ (IsV a_) (a'.get 2) k' ∧ (IsV days) (a'.get 3) k' ∧ (IsV x522_0) (a'.get 9) k' ∧ (IsV x527_1) (a'.get 10) k' ∧ (IsV s545.1) (a'.get 11) k' ∧ (IsV (α := Int) 0) (a'.get 13) k' ∧ True) ?_ hQ ?_
  · intro Q646 hQQ646 hp647
    refine regionS (a0 := a) (k0 := k) (n := 174) (m := 1) (⟨some (IsV (α := Int) 0), []⟩ :: []) hs (by kernel_rfl) ⟨ob1 rfl fun b q hk hn => ok_assign rfl (isV_int.2 rfl), trivial⟩ hQQ646 fun b q p => ?_
    exact tail_done (k := q) (hp647 _ _ ⟨Bs.post ⟨hg, hs, hd⟩ p, keep p 0 rfl i0, keep p 1 rfl i1, keep p 2 rfl i2, keep p 3 rfl i3, keep p 9 rfl i9, keep p 10 rfl i10, keep p 11 rfl i11, out p 0 13 _ rfl rfl rfl, trivial⟩)
  rintro a k ⟨⟨hg, hs, hd⟩, i0, i1, i2, i3, i9, i10, i11, i13, _⟩
  refine wp_seq ?_
  refine cut (fun a' k' => Bs noF k0 174 a' k' ∧ (IsV holidays) (a'.get 0) k' ∧ (IsV stays) (a'.get 1) k' ∧ (IsV a_) (a'.get 2) k' ∧ (IsV days) (a'.get 3) k' ∧ (IsV x522_0) (a'.get 9) k' ∧ (IsV x527_1) (a'.get 10) k' ∧ (IsV s545.1) (a'.get 11) k' ∧ (IsV (α := Int) 0) (a'.get 13) k' ∧ (IsV (α := Int) 0) (a'.get 14) k' ∧ True) ?_ hQ ?_
  · intro Q644 hQQ644 hp645
    refine regionS (a0 := a) (k0 := k) (n := 174) (m := 1) (⟨some (IsV (α := Int) 0), []⟩ :: []) hs (by kernel_rfl) ⟨ob1 rfl fun b q hk hn => ok_assign rfl (isV_int.2 rfl), trivial⟩ hQQ644 fun b q p => ?_
    exact tail_done (k := q) (hp645 _ _ ⟨Bs.post ⟨hg, hs, hd⟩ p, keep p 0 rfl i0, keep p 1 rfl i1, keep p 2 rfl i2, keep p 3 rfl i3, keep p 9 rfl i9, keep p 10 rfl i10, keep p 11 rfl i11, keep p 13 rfl i13, out p 0 14 _ rfl rfl rfl, trivial⟩)
  rintro a k ⟨⟨hg, hs, hd⟩, i0, i1, i2, i3, i9, i10, i11, i13, i14, _⟩
  refine wp_seq ?_
  refine wp_seq ?_
  obtain ⟨x548_1, hx548_1, hr⟩ := bind_some hr
  refine cut (fun a' k' => Bs noF k0 174 a' k' ∧ (IsV holidays) (a'.get 0) k' ∧ (IsV stays) (a'.get 1) k' ∧ (IsV a_) (a'.get 2) k' ∧ (IsV days) (a'.get 3) k' ∧ (IsV x522_0) (a'.get 9) k' ∧ (IsV x527_1) (a'.get 10) k' ∧ (IsV s545.1) (a'.get 11) k' ∧ (IsV (α := Int) 0) (a'.get 13) k' ∧ (IsV (α := Int) 0) (a'.get 14) k' ∧ (IsV x548_1) (a'.get 15) k' ∧ True) ?_ hQ ?_
  · intro Q642 hQQ642 hp643
    refine regionS (a0 := a) (k0 := k) (n := 174) (m := 3) (⟨some (IsV a_), [(2, none)]⟩ :: ⟨some (IsV x548_1), [(74, some 0)]⟩ :: ⟨some (IsV x548_1), [(75, some 1)]⟩ :: []) hs (by kernel_rfl) ⟨ob1 rfl fun b q hk hn => ok_move rfl (up i2 hk hn.1), ob1 rfl fun b q hk hn => ok_add rfl hn.1 (isV_int.2 rfl) hx548_1, ob1 rfl fun b q hk hn => ok_assign rfl hn.1, trivial⟩ hQQ642 fun b q p => ?_
    exact tail_done (k := q) (hp643 _ _ ⟨Bs.post ⟨hg, hs, hd⟩ p, keep p 0 rfl i0, keep p 1 rfl i1, keep p 2 rfl i2, keep p 3 rfl i3, keep p 9 rfl i9, keep p 10 rfl i10, keep p 11 rfl i11, keep p 13 rfl i13, keep p 14 rfl i14, out p 2 15 _ rfl rfl rfl, trivial⟩)
  rintro a k ⟨⟨hg, hs, hd⟩, i0, i1, i2, i3, i9, i10, i11, i13, i14, i15, _⟩
  refine wp_block ?_
  obtain ⟨f635, hf635, hr⟩ := bind_some hr
  refine cutFe f635 (fun s' a' k' => Bs noF k0 174 a' k' ∧ (IsV holidays) (a'.get 0) k' ∧ (IsV stays) (a'.get 1) k' ∧ (IsV a_) (a'.get 2) k' ∧ (IsV days) (a'.get 3) k' ∧ (IsV x522_0) (a'.get 9) k' ∧ (IsV x527_1) (a'.get 10) k' ∧ (IsV s545.1) (a'.get 11) k' ∧ (IsV s'.1) (a'.get 13) k' ∧ (IsV s'.2.1) (a'.get 14) k' ∧ (IsV s'.2.2) (a'.get 15) k' ∧ True) (fun i' s' a' k' => (i' = 2 ∧ Bs noF k0 174 a' k' ∧ (IsV holidays) (a'.get 0) k' ∧ (IsV stays) (a'.get 1) k' ∧ (IsV a_) (a'.get 2) k' ∧ (IsV days) (a'.get 3) k' ∧ (IsV x522_0) (a'.get 9) k' ∧ (IsV s'.1) (a'.get 13) k' ∧ (IsV s'.2.1) (a'.get 14) k' ∧ True)) (fun r' a' k' => bodyPost Try.prog Try.f4 (RetC noF k0 (IsV r')) .ret a' k'.w) ?_ hQ ?_ ?_ ?_
  · intro Q641 hQQ641 hgo hex hret
    refine sim_loop ?_ _ _ _ _ _ hf635 ⟨⟨hg, hs, hd⟩, i0, i1, i2, i3, i9, i10, i11, i13, i14, i15, trivial⟩ Q641 hQQ641 hgo hex hret
    clear hr hf635 hgo hex hret hQQ641 hQ hg hs hd i0 i1 i10 i11 i13 i14 i15 i2 i3 i9
    intro s549 fl_ a k hr hS Q hQ hgo550 hex551 hret552
    obtain ⟨⟨hg, hs, hd⟩, i0, i1, i2, i3, i9, i10, i11, i13, i14, i15, _⟩ := hS
    unfold lawDays_L1 at hr
    refine wp_seq ?_
    refine wp_seq ?_
    obtain ⟨x553_3, hx553_3, hr⟩ := bind_some hr
    refine cut (fun a' k' => Bs noF k0 174 a' k' ∧ (IsV holidays) (a'.get 0) k' ∧ (IsV stays) (a'.get 1) k' ∧ (IsV a_) (a'.get 2) k' ∧ (IsV days) (a'.get 3) k' ∧ (IsV x522_0) (a'.get 9) k' ∧ (IsV x527_1) (a'.get 10) k' ∧ (IsV s545.1) (a'.get 11) k' ∧ (IsV s549.1) (a'.get 13) k' ∧ (IsV s549.2.1) (a'.get 14) k' ∧ (IsV s549.2.2) (a'.get 15) k' ∧ (IsV (decide (s549.2.2 ≤ x553_3))) (a'.get 80) k' ∧ True) ?_ hQ ?_
    · intro Q633 hQQ633 hp634
      refine regionS (a0 := a) (k0 := k) (n := 174) (m := 5) (⟨some (IsV s549.2.2), [(15, none)]⟩ :: ⟨some (IsV a_), [(2, none)]⟩ :: ⟨some (IsV days), [(3, none)]⟩ :: ⟨some (IsV x553_3), [(77, some 1), (78, some 2)]⟩ :: ⟨some (IsV (decide (s549.2.2 ≤ x553_3))), [(76, some 0), (79, some 3)]⟩ :: []) hs (by kernel_rfl) ⟨ob1 rfl fun b q hk hn => ok_move rfl (up i15 hk hn.1), ob1 rfl fun b q hk hn => ok_move rfl (up i2 hk hn.1), ob1 rfl fun b q hk hn => ok_move rfl (up i3 hk hn.1), ob1 rfl fun b q hk hn => ok_add rfl hn.1 hn.2.1 hx553_3, ob1 rfl fun b q hk hn => ok_leq rfl hn.1 hn.2.1, trivial⟩ hQQ633 fun b q p => ?_
      exact tail_done (k := q) (hp634 _ _ ⟨Bs.post ⟨hg, hs, hd⟩ p, keep p 0 rfl i0, keep p 1 rfl i1, keep p 2 rfl i2, keep p 3 rfl i3, keep p 9 rfl i9, keep p 10 rfl i10, keep p 11 rfl i11, keep p 13 rfl i13, keep p 14 rfl i14, keep p 15 rfl i15, out p 4 80 _ rfl rfl rfl, trivial⟩)
    rintro a k ⟨⟨hg, hs, hd⟩, i0, i1, i2, i3, i9, i10, i11, i13, i14, i15, i80, _⟩
    refine wp_cond_split (isBool i80) (fun hc632 => ?_) (fun hc632 => ?_)
    · rw [if_pos hc632] at hr
      refine wp_skip ?_
      refine wp_seq ?_
      refine wp_block ?_
      refine wp_seq ?_
      obtain ⟨x554_5, hx554_5, hr⟩ := bind_some hr
      obtain ⟨x554_3, hx554_3, hx554_5⟩ := ite_bind hx554_5
      refine cut (fun a' k' => Bs noF k0 174 a' k' ∧ (IsV holidays) (a'.get 0) k' ∧ (IsV stays) (a'.get 1) k' ∧ (IsV a_) (a'.get 2) k' ∧ (IsV days) (a'.get 3) k' ∧ (IsV x522_0) (a'.get 9) k' ∧ (IsV x527_1) (a'.get 10) k' ∧ (IsV s545.1) (a'.get 11) k' ∧ (IsV s549.1) (a'.get 13) k' ∧ (IsV s549.2.1) (a'.get 14) k' ∧ (IsV s549.2.2) (a'.get 15) k' ∧ (IsV x554_5) (a'.get 16) k' ∧ True) ?_ hQ ?_
      · intro Q630 hQQ630 hp631
        refine regionS (a0 := a) (k0 := k) (n := 174) (m := 7) (⟨some (IsV x527_1), [(10, none)]⟩ :: ⟨some (IsV x527_1), [(83, some 0)]⟩ :: ⟨some (Gd (x527_1 = true) (IsV s549.2.2)), [(15, none)]⟩ :: ⟨some (Gd (x527_1 = true) (IsV x554_3)), [(85, some 2)]⟩ :: ⟨some (Gd (x527_1 = true) (IsV (decide (x554_3 < 5)))), [(86, some 3)]⟩ :: ⟨some (IsV x554_5), [(84, some 1), (87, some 4)]⟩ :: ⟨some (IsV x554_5), [(88, some 5)]⟩ :: []) hs (by kernel_rfl) ⟨ob1 rfl fun b q hk hn => ok_move rfl (up i10 hk hn.1), ob1 rfl fun b q hk hn => ok_move rfl hn.1, gdT rfl rfl fun hp b q hk hn => ok_move rfl (up i15 hk hn.1), gdT rfl rfl fun hp b q hk hn => ok_rem rfl (Gd.get hn.1 hp) (isV_int.2 rfl) (hx554_3 hp), gdT rfl rfl fun hp b q hk hn => ok_lss rfl (Gd.get hn.1 hp) (isV_int.2 rfl), ob1 rfl fun b q hk hn => ok_pickM rfl hn.1 hx554_5 (fun hm => (Gd.get hn.2.1 hm)) (fun _ => (isV_bool.2 rfl)), ob1 rfl fun b q hk hn => ok_assign rfl hn.1, trivial⟩ hQQ630 fun b q p => ?_
        exact tail_done (k := q) (hp631 _ _ ⟨Bs.post ⟨hg, hs, hd⟩ p, keep p 0 rfl i0, keep p 1 rfl i1, keep p 2 rfl i2, keep p 3 rfl i3, keep p 9 rfl i9, keep p 10 rfl i10, keep p 11 rfl i11, keep p 13 rfl i13, keep p 14 rfl i14, keep p 15 rfl i15, out p 6 16 _ rfl rfl rfl, trivial⟩)
      rintro a k ⟨⟨hg, hs, hd⟩, i0, i1, i2, i3, i9, i10, i11, i13, i14, i15, i16, _⟩
      refine wp_seq ?_
      refine wp_seq ?_
      refine cut (fun a' k' => Bs noF k0 174 a' k' ∧ (IsV holidays) (a'.get 0) k' ∧ (IsV stays) (a'.get 1) k' ∧ (IsV a_) (a'.get 2) k' ∧ (IsV days) (a'.get 3) k' ∧ (IsV x522_0) (a'.get 9) k' ∧ (IsV x527_1) (a'.get 10) k' ∧ (IsV s545.1) (a'.get 11) k' ∧ (IsV s549.1) (a'.get 13) k' ∧ (IsV s549.2.1) (a'.get 14) k' ∧ (IsV s549.2.2) (a'.get 15) k' ∧ (IsV x554_5) (a'.get 16) k' ∧ (IsV (α := Int) 0) (a'.get 17) k' ∧ True) ?_ hQ ?_
      · intro Q628 hQQ628 hp629
        refine regionS (a0 := a) (k0 := k) (n := 174) (m := 1) (⟨some (IsV (α := Int) 0), []⟩ :: []) hs (by kernel_rfl) ⟨ob1 rfl fun b q hk hn => ok_assign rfl (isV_int.2 rfl), trivial⟩ hQQ628 fun b q p => ?_
        exact tail_done (k := q) (hp629 _ _ ⟨Bs.post ⟨hg, hs, hd⟩ p, keep p 0 rfl i0, keep p 1 rfl i1, keep p 2 rfl i2, keep p 3 rfl i3, keep p 9 rfl i9, keep p 10 rfl i10, keep p 11 rfl i11, keep p 13 rfl i13, keep p 14 rfl i14, keep p 15 rfl i15, keep p 16 rfl i16, out p 0 17 _ rfl rfl rfl, trivial⟩)
      rintro a k ⟨⟨hg, hs, hd⟩, i0, i1, i2, i3, i9, i10, i11, i13, i14, i15, i16, i17, _⟩
      refine wp_block ?_
      obtain ⟨f570, hf570, hr⟩ := bind_some hr
      refine cutFe f570 (fun s' a' k' => Bs noF k0 174 a' k' ∧ (IsV holidays) (a'.get 0) k' ∧ (IsV stays) (a'.get 1) k' ∧ (IsV a_) (a'.get 2) k' ∧ (IsV days) (a'.get 3) k' ∧ (IsV x522_0) (a'.get 9) k' ∧ (IsV x527_1) (a'.get 10) k' ∧ (IsV s545.1) (a'.get 11) k' ∧ (IsV s549.1) (a'.get 13) k' ∧ (IsV s549.2.1) (a'.get 14) k' ∧ (IsV s549.2.2) (a'.get 15) k' ∧ (IsV s'.1) (a'.get 16) k' ∧ (IsV s'.2) (a'.get 17) k' ∧ True) (fun i' s' a' k' => (i' = 4 ∧ Bs noF k0 174 a' k' ∧ (IsV holidays) (a'.get 0) k' ∧ (IsV stays) (a'.get 1) k' ∧ (IsV a_) (a'.get 2) k' ∧ (IsV days) (a'.get 3) k' ∧ (IsV x522_0) (a'.get 9) k' ∧ (IsV x527_1) (a'.get 10) k' ∧ (IsV s545.1) (a'.get 11) k' ∧ (IsV s549.1) (a'.get 13) k' ∧ (IsV s549.2.1) (a'.get 14) k' ∧ (IsV s549.2.2) (a'.get 15) k' ∧ (IsV s'.1) (a'.get 16) k' ∧ True)) (fun r' a' k' => bodyPost Try.prog Try.f4 (RetC noF k0 (IsV r')) .ret a' k'.w) ?_ hQ ?_ ?_ ?_
      · intro Q627 hQQ627 hgo hex hret
        refine sim_loop ?_ _ _ _ _ _ hf570 ⟨⟨hg, hs, hd⟩, i0, i1, i2, i3, i9, i10, i11, i13, i14, i15, i16, i17, trivial⟩ Q627 hQQ627 hgo hex hret
        clear hr hf570 hgo hex hret hQQ627 hQ hg hs hd i0 i1 i10 i11 i13 i14 i15 i16 i17 i2 i3 i9
        intro s556 fl_ a k hr hS Q hQ hgo557 hex558 hret559
        obtain ⟨⟨hg, hs, hd⟩, i0, i1, i2, i3, i9, i10, i11, i13, i14, i15, i16, i17, _⟩ := hS
        unfold lawDays_L2 at hr
        refine wp_seq ?_
        refine wp_seq ?_
        refine cut (fun a' k' => Bs noF k0 174 a' k' ∧ (IsV holidays) (a'.get 0) k' ∧ (IsV stays) (a'.get 1) k' ∧ (IsV a_) (a'.get 2) k' ∧ (IsV days) (a'.get 3) k' ∧ (IsV x522_0) (a'.get 9) k' ∧ (IsV x527_1) (a'.get 10) k' ∧ (IsV s545.1) (a'.get 11) k' ∧ (IsV s549.1) (a'.get 13) k' ∧ (IsV s549.2.1) (a'.get 14) k' ∧ (IsV s549.2.2) (a'.get 15) k' ∧ (IsV s556.1) (a'.get 16) k' ∧ (IsV s556.2) (a'.get 17) k' ∧ (IsV (decide (s556.2 < (holidays.length : Int)))) (a'.get 92) k' ∧ True) ?_ hQ ?_
        · intro Q568 hQQ568 hp569
          refine regionS (a0 := a) (k0 := k) (n := 174) (m := 4) (⟨some (IsV s556.2), [(17, none)]⟩ :: ⟨some (IsV holidays), [(0, none)]⟩ :: ⟨some (IsV (α := Int) (holidays.length : Int)), [(90, some 1)]⟩ :: ⟨some (IsV (decide (s556.2 < (holidays.length : Int)))), [(89, some 0), (91, some 2)]⟩ :: []) hs (by kernel_rfl) ⟨ob1 rfl fun b q hk hn => ok_move rfl (up i17 hk hn.1), ob1 rfl fun b q hk hn => ok_move rfl (up i0 hk hn.1), ob1 rfl fun b q hk hn => ok_len rfl rfl Try.underlying22 (IsV.rd hn.1), ob1 rfl fun b q hk hn => ok_lss rfl hn.1 hn.2.1, trivial⟩ hQQ568 fun b q p => ?_
          exact tail_done (k := q) (hp569 _ _ ⟨Bs.post ⟨hg, hs, hd⟩ p, keep p 0 rfl i0, keep p 1 rfl i1, keep p 2 rfl i2, keep p 3 rfl i3, keep p 9 rfl i9, keep p 10 rfl i10, keep p 11 rfl i11, keep p 13 rfl i13, keep p 14 rfl i14, keep p 15 rfl i15, keep p 16 rfl i16, keep p 17 rfl i17, out p 3 92 _ rfl rfl rfl, trivial⟩)
        rintro a k ⟨⟨hg, hs, hd⟩, i0, i1, i2, i3, i9, i10, i11, i13, i14, i15, i16, i17, i92, _⟩
        refine wp_cond_split (isBool i92) (fun hc567 => ?_) (fun hc567 => ?_)
        · rw [if_pos hc567] at hr
          refine wp_skip ?_
          refine wp_seq ?_
          refine wp_block ?_
          obtain ⟨x561_8, hx561_8, hr⟩ := bind_some hr
          obtain ⟨x561_4, hx561_4, hx561_8⟩ := ite_bind hx561_8
          refine cut (fun a' k' => Bs noF k0 174 a' k' ∧ (IsV holidays) (a'.get 0) k' ∧ (IsV stays) (a'.get 1) k' ∧ (IsV a_) (a'.get 2) k' ∧ (IsV days) (a'.get 3) k' ∧ (IsV x522_0) (a'.get 9) k' ∧ (IsV x527_1) (a'.get 10) k' ∧ (IsV s545.1) (a'.get 11) k' ∧ (IsV s549.1) (a'.get 13) k' ∧ (IsV s549.2.1) (a'.get 14) k' ∧ (IsV s549.2.2) (a'.get 15) k' ∧ (IsV x561_8) (a'.get 16) k' ∧ (IsV s556.2) (a'.get 17) k' ∧ True) ?_ hQ ?_
          · intro Q565 hQQ565 hp566
            refine regionS (a0 := a) (k0 := k) (n := 174) (m := 10) (⟨some (IsV s556.1), [(16, none)]⟩ :: ⟨some (IsV s556.1), [(95, some 0)]⟩ :: ⟨some (Gd (s556.1 = true) (IsV holidays)), [(0, none)]⟩ :: ⟨some (Gd (s556.1 = true) (IsV s556.2)), [(17, none)]⟩ :: ⟨some (Gd (s556.1 = true) (IsPtr x561_4)), [(97, some 2), (98, some 3)]⟩ :: ⟨some (Gd (s556.1 = true) (IsV x561_4)), [(99, some 4)]⟩ :: ⟨some (Gd (s556.1 = true) (IsV s549.2.2)), [(15, none)]⟩ :: ⟨some (Gd (s556.1 = true) (IsV (x561_4 != s549.2.2))), [(100, some 5), (101, some 6)]⟩ :: ⟨some (IsV x561_8), [(96, some 1), (102, some 7)]⟩ :: ⟨some (IsV x561_8), [(103, some 8)]⟩ :: []) hs (by kernel_rfl) ⟨ob1 rfl fun b q hk hn => ok_move rfl (up i16 hk hn.1), ob1 rfl fun b q hk hn => ok_move rfl hn.1, gdT rfl rfl fun hp b q hk hn => ok_move rfl (up i0 hk hn.1), gdT rfl rfl fun hp b q hk hn => ok_move rfl (up i17 hk hn.1), gdT rfl rfl fun hp b q hk hn => ok_indexAddr rfl Try.underlying22 ty3 (IsV.rd (Gd.get hn.1 hp)) (Gd.get hn.2.1 hp) (hx561_4 hp), gdT rfl rfl fun hp b q hk hn => ok_load rfl ty3 (Gd.get hn.1 hp), gdT rfl rfl fun hp b q hk hn => ok_move rfl (up i15 hk hn.1), gdT rfl rfl fun hp b q hk hn => ok_neI rfl (Gd.get hn.1 hp) (Gd.get hn.2.1 hp), ob1 rfl fun b q hk hn => ok_pickM rfl hn.1 hx561_8 (fun hm => (Gd.get hn.2.1 hm)) (fun _ => (isV_bool.2 rfl)), ob1 rfl fun b q hk hn => ok_assign rfl hn.1, trivial⟩ hQQ565 fun b q p => ?_
            exact tail_done (k := q) (hp566 _ _ ⟨Bs.post ⟨hg, hs, hd⟩ p, keep p 0 rfl i0, keep p 1 rfl i1, keep p 2 rfl i2, keep p 3 rfl i3, keep p 9 rfl i9, keep p 10 rfl i10, keep p 11 rfl i11, keep p 13 rfl i13, keep p 14 rfl i14, keep p 15 rfl i15, out p 9 16 _ rfl rfl rfl, keep p 17 rfl i17, trivial⟩)
          rintro a k ⟨⟨hg, hs, hd⟩, i0, i1, i2, i3, i9, i10, i11, i13, i14, i15, i16, i17, _⟩
          obtain ⟨x562_1, hx562_1, hr⟩ := bind_some hr
          refine cut (fun a' k' => Bs noF k0 174 a' k' ∧ (IsV holidays) (a'.get 0) k' ∧ (IsV stays) (a'.get 1) k' ∧ (IsV a_) (a'.get 2) k' ∧ (IsV days) (a'.get 3) k' ∧ (IsV x522_0) (a'.get 9) k' ∧ (IsV x527_1) (a'.get 10) k' ∧ (IsV s545.1) (a'.get 11) k' ∧ (IsV s549.1) (a'.get 13) k' ∧ (IsV s549.2.1) (a'.get 14) k' ∧ (IsV s549.2.2) (a'.get 15) k' ∧ (IsV x561_8) (a'.get 16) k' ∧ (IsV x562_1) (a'.get 17) k' ∧ True) ?_ hQ ?_
          · intro Q563 hQQ563 hp564
            refine regionS (a0 := a) (k0 := k) (n := 174) (m := 3) (⟨some (IsV s556.2), [(17, none)]⟩ :: ⟨some (IsV x562_1), [(93, some 0)]⟩ :: ⟨some (IsV x562_1), [(94, some 1)]⟩ :: []) hs (by kernel_rfl) ⟨ob1 rfl fun b q hk hn => ok_move rfl (up i17 hk hn.1), ob1 rfl fun b q hk hn => ok_add rfl hn.1 (isV_int.2 rfl) hx562_1, ob1 rfl fun b q hk hn => ok_assign rfl hn.1, trivial⟩ hQQ563 fun b q p => ?_
            exact tail_done (k := q) (hp564 _ _ ⟨Bs.post ⟨hg, hs, hd⟩ p, keep p 0 rfl i0, keep p 1 rfl i1, keep p 2 rfl i2, keep p 3 rfl i3, keep p 9 rfl i9, keep p 10 rfl i10, keep p 11 rfl i11, keep p 13 rfl i13, keep p 14 rfl i14, keep p 15 rfl i15, keep p 16 rfl i16, out p 2 17 _ rfl rfl rfl, trivial⟩)
          rintro a k ⟨⟨hg, hs, hd⟩, i0, i1, i2, i3, i9, i10, i11, i13, i14, i15, i16, i17, _⟩
          exact hgo557 _ _ _ (Option.some.inj hr).symm ⟨⟨hg, hs, hd⟩, i0, i1, i2, i3, i9, i10, i11, i13, i14, i15, i16, i17, trivial⟩
        rw [if_neg (by rw [hc567]; decide)] at hr
        refine wp_exit ?_
        exact hex558 _ _ _ _ (Option.some.inj hr).symm ⟨rfl, ⟨hg, hs, hd⟩, i0, i1, i2, i3, i9, i10, i11, i13, i14, i15, i16, trivial⟩
      · rintro r626 a k rfl hR
        dsimp only at hr
        exact hret552 _ _ _ (Option.some.inj hr).symm hR
      · rintro _ _ _ rfl _
        simp at hr
      clear hf570
      rintro _ s571 a k rfl ⟨rfl, ⟨hg, hs, hd⟩, i0, i1, i2, i3, i9, i10, i11, i13, i14, i15, i16, _⟩
      dsimp only at hr
      refine wp_seq ?_
      refine cut (fun a' k' => Bs noF k0 174 a' k' ∧ (IsV holidays) (a'.get 0) k' ∧ (IsV stays) (a'.get 1) k' ∧ (IsV a_) (a'.get 2) k' ∧ (IsV days) (a'.get 3) k' ∧ (IsV x522_0) (a'.get 9) k' ∧ (IsV x527_1) (a'.get 10) k' ∧ (IsV s545.1) (a'.get 11) k' ∧ (IsV s549.1) (a'.get 13) k' ∧ (IsV s549.2.1) (a'.get 14) k' ∧ (IsV s549.2.2) (a'.get 15) k' ∧ (IsV s571.1) (a'.get 16) k' ∧ (IsV (s571.1 && s545.1)) (a'.get 18) k' ∧ True) ?_ hQ ?_
      · intro Q624 hQQ624 hp625
        refine regionS (a0 := a) (k0 := k) (n := 174) (m := 5) (⟨some (IsV s571.1), [(16, none)]⟩ :: ⟨some (IsV s571.1), [(104, some 0)]⟩ :: ⟨some (Gd (s571.1 = true) (IsV s545.1)), [(11, none)]⟩ :: ⟨some (IsV (s571.1 && s545.1)), [(105, some 1), (106, some 2)]⟩ :: ⟨some (IsV (s571.1 && s545.1)), [(107, some 3)]⟩ :: []) hs (by kernel_rfl) ⟨ob1 rfl fun b q hk hn => ok_move rfl (up i16 hk hn.1), ob1 rfl fun b q hk hn => ok_move rfl hn.1, gdT rfl rfl fun hp b q hk hn => ok_move rfl (up i11 hk hn.1), ob1 rfl fun b q hk hn => ok_pickAnd rfl hn.1 (fun hm => (Gd.get hn.2.1 hm)) (fun _ => (isV_bool.2 rfl)), ob1 rfl fun b q hk hn => ok_assign rfl hn.1, trivial⟩ hQQ624 fun b q p => ?_
        exact tail_done (k := q) (hp625 _ _ ⟨Bs.post ⟨hg, hs, hd⟩ p, keep p 0 rfl i0, keep p 1 rfl i1, keep p 2 rfl i2, keep p 3 rfl i3, keep p 9 rfl i9, keep p 10 rfl i10, keep p 11 rfl i11, keep p 13 rfl i13, keep p 14 rfl i14, keep p 15 rfl i15, keep p 16 rfl i16, out p 4 18 _ rfl rfl rfl, trivial⟩)
      rintro a k ⟨⟨hg, hs, hd⟩, i0, i1, i2, i3, i9, i10, i11, i13, i14, i15, i16, i18, _⟩
      refine wp_seq ?_
      refine wp_seq ?_
      refine cut (fun a' k' => Bs noF k0 174 a' k' ∧ (IsV holidays) (a'.get 0) k' ∧ (IsV stays) (a'.get 1) k' ∧ (IsV a_) (a'.get 2) k' ∧ (IsV days) (a'.get 3) k' ∧ (IsV x522_0) (a'.get 9) k' ∧ (IsV x527_1) (a'.get 10) k' ∧ (IsV s545.1) (a'.get 11) k' ∧ (IsV s549.1) (a'.get 13) k' ∧ (IsV s549.2.1) (a'.get 14) k' ∧ (IsV s549.2.2) (a'.get 15) k' ∧ (IsV s571.1) (a'.get 16) k' ∧ (IsV (s571.1 && s545.1)) (a'.get 18) k' ∧ (IsV (α := Int) 0) (a'.get 19) k' ∧ True) ?_ hQ ?_
      · intro Q622 hQQ622 hp623
        refine regionS (a0 := a) (k0 := k) (n := 174) (m := 1) (⟨some (IsV (α := Int) 0), []⟩ :: []) hs (by kernel_rfl) ⟨ob1 rfl fun b q hk hn => ok_assign rfl (isV_int.2 rfl), trivial⟩ hQQ622 fun b q p => ?_
        exact tail_done (k := q) (hp623 _ _ ⟨Bs.post ⟨hg, hs, hd⟩ p, keep p 0 rfl i0, keep p 1 rfl i1, keep p 2 rfl i2, keep p 3 rfl i3, keep p 9 rfl i9, keep p 10 rfl i10, keep p 11 rfl i11, keep p 13 rfl i13, keep p 14 rfl i14, keep p 15 rfl i15, keep p 16 rfl i16, keep p 18 rfl i18, out p 0 19 _ rfl rfl rfl, trivial⟩)
      rintro a k ⟨⟨hg, hs, hd⟩, i0, i1, i2, i3, i9, i10, i11, i13, i14, i15, i16, i18, i19, _⟩
      refine wp_block ?_
      obtain ⟨f588, hf588, hr⟩ := bind_some hr
      refine cutFe f588 (fun s' a' k' => Bs noF k0 174 a' k' ∧ (IsV holidays) (a'.get 0) k' ∧ (IsV stays) (a'.get 1) k' ∧ (IsV a_) (a'.get 2) k' ∧ (IsV days) (a'.get 3) k' ∧ (IsV x522_0) (a'.get 9) k' ∧ (IsV x527_1) (a'.get 10) k' ∧ (IsV s545.1) (a'.get 11) k' ∧ (IsV s549.1) (a'.get 13) k' ∧ (IsV s549.2.1) (a'.get 14) k' ∧ (IsV s549.2.2) (a'.get 15) k' ∧ (IsV s571.1) (a'.get 16) k' ∧ (IsV s'.1) (a'.get 18) k' ∧ (IsV s'.2) (a'.get 19) k' ∧ True) (fun i' s' a' k' => (i' = 6 ∧ Bs noF k0 174 a' k' ∧ (IsV holidays) (a'.get 0) k' ∧ (IsV stays) (a'.get 1) k' ∧ (IsV a_) (a'.get 2) k' ∧ (IsV days) (a'.get 3) k' ∧ (IsV x522_0) (a'.get 9) k' ∧ (IsV x527_1) (a'.get 10) k' ∧ (IsV s545.1) (a'.get 11) k' ∧ (IsV s549.1) (a'.get 13) k' ∧ (IsV s549.2.1) (a'.get 14) k' ∧ (IsV s549.2.2) (a'.get 15) k' ∧ (IsV s571.1) (a'.get 16) k' ∧ (IsV s'.1) (a'.get 18) k' ∧ True)) (fun r' a' k' => bodyPost Try.prog Try.f4 (RetC noF k0 (IsV r')) .ret a' k'.w) ?_ hQ ?_ ?_ ?_
      · intro Q621 hQQ621 hgo hex hret
        refine sim_loop ?_ _ _ _ _ _ hf588 ⟨⟨hg, hs, hd⟩, i0, i1, i2, i3, i9, i10, i11, i13, i14, i15, i16, i18, i19, trivial⟩ Q621 hQQ621 hgo hex hret
        clear hr hf588 hgo hex hret hQQ621 hQ hg hs hd i0 i1 i10 i11 i13 i14 i15 i16 i18 i19 i2 i3 i9
        intro s574 fl_ a k hr hS Q hQ hgo575 hex576 hret577
        obtain ⟨⟨hg, hs, hd⟩, i0, i1, i2, i3, i9, i10, i11, i13, i14, i15, i16, i18, i19, _⟩ := hS
        unfold lawDays_L3 at hr
        refine wp_seq ?_
        refine wp_seq ?_
        refine cut (fun a' k' => Bs noF k0 174 a' k' ∧ (IsV holidays) (a'.get 0) k' ∧ (IsV stays) (a'.get 1) k' ∧ (IsV a_) (a'.get 2) k' ∧ (IsV days) (a'.get 3) k' ∧ (IsV x522_0) (a'.get 9) k' ∧ (IsV x527_1) (a'.get 10) k' ∧ (IsV s545.1) (a'.get 11) k' ∧ (IsV s549.1) (a'.get 13) k' ∧ (IsV s549.2.1) (a'.get 14) k' ∧ (IsV s549.2.2) (a'.get 15) k' ∧ (IsV s571.1) (a'.get 16) k' ∧ (IsV s574.1) (a'.get 18) k' ∧ (IsV s574.2) (a'.get 19) k' ∧ (IsV (decide (s574.2 < (stays.length : Int)))) (a'.get 111) k' ∧ True) ?_ hQ ?_
        · intro Q586 hQQ586 hp587
          refine regionS (a0 := a) (k0 := k) (n := 174) (m := 4) (⟨some (IsV s574.2), [(19, none)]⟩ :: ⟨some (IsV stays), [(1, none)]⟩ :: ⟨some (IsV (α := Int) (stays.length : Int)), [(109, some 1)]⟩ :: ⟨some (IsV (decide (s574.2 < (stays.length : Int)))), [(108, some 0), (110, some 2)]⟩ :: []) hs (by kernel_rfl) ⟨ob1 rfl fun b q hk hn => ok_move rfl (up i19 hk hn.1), ob1 rfl fun b q hk hn => ok_move rfl (up i1 hk hn.1), ob1 rfl fun b q hk hn => ok_len rfl rfl Try.underlying23 (IsV.rd hn.1), ob1 rfl fun b q hk hn => ok_lss rfl hn.1 hn.2.1, trivial⟩ hQQ586 fun b q p => ?_
          exact tail_done (k := q) (hp587 _ _ ⟨Bs.post ⟨hg, hs, hd⟩ p, keep p 0 rfl i0, keep p 1 rfl i1, keep p 2 rfl i2, keep p 3 rfl i3, keep p 9 rfl i9, keep p 10 rfl i10, keep p 11 rfl i11, keep p 13 rfl i13, keep p 14 rfl i14, keep p 15 rfl i15, keep p 16 rfl i16, keep p 18 rfl i18, keep p 19 rfl i19, out p 3 111 _ rfl rfl rfl, trivial⟩)
        rintro a k ⟨⟨hg, hs, hd⟩, i0, i1, i2, i3, i9, i10, i11, i13, i14, i15, i16, i18, i19, i111, _⟩
        refine wp_cond_split (isBool i111) (fun hc585 => ?_) (fun hc585 => ?_)
        · rw [if_pos hc585] at hr
          refine wp_skip ?_
          refine wp_seq ?_
          refine wp_block ?_
          obtain ⟨x579_18, hx579_18, hr⟩ := bind_some hr
          obtain ⟨x579_5, hx579_5, hx579_18⟩ := ite_bind hx579_18
          obtain ⟨x579_17, hx579_17, hx579_18⟩ := ite_bind hx579_18
          obtain ⟨x579_13, hx579_13, hx579_17⟩ := ite_bindFP hx579_17
          refine cut (fun a' k' => Bs noF k0 174 a' k' ∧ (IsV holidays) (a'.get 0) k' ∧ (IsV stays) (a'.get 1) k' ∧ (IsV a_) (a'.get 2) k' ∧ (IsV days) (a'.get 3) k' ∧ (IsV x522_0) (a'.get 9) k' ∧ (IsV x527_1) (a'.get 10) k' ∧ (IsV s545.1) (a'.get 11) k' ∧ (IsV s549.1) (a'.get 13) k' ∧ (IsV s549.2.1) (a'.get 14) k' ∧ (IsV s549.2.2) (a'.get 15) k' ∧ (IsV s571.1) (a'.get 16) k' ∧ (IsV x579_18) (a'.get 18) k' ∧ (IsV s574.2) (a'.get 19) k' ∧ True) ?_ hQ ?_
          · intro Q583 hQQ583 hp584
            refine regionS (a0 := a) (k0 := k) (n := 174) (m := 20) (⟨some (IsV s574.1), [(18, none)]⟩ :: ⟨some (IsV s574.1), [(114, some 0)]⟩ :: ⟨some (Gd (s574.1 = true) (IsV s549.2.2)), [(15, none)]⟩ :: ⟨some (Gd (s574.1 = true) (IsV stays)), [(1, none)]⟩ :: ⟨some (Gd (s574.1 = true) (IsV s574.2)), [(19, none)]⟩ :: ⟨some (Gd (s574.1 = true) (IsPtr x579_5)), [(117, some 3), (118, some 4)]⟩ :: ⟨some (Gd (s574.1 = true) (IsPtr x579_5.From)), [(119, some 5)]⟩ :: ⟨some (Gd (s574.1 = true) (IsV x579_5.From)), [(120, some 6)]⟩ :: ⟨some (Gd (s574.1 = true) (IsV (decide (s549.2.2 < x579_5.From)))), [(116, some 2), (121, some 7)]⟩ :: ⟨some (Gd (s574.1 = true) (IsV (decide (s549.2.2 < x579_5.From)))), [(122, some 8)]⟩ :: ⟨some (Gd ((s574.1 = true) ∧ (decide (s549.2.2 < x579_5.From)) = false) (IsV s549.2.2)), [(15, none)]⟩ :: ⟨some (Gd ((s574.1 = true) ∧ (decide (s549.2.2 < x579_5.From)) = false) (IsV stays)), [(1, none)]⟩ :: ⟨some (Gd ((s574.1 = true) ∧ (decide (s549.2.2 < x579_5.From)) = false) (IsV s574.2)), [(19, none)]⟩ :: ⟨some (Gd ((s574.1 = true) ∧ (decide (s549.2.2 < x579_5.From)) = false) (IsPtr x579_13)), [(125, some 11), (126, some 12)]⟩ :: ⟨some (Gd ((s574.1 = true) ∧ (decide (s549.2.2 < x579_5.From)) = false) (IsPtr x579_13.To)), [(127, some 13)]⟩ :: ⟨some (Gd ((s574.1 = true) ∧ (decide (s549.2.2 < x579_5.From)) = false) (IsV x579_13.To)), [(128, some 14)]⟩ :: ⟨some (Gd ((s574.1 = true) ∧ (decide (s549.2.2 < x579_5.From)) = false) (IsV (decide (x579_13.To < s549.2.2)))), [(124, some 10), (129, some 15)]⟩ :: ⟨some (Gd (s574.1 = true) (IsV x579_17)), [(123, some 9), (130, some 16)]⟩ :: ⟨some (IsV x579_18), [(115, some 1), (131, some 17)]⟩ :: ⟨some (IsV x579_18), [(132, some 18)]⟩ :: []) hs (by kernel_rfl) ⟨ob1 rfl fun b q hk hn => ok_move rfl (up i18 hk hn.1), ob1 rfl fun b q hk hn => ok_move rfl hn.1, gdT rfl rfl fun hp b q hk hn => ok_move rfl (up i15 hk hn.1), gdT rfl rfl fun hp b q hk hn => ok_move rfl (up i1 hk hn.1), gdT rfl rfl fun hp b q hk hn => ok_move rfl (up i19 hk hn.1), gdT rfl rfl fun hp b q hk hn => ok_indexAddr rfl Try.underlying23 ty38 (IsV.rd (Gd.get hn.1 hp)) (Gd.get hn.2.1 hp) (hx579_5 hp), gdT rfl rfl fun hp b q hk hn => ok_fieldAddr rfl fo38_0 (at_Stay_0 _) (Gd.get hn.1 hp), gdT rfl rfl fun hp b q hk hn => ok_load rfl ty3 (Gd.get hn.1 hp), gdT rfl rfl fun hp b q hk hn => ok_lss rfl (Gd.get hn.1 hp) (Gd.get hn.2.1 hp), gdT rfl rfl fun hp b q hk hn => ok_move rfl (Gd.get hn.1 hp), gdTF rfl rfl fun hp b q hk hn => ok_move rfl (up i15 hk hn.1), gdTF rfl rfl fun hp b q hk hn => ok_move rfl (up i1 hk hn.1), gdTF rfl rfl fun hp b q hk hn => ok_move rfl (up i19 hk hn.1), gdTF rfl rfl fun hp b q hk hn => ok_indexAddr rfl Try.underlying23 ty38 (IsV.rd (Gd.get hn.1 hp)) (Gd.get hn.2.1 hp) (hx579_13 hp), gdTF rfl rfl fun hp b q hk hn => ok_fieldAddr rfl fo38_1 (at_Stay_1 _) (Gd.get hn.1 hp), gdTF rfl rfl fun hp b q hk hn => ok_load rfl ty3 (Gd.get hn.1 hp), gdTF rfl rfl fun hp b q hk hn => ok_gtr rfl (Gd.get hn.1 hp) (Gd.get hn.2.1 hp), gdT rfl rfl fun hp b q hk hn => ok_pickM rfl (Gd.get hn.1 hp) (hx579_17 hp) (fun _ => (isV_bool.2 rfl)) (fun hm => (Gd.get hn.2.1 ⟨hp, hm⟩)), ob1 rfl fun b q hk hn => ok_pickM rfl hn.1 hx579_18 (fun hm => (Gd.get hn.2.1 hm)) (fun _ => (isV_bool.2 rfl)), ob1 rfl fun b q hk hn => ok_assign rfl hn.1, trivial⟩ hQQ583 fun b q p => ?_
            exact tail_done (k := q) (hp584 _ _ ⟨Bs.post ⟨hg, hs, hd⟩ p, keep p 0 rfl i0, keep p 1 rfl i1, keep p 2 rfl i2, keep p 3 rfl i3, keep p 9 rfl i9, keep p 10 rfl i10, keep p 11 rfl i11, keep p 13 rfl i13, keep p 14 rfl i14, keep p 15 rfl i15, keep p 16 rfl i16, out p 19 18 _ rfl rfl rfl, keep p 19 rfl i19, trivial⟩)
          rintro a k ⟨⟨hg, hs, hd⟩, i0, i1, i2, i3, i9, i10, i11, i13, i14, i15, i16, i18, i19, _⟩
          obtain ⟨x580_1, hx580_1, hr⟩ := bind_some hr
          refine cut (fun a' k' => Bs noF k0 174 a' k' ∧ (IsV holidays) (a'.get 0) k' ∧ (IsV stays) (a'.get 1) k' ∧ (IsV a_) (a'.get 2) k' ∧ (IsV days) (a'.get 3) k' ∧ (IsV x522_0) (a'.get 9) k' ∧ (IsV x527_1) (a'.get 10) k' ∧ (IsV s545.1) (a'.get 11) k' ∧ (IsV s549.1) (a'.get 13) k' ∧ (IsV s549.2.1) (a'.get 14) k' ∧ (IsV s549.2.2) (a'.get 15) k' ∧ (IsV s571.1) (a'.get 16) k' ∧ (IsV x579_18) (a'.get 18) k' ∧ (IsV x580_1) (a'.get 19) k' ∧ True) ?_ hQ ?_
          · intro Q581 hQQ581 hp582
            refine regionS (a0 := a) (k0 := k) (n := 174) (m := 3) (⟨some (IsV s574.2), [(19, none)]⟩ :: ⟨some (IsV x580_1), [(112, some 0)]⟩ :: ⟨some (IsV x580_1), [(113, some 1)]⟩ :: []) hs (by kernel_rfl) ⟨ob1 rfl fun b q hk hn => ok_move rfl (up i19 hk hn.1), ob1 rfl fun b q hk hn => ok_add rfl hn.1 (isV_int.2 rfl) hx580_1, ob1 rfl fun b q hk hn => ok_assign rfl hn.1, trivial⟩ hQQ581 fun b q p => ?_
            exact tail_done (k := q) (hp582 _ _ ⟨Bs.post ⟨hg, hs, hd⟩ p, keep p 0 rfl i0, keep p 1 rfl i1, keep p 2 rfl i2, keep p 3 rfl i3, keep p 9 rfl i9, keep p 10 rfl i10, keep p 11 rfl i11, keep p 13 rfl i13, keep p 14 rfl i14, keep p 15 rfl i15, keep p 16 rfl i16, keep p 18 rfl i18, out p 2 19 _ rfl rfl rfl, trivial⟩)
          rintro a k ⟨⟨hg, hs, hd⟩, i0, i1, i2, i3, i9, i10, i11, i13, i14, i15, i16, i18, i19, _⟩
          exact hgo575 _ _ _ (Option.some.inj hr).symm ⟨⟨hg, hs, hd⟩, i0, i1, i2, i3, i9, i10, i11, i13, i14, i15, i16, i18, i19, trivial⟩
        rw [if_neg (by rw [hc585]; decide)] at hr
        refine wp_exit ?_
        exact hex576 _ _ _ _ (Option.some.inj hr).symm ⟨rfl, ⟨hg, hs, hd⟩, i0, i1, i2, i3, i9, i10, i11, i13, i14, i15, i16, i18, trivial⟩
      · rintro r620 a k rfl hR
        dsimp only at hr
        exact hret552 _ _ _ (Option.some.inj hr).symm hR
      · rintro _ _ _ rfl _
        simp at hr
      clear hf588
      rintro _ s589 a k rfl ⟨rfl, ⟨hg, hs, hd⟩, i0, i1, i2, i3, i9, i10, i11, i13, i14, i15, i16, i18, _⟩
      dsimp only at hr
      refine wp_seq ?_
      refine wp_seq ?_
      obtain ⟨x590_2, hx590_2, hr⟩ := bind_some hr
      obtain ⟨x590_12, hx590_12, hr⟩ := bind_some hr
      obtain ⟨x590_9, hx590_9, hx590_12⟩ := ite_bindF hx590_12
      refine cut (fun a' k' => Bs noF k0 174 a' k' ∧ (IsV holidays) (a'.get 0) k' ∧ (IsV stays) (a'.get 1) k' ∧ (IsV a_) (a'.get 2) k' ∧ (IsV days) (a'.get 3) k' ∧ (IsV x522_0) (a'.get 9) k' ∧ (IsV x527_1) (a'.get 10) k' ∧ (IsV s545.1) (a'.get 11) k' ∧ (IsV s549.1) (a'.get 13) k' ∧ (IsV s549.2.1) (a'.get 14) k' ∧ (IsV s549.2.2) (a'.get 15) k' ∧ (IsV s571.1) (a'.get 16) k' ∧ (IsV s589.1) (a'.get 18) k' ∧ (IsV x590_12) (a'.get 145) k' ∧ True) ?_ hQ ?_
      · intro Q618 hQQ618 hp619
        refine regionS (a0 := a) (k0 := k) (n := 174) (m := 13) (⟨some (IsV holidays), [(0, none)]⟩ :: ⟨some (IsV s549.2.2), [(15, none)]⟩ :: ⟨some (IsV x590_2), [(133, some 0), (134, some 1)]⟩ :: ⟨some (IsV s571.1), [(16, none)]⟩ :: ⟨some (IsV (x590_2 != s571.1)), [(135, some 2), (136, some 3)]⟩ :: ⟨some (IsV (x590_2 != s571.1)), [(137, some 4)]⟩ :: ⟨some (Gd ((x590_2 != s571.1) = false) (IsV holidays)), [(0, none)]⟩ :: ⟨some (Gd ((x590_2 != s571.1) = false) (IsV stays)), [(1, none)]⟩ :: ⟨some (Gd ((x590_2 != s571.1) = false) (IsV s549.2.2)), [(15, none)]⟩ :: ⟨some (Gd ((x590_2 != s571.1) = false) (IsV x590_9)), [(139, some 6), (140, some 7), (141, some 8)]⟩ :: ⟨some (Gd ((x590_2 != s571.1) = false) (IsV s589.1)), [(18, none)]⟩ :: ⟨some (Gd ((x590_2 != s571.1) = false) (IsV (x590_9 != s589.1))), [(142, some 9), (143, some 10)]⟩ :: ⟨some (IsV x590_12), [(138, some 5), (144, some 11)]⟩ :: []) hs (by kernel_rfl) ⟨ob1 rfl fun b q hk hn => ok_move rfl (up i0 hk hn.1), ob1 rfl fun b q hk hn => ok_move rfl (up i15 hk hn.1), ob1 rfl fun b q hk hn => ok_call rfl Try.call15 (calIsWork_ok hn.1 hn.2.1 hx590_2), ob1 rfl fun b q hk hn => ok_move rfl (up i16 hk hn.1), ob1 rfl fun b q hk hn => ok_neB rfl Try.underlying4 hn.1 hn.2.1, ob1 rfl fun b q hk hn => ok_move rfl hn.1, gdF rfl rfl fun hp b q hk hn => ok_move rfl (up i0 hk hn.1), gdF rfl rfl fun hp b q hk hn => ok_move rfl (up i1 hk hn.1), gdF rfl rfl fun hp b q hk hn => ok_move rfl (up i15 hk hn.1), gdF rfl rfl fun hp b q hk hn => ok_call rfl Try.call17 (calCounts_ok (Gd.get hn.1 hp) (Gd.get hn.2.1 hp) (Gd.get hn.2.2.1 hp) (hx590_9 hp)), gdF rfl rfl fun hp b q hk hn => ok_move rfl (up i18 hk hn.1), gdF rfl rfl fun hp b q hk hn => ok_neB rfl Try.underlying4 (Gd.get hn.1 hp) (Gd.get hn.2.1 hp), ob1 rfl fun b q hk hn => ok_pickM rfl hn.1 hx590_12 (fun _ => (isV_bool.2 rfl)) (fun hm => (Gd.get hn.2.1 hm)), trivial⟩ hQQ618 fun b q p => ?_
        exact tail_done (k := q) (hp619 _ _ ⟨Bs.post ⟨hg, hs, hd⟩ p, keep p 0 rfl i0, keep p 1 rfl i1, keep p 2 rfl i2, keep p 3 rfl i3, keep p 9 rfl i9, keep p 10 rfl i10, keep p 11 rfl i11, keep p 13 rfl i13, keep p 14 rfl i14, keep p 15 rfl i15, keep p 16 rfl i16, keep p 18 rfl i18, out p 12 145 _ rfl rfl rfl, trivial⟩)
      rintro a k ⟨⟨hg, hs, hd⟩, i0, i1, i2, i3, i9, i10, i11, i13, i14, i15, i16, i18, i145, _⟩
      refine wp_cond_split (isBool i145) (fun hc617 => ?_) (fun hc617 => ?_)
      · rw [if_pos hc617] at hr
        refine wp_seq ?_
        refine cut (fun a' k' => Bs noF k0 174 a' k' ∧ (IsV false) (a'.get 8) k' ∧ True) ?_ hQ ?_
        · intro Q592 hQQ592 hp593
          refine regionS (a0 := a) (k0 := k) (n := 174) (m := 1) (⟨some (IsV false), []⟩ :: []) hs (by kernel_rfl) ⟨ob1 rfl fun b q hk hn => ok_assign rfl (isV_bool.2 rfl), trivial⟩ hQQ592 fun b q p => ?_
          exact tail_done (k := q) (hp593 _ _ ⟨Bs.post ⟨hg, hs, hd⟩ p, out p 0 8 _ rfl rfl rfl, trivial⟩)
        rintro a k ⟨⟨hg, hs, hd⟩, i8, _⟩
        refine wp_ret ?_
        exact hret552 _ _ _ (Option.some.inj hr).symm (retC1 rfl hd hg i8)
      rw [if_neg (by rw [hc617]; decide)] at hr
      refine wp_skip ?_
      refine wp_seq ?_
      refine wp_seq ?_
      refine cut (fun a' k' => Bs noF k0 174 a' k' ∧ (IsV holidays) (a'.get 0) k' ∧ (IsV stays) (a'.get 1) k' ∧ (IsV a_) (a'.get 2) k' ∧ (IsV days) (a'.get 3) k' ∧ (IsV x522_0) (a'.get 9) k' ∧ (IsV x527_1) (a'.get 10) k' ∧ (IsV s545.1) (a'.get 11) k' ∧ (IsV s549.1) (a'.get 13) k' ∧ (IsV s549.2.1) (a'.get 14) k' ∧ (IsV s549.2.2) (a'.get 15) k' ∧ (IsV s589.1) (a'.get 18) k' ∧ (IsV s571.1) (a'.get 146) k' ∧ True) ?_ hQ ?_
      · intro Q615 hQQ615 hp616
        refine regionS (a0 := a) (k0 := k) (n := 174) (m := 1) (⟨some (IsV s571.1), [(16, none)]⟩ :: []) hs (by kernel_rfl) ⟨ob1 rfl fun b q hk hn => ok_move rfl (up i16 hk hn.1), trivial⟩ hQQ615 fun b q p => ?_
        exact tail_done (k := q) (hp616 _ _ ⟨Bs.post ⟨hg, hs, hd⟩ p, keep p 0 rfl i0, keep p 1 rfl i1, keep p 2 rfl i2, keep p 3 rfl i3, keep p 9 rfl i9, keep p 10 rfl i10, keep p 11 rfl i11, keep p 13 rfl i13, keep p 14 rfl i14, keep p 15 rfl i15, keep p 18 rfl i18, out p 0 146 _ rfl rfl rfl, trivial⟩)
      rintro a k ⟨⟨hg, hs, hd⟩, i0, i1, i2, i3, i9, i10, i11, i13, i14, i15, i18, i146, _⟩
      obtain ⟨s595, hs595, hr⟩ := bind_some hr
      refine cut (fun a' k' => Bs noF k0 174 a' k' ∧ (IsV holidays) (a'.get 0) k' ∧ (IsV stays) (a'.get 1) k' ∧ (IsV a_) (a'.get 2) k' ∧ (IsV days) (a'.get 3) k' ∧ (IsV x522_0) (a'.get 9) k' ∧ (IsV x527_1) (a'.get 10) k' ∧ (IsV s545.1) (a'.get 11) k' ∧ (IsV s595) (a'.get 13) k' ∧ (IsV s549.2.1) (a'.get 14) k' ∧ (IsV s549.2.2) (a'.get 15) k' ∧ (IsV s589.1) (a'.get 18) k' ∧ True) ?_ hQ ?_
      · intro Q614 hQQ614 hp596
        replace hr := hs595
        clear hQ
        have hQ := hQQ614
        refine wp_cond_split (isBool i146) (fun hc600 => ?_) (fun hc600 => ?_)
        · rw [if_pos hc600] at hr
          obtain ⟨x597_1, hx597_1, hr⟩ := bind_some hr
          refine cut (fun a' k' => Bs noF k0 174 a' k' ∧ (IsV holidays) (a'.get 0) k' ∧ (IsV stays) (a'.get 1) k' ∧ (IsV a_) (a'.get 2) k' ∧ (IsV days) (a'.get 3) k' ∧ (IsV x522_0) (a'.get 9) k' ∧ (IsV x527_1) (a'.get 10) k' ∧ (IsV s545.1) (a'.get 11) k' ∧ (IsV x597_1) (a'.get 13) k' ∧ (IsV s549.2.1) (a'.get 14) k' ∧ (IsV s549.2.2) (a'.get 15) k' ∧ (IsV s589.1) (a'.get 18) k' ∧ True) ?_ hQ ?_
          · intro Q598 hQQ598 hp599
            refine regionS (a0 := a) (k0 := k) (n := 174) (m := 3) (⟨some (IsV s549.1), [(13, none)]⟩ :: ⟨some (IsV x597_1), [(147, some 0)]⟩ :: ⟨some (IsV x597_1), [(148, some 1)]⟩ :: []) hs (by kernel_rfl) ⟨ob1 rfl fun b q hk hn => ok_move rfl (up i13 hk hn.1), ob1 rfl fun b q hk hn => ok_add rfl hn.1 (isV_int.2 rfl) hx597_1, ob1 rfl fun b q hk hn => ok_assign rfl hn.1, trivial⟩ hQQ598 fun b q p => ?_
            exact tail_done (k := q) (hp599 _ _ ⟨Bs.post ⟨hg, hs, hd⟩ p, keep p 0 rfl i0, keep p 1 rfl i1, keep p 2 rfl i2, keep p 3 rfl i3, keep p 9 rfl i9, keep p 10 rfl i10, keep p 11 rfl i11, out p 2 13 _ rfl rfl rfl, keep p 14 rfl i14, keep p 15 rfl i15, keep p 18 rfl i18, trivial⟩)
          rintro a k ⟨⟨hg, hs, hd⟩, i0, i1, i2, i3, i9, i10, i11, i13, i14, i15, i18, _⟩
          obtain rfl := Option.some.inj hr
          exact hp596 _ _ ⟨⟨hg, hs, hd⟩, i0, i1, i2, i3, i9, i10, i11, i13, i14, i15, i18, trivial⟩
        rw [if_neg (by rw [hc600]; decide)] at hr
        refine wp_skip ?_
        obtain rfl := Option.some.inj hr
        exact hp596 _ _ ⟨⟨hg, hs, hd⟩, i0, i1, i2, i3, i9, i10, i11, i13, i14, i15, i18, trivial⟩
      clear hs595
      rintro a k ⟨⟨hg, hs, hd⟩, i0, i1, i2, i3, i9, i10, i11, i13, i14, i15, i18, _⟩
      refine wp_seq ?_
      refine cut (fun a' k' => Bs noF k0 174 a' k' ∧ (IsV holidays) (a'.get 0) k' ∧ (IsV stays) (a'.get 1) k' ∧ (IsV a_) (a'.get 2) k' ∧ (IsV days) (a'.get 3) k' ∧ (IsV x522_0) (a'.get 9) k' ∧ (IsV x527_1) (a'.get 10) k' ∧ (IsV s545.1) (a'.get 11) k' ∧ (IsV s595) (a'.get 13) k' ∧ (IsV s549.2.1) (a'.get 14) k' ∧ (IsV s549.2.2) (a'.get 15) k' ∧ (IsV s589.1) (a'.get 149) k' ∧ True) ?_ hQ ?_
      · intro Q612 hQQ612 hp613
        refine regionS (a0 := a) (k0 := k) (n := 174) (m := 1) (⟨some (IsV s589.1), [(18, none)]⟩ :: []) hs (by kernel_rfl) ⟨ob1 rfl fun b q hk hn => ok_move rfl (up i18 hk hn.1), trivial⟩ hQQ612 fun b q p => ?_
        exact tail_done (k := q) (hp613 _ _ ⟨Bs.post ⟨hg, hs, hd⟩ p, keep p 0 rfl i0, keep p 1 rfl i1, keep p 2 rfl i2, keep p 3 rfl i3, keep p 9 rfl i9, keep p 10 rfl i10, keep p 11 rfl i11, keep p 13 rfl i13, keep p 14 rfl i14, keep p 15 rfl i15, out p 0 149 _ rfl rfl rfl, trivial⟩)
      rintro a k ⟨⟨hg, hs, hd⟩, i0, i1, i2, i3, i9, i10, i11, i13, i14, i15, i149, _⟩
      obtain ⟨s602, hs602, hr⟩ := bind_some hr
      refine cut (fun a' k' => Bs noF k0 174 a' k' ∧ (IsV holidays) (a'.get 0) k' ∧ (IsV stays) (a'.get 1) k' ∧ (IsV a_) (a'.get 2) k' ∧ (IsV days) (a'.get 3) k' ∧ (IsV x522_0) (a'.get 9) k' ∧ (IsV x527_1) (a'.get 10) k' ∧ (IsV s545.1) (a'.get 11) k' ∧ (IsV s595) (a'.get 13) k' ∧ (IsV s602) (a'.get 14) k' ∧ (IsV s549.2.2) (a'.get 15) k' ∧ True) ?_ hQ ?_
      · intro Q611 hQQ611 hp603
        replace hr := hs602
        clear hQ
        have hQ := hQQ611
        refine wp_cond_split (isBool i149) (fun hc607 => ?_) (fun hc607 => ?_)
        · rw [if_pos hc607] at hr
          obtain ⟨x604_1, hx604_1, hr⟩ := bind_some hr
          refine cut (fun a' k' => Bs noF k0 174 a' k' ∧ (IsV holidays) (a'.get 0) k' ∧ (IsV stays) (a'.get 1) k' ∧ (IsV a_) (a'.get 2) k' ∧ (IsV days) (a'.get 3) k' ∧ (IsV x522_0) (a'.get 9) k' ∧ (IsV x527_1) (a'.get 10) k' ∧ (IsV s545.1) (a'.get 11) k' ∧ (IsV s595) (a'.get 13) k' ∧ (IsV x604_1) (a'.get 14) k' ∧ (IsV s549.2.2) (a'.get 15) k' ∧ True) ?_ hQ ?_
          · intro Q605 hQQ605 hp606
            refine regionS (a0 := a) (k0 := k) (n := 174) (m := 3) (⟨some (IsV s549.2.1), [(14, none)]⟩ :: ⟨some (IsV x604_1), [(150, some 0)]⟩ :: ⟨some (IsV x604_1), [(151, some 1)]⟩ :: []) hs (by kernel_rfl) ⟨ob1 rfl fun b q hk hn => ok_move rfl (up i14 hk hn.1), ob1 rfl fun b q hk hn => ok_add rfl hn.1 (isV_int.2 rfl) hx604_1, ob1 rfl fun b q hk hn => ok_assign rfl hn.1, trivial⟩ hQQ605 fun b q p => ?_
            exact tail_done (k := q) (hp606 _ _ ⟨Bs.post ⟨hg, hs, hd⟩ p, keep p 0 rfl i0, keep p 1 rfl i1, keep p 2 rfl i2, keep p 3 rfl i3, keep p 9 rfl i9, keep p 10 rfl i10, keep p 11 rfl i11, keep p 13 rfl i13, out p 2 14 _ rfl rfl rfl, keep p 15 rfl i15, trivial⟩)
          rintro a k ⟨⟨hg, hs, hd⟩, i0, i1, i2, i3, i9, i10, i11, i13, i14, i15, _⟩
          obtain rfl := Option.some.inj hr
          exact hp603 _ _ ⟨⟨hg, hs, hd⟩, i0, i1, i2, i3, i9, i10, i11, i13, i14, i15, trivial⟩
        rw [if_neg (by rw [hc607]; decide)] at hr
        refine wp_skip ?_
        obtain rfl := Option.some.inj hr
        exact hp603 _ _ ⟨⟨hg, hs, hd⟩, i0, i1, i2, i3, i9, i10, i11, i13, i14, i15, trivial⟩
      clear hs602
      rintro a k ⟨⟨hg, hs, hd⟩, i0, i1, i2, i3, i9, i10, i11, i13, i14, i15, _⟩
      obtain ⟨x608_1, hx608_1, hr⟩ := bind_some hr
      refine cut (fun a' k' => Bs noF k0 174 a' k' ∧ (IsV holidays) (a'.get 0) k' ∧ (IsV stays) (a'.get 1) k' ∧ (IsV a_) (a'.get 2) k' ∧ (IsV days) (a'.get 3) k' ∧ (IsV x522_0) (a'.get 9) k' ∧ (IsV x527_1) (a'.get 10) k' ∧ (IsV s545.1) (a'.get 11) k' ∧ (IsV s595) (a'.get 13) k' ∧ (IsV s602) (a'.get 14) k' ∧ (IsV x608_1) (a'.get 15) k' ∧ True) ?_ hQ ?_
      · intro Q609 hQQ609 hp610
        refine regionS (a0 := a) (k0 := k) (n := 174) (m := 3) (⟨some (IsV s549.2.2), [(15, none)]⟩ :: ⟨some (IsV x608_1), [(81, some 0)]⟩ :: ⟨some (IsV x608_1), [(82, some 1)]⟩ :: []) hs (by kernel_rfl) ⟨ob1 rfl fun b q hk hn => ok_move rfl (up i15 hk hn.1), ob1 rfl fun b q hk hn => ok_add rfl hn.1 (isV_int.2 rfl) hx608_1, ob1 rfl fun b q hk hn => ok_assign rfl hn.1, trivial⟩ hQQ609 fun b q p => ?_
        exact tail_done (k := q) (hp610 _ _ ⟨Bs.post ⟨hg, hs, hd⟩ p, keep p 0 rfl i0, keep p 1 rfl i1, keep p 2 rfl i2, keep p 3 rfl i3, keep p 9 rfl i9, keep p 10 rfl i10, keep p 11 rfl i11, keep p 13 rfl i13, keep p 14 rfl i14, out p 2 15 _ rfl rfl rfl, trivial⟩)
      rintro a k ⟨⟨hg, hs, hd⟩, i0, i1, i2, i3, i9, i10, i11, i13, i14, i15, _⟩
      exact hgo550 _ _ _ (Option.some.inj hr).symm ⟨⟨hg, hs, hd⟩, i0, i1, i2, i3, i9, i10, i11, i13, i14, i15, trivial⟩
    rw [if_neg (by rw [hc632]; decide)] at hr
    refine wp_exit ?_
    exact hex551 _ _ _ _ (Option.some.inj hr).symm ⟨rfl, ⟨hg, hs, hd⟩, i0, i1, i2, i3, i9, i13, i14, trivial⟩
  · rintro r640 a k rfl hR
    dsimp only at hr
    obtain rfl := Option.some.inj hr
    exact hR
  · rintro _ _ _ rfl _
    simp at hr
  clear hf635
  rintro _ s636 a k rfl ⟨rfl, ⟨hg, hs, hd⟩, i0, i1, i2, i3, i9, i13, i14, _⟩
  dsimp only at hr
  refine wp_seq ?_
  obtain ⟨x637_10, hx637_10, hr⟩ := bind_some hr
  obtain ⟨x637_6, hx637_6, hx637_10⟩ := ite_bind hx637_10
  obtain ⟨x637_7, hx637_7, hx637_10⟩ := ite_bind hx637_10
  obtain ⟨x637_21, hx637_21, hr⟩ := bind_some hr
  obtain ⟨x637_17, hx637_17, hx637_21⟩ := ite_bind hx637_21
  obtain ⟨x637_18, hx637_18, hx637_21⟩ := ite_bind hx637_21
  refine cut (fun a' k' => Bs noF k0 174 a' k' ∧ (IsV x637_21) (a'.get 8) k' ∧ True) ?_ hQ ?_
  · intro Q638 hQQ638 hp639
    refine regionS (a0 := a) (k0 := k) (n := 174) (m := 23) (⟨some (IsV x522_0), [(9, none)]⟩ :: ⟨some (IsV x522_0), [(152, some 0)]⟩ :: ⟨some (Gd (x522_0 = true) (IsV holidays)), [(0, none)]⟩ :: ⟨some (Gd (x522_0 = true) (IsV a_)), [(2, none)]⟩ :: ⟨some (Gd (x522_0 = true) (IsV a_)), [(2, none)]⟩ :: ⟨some (Gd (x522_0 = true) (IsV days)), [(3, none)]⟩ :: ⟨some (Gd (x522_0 = true) (IsV x637_6)), [(156, some 4), (157, some 5)]⟩ :: ⟨some (Gd (x522_0 = true) (IsV x637_7)), [(154, some 2), (155, some 3), (158, some 6)]⟩ :: ⟨some (Gd (x522_0 = true) (IsV s636.1)), [(13, none)]⟩ :: ⟨some (Gd (x522_0 = true) (IsV (x637_7 == s636.1))), [(159, some 7), (160, some 8)]⟩ :: ⟨some (IsV x637_10), [(153, some 1), (161, some 9)]⟩ :: ⟨some (IsV x637_10), [(162, some 10)]⟩ :: ⟨some (Gd (x637_10 = true) (IsV holidays)), [(0, none)]⟩ :: ⟨some (Gd (x637_10 = true) (IsV stays)), [(1, none)]⟩ :: ⟨some (Gd (x637_10 = true) (IsV a_)), [(2, none)]⟩ :: ⟨some (Gd (x637_10 = true) (IsV a_)), [(2, none)]⟩ :: ⟨some (Gd (x637_10 = true) (IsV days)), [(3, none)]⟩ :: ⟨some (Gd (x637_10 = true) (IsV x637_17)), [(167, some 15), (168, some 16)]⟩ :: ⟨some (Gd (x637_10 = true) (IsV x637_18)), [(164, some 12), (165, some 13), (166, some 14), (169, some 17)]⟩ :: ⟨some (Gd (x637_10 = true) (IsV s636.2.1)), [(14, none)]⟩ :: ⟨some (Gd (x637_10 = true) (IsV (x637_18 == s636.2.1))), [(170, some 18), (171, some 19)]⟩ :: ⟨some (IsV x637_21), [(163, some 11), (172, some 20)]⟩ :: ⟨some (IsV x637_21), [(173, some 21)]⟩ :: []) hs (by kernel_rfl) ⟨ob1 rfl fun b q hk hn => ok_move rfl (up i9 hk hn.1), ob1 rfl fun b q hk hn => ok_move rfl hn.1, gdT rfl rfl fun hp b q hk hn => ok_move rfl (up i0 hk hn.1), gdT rfl rfl fun hp b q hk hn => ok_move rfl (up i2 hk hn.1), gdT rfl rfl fun hp b q hk hn => ok_move rfl (up i2 hk hn.1), gdT rfl rfl fun hp b q hk hn => ok_move rfl (up i3 hk hn.1), gdT rfl rfl fun hp b q hk hn => ok_add rfl (Gd.get hn.1 hp) (Gd.get hn.2.1 hp) (hx637_6 hp), gdT rfl rfl fun hp b q hk hn => ok_call rfl Try.call19 (calBetween_ok (Gd.get hn.1 hp) (Gd.get hn.2.1 hp) (Gd.get hn.2.2.1 hp) (hx637_7 hp)), gdT rfl rfl fun hp b q hk hn => ok_move rfl (up i13 hk hn.1), gdT rfl rfl fun hp b q hk hn => ok_eqI rfl (Gd.get hn.1 hp) (Gd.get hn.2.1 hp), ob1 rfl fun b q hk hn => ok_pickM rfl hn.1 hx637_10 (fun hm => (Gd.get hn.2.1 hm)) (fun _ => (isV_bool.2 rfl)), ob1 rfl fun b q hk hn => ok_move rfl hn.1, gdT rfl rfl fun hp b q hk hn => ok_move rfl (up i0 hk hn.1), gdT rfl rfl fun hp b q hk hn => ok_move rfl (up i1 hk hn.1), gdT rfl rfl fun hp b q hk hn => ok_move rfl (up i2 hk hn.1), gdT rfl rfl fun hp b q hk hn => ok_move rfl (up i2 hk hn.1), gdT rfl rfl fun hp b q hk hn => ok_move rfl (up i3 hk hn.1), gdT rfl rfl fun hp b q hk hn => ok_add rfl (Gd.get hn.1 hp) (Gd.get hn.2.1 hp) (hx637_17 hp), gdT rfl rfl fun hp b q hk hn => ok_call rfl Try.call21 (calCount_ok (Gd.get hn.1 hp) (Gd.get hn.2.1 hp) (Gd.get hn.2.2.1 hp) (Gd.get hn.2.2.2.1 hp) (hx637_18 hp)), gdT rfl rfl fun hp b q hk hn => ok_move rfl (up i14 hk hn.1), gdT rfl rfl fun hp b q hk hn => ok_eqI rfl (Gd.get hn.1 hp) (Gd.get hn.2.1 hp), ob1 rfl fun b q hk hn => ok_pickM rfl hn.1 hx637_21 (fun hm => (Gd.get hn.2.1 hm)) (fun _ => (isV_bool.2 rfl)), ob1 rfl fun b q hk hn => ok_assign rfl hn.1, trivial⟩ hQQ638 fun b q p => ?_
    exact tail_done (k := q) (hp639 _ _ ⟨Bs.post ⟨hg, hs, hd⟩ p, out p 22 8 _ rfl rfl rfl, trivial⟩)
  rintro a k ⟨⟨hg, hs, hd⟩, i8, _⟩
  refine wp_ret ?_
  obtain rfl := Option.some.inj hr
  exact retC1 rfl hd hg i8
def lawDeadline (holidays : (List Int)) (stays : (List Stay)) (day : Int) (n_ : Int) (m_ : Int) : Option (Bool) :=
  (small).bind fun x664_0 =>
  (few holidays stays).bind fun x665_2 =>
  (if (!x665_2) then
    some true
  else
    (within n_ 1 1000000).bind fun x665_6 =>
    some (!x665_6)).bind fun x665_8 =>
  (if x665_8 then
    some true
  else
    (within m_ 1 1000000).bind fun x665_11 =>
    some (!x665_11)).bind fun x665_13 =>
  if x665_13 then
    some x664_0
  else
    (calDeadline holidays stays day n_).bind fun x669_4 =>
    if (x669_4.2 == 1) then
      some (x664_0 && (x669_4.1 == 0))
    else
      (calCount holidays stays day 1073741824).bind fun x674_3 =>
      if (x669_4.2 != 0) then
        some (((x664_0 && (x669_4.2 == 20)) && (x669_4.1 == 0)) && (decide (x674_3 < n_)))
      else
        (if ((decide (x669_4.1 ≤ day)) || (decide (x674_3 < n_))) then
          some true
        else
          (calCounts holidays stays x669_4.1).bind fun x679_12 =>
          some (!x679_12)).bind fun x679_14 =>
        (if x679_14 then
          some true
        else
          (calCount holidays stays day x669_4.1).bind fun x679_20 =>
          some (x679_20 != n_)).bind fun x679_23 =>
        (if x679_23 then
          some true
        else
          (subI x669_4.1 1).bind fun x679_26 =>
          (if (decide (day < x679_26)) then
            (subI x669_4.1 1).bind fun x679_34 =>
            (calCount holidays stays day x679_34).bind fun x679_35 =>
            (subI n_ 1).bind fun x679_37 =>
            some (x679_35 != x679_37)
          else
            some false).bind fun x679_39 =>
          some x679_39).bind fun x679_40 =>
        if x679_40 then
          some false
        else
          (calDeadline holidays stays x669_4.1 m_).bind fun x683_4 =>
          (addI n_ m_).bind fun x684_5 =>
          (calDeadline holidays stays day x684_5).bind fun x684_6 =>
          (calDeadline holidays stays day 0).bind fun x685_3 =>
          some (((((x664_0 && (x683_4.1 == x684_6.1)) && (x683_4.2 == x684_6.2)) && (x685_3.1 == day)) && (x685_3.2 == 0)) && ((x683_4.2 != 0) || (decide (x669_4.1 < x683_4.1))))
theorem lawDeadline_ok {k0 : K} {v0 v1 v2 v3 v4 : Value} {holidays : (List Int)} {stays : (List Stay)} {day : Int} {n_ : Int} {m_ : Int} {r : Bool} (i0 : (IsV holidays) v0 k0) (i1 : (IsV stays) v1 k0) (i2 : (IsV day) v2 k0) (i3 : (IsV n_) v3 k0) (i4 : (IsV m_) v4 k0) (hr : lawDeadline holidays stays day n_ m_ = some r) :
    Calls Try.prog 5 #[v0, v1, v2, v3, v4] k0.w (Ret k0 (IsV r)) := by
  unfold lawDeadline at hr
  refine Ret.ofC ?_
  refine enterK Try.func5 rfl Try.ntmps5 (show 5 ≤ 167 by decide) fun a k hk0 hs hd ha => ?_
  obtain ⟨e0, e1, e2, e3, e4, _⟩ := ha
  replace i0 : (IsV holidays) (a.get 0) k := by rw [e0, hk0]; exact i0
  replace i1 : (IsV stays) (a.get 1) k := by rw [e1, hk0]; exact i1
  replace i2 : (IsV day) (a.get 2) k := by rw [e2, hk0]; exact i2
  replace i3 : (IsV n_) (a.get 3) k := by rw [e3, hk0]; exact i3
  replace i4 : (IsV m_) (a.get 4) k := by rw [e4, hk0]; exact i4
  have hQ : Gb.LetsOut (bodyPost Try.prog Try.f5 (RetC noF k0 (IsV r))) := letsOutC
  have hg : Chg noF k0 k := by rw [hk0]; exact Chg.refl _ k0
  refine wp_seq ?_
  refine cut (fun a' k' => Bs noF k0 167 a' k' ∧ (IsV holidays) (a'.get 0) k' ∧ (IsV stays) (a'.get 1) k' ∧ (IsV day) (a'.get 2) k' ∧ (IsV n_) (a'.get 3) k' ∧ (IsV m_) (a'.get 4) k' ∧ True) ?_ hQ ?_
  · intro Q713 hQQ713 hp714
    refine regionS (a0 := a) (k0 := k) (n := 167) (m := 1) (⟨some (IsV false), []⟩ :: []) hs (by kernel_rfl) ⟨ob1 rfl fun b q hk hn => ok_assign rfl (isV_bool.2 rfl), trivial⟩ hQQ713 fun b q p => ?_
    exact tail_done (k := q) (hp714 _ _ ⟨Bs.post ⟨hg, hs, hd⟩ p, keep p 0 rfl i0, keep p 1 rfl i1, keep p 2 rfl i2, keep p 3 rfl i3, keep p 4 rfl i4, trivial⟩)
  rintro a k ⟨⟨hg, hs, hd⟩, i0, i1, i2, i3, i4, _⟩
  refine wp_seq ?_
  obtain ⟨x664_0, hx664_0, hr⟩ := bind_some hr
  refine cut (fun a' k' => Bs noF k0 167 a' k' ∧ (IsV holidays) (a'.get 0) k' ∧ (IsV stays) (a'.get 1) k' ∧ (IsV day) (a'.get 2) k' ∧ (IsV n_) (a'.get 3) k' ∧ (IsV m_) (a'.get 4) k' ∧ (IsV x664_0) (a'.get 11) k' ∧ True) ?_ hQ ?_
  · intro Q711 hQQ711 hp712
    refine regionS (a0 := a) (k0 := k) (n := 167) (m := 2) (⟨some (IsV x664_0), []⟩ :: ⟨some (IsV x664_0), [(21, some 0)]⟩ :: []) hs (by kernel_rfl) ⟨ob1 rfl fun b q hk hn => ok_call rfl Try.call8 (small_ok hx664_0), ob1 rfl fun b q hk hn => ok_assign rfl hn.1, trivial⟩ hQQ711 fun b q p => ?_
    exact tail_done (k := q) (hp712 _ _ ⟨Bs.post ⟨hg, hs, hd⟩ p, keep p 0 rfl i0, keep p 1 rfl i1, keep p 2 rfl i2, keep p 3 rfl i3, keep p 4 rfl i4, out p 1 11 _ rfl rfl rfl, trivial⟩)
  rintro a k ⟨⟨hg, hs, hd⟩, i0, i1, i2, i3, i4, i11, _⟩
  refine wp_seq ?_
  refine wp_seq ?_
  obtain ⟨x665_2, hx665_2, hr⟩ := bind_some hr
  obtain ⟨x665_8, hx665_8, hr⟩ := bind_some hr
  obtain ⟨x665_6, hx665_6, hx665_8⟩ := ite_bindF hx665_8
  obtain ⟨x665_13, hx665_13, hr⟩ := bind_some hr
  obtain ⟨x665_11, hx665_11, hx665_13⟩ := ite_bindF hx665_13
  refine cut (fun a' k' => Bs noF k0 167 a' k' ∧ (IsV holidays) (a'.get 0) k' ∧ (IsV stays) (a'.get 1) k' ∧ (IsV day) (a'.get 2) k' ∧ (IsV n_) (a'.get 3) k' ∧ (IsV m_) (a'.get 4) k' ∧ (IsV x664_0) (a'.get 11) k' ∧ (IsV x665_13) (a'.get 35) k' ∧ True) ?_ hQ ?_
  · intro Q709 hQQ709 hp710
    refine regionS (a0 := a) (k0 := k) (n := 167) (m := 14) (⟨some (IsV holidays), [(0, none)]⟩ :: ⟨some (IsV stays), [(1, none)]⟩ :: ⟨some (IsV x665_2), [(22, some 0), (23, some 1)]⟩ :: ⟨some (IsV (!x665_2)), [(24, some 2)]⟩ :: ⟨some (IsV (!x665_2)), [(25, some 3)]⟩ :: ⟨some (Gd ((!x665_2) = false) (IsV n_)), [(3, none)]⟩ :: ⟨some (Gd ((!x665_2) = false) (IsV x665_6)), [(27, some 5)]⟩ :: ⟨some (Gd ((!x665_2) = false) (IsV (!x665_6))), [(28, some 6)]⟩ :: ⟨some (IsV x665_8), [(26, some 4), (29, some 7)]⟩ :: ⟨some (IsV x665_8), [(30, some 8)]⟩ :: ⟨some (Gd (x665_8 = false) (IsV m_)), [(4, none)]⟩ :: ⟨some (Gd (x665_8 = false) (IsV x665_11)), [(32, some 10)]⟩ :: ⟨some (Gd (x665_8 = false) (IsV (!x665_11))), [(33, some 11)]⟩ :: ⟨some (IsV x665_13), [(31, some 9), (34, some 12)]⟩ :: []) hs (by kernel_rfl) ⟨ob1 rfl fun b q hk hn => ok_move rfl (up i0 hk hn.1), ob1 rfl fun b q hk hn => ok_move rfl (up i1 hk hn.1), ob1 rfl fun b q hk hn => ok_call rfl Try.call23 (few_ok hn.1 hn.2.1 hx665_2), ob1 rfl fun b q hk hn => ok_not rfl hn.1, ob1 rfl fun b q hk hn => ok_move rfl hn.1, gdF rfl rfl fun hp b q hk hn => ok_move rfl (up i3 hk hn.1), gdF rfl rfl fun hp b q hk hn => ok_call rfl Try.call24 (within_ok (Gd.get hn.1 hp) (isV_int.2 rfl) (isV_int.2 rfl) (hx665_6 hp)), gdF rfl rfl fun hp b q hk hn => ok_not rfl (Gd.get hn.1 hp), ob1 rfl fun b q hk hn => ok_pickM rfl hn.1 hx665_8 (fun _ => (isV_bool.2 rfl)) (fun hm => (Gd.get hn.2.1 hm)), ob1 rfl fun b q hk hn => ok_move rfl hn.1, gdF rfl rfl fun hp b q hk hn => ok_move rfl (up i4 hk hn.1), gdF rfl rfl fun hp b q hk hn => ok_call rfl Try.call24 (within_ok (Gd.get hn.1 hp) (isV_int.2 rfl) (isV_int.2 rfl) (hx665_11 hp)), gdF rfl rfl fun hp b q hk hn => ok_not rfl (Gd.get hn.1 hp), ob1 rfl fun b q hk hn => ok_pickM rfl hn.1 hx665_13 (fun _ => (isV_bool.2 rfl)) (fun hm => (Gd.get hn.2.1 hm)), trivial⟩ hQQ709 fun b q p => ?_
    exact tail_done (k := q) (hp710 _ _ ⟨Bs.post ⟨hg, hs, hd⟩ p, keep p 0 rfl i0, keep p 1 rfl i1, keep p 2 rfl i2, keep p 3 rfl i3, keep p 4 rfl i4, keep p 11 rfl i11, out p 13 35 _ rfl rfl rfl, trivial⟩)
  rintro a k ⟨⟨hg, hs, hd⟩, i0, i1, i2, i3, i4, i11, i35, _⟩
  refine wp_cond_split (isBool i35) (fun hc708 => ?_) (fun hc708 => ?_)
  · rw [if_pos hc708] at hr
    refine wp_seq ?_
    refine cut (fun a' k' => Bs noF k0 167 a' k' ∧ (IsV x664_0) (a'.get 10) k' ∧ True) ?_ hQ ?_
    · intro Q667 hQQ667 hp668
      refine regionS (a0 := a) (k0 := k) (n := 167) (m := 2) (⟨some (IsV x664_0), [(11, none)]⟩ :: ⟨some (IsV x664_0), [(36, some 0)]⟩ :: []) hs (by kernel_rfl) ⟨ob1 rfl fun b q hk hn => ok_move rfl (up i11 hk hn.1), ob1 rfl fun b q hk hn => ok_assign rfl hn.1, trivial⟩ hQQ667 fun b q p => ?_
      exact tail_done (k := q) (hp668 _ _ ⟨Bs.post ⟨hg, hs, hd⟩ p, out p 1 10 _ rfl rfl rfl, trivial⟩)
    rintro a k ⟨⟨hg, hs, hd⟩, i10, _⟩
    refine wp_ret ?_
    obtain rfl := Option.some.inj hr
    exact retC1 rfl hd hg i10
  rw [if_neg (by rw [hc708]; decide)] at hr
  refine wp_skip ?_
  refine wp_seq ?_
  obtain ⟨x669_4, hx669_4, hr⟩ := bind_some hr
  refine cut (fun a' k' => Bs noF k0 167 a' k' ∧ (IsV holidays) (a'.get 0) k' ∧ (IsV stays) (a'.get 1) k' ∧ (IsV day) (a'.get 2) k' ∧ (IsV n_) (a'.get 3) k' ∧ (IsV m_) (a'.get 4) k' ∧ (IsV x664_0) (a'.get 11) k' ∧ (IsV x669_4.1) (a'.get 12) k' ∧ (IsV x669_4.2) (a'.get 13) k' ∧ True) ?_ hQ ?_
  · intro Q706 hQQ706 hp707
    refine regionS (a0 := a) (k0 := k) (n := 167) (m := 10) (⟨some (IsV holidays), [(0, none)]⟩ :: ⟨some (IsV stays), [(1, none)]⟩ :: ⟨some (IsV day), [(2, none)]⟩ :: ⟨some (IsV n_), [(3, none)]⟩ :: ⟨some (IsTup2 (IsV x669_4.1) (IsV x669_4.2)), [(38, some 0), (39, some 1), (40, some 2), (41, some 3)]⟩ :: ⟨some (IsTup2 (IsV x669_4.1) (IsV x669_4.2)), [(42, some 4)]⟩ :: ⟨some (IsV x669_4.1), [(37, some 5)]⟩ :: ⟨some (IsV x669_4.2), [(37, some 5)]⟩ :: ⟨some (IsV x669_4.1), [(43, some 6)]⟩ :: ⟨some (IsV x669_4.2), [(44, some 7)]⟩ :: []) hs (by kernel_rfl) ⟨ob1 rfl fun b q hk hn => ok_move rfl (up i0 hk hn.1), ob1 rfl fun b q hk hn => ok_move rfl (up i1 hk hn.1), ob1 rfl fun b q hk hn => ok_move rfl (up i2 hk hn.1), ob1 rfl fun b q hk hn => ok_move rfl (up i3 hk hn.1), ob1 rfl fun b q hk hn => ok_call rfl Try.call11 (calDeadline_ok hn.1 hn.2.1 hn.2.2.1 hn.2.2.2.1 hx669_4), ob1 rfl fun b q hk hn => ok_move rfl hn.1, ob1 rfl fun b q hk hn => ok_ext2_0 rfl hn.1, ob1 rfl fun b q hk hn => ok_ext2_1 rfl hn.1, ob1 rfl fun b q hk hn => ok_assign rfl hn.1, ob1 rfl fun b q hk hn => ok_assign rfl hn.1, trivial⟩ hQQ706 fun b q p => ?_
    exact tail_done (k := q) (hp707 _ _ ⟨Bs.post ⟨hg, hs, hd⟩ p, keep p 0 rfl i0, keep p 1 rfl i1, keep p 2 rfl i2, keep p 3 rfl i3, keep p 4 rfl i4, keep p 11 rfl i11, out p 8 12 _ rfl rfl rfl, out p 9 13 _ rfl rfl rfl, trivial⟩)
  rintro a k ⟨⟨hg, hs, hd⟩, i0, i1, i2, i3, i4, i11, i12, i13, _⟩
  refine wp_seq ?_
  refine wp_seq ?_
  refine cut (fun a' k' => Bs noF k0 167 a' k' ∧ (IsV holidays) (a'.get 0) k' ∧ (IsV stays) (a'.get 1) k' ∧ (IsV day) (a'.get 2) k' ∧ (IsV n_) (a'.get 3) k' ∧ (IsV m_) (a'.get 4) k' ∧ (IsV x664_0) (a'.get 11) k' ∧ (IsV x669_4.1) (a'.get 12) k' ∧ (IsV x669_4.2) (a'.get 13) k' ∧ (IsV (x669_4.2 == 1)) (a'.get 46) k' ∧ True) ?_ hQ ?_
  · intro Q704 hQQ704 hp705
    refine regionS (a0 := a) (k0 := k) (n := 167) (m := 2) (⟨some (IsV x669_4.2), [(13, none)]⟩ :: ⟨some (IsV (x669_4.2 == 1)), [(45, some 0)]⟩ :: []) hs (by kernel_rfl) ⟨ob1 rfl fun b q hk hn => ok_move rfl (up i13 hk hn.1), ob1 rfl fun b q hk hn => ok_eqI rfl hn.1 (isV_int.2 rfl), trivial⟩ hQQ704 fun b q p => ?_
    exact tail_done (k := q) (hp705 _ _ ⟨Bs.post ⟨hg, hs, hd⟩ p, keep p 0 rfl i0, keep p 1 rfl i1, keep p 2 rfl i2, keep p 3 rfl i3, keep p 4 rfl i4, keep p 11 rfl i11, keep p 12 rfl i12, keep p 13 rfl i13, out p 1 46 _ rfl rfl rfl, trivial⟩)
  rintro a k ⟨⟨hg, hs, hd⟩, i0, i1, i2, i3, i4, i11, i12, i13, i46, _⟩
  refine wp_cond_split (isBool i46) (fun hc703 => ?_) (fun hc703 => ?_)
  · rw [if_pos hc703] at hr
    refine wp_seq ?_
    refine cut (fun a' k' => Bs noF k0 167 a' k' ∧ (IsV (x664_0 && (x669_4.1 == 0))) (a'.get 10) k' ∧ True) ?_ hQ ?_
    · intro Q672 hQQ672 hp673
      refine regionS (a0 := a) (k0 := k) (n := 167) (m := 6) (⟨some (IsV x664_0), [(11, none)]⟩ :: ⟨some (IsV x664_0), [(47, some 0)]⟩ :: ⟨some (Gd (x664_0 = true) (IsV x669_4.1)), [(12, none)]⟩ :: ⟨some (Gd (x664_0 = true) (IsV (x669_4.1 == 0))), [(49, some 2)]⟩ :: ⟨some (IsV (x664_0 && (x669_4.1 == 0))), [(48, some 1), (50, some 3)]⟩ :: ⟨some (IsV (x664_0 && (x669_4.1 == 0))), [(51, some 4)]⟩ :: []) hs (by kernel_rfl) ⟨ob1 rfl fun b q hk hn => ok_move rfl (up i11 hk hn.1), ob1 rfl fun b q hk hn => ok_move rfl hn.1, gdT rfl rfl fun hp b q hk hn => ok_move rfl (up i12 hk hn.1), gdT rfl rfl fun hp b q hk hn => ok_eqI rfl (Gd.get hn.1 hp) (isV_int.2 rfl), ob1 rfl fun b q hk hn => ok_pickAnd rfl hn.1 (fun hm => (Gd.get hn.2.1 hm)) (fun _ => (isV_bool.2 rfl)), ob1 rfl fun b q hk hn => ok_assign rfl hn.1, trivial⟩ hQQ672 fun b q p => ?_
      exact tail_done (k := q) (hp673 _ _ ⟨Bs.post ⟨hg, hs, hd⟩ p, out p 5 10 _ rfl rfl rfl, trivial⟩)
    rintro a k ⟨⟨hg, hs, hd⟩, i10, _⟩
    refine wp_ret ?_
    obtain rfl := Option.some.inj hr
    exact retC1 rfl hd hg i10
  rw [if_neg (by rw [hc703]; decide)] at hr
  refine wp_skip ?_
  refine wp_seq ?_
  obtain ⟨x674_3, hx674_3, hr⟩ := bind_some hr
  refine cut (fun a' k' => Bs noF k0 167 a' k' ∧ (IsV holidays) (a'.get 0) k' ∧ (IsV stays) (a'.get 1) k' ∧ (IsV day) (a'.get 2) k' ∧ (IsV n_) (a'.get 3) k' ∧ (IsV m_) (a'.get 4) k' ∧ (IsV x664_0) (a'.get 11) k' ∧ (IsV x669_4.1) (a'.get 12) k' ∧ (IsV x669_4.2) (a'.get 13) k' ∧ (IsV x674_3) (a'.get 14) k' ∧ True) ?_ hQ ?_
  · intro Q701 hQQ701 hp702
    refine regionS (a0 := a) (k0 := k) (n := 167) (m := 5) (⟨some (IsV holidays), [(0, none)]⟩ :: ⟨some (IsV stays), [(1, none)]⟩ :: ⟨some (IsV day), [(2, none)]⟩ :: ⟨some (IsV x674_3), [(52, some 0), (53, some 1), (54, some 2)]⟩ :: ⟨some (IsV x674_3), [(55, some 3)]⟩ :: []) hs (by kernel_rfl) ⟨ob1 rfl fun b q hk hn => ok_move rfl (up i0 hk hn.1), ob1 rfl fun b q hk hn => ok_move rfl (up i1 hk hn.1), ob1 rfl fun b q hk hn => ok_move rfl (up i2 hk hn.1), ob1 rfl fun b q hk hn => ok_call rfl Try.call21 (calCount_ok hn.1 hn.2.1 hn.2.2.1 (isV_int.2 rfl) hx674_3), ob1 rfl fun b q hk hn => ok_assign rfl hn.1, trivial⟩ hQQ701 fun b q p => ?_
    exact tail_done (k := q) (hp702 _ _ ⟨Bs.post ⟨hg, hs, hd⟩ p, keep p 0 rfl i0, keep p 1 rfl i1, keep p 2 rfl i2, keep p 3 rfl i3, keep p 4 rfl i4, keep p 11 rfl i11, keep p 12 rfl i12, keep p 13 rfl i13, out p 4 14 _ rfl rfl rfl, trivial⟩)
  rintro a k ⟨⟨hg, hs, hd⟩, i0, i1, i2, i3, i4, i11, i12, i13, i14, _⟩
  refine wp_seq ?_
  refine wp_seq ?_
  refine cut (fun a' k' => Bs noF k0 167 a' k' ∧ (IsV holidays) (a'.get 0) k' ∧ (IsV stays) (a'.get 1) k' ∧ (IsV day) (a'.get 2) k' ∧ (IsV n_) (a'.get 3) k' ∧ (IsV m_) (a'.get 4) k' ∧ (IsV x664_0) (a'.get 11) k' ∧ (IsV x669_4.1) (a'.get 12) k' ∧ (IsV x669_4.2) (a'.get 13) k' ∧ (IsV x674_3) (a'.get 14) k' ∧ (IsV (x669_4.2 != 0)) (a'.get 57) k' ∧ True) ?_ hQ ?_
  · intro Q699 hQQ699 hp700
    refine regionS (a0 := a) (k0 := k) (n := 167) (m := 2) (⟨some (IsV x669_4.2), [(13, none)]⟩ :: ⟨some (IsV (x669_4.2 != 0)), [(56, some 0)]⟩ :: []) hs (by kernel_rfl) ⟨ob1 rfl fun b q hk hn => ok_move rfl (up i13 hk hn.1), ob1 rfl fun b q hk hn => ok_neI rfl hn.1 (isV_int.2 rfl), trivial⟩ hQQ699 fun b q p => ?_
    exact tail_done (k := q) (hp700 _ _ ⟨Bs.post ⟨hg, hs, hd⟩ p, keep p 0 rfl i0, keep p 1 rfl i1, keep p 2 rfl i2, keep p 3 rfl i3, keep p 4 rfl i4, keep p 11 rfl i11, keep p 12 rfl i12, keep p 13 rfl i13, keep p 14 rfl i14, out p 1 57 _ rfl rfl rfl, trivial⟩)
  rintro a k ⟨⟨hg, hs, hd⟩, i0, i1, i2, i3, i4, i11, i12, i13, i14, i57, _⟩
  refine wp_cond_split (isBool i57) (fun hc698 => ?_) (fun hc698 => ?_)
  · rw [if_pos hc698] at hr
    refine wp_seq ?_
    refine cut (fun a' k' => Bs noF k0 167 a' k' ∧ (IsV (((x664_0 && (x669_4.2 == 20)) && (x669_4.1 == 0)) && (decide (x674_3 < n_)))) (a'.get 10) k' ∧ True) ?_ hQ ?_
    · intro Q677 hQQ677 hp678
      refine regionS (a0 := a) (k0 := k) (n := 167) (m := 15) (⟨some (IsV x664_0), [(11, none)]⟩ :: ⟨some (IsV x664_0), [(58, some 0)]⟩ :: ⟨some (Gd (x664_0 = true) (IsV x669_4.2)), [(13, none)]⟩ :: ⟨some (Gd (x664_0 = true) (IsV (x669_4.2 == 20))), [(60, some 2)]⟩ :: ⟨some (IsV (x664_0 && (x669_4.2 == 20))), [(59, some 1), (61, some 3)]⟩ :: ⟨some (IsV (x664_0 && (x669_4.2 == 20))), [(62, some 4)]⟩ :: ⟨some (Gd ((x664_0 && (x669_4.2 == 20)) = true) (IsV x669_4.1)), [(12, none)]⟩ :: ⟨some (Gd ((x664_0 && (x669_4.2 == 20)) = true) (IsV (x669_4.1 == 0))), [(64, some 6)]⟩ :: ⟨some (IsV ((x664_0 && (x669_4.2 == 20)) && (x669_4.1 == 0))), [(63, some 5), (65, some 7)]⟩ :: ⟨some (IsV ((x664_0 && (x669_4.2 == 20)) && (x669_4.1 == 0))), [(66, some 8)]⟩ :: ⟨some (Gd (((x664_0 && (x669_4.2 == 20)) && (x669_4.1 == 0)) = true) (IsV x674_3)), [(14, none)]⟩ :: ⟨some (Gd (((x664_0 && (x669_4.2 == 20)) && (x669_4.1 == 0)) = true) (IsV n_)), [(3, none)]⟩ :: ⟨some (Gd (((x664_0 && (x669_4.2 == 20)) && (x669_4.1 == 0)) = true) (IsV (decide (x674_3 < n_)))), [(68, some 10), (69, some 11)]⟩ :: ⟨some (IsV (((x664_0 && (x669_4.2 == 20)) && (x669_4.1 == 0)) && (decide (x674_3 < n_)))), [(67, some 9), (70, some 12)]⟩ :: ⟨some (IsV (((x664_0 && (x669_4.2 == 20)) && (x669_4.1 == 0)) && (decide (x674_3 < n_)))), [(71, some 13)]⟩ :: []) hs (by kernel_rfl) ⟨ob1 rfl fun b q hk hn => ok_move rfl (up i11 hk hn.1), ob1 rfl fun b q hk hn => ok_move rfl hn.1, gdT rfl rfl fun hp b q hk hn => ok_move rfl (up i13 hk hn.1), gdT rfl rfl fun hp b q hk hn => ok_eqI rfl (Gd.get hn.1 hp) (isV_int.2 rfl), ob1 rfl fun b q hk hn => ok_pickAnd rfl hn.1 (fun hm => (Gd.get hn.2.1 hm)) (fun _ => (isV_bool.2 rfl)), ob1 rfl fun b q hk hn => ok_move rfl hn.1, gdT rfl rfl fun hp b q hk hn => ok_move rfl (up i12 hk hn.1), gdT rfl rfl fun hp b q hk hn => ok_eqI rfl (Gd.get hn.1 hp) (isV_int.2 rfl), ob1 rfl fun b q hk hn => ok_pickAnd rfl hn.1 (fun hm => (Gd.get hn.2.1 hm)) (fun _ => (isV_bool.2 rfl)), ob1 rfl fun b q hk hn => ok_move rfl hn.1, gdT rfl rfl fun hp b q hk hn => ok_move rfl (up i14 hk hn.1), gdT rfl rfl fun hp b q hk hn => ok_move rfl (up i3 hk hn.1), gdT rfl rfl fun hp b q hk hn => ok_lss rfl (Gd.get hn.1 hp) (Gd.get hn.2.1 hp), ob1 rfl fun b q hk hn => ok_pickAnd rfl hn.1 (fun hm => (Gd.get hn.2.1 hm)) (fun _ => (isV_bool.2 rfl)), ob1 rfl fun b q hk hn => ok_assign rfl hn.1, trivial⟩ hQQ677 fun b q p => ?_
      exact tail_done (k := q) (hp678 _ _ ⟨Bs.post ⟨hg, hs, hd⟩ p, out p 14 10 _ rfl rfl rfl, trivial⟩)
    rintro a k ⟨⟨hg, hs, hd⟩, i10, _⟩
    refine wp_ret ?_
    obtain rfl := Option.some.inj hr
    exact retC1 rfl hd hg i10
  rw [if_neg (by rw [hc698]; decide)] at hr
  refine wp_skip ?_
  refine wp_seq ?_
  refine wp_seq ?_
  obtain ⟨x679_14, hx679_14, hr⟩ := bind_some hr
  obtain ⟨x679_12, hx679_12, hx679_14⟩ := ite_bindF hx679_14
  obtain ⟨x679_23, hx679_23, hr⟩ := bind_some hr
  obtain ⟨x679_20, hx679_20, hx679_23⟩ := ite_bindF hx679_23
  obtain ⟨x679_40, hx679_40, hr⟩ := bind_some hr
  obtain ⟨x679_26, hx679_26, hx679_40⟩ := ite_bindF hx679_40
  obtain ⟨x679_39, hx679_39, hx679_40⟩ := ite_bindF hx679_40
  obtain ⟨x679_34, hx679_34, hx679_39⟩ := ite_bindP hx679_39
  obtain ⟨x679_35, hx679_35, hx679_39⟩ := ite_bindP hx679_39
  obtain ⟨x679_37, hx679_37, hx679_39⟩ := ite_bindP hx679_39
  refine cut (fun a' k' => Bs noF k0 167 a' k' ∧ (IsV holidays) (a'.get 0) k' ∧ (IsV stays) (a'.get 1) k' ∧ (IsV day) (a'.get 2) k' ∧ (IsV n_) (a'.get 3) k' ∧ (IsV m_) (a'.get 4) k' ∧ (IsV x664_0) (a'.get 11) k' ∧ (IsV x669_4.1) (a'.get 12) k' ∧ (IsV x679_40) (a'.get 112) k' ∧ True) ?_ hQ ?_
  · intro Q696 hQQ696 hp697
    refine regionS (a0 := a) (k0 := k) (n := 167) (m := 41) (⟨some (IsV x669_4.1), [(12, none)]⟩ :: ⟨some (IsV day), [(2, none)]⟩ :: ⟨some (IsV (decide (x669_4.1 ≤ day))), [(72, some 0), (73, some 1)]⟩ :: ⟨some (IsV (decide (x669_4.1 ≤ day))), [(74, some 2)]⟩ :: ⟨some (Gd ((decide (x669_4.1 ≤ day)) = false) (IsV x674_3)), [(14, none)]⟩ :: ⟨some (Gd ((decide (x669_4.1 ≤ day)) = false) (IsV n_)), [(3, none)]⟩ :: ⟨some (Gd ((decide (x669_4.1 ≤ day)) = false) (IsV (decide (x674_3 < n_)))), [(76, some 4), (77, some 5)]⟩ :: ⟨some (IsV ((decide (x669_4.1 ≤ day)) || (decide (x674_3 < n_)))), [(75, some 3), (78, some 6)]⟩ :: ⟨some (IsV ((decide (x669_4.1 ≤ day)) || (decide (x674_3 < n_)))), [(79, some 7)]⟩ :: ⟨some (Gd (((decide (x669_4.1 ≤ day)) || (decide (x674_3 < n_))) = false) (IsV holidays)), [(0, none)]⟩ :: ⟨some (Gd (((decide (x669_4.1 ≤ day)) || (decide (x674_3 < n_))) = false) (IsV stays)), [(1, none)]⟩ :: ⟨some (Gd (((decide (x669_4.1 ≤ day)) || (decide (x674_3 < n_))) = false) (IsV x669_4.1)), [(12, none)]⟩ :: ⟨some (Gd (((decide (x669_4.1 ≤ day)) || (decide (x674_3 < n_))) = false) (IsV x679_12)), [(81, some 9), (82, some 10), (83, some 11)]⟩ :: ⟨some (Gd (((decide (x669_4.1 ≤ day)) || (decide (x674_3 < n_))) = false) (IsV (!x679_12))), [(84, some 12)]⟩ :: ⟨some (IsV x679_14), [(80, some 8), (85, some 13)]⟩ :: ⟨some (IsV x679_14), [(86, some 14)]⟩ :: ⟨some (Gd (x679_14 = false) (IsV holidays)), [(0, none)]⟩ :: ⟨some (Gd (x679_14 = false) (IsV stays)), [(1, none)]⟩ :: ⟨some (Gd (x679_14 = false) (IsV day)), [(2, none)]⟩ :: ⟨some (Gd (x679_14 = false) (IsV x669_4.1)), [(12, none)]⟩ :: ⟨some (Gd (x679_14 = false) (IsV x679_20)), [(88, some 16), (89, some 17), (90, some 18), (91, some 19)]⟩ :: ⟨some (Gd (x679_14 = false) (IsV n_)), [(3, none)]⟩ :: ⟨some (Gd (x679_14 = false) (IsV (x679_20 != n_))), [(92, some 20), (93, some 21)]⟩ :: ⟨some (IsV x679_23), [(87, some 15), (94, some 22)]⟩ :: ⟨some (IsV x679_23), [(95, some 23)]⟩ :: ⟨some (Gd (x679_23 = false) (IsV x669_4.1)), [(12, none)]⟩ :: ⟨some (Gd (x679_23 = false) (IsV x679_26)), [(97, some 25)]⟩ :: ⟨some (Gd (x679_23 = false) (IsV day)), [(2, none)]⟩ :: ⟨some (Gd (x679_23 = false) (IsV (decide (day < x679_26)))), [(98, some 26), (99, some 27)]⟩ :: ⟨some (Gd (x679_23 = false) (IsV (decide (day < x679_26)))), [(100, some 28)]⟩ :: ⟨some (Gd ((x679_23 = false) ∧ (decide (day < x679_26)) = true) (IsV holidays)), [(0, none)]⟩ :: ⟨some (Gd ((x679_23 = false) ∧ (decide (day < x679_26)) = true) (IsV stays)), [(1, none)]⟩ :: ⟨some (Gd ((x679_23 = false) ∧ (decide (day < x679_26)) = true) (IsV day)), [(2, none)]⟩ :: ⟨some (Gd ((x679_23 = false) ∧ (decide (day < x679_26)) = true) (IsV x669_4.1)), [(12, none)]⟩ :: ⟨some (Gd ((x679_23 = false) ∧ (decide (day < x679_26)) = true) (IsV x679_34)), [(105, some 33)]⟩ :: ⟨some (Gd ((x679_23 = false) ∧ (decide (day < x679_26)) = true) (IsV x679_35)), [(102, some 30), (103, some 31), (104, some 32), (106, some 34)]⟩ :: ⟨some (Gd ((x679_23 = false) ∧ (decide (day < x679_26)) = true) (IsV n_)), [(3, none)]⟩ :: ⟨some (Gd ((x679_23 = false) ∧ (decide (day < x679_26)) = true) (IsV x679_37)), [(108, some 36)]⟩ :: ⟨some (Gd ((x679_23 = false) ∧ (decide (day < x679_26)) = true) (IsV (x679_35 != x679_37))), [(107, some 35), (109, some 37)]⟩ :: ⟨some (Gd (x679_23 = false) (IsV x679_39)), [(101, some 29), (110, some 38)]⟩ :: ⟨some (IsV x679_40), [(96, some 24), (111, some 39)]⟩ :: []) hs (by kernel_rfl) ⟨ob1 rfl fun b q hk hn => ok_move rfl (up i12 hk hn.1), ob1 rfl fun b q hk hn => ok_move rfl (up i2 hk hn.1), ob1 rfl fun b q hk hn => ok_leq rfl hn.1 hn.2.1, ob1 rfl fun b q hk hn => ok_move rfl hn.1, gdF rfl rfl fun hp b q hk hn => ok_move rfl (up i14 hk hn.1), gdF rfl rfl fun hp b q hk hn => ok_move rfl (up i3 hk hn.1), gdF rfl rfl fun hp b q hk hn => ok_lss rfl (Gd.get hn.1 hp) (Gd.get hn.2.1 hp), ob1 rfl fun b q hk hn => ok_pickOr rfl hn.1 (fun _ => (isV_bool.2 rfl)) (fun hm => (Gd.get hn.2.1 hm)), ob1 rfl fun b q hk hn => ok_move rfl hn.1, gdF rfl rfl fun hp b q hk hn => ok_move rfl (up i0 hk hn.1), gdF rfl rfl fun hp b q hk hn => ok_move rfl (up i1 hk hn.1), gdF rfl rfl fun hp b q hk hn => ok_move rfl (up i12 hk hn.1), gdF rfl rfl fun hp b q hk hn => ok_call rfl Try.call17 (calCounts_ok (Gd.get hn.1 hp) (Gd.get hn.2.1 hp) (Gd.get hn.2.2.1 hp) (hx679_12 hp)), gdF rfl rfl fun hp b q hk hn => ok_not rfl (Gd.get hn.1 hp), ob1 rfl fun b q hk hn => ok_pickM rfl hn.1 hx679_14 (fun _ => (isV_bool.2 rfl)) (fun hm => (Gd.get hn.2.1 hm)), ob1 rfl fun b q hk hn => ok_move rfl hn.1, gdF rfl rfl fun hp b q hk hn => ok_move rfl (up i0 hk hn.1), gdF rfl rfl fun hp b q hk hn => ok_move rfl (up i1 hk hn.1), gdF rfl rfl fun hp b q hk hn => ok_move rfl (up i2 hk hn.1), gdF rfl rfl fun hp b q hk hn => ok_move rfl (up i12 hk hn.1), gdF rfl rfl fun hp b q hk hn => ok_call rfl Try.call21 (calCount_ok (Gd.get hn.1 hp) (Gd.get hn.2.1 hp) (Gd.get hn.2.2.1 hp) (Gd.get hn.2.2.2.1 hp) (hx679_20 hp)), gdF rfl rfl fun hp b q hk hn => ok_move rfl (up i3 hk hn.1), gdF rfl rfl fun hp b q hk hn => ok_neI rfl (Gd.get hn.1 hp) (Gd.get hn.2.1 hp), ob1 rfl fun b q hk hn => ok_pickM rfl hn.1 hx679_23 (fun _ => (isV_bool.2 rfl)) (fun hm => (Gd.get hn.2.1 hm)), ob1 rfl fun b q hk hn => ok_move rfl hn.1, gdF rfl rfl fun hp b q hk hn => ok_move rfl (up i12 hk hn.1), gdF rfl rfl fun hp b q hk hn => ok_sub rfl (Gd.get hn.1 hp) (isV_int.2 rfl) (hx679_26 hp), gdF rfl rfl fun hp b q hk hn => ok_move rfl (up i2 hk hn.1), gdF rfl rfl fun hp b q hk hn => ok_gtr rfl (Gd.get hn.1 hp) (Gd.get hn.2.1 hp), gdF rfl rfl fun hp b q hk hn => ok_move rfl (Gd.get hn.1 hp), gdTT rfl rfl fun hp b q hk hn => ok_move rfl (up i0 hk hn.1), gdTT rfl rfl fun hp b q hk hn => ok_move rfl (up i1 hk hn.1), gdTT rfl rfl fun hp b q hk hn => ok_move rfl (up i2 hk hn.1), gdTT rfl rfl fun hp b q hk hn => ok_move rfl (up i12 hk hn.1), gdTT rfl rfl fun hp b q hk hn => ok_sub rfl (Gd.get hn.1 hp) (isV_int.2 rfl) (hx679_34 hp), gdTT rfl rfl fun hp b q hk hn => ok_call rfl Try.call21 (calCount_ok (Gd.get hn.1 hp) (Gd.get hn.2.1 hp) (Gd.get hn.2.2.1 hp) (Gd.get hn.2.2.2.1 hp) (hx679_35 hp)), gdTT rfl rfl fun hp b q hk hn => ok_move rfl (up i3 hk hn.1), gdTT rfl rfl fun hp b q hk hn => ok_sub rfl (Gd.get hn.1 hp) (isV_int.2 rfl) (hx679_37 hp), gdTT rfl rfl fun hp b q hk hn => ok_neI rfl (Gd.get hn.1 hp) (Gd.get hn.2.1 hp), gdF rfl rfl fun hp b q hk hn => ok_pickM rfl (Gd.get hn.1 hp) (hx679_39 hp) (fun hm => (Gd.get hn.2.1 ⟨hp, hm⟩)) (fun _ => (isV_bool.2 rfl)), ob1 rfl fun b q hk hn => ok_pickM rfl hn.1 hx679_40 (fun _ => (isV_bool.2 rfl)) (fun hm => (Gd.get hn.2.1 hm)), trivial⟩ hQQ696 fun b q p => ?_
    exact tail_done (k := q) (hp697 _ _ ⟨Bs.post ⟨hg, hs, hd⟩ p, keep p 0 rfl i0, keep p 1 rfl i1, keep p 2 rfl i2, keep p 3 rfl i3, keep p 4 rfl i4, keep p 11 rfl i11, keep p 12 rfl i12, out p 40 112 _ rfl rfl rfl, trivial⟩)
  rintro a k ⟨⟨hg, hs, hd⟩, i0, i1, i2, i3, i4, i11, i12, i112, _⟩
  refine wp_cond_split (isBool i112) (fun hc695 => ?_) (fun hc695 => ?_)
  · rw [if_pos hc695] at hr
    refine wp_seq ?_
    refine cut (fun a' k' => Bs noF k0 167 a' k' ∧ (IsV false) (a'.get 10) k' ∧ True) ?_ hQ ?_
    · intro Q681 hQQ681 hp682
      refine regionS (a0 := a) (k0 := k) (n := 167) (m := 1) (⟨some (IsV false), []⟩ :: []) hs (by kernel_rfl) ⟨ob1 rfl fun b q hk hn => ok_assign rfl (isV_bool.2 rfl), trivial⟩ hQQ681 fun b q p => ?_
      exact tail_done (k := q) (hp682 _ _ ⟨Bs.post ⟨hg, hs, hd⟩ p, out p 0 10 _ rfl rfl rfl, trivial⟩)
    rintro a k ⟨⟨hg, hs, hd⟩, i10, _⟩
    refine wp_ret ?_
    obtain rfl := Option.some.inj hr
    exact retC1 rfl hd hg i10
  rw [if_neg (by rw [hc695]; decide)] at hr
  refine wp_skip ?_
  refine wp_seq ?_
  obtain ⟨x683_4, hx683_4, hr⟩ := bind_some hr
  refine cut (fun a' k' => Bs noF k0 167 a' k' ∧ (IsV holidays) (a'.get 0) k' ∧ (IsV stays) (a'.get 1) k' ∧ (IsV day) (a'.get 2) k' ∧ (IsV n_) (a'.get 3) k' ∧ (IsV m_) (a'.get 4) k' ∧ (IsV x664_0) (a'.get 11) k' ∧ (IsV x669_4.1) (a'.get 12) k' ∧ (IsV x683_4.1) (a'.get 15) k' ∧ (IsV x683_4.2) (a'.get 16) k' ∧ True) ?_ hQ ?_
  · intro Q693 hQQ693 hp694
    refine regionS (a0 := a) (k0 := k) (n := 167) (m := 10) (⟨some (IsV holidays), [(0, none)]⟩ :: ⟨some (IsV stays), [(1, none)]⟩ :: ⟨some (IsV x669_4.1), [(12, none)]⟩ :: ⟨some (IsV m_), [(4, none)]⟩ :: ⟨some (IsTup2 (IsV x683_4.1) (IsV x683_4.2)), [(114, some 0), (115, some 1), (116, some 2), (117, some 3)]⟩ :: ⟨some (IsTup2 (IsV x683_4.1) (IsV x683_4.2)), [(118, some 4)]⟩ :: ⟨some (IsV x683_4.1), [(113, some 5)]⟩ :: ⟨some (IsV x683_4.2), [(113, some 5)]⟩ :: ⟨some (IsV x683_4.1), [(119, some 6)]⟩ :: ⟨some (IsV x683_4.2), [(120, some 7)]⟩ :: []) hs (by kernel_rfl) ⟨ob1 rfl fun b q hk hn => ok_move rfl (up i0 hk hn.1), ob1 rfl fun b q hk hn => ok_move rfl (up i1 hk hn.1), ob1 rfl fun b q hk hn => ok_move rfl (up i12 hk hn.1), ob1 rfl fun b q hk hn => ok_move rfl (up i4 hk hn.1), ob1 rfl fun b q hk hn => ok_call rfl Try.call11 (calDeadline_ok hn.1 hn.2.1 hn.2.2.1 hn.2.2.2.1 hx683_4), ob1 rfl fun b q hk hn => ok_move rfl hn.1, ob1 rfl fun b q hk hn => ok_ext2_0 rfl hn.1, ob1 rfl fun b q hk hn => ok_ext2_1 rfl hn.1, ob1 rfl fun b q hk hn => ok_assign rfl hn.1, ob1 rfl fun b q hk hn => ok_assign rfl hn.1, trivial⟩ hQQ693 fun b q p => ?_
    exact tail_done (k := q) (hp694 _ _ ⟨Bs.post ⟨hg, hs, hd⟩ p, keep p 0 rfl i0, keep p 1 rfl i1, keep p 2 rfl i2, keep p 3 rfl i3, keep p 4 rfl i4, keep p 11 rfl i11, keep p 12 rfl i12, out p 8 15 _ rfl rfl rfl, out p 9 16 _ rfl rfl rfl, trivial⟩)
  rintro a k ⟨⟨hg, hs, hd⟩, i0, i1, i2, i3, i4, i11, i12, i15, i16, _⟩
  refine wp_seq ?_
  obtain ⟨x684_5, hx684_5, hr⟩ := bind_some hr
  obtain ⟨x684_6, hx684_6, hr⟩ := bind_some hr
  refine cut (fun a' k' => Bs noF k0 167 a' k' ∧ (IsV holidays) (a'.get 0) k' ∧ (IsV stays) (a'.get 1) k' ∧ (IsV day) (a'.get 2) k' ∧ (IsV x664_0) (a'.get 11) k' ∧ (IsV x669_4.1) (a'.get 12) k' ∧ (IsV x683_4.1) (a'.get 15) k' ∧ (IsV x683_4.2) (a'.get 16) k' ∧ (IsV x684_6.1) (a'.get 17) k' ∧ (IsV x684_6.2) (a'.get 18) k' ∧ True) ?_ hQ ?_
  · intro Q691 hQQ691 hp692
    refine regionS (a0 := a) (k0 := k) (n := 167) (m := 12) (⟨some (IsV holidays), [(0, none)]⟩ :: ⟨some (IsV stays), [(1, none)]⟩ :: ⟨some (IsV day), [(2, none)]⟩ :: ⟨some (IsV n_), [(3, none)]⟩ :: ⟨some (IsV m_), [(4, none)]⟩ :: ⟨some (IsV x684_5), [(125, some 3), (126, some 4)]⟩ :: ⟨some (IsTup2 (IsV x684_6.1) (IsV x684_6.2)), [(122, some 0), (123, some 1), (124, some 2), (127, some 5)]⟩ :: ⟨some (IsTup2 (IsV x684_6.1) (IsV x684_6.2)), [(128, some 6)]⟩ :: ⟨some (IsV x684_6.1), [(121, some 7)]⟩ :: ⟨some (IsV x684_6.2), [(121, some 7)]⟩ :: ⟨some (IsV x684_6.1), [(129, some 8)]⟩ :: ⟨some (IsV x684_6.2), [(130, some 9)]⟩ :: []) hs (by kernel_rfl) ⟨ob1 rfl fun b q hk hn => ok_move rfl (up i0 hk hn.1), ob1 rfl fun b q hk hn => ok_move rfl (up i1 hk hn.1), ob1 rfl fun b q hk hn => ok_move rfl (up i2 hk hn.1), ob1 rfl fun b q hk hn => ok_move rfl (up i3 hk hn.1), ob1 rfl fun b q hk hn => ok_move rfl (up i4 hk hn.1), ob1 rfl fun b q hk hn => ok_add rfl hn.1 hn.2.1 hx684_5, ob1 rfl fun b q hk hn => ok_call rfl Try.call11 (calDeadline_ok hn.1 hn.2.1 hn.2.2.1 hn.2.2.2.1 hx684_6), ob1 rfl fun b q hk hn => ok_move rfl hn.1, ob1 rfl fun b q hk hn => ok_ext2_0 rfl hn.1, ob1 rfl fun b q hk hn => ok_ext2_1 rfl hn.1, ob1 rfl fun b q hk hn => ok_assign rfl hn.1, ob1 rfl fun b q hk hn => ok_assign rfl hn.1, trivial⟩ hQQ691 fun b q p => ?_
    exact tail_done (k := q) (hp692 _ _ ⟨Bs.post ⟨hg, hs, hd⟩ p, keep p 0 rfl i0, keep p 1 rfl i1, keep p 2 rfl i2, keep p 11 rfl i11, keep p 12 rfl i12, keep p 15 rfl i15, keep p 16 rfl i16, out p 10 17 _ rfl rfl rfl, out p 11 18 _ rfl rfl rfl, trivial⟩)
  rintro a k ⟨⟨hg, hs, hd⟩, i0, i1, i2, i11, i12, i15, i16, i17, i18, _⟩
  refine wp_seq ?_
  obtain ⟨x685_3, hx685_3, hr⟩ := bind_some hr
  refine cut (fun a' k' => Bs noF k0 167 a' k' ∧ (IsV day) (a'.get 2) k' ∧ (IsV x664_0) (a'.get 11) k' ∧ (IsV x669_4.1) (a'.get 12) k' ∧ (IsV x683_4.1) (a'.get 15) k' ∧ (IsV x683_4.2) (a'.get 16) k' ∧ (IsV x684_6.1) (a'.get 17) k' ∧ (IsV x684_6.2) (a'.get 18) k' ∧ (IsV x685_3.1) (a'.get 19) k' ∧ (IsV x685_3.2) (a'.get 20) k' ∧ True) ?_ hQ ?_
  · intro Q689 hQQ689 hp690
    refine regionS (a0 := a) (k0 := k) (n := 167) (m := 9) (⟨some (IsV holidays), [(0, none)]⟩ :: ⟨some (IsV stays), [(1, none)]⟩ :: ⟨some (IsV day), [(2, none)]⟩ :: ⟨some (IsTup2 (IsV x685_3.1) (IsV x685_3.2)), [(132, some 0), (133, some 1), (134, some 2)]⟩ :: ⟨some (IsTup2 (IsV x685_3.1) (IsV x685_3.2)), [(135, some 3)]⟩ :: ⟨some (IsV x685_3.1), [(131, some 4)]⟩ :: ⟨some (IsV x685_3.2), [(131, some 4)]⟩ :: ⟨some (IsV x685_3.1), [(136, some 5)]⟩ :: ⟨some (IsV x685_3.2), [(137, some 6)]⟩ :: []) hs (by kernel_rfl) ⟨ob1 rfl fun b q hk hn => ok_move rfl (up i0 hk hn.1), ob1 rfl fun b q hk hn => ok_move rfl (up i1 hk hn.1), ob1 rfl fun b q hk hn => ok_move rfl (up i2 hk hn.1), ob1 rfl fun b q hk hn => ok_call rfl Try.call11 (calDeadline_ok hn.1 hn.2.1 hn.2.2.1 (isV_int.2 rfl) hx685_3), ob1 rfl fun b q hk hn => ok_move rfl hn.1, ob1 rfl fun b q hk hn => ok_ext2_0 rfl hn.1, ob1 rfl fun b q hk hn => ok_ext2_1 rfl hn.1, ob1 rfl fun b q hk hn => ok_assign rfl hn.1, ob1 rfl fun b q hk hn => ok_assign rfl hn.1, trivial⟩ hQQ689 fun b q p => ?_
    exact tail_done (k := q) (hp690 _ _ ⟨Bs.post ⟨hg, hs, hd⟩ p, keep p 2 rfl i2, keep p 11 rfl i11, keep p 12 rfl i12, keep p 15 rfl i15, keep p 16 rfl i16, keep p 17 rfl i17, keep p 18 rfl i18, out p 7 19 _ rfl rfl rfl, out p 8 20 _ rfl rfl rfl, trivial⟩)
  rintro a k ⟨⟨hg, hs, hd⟩, i2, i11, i12, i15, i16, i17, i18, i19, i20, _⟩
  refine wp_seq ?_
  refine cut (fun a' k' => Bs noF k0 167 a' k' ∧ (IsV (((((x664_0 && (x683_4.1 == x684_6.1)) && (x683_4.2 == x684_6.2)) && (x685_3.1 == day)) && (x685_3.2 == 0)) && ((x683_4.2 != 0) || (decide (x669_4.1 < x683_4.1))))) (a'.get 10) k' ∧ True) ?_ hQ ?_
  · intro Q687 hQQ687 hp688
    refine regionS (a0 := a) (k0 := k) (n := 167) (m := 30) (⟨some (IsV x664_0), [(11, none)]⟩ :: ⟨some (IsV x664_0), [(138, some 0)]⟩ :: ⟨some (Gd (x664_0 = true) (IsV x683_4.1)), [(15, none)]⟩ :: ⟨some (Gd (x664_0 = true) (IsV x684_6.1)), [(17, none)]⟩ :: ⟨some (Gd (x664_0 = true) (IsV (x683_4.1 == x684_6.1))), [(140, some 2), (141, some 3)]⟩ :: ⟨some (IsV (x664_0 && (x683_4.1 == x684_6.1))), [(139, some 1), (142, some 4)]⟩ :: ⟨some (IsV (x664_0 && (x683_4.1 == x684_6.1))), [(143, some 5)]⟩ :: ⟨some (Gd ((x664_0 && (x683_4.1 == x684_6.1)) = true) (IsV x683_4.2)), [(16, none)]⟩ :: ⟨some (Gd ((x664_0 && (x683_4.1 == x684_6.1)) = true) (IsV x684_6.2)), [(18, none)]⟩ :: ⟨some (Gd ((x664_0 && (x683_4.1 == x684_6.1)) = true) (IsV (x683_4.2 == x684_6.2))), [(145, some 7), (146, some 8)]⟩ :: ⟨some (IsV ((x664_0 && (x683_4.1 == x684_6.1)) && (x683_4.2 == x684_6.2))), [(144, some 6), (147, some 9)]⟩ :: ⟨some (IsV ((x664_0 && (x683_4.1 == x684_6.1)) && (x683_4.2 == x684_6.2))), [(148, some 10)]⟩ :: ⟨some (Gd (((x664_0 && (x683_4.1 == x684_6.1)) && (x683_4.2 == x684_6.2)) = true) (IsV x685_3.1)), [(19, none)]⟩ :: ⟨some (Gd (((x664_0 && (x683_4.1 == x684_6.1)) && (x683_4.2 == x684_6.2)) = true) (IsV day)), [(2, none)]⟩ :: ⟨some (Gd (((x664_0 && (x683_4.1 == x684_6.1)) && (x683_4.2 == x684_6.2)) = true) (IsV (x685_3.1 == day))), [(150, some 12), (151, some 13)]⟩ :: ⟨some (IsV (((x664_0 && (x683_4.1 == x684_6.1)) && (x683_4.2 == x684_6.2)) && (x685_3.1 == day))), [(149, some 11), (152, some 14)]⟩ :: ⟨some (IsV (((x664_0 && (x683_4.1 == x684_6.1)) && (x683_4.2 == x684_6.2)) && (x685_3.1 == day))), [(153, some 15)]⟩ :: ⟨some (Gd ((((x664_0 && (x683_4.1 == x684_6.1)) && (x683_4.2 == x684_6.2)) && (x685_3.1 == day)) = true) (IsV x685_3.2)), [(20, none)]⟩ :: ⟨some (Gd ((((x664_0 && (x683_4.1 == x684_6.1)) && (x683_4.2 == x684_6.2)) && (x685_3.1 == day)) = true) (IsV (x685_3.2 == 0))), [(155, some 17)]⟩ :: ⟨some (IsV ((((x664_0 && (x683_4.1 == x684_6.1)) && (x683_4.2 == x684_6.2)) && (x685_3.1 == day)) && (x685_3.2 == 0))), [(154, some 16), (156, some 18)]⟩ :: ⟨some (IsV ((((x664_0 && (x683_4.1 == x684_6.1)) && (x683_4.2 == x684_6.2)) && (x685_3.1 == day)) && (x685_3.2 == 0))), [(157, some 19)]⟩ :: ⟨some (Gd (((((x664_0 && (x683_4.1 == x684_6.1)) && (x683_4.2 == x684_6.2)) && (x685_3.1 == day)) && (x685_3.2 == 0)) = true) (IsV x683_4.2)), [(16, none)]⟩ :: ⟨some (Gd (((((x664_0 && (x683_4.1 == x684_6.1)) && (x683_4.2 == x684_6.2)) && (x685_3.1 == day)) && (x685_3.2 == 0)) = true) (IsV (x683_4.2 != 0))), [(159, some 21)]⟩ :: ⟨some (Gd (((((x664_0 && (x683_4.1 == x684_6.1)) && (x683_4.2 == x684_6.2)) && (x685_3.1 == day)) && (x685_3.2 == 0)) = true) (IsV (x683_4.2 != 0))), [(160, some 22)]⟩ :: ⟨some (Gd ((((((x664_0 && (x683_4.1 == x684_6.1)) && (x683_4.2 == x684_6.2)) && (x685_3.1 == day)) && (x685_3.2 == 0)) = true) ∧ (x683_4.2 != 0) = false) (IsV x683_4.1)), [(15, none)]⟩ :: ⟨some (Gd ((((((x664_0 && (x683_4.1 == x684_6.1)) && (x683_4.2 == x684_6.2)) && (x685_3.1 == day)) && (x685_3.2 == 0)) = true) ∧ (x683_4.2 != 0) = false) (IsV x669_4.1)), [(12, none)]⟩ :: ⟨some (Gd ((((((x664_0 && (x683_4.1 == x684_6.1)) && (x683_4.2 == x684_6.2)) && (x685_3.1 == day)) && (x685_3.2 == 0)) = true) ∧ (x683_4.2 != 0) = false) (IsV (decide (x669_4.1 < x683_4.1)))), [(162, some 24), (163, some 25)]⟩ :: ⟨some (Gd (((((x664_0 && (x683_4.1 == x684_6.1)) && (x683_4.2 == x684_6.2)) && (x685_3.1 == day)) && (x685_3.2 == 0)) = true) (IsV ((x683_4.2 != 0) || (decide (x669_4.1 < x683_4.1))))), [(161, some 23), (164, some 26)]⟩ :: ⟨some (IsV (((((x664_0 && (x683_4.1 == x684_6.1)) && (x683_4.2 == x684_6.2)) && (x685_3.1 == day)) && (x685_3.2 == 0)) && ((x683_4.2 != 0) || (decide (x669_4.1 < x683_4.1))))), [(158, some 20), (165, some 27)]⟩ :: ⟨some (IsV (((((x664_0 && (x683_4.1 == x684_6.1)) && (x683_4.2 == x684_6.2)) && (x685_3.1 == day)) && (x685_3.2 == 0)) && ((x683_4.2 != 0) || (decide (x669_4.1 < x683_4.1))))), [(166, some 28)]⟩ :: []) hs (by kernel_rfl) ⟨ob1 rfl fun b q hk hn => ok_move rfl (up i11 hk hn.1), ob1 rfl fun b q hk hn => ok_move rfl hn.1, gdT rfl rfl fun hp b q hk hn => ok_move rfl (up i15 hk hn.1), gdT rfl rfl fun hp b q hk hn => ok_move rfl (up i17 hk hn.1), gdT rfl rfl fun hp b q hk hn => ok_eqI rfl (Gd.get hn.1 hp) (Gd.get hn.2.1 hp), ob1 rfl fun b q hk hn => ok_pickAnd rfl hn.1 (fun hm => (Gd.get hn.2.1 hm)) (fun _ => (isV_bool.2 rfl)), ob1 rfl fun b q hk hn => ok_move rfl hn.1, gdT rfl rfl fun hp b q hk hn => ok_move rfl (up i16 hk hn.1), gdT rfl rfl fun hp b q hk hn => ok_move rfl (up i18 hk hn.1), gdT rfl rfl fun hp b q hk hn => ok_eqI rfl (Gd.get hn.1 hp) (Gd.get hn.2.1 hp), ob1 rfl fun b q hk hn => ok_pickAnd rfl hn.1 (fun hm => (Gd.get hn.2.1 hm)) (fun _ => (isV_bool.2 rfl)), ob1 rfl fun b q hk hn => ok_move rfl hn.1, gdT rfl rfl fun hp b q hk hn => ok_move rfl (up i19 hk hn.1), gdT rfl rfl fun hp b q hk hn => ok_move rfl (up i2 hk hn.1), gdT rfl rfl fun hp b q hk hn => ok_eqI rfl (Gd.get hn.1 hp) (Gd.get hn.2.1 hp), ob1 rfl fun b q hk hn => ok_pickAnd rfl hn.1 (fun hm => (Gd.get hn.2.1 hm)) (fun _ => (isV_bool.2 rfl)), ob1 rfl fun b q hk hn => ok_move rfl hn.1, gdT rfl rfl fun hp b q hk hn => ok_move rfl (up i20 hk hn.1), gdT rfl rfl fun hp b q hk hn => ok_eqI rfl (Gd.get hn.1 hp) (isV_int.2 rfl), ob1 rfl fun b q hk hn => ok_pickAnd rfl hn.1 (fun hm => (Gd.get hn.2.1 hm)) (fun _ => (isV_bool.2 rfl)), ob1 rfl fun b q hk hn => ok_move rfl hn.1, gdT rfl rfl fun hp b q hk hn => ok_move rfl (up i16 hk hn.1), gdT rfl rfl fun hp b q hk hn => ok_neI rfl (Gd.get hn.1 hp) (isV_int.2 rfl), gdT rfl rfl fun hp b q hk hn => ok_move rfl (Gd.get hn.1 hp), gdTF rfl rfl fun hp b q hk hn => ok_move rfl (up i15 hk hn.1), gdTF rfl rfl fun hp b q hk hn => ok_move rfl (up i12 hk hn.1), gdTF rfl rfl fun hp b q hk hn => ok_gtr rfl (Gd.get hn.1 hp) (Gd.get hn.2.1 hp), gdT rfl rfl fun hp b q hk hn => ok_pickOr rfl (Gd.get hn.1 hp) (fun _ => (isV_bool.2 rfl)) (fun hm => (Gd.get hn.2.1 ⟨hp, hm⟩)), ob1 rfl fun b q hk hn => ok_pickAnd rfl hn.1 (fun hm => (Gd.get hn.2.1 hm)) (fun _ => (isV_bool.2 rfl)), ob1 rfl fun b q hk hn => ok_assign rfl hn.1, trivial⟩ hQQ687 fun b q p => ?_
    exact tail_done (k := q) (hp688 _ _ ⟨Bs.post ⟨hg, hs, hd⟩ p, out p 29 10 _ rfl rfl rfl, trivial⟩)
  rintro a k ⟨⟨hg, hs, hd⟩, i10, _⟩
  refine wp_ret ?_
  obtain rfl := Option.some.inj hr
  exact retC1 rfl hd hg i10
def lawWeeks (day : Int) (weeks : Int) (holiday : Int) : Option (Bool) :=
  (small).bind fun x716_0 =>
  (within weeks 0 100000000).bind fun x717_1 =>
  (if (!x717_1) then
    some true
  else
    (mulI 7 weeks).bind fun x717_6 =>
    (subI 1073741824 x717_6).bind fun x717_7 =>
    (within day 0 x717_7).bind fun x717_8 =>
    some (!x717_8)).bind fun x717_10 =>
  if x717_10 then
    some x716_0
  else
    (mulI 7 weeks).bind fun x721_2 =>
    (addI day x721_2).bind fun x721_3 =>
    (mulI 5 weeks).bind fun x722_2 =>
    (calAdd ([] : List Int) day x722_2).bind fun x722_3 =>
    (calBetween ([] : List Int) day x721_3).bind fun x723_2 =>
    (mulI 5 weeks).bind fun x723_4 =>
    (if ((x723_2 != x723_4) || (x722_3.2 != 0)) then
      some true
    else
      (calIsWork ([] : List Int) day).bind fun x723_12 =>
      (remI day 7).bind fun x723_14 =>
      some (x723_12 != (decide (x723_14 < 5)))).bind fun x723_17 =>
    (if x723_17 then
      some true
    else
      (calIsWork ([] : List Int) day).bind fun x723_20 =>
      some (x723_20 && (x722_3.1 != x721_3))).bind fun x723_26 =>
    if x723_26 then
      some false
    else
      (within holiday 0 1073741824).bind fun x727_1 =>
      if (!x727_1) then
        (if x716_0 then
          (calBetween ([holiday]) day x721_3).bind fun x728_6 =>
          some (x728_6 == 0)
        else
          some false).bind fun x728_8 =>
        some x728_8
      else
        (mulI 5 weeks).bind fun x731_1 =>
        (if ((decide (day < holiday)) && (decide (holiday ≤ x721_3))) then
          (remI holiday 7).bind fun x732_10 =>
          some (decide (x732_10 < 5))
        else
          some false).bind fun x732_12 =>
        (if x732_12 then
          (subI x731_1 1).bind fun x735_1 =>
          some x735_1
        else
          some x731_1).bind fun s733 =>
        (if x716_0 then
          (calBetween ([holiday]) day x721_3).bind fun x739_6 =>
          some (x739_6 == s733)
        else
          some false).bind fun x739_9 =>
        some x739_9
theorem lawWeeks_ok {k0 : K} {v0 v1 v2 : Value} {day : Int} {weeks : Int} {holiday : Int} {r : Bool} (i0 : (IsV day) v0 k0) (i1 : (IsV weeks) v1 k0) (i2 : (IsV holiday) v2 k0) (hr : lawWeeks day weeks holiday = some r) :
    Calls Try.prog 7 #[v0, v1, v2] k0.w (Ret k0 (IsV r)) := by
  unfold lawWeeks at hr
  refine Ret.ofC ?_
  refine enterK Try.func7 rfl Try.ntmps7 (show 3 ≤ 102 by decide) fun a k hk0 hs hd ha => ?_
  obtain ⟨e0, e1, e2, _⟩ := ha
  replace i0 : (IsV day) (a.get 0) k := by rw [e0, hk0]; exact i0
  replace i1 : (IsV weeks) (a.get 1) k := by rw [e1, hk0]; exact i1
  replace i2 : (IsV holiday) (a.get 2) k := by rw [e2, hk0]; exact i2
  have hQ : Gb.LetsOut (bodyPost Try.prog Try.f7 (RetC noF k0 (IsV r))) := letsOutC
  have hg : Chg noF k0 k := by rw [hk0]; exact Chg.refl _ k0
  refine wp_seq ?_
  refine cut (fun a' k' => Bs noF k0 102 a' k' ∧ (IsV day) (a'.get 0) k' ∧ (IsV weeks) (a'.get 1) k' ∧ (IsV holiday) (a'.get 2) k' ∧ True) ?_ hQ ?_
  · intro Q762 hQQ762 hp763
    refine regionS (a0 := a) (k0 := k) (n := 102) (m := 1) (⟨some (IsV false), []⟩ :: []) hs (by kernel_rfl) ⟨ob1 rfl fun b q hk hn => ok_assign rfl (isV_bool.2 rfl), trivial⟩ hQQ762 fun b q p => ?_
    exact tail_done (k := q) (hp763 _ _ ⟨Bs.post ⟨hg, hs, hd⟩ p, keep p 0 rfl i0, keep p 1 rfl i1, keep p 2 rfl i2, trivial⟩)
  rintro a k ⟨⟨hg, hs, hd⟩, i0, i1, i2, _⟩
  refine wp_seq ?_
  obtain ⟨x716_0, hx716_0, hr⟩ := bind_some hr
  refine cut (fun a' k' => Bs noF k0 102 a' k' ∧ (IsV day) (a'.get 0) k' ∧ (IsV weeks) (a'.get 1) k' ∧ (IsV holiday) (a'.get 2) k' ∧ (IsV x716_0) (a'.get 7) k' ∧ True) ?_ hQ ?_
  · intro Q760 hQQ760 hp761
    refine regionS (a0 := a) (k0 := k) (n := 102) (m := 2) (⟨some (IsV x716_0), []⟩ :: ⟨some (IsV x716_0), [(12, some 0)]⟩ :: []) hs (by kernel_rfl) ⟨ob1 rfl fun b q hk hn => ok_call rfl Try.call8 (small_ok hx716_0), ob1 rfl fun b q hk hn => ok_assign rfl hn.1, trivial⟩ hQQ760 fun b q p => ?_
    exact tail_done (k := q) (hp761 _ _ ⟨Bs.post ⟨hg, hs, hd⟩ p, keep p 0 rfl i0, keep p 1 rfl i1, keep p 2 rfl i2, out p 1 7 _ rfl rfl rfl, trivial⟩)
  rintro a k ⟨⟨hg, hs, hd⟩, i0, i1, i2, i7, _⟩
  refine wp_seq ?_
  refine wp_seq ?_
  obtain ⟨x717_1, hx717_1, hr⟩ := bind_some hr
  obtain ⟨x717_10, hx717_10, hr⟩ := bind_some hr
  obtain ⟨x717_6, hx717_6, hx717_10⟩ := ite_bindF hx717_10
  obtain ⟨x717_7, hx717_7, hx717_10⟩ := ite_bindF hx717_10
  obtain ⟨x717_8, hx717_8, hx717_10⟩ := ite_bindF hx717_10
  refine cut (fun a' k' => Bs noF k0 102 a' k' ∧ (IsV day) (a'.get 0) k' ∧ (IsV weeks) (a'.get 1) k' ∧ (IsV holiday) (a'.get 2) k' ∧ (IsV x716_0) (a'.get 7) k' ∧ (IsV x717_10) (a'.get 23) k' ∧ True) ?_ hQ ?_
  · intro Q758 hQQ758 hp759
    refine regionS (a0 := a) (k0 := k) (n := 102) (m := 11) (⟨some (IsV weeks), [(1, none)]⟩ :: ⟨some (IsV x717_1), [(13, some 0)]⟩ :: ⟨some (IsV (!x717_1)), [(14, some 1)]⟩ :: ⟨some (IsV (!x717_1)), [(15, some 2)]⟩ :: ⟨some (Gd ((!x717_1) = false) (IsV day)), [(0, none)]⟩ :: ⟨some (Gd ((!x717_1) = false) (IsV weeks)), [(1, none)]⟩ :: ⟨some (Gd ((!x717_1) = false) (IsV x717_6)), [(18, some 5)]⟩ :: ⟨some (Gd ((!x717_1) = false) (IsV x717_7)), [(19, some 6)]⟩ :: ⟨some (Gd ((!x717_1) = false) (IsV x717_8)), [(17, some 4), (20, some 7)]⟩ :: ⟨some (Gd ((!x717_1) = false) (IsV (!x717_8))), [(21, some 8)]⟩ :: ⟨some (IsV x717_10), [(16, some 3), (22, some 9)]⟩ :: []) hs (by kernel_rfl) ⟨ob1 rfl fun b q hk hn => ok_move rfl (up i1 hk hn.1), ob1 rfl fun b q hk hn => ok_call rfl Try.call24 (within_ok hn.1 (isV_int.2 rfl) (isV_int.2 rfl) hx717_1), ob1 rfl fun b q hk hn => ok_not rfl hn.1, ob1 rfl fun b q hk hn => ok_move rfl hn.1, gdF rfl rfl fun hp b q hk hn => ok_move rfl (up i0 hk hn.1), gdF rfl rfl fun hp b q hk hn => ok_move rfl (up i1 hk hn.1), gdF rfl rfl fun hp b q hk hn => ok_mul rfl (isV_int.2 rfl) (Gd.get hn.1 hp) (hx717_6 hp), gdF rfl rfl fun hp b q hk hn => ok_sub rfl (isV_int.2 rfl) (Gd.get hn.1 hp) (hx717_7 hp), gdF rfl rfl fun hp b q hk hn => ok_call rfl Try.call24 (within_ok (Gd.get hn.1 hp) (isV_int.2 rfl) (Gd.get hn.2.1 hp) (hx717_8 hp)), gdF rfl rfl fun hp b q hk hn => ok_not rfl (Gd.get hn.1 hp), ob1 rfl fun b q hk hn => ok_pickM rfl hn.1 hx717_10 (fun _ => (isV_bool.2 rfl)) (fun hm => (Gd.get hn.2.1 hm)), trivial⟩ hQQ758 fun b q p => ?_
    exact tail_done (k := q) (hp759 _ _ ⟨Bs.post ⟨hg, hs, hd⟩ p, keep p 0 rfl i0, keep p 1 rfl i1, keep p 2 rfl i2, keep p 7 rfl i7, out p 10 23 _ rfl rfl rfl, trivial⟩)
  rintro a k ⟨⟨hg, hs, hd⟩, i0, i1, i2, i7, i23, _⟩
  refine wp_cond_split (isBool i23) (fun hc757 => ?_) (fun hc757 => ?_)
  · rw [if_pos hc757] at hr
    refine wp_seq ?_
    refine cut (fun a' k' => Bs noF k0 102 a' k' ∧ (IsV x716_0) (a'.get 6) k' ∧ True) ?_ hQ ?_
    · intro Q719 hQQ719 hp720
      refine regionS (a0 := a) (k0 := k) (n := 102) (m := 2) (⟨some (IsV x716_0), [(7, none)]⟩ :: ⟨some (IsV x716_0), [(24, some 0)]⟩ :: []) hs (by kernel_rfl) ⟨ob1 rfl fun b q hk hn => ok_move rfl (up i7 hk hn.1), ob1 rfl fun b q hk hn => ok_assign rfl hn.1, trivial⟩ hQQ719 fun b q p => ?_
      exact tail_done (k := q) (hp720 _ _ ⟨Bs.post ⟨hg, hs, hd⟩ p, out p 1 6 _ rfl rfl rfl, trivial⟩)
    rintro a k ⟨⟨hg, hs, hd⟩, i6, _⟩
    refine wp_ret ?_
    obtain rfl := Option.some.inj hr
    exact retC1 rfl hd hg i6
  rw [if_neg (by rw [hc757]; decide)] at hr
  refine wp_skip ?_
  refine wp_seq ?_
  obtain ⟨x721_2, hx721_2, hr⟩ := bind_some hr
  obtain ⟨x721_3, hx721_3, hr⟩ := bind_some hr
  refine cut (fun a' k' => Bs noF k0 102 a' k' ∧ (IsV day) (a'.get 0) k' ∧ (IsV weeks) (a'.get 1) k' ∧ (IsV holiday) (a'.get 2) k' ∧ (IsV x716_0) (a'.get 7) k' ∧ (IsV x721_3) (a'.get 8) k' ∧ True) ?_ hQ ?_
  · intro Q755 hQQ755 hp756
    refine regionS (a0 := a) (k0 := k) (n := 102) (m := 5) (⟨some (IsV day), [(0, none)]⟩ :: ⟨some (IsV weeks), [(1, none)]⟩ :: ⟨some (IsV x721_2), [(26, some 1)]⟩ :: ⟨some (IsV x721_3), [(25, some 0), (27, some 2)]⟩ :: ⟨some (IsV x721_3), [(28, some 3)]⟩ :: []) hs (by kernel_rfl) ⟨ob1 rfl fun b q hk hn => ok_move rfl (up i0 hk hn.1), ob1 rfl fun b q hk hn => ok_move rfl (up i1 hk hn.1), ob1 rfl fun b q hk hn => ok_mul rfl (isV_int.2 rfl) hn.1 hx721_2, ob1 rfl fun b q hk hn => ok_add rfl hn.1 hn.2.1 hx721_3, ob1 rfl fun b q hk hn => ok_assign rfl hn.1, trivial⟩ hQQ755 fun b q p => ?_
    exact tail_done (k := q) (hp756 _ _ ⟨Bs.post ⟨hg, hs, hd⟩ p, keep p 0 rfl i0, keep p 1 rfl i1, keep p 2 rfl i2, keep p 7 rfl i7, out p 4 8 _ rfl rfl rfl, trivial⟩)
  rintro a k ⟨⟨hg, hs, hd⟩, i0, i1, i2, i7, i8, _⟩
  refine wp_seq ?_
  obtain ⟨x722_2, hx722_2, hr⟩ := bind_some hr
  obtain ⟨x722_3, hx722_3, hr⟩ := bind_some hr
  refine cut (fun a' k' => Bs noF k0 102 a' k' ∧ (IsV day) (a'.get 0) k' ∧ (IsV weeks) (a'.get 1) k' ∧ (IsV holiday) (a'.get 2) k' ∧ (IsV x716_0) (a'.get 7) k' ∧ (IsV x721_3) (a'.get 8) k' ∧ (IsV x722_3.1) (a'.get 9) k' ∧ (IsV x722_3.2) (a'.get 10) k' ∧ True) ?_ hQ ?_
  · intro Q753 hQQ753 hp754
    refine regionS (a0 := a) (k0 := k) (n := 102) (m := 9) (⟨some (IsV day), [(0, none)]⟩ :: ⟨some (IsV weeks), [(1, none)]⟩ :: ⟨some (IsV x722_2), [(31, some 1)]⟩ :: ⟨some (IsTup2 (IsV x722_3.1) (IsV x722_3.2)), [(30, some 0), (32, some 2)]⟩ :: ⟨some (IsTup2 (IsV x722_3.1) (IsV x722_3.2)), [(33, some 3)]⟩ :: ⟨some (IsV x722_3.1), [(29, some 4)]⟩ :: ⟨some (IsV x722_3.2), [(29, some 4)]⟩ :: ⟨some (IsV x722_3.1), [(34, some 5)]⟩ :: ⟨some (IsV x722_3.2), [(35, some 6)]⟩ :: []) hs (by kernel_rfl) ⟨ob1 rfl fun b q hk hn => ok_move rfl (up i0 hk hn.1), ob1 rfl fun b q hk hn => ok_move rfl (up i1 hk hn.1), ob1 rfl fun b q hk hn => ok_mul rfl (isV_int.2 rfl) hn.1 hx722_2, ob1 rfl fun b q hk hn => ok_call rfl Try.call9 (calAdd_ok (isV_list.2 (.inl ⟨rfl, rfl⟩)) hn.1 hn.2.1 hx722_3), ob1 rfl fun b q hk hn => ok_move rfl hn.1, ob1 rfl fun b q hk hn => ok_ext2_0 rfl hn.1, ob1 rfl fun b q hk hn => ok_ext2_1 rfl hn.1, ob1 rfl fun b q hk hn => ok_assign rfl hn.1, ob1 rfl fun b q hk hn => ok_assign rfl hn.1, trivial⟩ hQQ753 fun b q p => ?_
    exact tail_done (k := q) (hp754 _ _ ⟨Bs.post ⟨hg, hs, hd⟩ p, keep p 0 rfl i0, keep p 1 rfl i1, keep p 2 rfl i2, keep p 7 rfl i7, keep p 8 rfl i8, out p 7 9 _ rfl rfl rfl, out p 8 10 _ rfl rfl rfl, trivial⟩)
  rintro a k ⟨⟨hg, hs, hd⟩, i0, i1, i2, i7, i8, i9, i10, _⟩
  refine wp_seq ?_
  refine wp_seq ?_
  obtain ⟨x723_2, hx723_2, hr⟩ := bind_some hr
  obtain ⟨x723_4, hx723_4, hr⟩ := bind_some hr
  obtain ⟨x723_17, hx723_17, hr⟩ := bind_some hr
  obtain ⟨x723_12, hx723_12, hx723_17⟩ := ite_bindF hx723_17
  obtain ⟨x723_14, hx723_14, hx723_17⟩ := ite_bindF hx723_17
  obtain ⟨x723_26, hx723_26, hr⟩ := bind_some hr
  obtain ⟨x723_20, hx723_20, hx723_26⟩ := ite_bindF hx723_26
  refine cut (fun a' k' => Bs noF k0 102 a' k' ∧ (IsV day) (a'.get 0) k' ∧ (IsV weeks) (a'.get 1) k' ∧ (IsV holiday) (a'.get 2) k' ∧ (IsV x716_0) (a'.get 7) k' ∧ (IsV x721_3) (a'.get 8) k' ∧ (IsV x723_26) (a'.get 62) k' ∧ True) ?_ hQ ?_
  · intro Q751 hQQ751 hp752
    refine regionS (a0 := a) (k0 := k) (n := 102) (m := 27) (⟨some (IsV day), [(0, none)]⟩ :: ⟨some (IsV x721_3), [(8, none)]⟩ :: ⟨some (IsV x723_2), [(36, some 0), (37, some 1)]⟩ :: ⟨some (IsV weeks), [(1, none)]⟩ :: ⟨some (IsV x723_4), [(39, some 3)]⟩ :: ⟨some (IsV (x723_2 != x723_4)), [(38, some 2), (40, some 4)]⟩ :: ⟨some (IsV (x723_2 != x723_4)), [(41, some 5)]⟩ :: ⟨some (Gd ((x723_2 != x723_4) = false) (IsV x722_3.2)), [(10, none)]⟩ :: ⟨some (Gd ((x723_2 != x723_4) = false) (IsV (x722_3.2 != 0))), [(43, some 7)]⟩ :: ⟨some (IsV ((x723_2 != x723_4) || (x722_3.2 != 0))), [(42, some 6), (44, some 8)]⟩ :: ⟨some (IsV ((x723_2 != x723_4) || (x722_3.2 != 0))), [(45, some 9)]⟩ :: ⟨some (Gd (((x723_2 != x723_4) || (x722_3.2 != 0)) = false) (IsV day)), [(0, none)]⟩ :: ⟨some (Gd (((x723_2 != x723_4) || (x722_3.2 != 0)) = false) (IsV x723_12)), [(47, some 11)]⟩ :: ⟨some (Gd (((x723_2 != x723_4) || (x722_3.2 != 0)) = false) (IsV day)), [(0, none)]⟩ :: ⟨some (Gd (((x723_2 != x723_4) || (x722_3.2 != 0)) = false) (IsV x723_14)), [(49, some 13)]⟩ :: ⟨some (Gd (((x723_2 != x723_4) || (x722_3.2 != 0)) = false) (IsV (decide (x723_14 < 5)))), [(50, some 14)]⟩ :: ⟨some (Gd (((x723_2 != x723_4) || (x722_3.2 != 0)) = false) (IsV (x723_12 != (decide (x723_14 < 5))))), [(48, some 12), (51, some 15)]⟩ :: ⟨some (IsV x723_17), [(46, some 10), (52, some 16)]⟩ :: ⟨some (IsV x723_17), [(53, some 17)]⟩ :: ⟨some (Gd (x723_17 = false) (IsV day)), [(0, none)]⟩ :: ⟨some (Gd (x723_17 = false) (IsV x723_20)), [(55, some 19)]⟩ :: ⟨some (Gd (x723_17 = false) (IsV x723_20)), [(56, some 20)]⟩ :: ⟨some (Gd ((x723_17 = false) ∧ x723_20 = true) (IsV x722_3.1)), [(9, none)]⟩ :: ⟨some (Gd ((x723_17 = false) ∧ x723_20 = true) (IsV x721_3)), [(8, none)]⟩ :: ⟨some (Gd ((x723_17 = false) ∧ x723_20 = true) (IsV (x722_3.1 != x721_3))), [(58, some 22), (59, some 23)]⟩ :: ⟨some (Gd (x723_17 = false) (IsV (x723_20 && (x722_3.1 != x721_3)))), [(57, some 21), (60, some 24)]⟩ :: ⟨some (IsV x723_26), [(54, some 18), (61, some 25)]⟩ :: []) hs (by kernel_rfl) ⟨ob1 rfl fun b q hk hn => ok_move rfl (up i0 hk hn.1), ob1 rfl fun b q hk hn => ok_move rfl (up i8 hk hn.1), ob1 rfl fun b q hk hn => ok_call rfl Try.call19 (calBetween_ok (isV_list.2 (.inl ⟨rfl, rfl⟩)) hn.1 hn.2.1 hx723_2), ob1 rfl fun b q hk hn => ok_move rfl (up i1 hk hn.1), ob1 rfl fun b q hk hn => ok_mul rfl (isV_int.2 rfl) hn.1 hx723_4, ob1 rfl fun b q hk hn => ok_neI rfl hn.1 hn.2.1, ob1 rfl fun b q hk hn => ok_move rfl hn.1, gdF rfl rfl fun hp b q hk hn => ok_move rfl (up i10 hk hn.1), gdF rfl rfl fun hp b q hk hn => ok_neI rfl (Gd.get hn.1 hp) (isV_int.2 rfl), ob1 rfl fun b q hk hn => ok_pickOr rfl hn.1 (fun _ => (isV_bool.2 rfl)) (fun hm => (Gd.get hn.2.1 hm)), ob1 rfl fun b q hk hn => ok_move rfl hn.1, gdF rfl rfl fun hp b q hk hn => ok_move rfl (up i0 hk hn.1), gdF rfl rfl fun hp b q hk hn => ok_call rfl Try.call15 (calIsWork_ok (isV_list.2 (.inl ⟨rfl, rfl⟩)) (Gd.get hn.1 hp) (hx723_12 hp)), gdF rfl rfl fun hp b q hk hn => ok_move rfl (up i0 hk hn.1), gdF rfl rfl fun hp b q hk hn => ok_rem rfl (Gd.get hn.1 hp) (isV_int.2 rfl) (hx723_14 hp), gdF rfl rfl fun hp b q hk hn => ok_lss rfl (Gd.get hn.1 hp) (isV_int.2 rfl), gdF rfl rfl fun hp b q hk hn => ok_neB rfl Try.underlying4 (Gd.get hn.1 hp) (Gd.get hn.2.1 hp), ob1 rfl fun b q hk hn => ok_pickM rfl hn.1 hx723_17 (fun _ => (isV_bool.2 rfl)) (fun hm => (Gd.get hn.2.1 hm)), ob1 rfl fun b q hk hn => ok_move rfl hn.1, gdF rfl rfl fun hp b q hk hn => ok_move rfl (up i0 hk hn.1), gdF rfl rfl fun hp b q hk hn => ok_call rfl Try.call15 (calIsWork_ok (isV_list.2 (.inl ⟨rfl, rfl⟩)) (Gd.get hn.1 hp) (hx723_20 hp)), gdF rfl rfl fun hp b q hk hn => ok_move rfl (Gd.get hn.1 hp), gdTT rfl rfl fun hp b q hk hn => ok_move rfl (up i9 hk hn.1), gdTT rfl rfl fun hp b q hk hn => ok_move rfl (up i8 hk hn.1), gdTT rfl rfl fun hp b q hk hn => ok_neI rfl (Gd.get hn.1 hp) (Gd.get hn.2.1 hp), gdF rfl rfl fun hp b q hk hn => ok_pickAnd rfl (Gd.get hn.1 hp) (fun hm => (Gd.get hn.2.1 ⟨hp, hm⟩)) (fun _ => (isV_bool.2 rfl)), ob1 rfl fun b q hk hn => ok_pickM rfl hn.1 hx723_26 (fun _ => (isV_bool.2 rfl)) (fun hm => (Gd.get hn.2.1 hm)), trivial⟩ hQQ751 fun b q p => ?_
    exact tail_done (k := q) (hp752 _ _ ⟨Bs.post ⟨hg, hs, hd⟩ p, keep p 0 rfl i0, keep p 1 rfl i1, keep p 2 rfl i2, keep p 7 rfl i7, keep p 8 rfl i8, out p 26 62 _ rfl rfl rfl, trivial⟩)
  rintro a k ⟨⟨hg, hs, hd⟩, i0, i1, i2, i7, i8, i62, _⟩
  refine wp_cond_split (isBool i62) (fun hc750 => ?_) (fun hc750 => ?_)
  · rw [if_pos hc750] at hr
    refine wp_seq ?_
    refine cut (fun a' k' => Bs noF k0 102 a' k' ∧ (IsV false) (a'.get 6) k' ∧ True) ?_ hQ ?_
    · intro Q725 hQQ725 hp726
      refine regionS (a0 := a) (k0 := k) (n := 102) (m := 1) (⟨some (IsV false), []⟩ :: []) hs (by kernel_rfl) ⟨ob1 rfl fun b q hk hn => ok_assign rfl (isV_bool.2 rfl), trivial⟩ hQQ725 fun b q p => ?_
      exact tail_done (k := q) (hp726 _ _ ⟨Bs.post ⟨hg, hs, hd⟩ p, out p 0 6 _ rfl rfl rfl, trivial⟩)
    rintro a k ⟨⟨hg, hs, hd⟩, i6, _⟩
    refine wp_ret ?_
    obtain rfl := Option.some.inj hr
    exact retC1 rfl hd hg i6
  rw [if_neg (by rw [hc750]; decide)] at hr
  refine wp_skip ?_
  refine wp_seq ?_
  refine wp_seq ?_
  obtain ⟨x727_1, hx727_1, hr⟩ := bind_some hr
  refine cut (fun a' k' => Bs noF k0 102 a' k' ∧ (IsV day) (a'.get 0) k' ∧ (IsV weeks) (a'.get 1) k' ∧ (IsV holiday) (a'.get 2) k' ∧ (IsV x716_0) (a'.get 7) k' ∧ (IsV x721_3) (a'.get 8) k' ∧ (IsV (!x727_1)) (a'.get 65) k' ∧ True) ?_ hQ ?_
  · intro Q748 hQQ748 hp749
    refine regionS (a0 := a) (k0 := k) (n := 102) (m := 3) (⟨some (IsV holiday), [(2, none)]⟩ :: ⟨some (IsV x727_1), [(63, some 0)]⟩ :: ⟨some (IsV (!x727_1)), [(64, some 1)]⟩ :: []) hs (by kernel_rfl) ⟨ob1 rfl fun b q hk hn => ok_move rfl (up i2 hk hn.1), ob1 rfl fun b q hk hn => ok_call rfl Try.call24 (within_ok hn.1 (isV_int.2 rfl) (isV_int.2 rfl) hx727_1), ob1 rfl fun b q hk hn => ok_not rfl hn.1, trivial⟩ hQQ748 fun b q p => ?_
    exact tail_done (k := q) (hp749 _ _ ⟨Bs.post ⟨hg, hs, hd⟩ p, keep p 0 rfl i0, keep p 1 rfl i1, keep p 2 rfl i2, keep p 7 rfl i7, keep p 8 rfl i8, out p 2 65 _ rfl rfl rfl, trivial⟩)
  rintro a k ⟨⟨hg, hs, hd⟩, i0, i1, i2, i7, i8, i65, _⟩
  refine wp_cond_split (isBool i65) (fun hc747 => ?_) (fun hc747 => ?_)
  · rw [if_pos hc747] at hr
    refine wp_seq ?_
    obtain ⟨x728_8, hx728_8, hr⟩ := bind_some hr
    obtain ⟨x728_6, hx728_6, hx728_8⟩ := ite_bind hx728_8
    refine cut (fun a' k' => Bs noF k0 102 a' k' ∧ (IsV x728_8) (a'.get 6) k' ∧ True) ?_ hQ ?_
    · intro Q729 hQQ729 hp730
      refine regionS (a0 := a) (k0 := k) (n := 102) (m := 10) (⟨some (IsV x716_0), [(7, none)]⟩ :: ⟨some (IsV x716_0), [(66, some 0)]⟩ :: ⟨some (Gd (x716_0 = true) (IsV holiday)), [(2, none)]⟩ :: ⟨some (Gd (x716_0 = true) (IsV ([holiday]))), [(68, some 2)]⟩ :: ⟨some (Gd (x716_0 = true) (IsV day)), [(0, none)]⟩ :: ⟨some (Gd (x716_0 = true) (IsV x721_3)), [(8, none)]⟩ :: ⟨some (Gd (x716_0 = true) (IsV x728_6)), [(69, some 3), (70, some 4), (71, some 5)]⟩ :: ⟨some (Gd (x716_0 = true) (IsV (x728_6 == 0))), [(72, some 6)]⟩ :: ⟨some (IsV x728_8), [(67, some 1), (73, some 7)]⟩ :: ⟨some (IsV x728_8), [(74, some 8)]⟩ :: []) hs (by kernel_rfl) ⟨ob1 rfl fun b q hk hn => ok_move rfl (up i7 hk hn.1), ob1 rfl fun b q hk hn => ok_move rfl hn.1, gdT rfl rfl fun hp b q hk hn => ok_move rfl (up i2 hk hn.1), gdT rfl rfl fun hp b q hk hn => ok_buildSlice rfl Try.underlying22 eo3 rfl (by decide) (by decide) ⟨rfl, (Gd.get hn.1 hp), trivial⟩, gdT rfl rfl fun hp b q hk hn => ok_move rfl (up i0 hk hn.1), gdT rfl rfl fun hp b q hk hn => ok_move rfl (up i8 hk hn.1), gdT rfl rfl fun hp b q hk hn => ok_call rfl Try.call19 (calBetween_ok (Gd.get hn.1 hp) (Gd.get hn.2.1 hp) (Gd.get hn.2.2.1 hp) (hx728_6 hp)), gdT rfl rfl fun hp b q hk hn => ok_eqI rfl (Gd.get hn.1 hp) (isV_int.2 rfl), ob1 rfl fun b q hk hn => ok_pickM rfl hn.1 hx728_8 (fun hm => (Gd.get hn.2.1 hm)) (fun _ => (isV_bool.2 rfl)), ob1 rfl fun b q hk hn => ok_assign rfl hn.1, trivial⟩ hQQ729 fun b q p => ?_
      exact tail_done (k := q) (hp730 _ _ ⟨Bs.post ⟨hg, hs, hd⟩ p, out p 9 6 _ rfl rfl rfl, trivial⟩)
    rintro a k ⟨⟨hg, hs, hd⟩, i6, _⟩
    refine wp_ret ?_
    obtain rfl := Option.some.inj hr
    exact retC1 rfl hd hg i6
  rw [if_neg (by rw [hc747]; decide)] at hr
  refine wp_skip ?_
  refine wp_seq ?_
  obtain ⟨x731_1, hx731_1, hr⟩ := bind_some hr
  refine cut (fun a' k' => Bs noF k0 102 a' k' ∧ (IsV day) (a'.get 0) k' ∧ (IsV holiday) (a'.get 2) k' ∧ (IsV x716_0) (a'.get 7) k' ∧ (IsV x721_3) (a'.get 8) k' ∧ (IsV x731_1) (a'.get 11) k' ∧ True) ?_ hQ ?_
  · intro Q745 hQQ745 hp746
    refine regionS (a0 := a) (k0 := k) (n := 102) (m := 3) (⟨some (IsV weeks), [(1, none)]⟩ :: ⟨some (IsV x731_1), [(75, some 0)]⟩ :: ⟨some (IsV x731_1), [(76, some 1)]⟩ :: []) hs (by kernel_rfl) ⟨ob1 rfl fun b q hk hn => ok_move rfl (up i1 hk hn.1), ob1 rfl fun b q hk hn => ok_mul rfl (isV_int.2 rfl) hn.1 hx731_1, ob1 rfl fun b q hk hn => ok_assign rfl hn.1, trivial⟩ hQQ745 fun b q p => ?_
    exact tail_done (k := q) (hp746 _ _ ⟨Bs.post ⟨hg, hs, hd⟩ p, keep p 0 rfl i0, keep p 2 rfl i2, keep p 7 rfl i7, keep p 8 rfl i8, out p 2 11 _ rfl rfl rfl, trivial⟩)
  rintro a k ⟨⟨hg, hs, hd⟩, i0, i2, i7, i8, i11, _⟩
  refine wp_seq ?_
  refine wp_seq ?_
  obtain ⟨x732_12, hx732_12, hr⟩ := bind_some hr
  obtain ⟨x732_10, hx732_10, hx732_12⟩ := ite_bind hx732_12
  refine cut (fun a' k' => Bs noF k0 102 a' k' ∧ (IsV day) (a'.get 0) k' ∧ (IsV holiday) (a'.get 2) k' ∧ (IsV x716_0) (a'.get 7) k' ∧ (IsV x721_3) (a'.get 8) k' ∧ (IsV x731_1) (a'.get 11) k' ∧ (IsV x732_12) (a'.get 89) k' ∧ True) ?_ hQ ?_
  · intro Q743 hQQ743 hp744
    refine regionS (a0 := a) (k0 := k) (n := 102) (m := 13) (⟨some (IsV day), [(0, none)]⟩ :: ⟨some (IsV holiday), [(2, none)]⟩ :: ⟨some (IsV (decide (day < holiday))), [(77, some 0), (78, some 1)]⟩ :: ⟨some (IsV (decide (day < holiday))), [(79, some 2)]⟩ :: ⟨some (Gd ((decide (day < holiday)) = true) (IsV holiday)), [(2, none)]⟩ :: ⟨some (Gd ((decide (day < holiday)) = true) (IsV x721_3)), [(8, none)]⟩ :: ⟨some (Gd ((decide (day < holiday)) = true) (IsV (decide (holiday ≤ x721_3)))), [(81, some 4), (82, some 5)]⟩ :: ⟨some (IsV ((decide (day < holiday)) && (decide (holiday ≤ x721_3)))), [(80, some 3), (83, some 6)]⟩ :: ⟨some (IsV ((decide (day < holiday)) && (decide (holiday ≤ x721_3)))), [(84, some 7)]⟩ :: ⟨some (Gd (((decide (day < holiday)) && (decide (holiday ≤ x721_3))) = true) (IsV holiday)), [(2, none)]⟩ :: ⟨some (Gd (((decide (day < holiday)) && (decide (holiday ≤ x721_3))) = true) (IsV x732_10)), [(86, some 9)]⟩ :: ⟨some (Gd (((decide (day < holiday)) && (decide (holiday ≤ x721_3))) = true) (IsV (decide (x732_10 < 5)))), [(87, some 10)]⟩ :: ⟨some (IsV x732_12), [(85, some 8), (88, some 11)]⟩ :: []) hs (by kernel_rfl) ⟨ob1 rfl fun b q hk hn => ok_move rfl (up i0 hk hn.1), ob1 rfl fun b q hk hn => ok_move rfl (up i2 hk hn.1), ob1 rfl fun b q hk hn => ok_lss rfl hn.1 hn.2.1, ob1 rfl fun b q hk hn => ok_move rfl hn.1, gdT rfl rfl fun hp b q hk hn => ok_move rfl (up i2 hk hn.1), gdT rfl rfl fun hp b q hk hn => ok_move rfl (up i8 hk hn.1), gdT rfl rfl fun hp b q hk hn => ok_leq rfl (Gd.get hn.1 hp) (Gd.get hn.2.1 hp), ob1 rfl fun b q hk hn => ok_pickAnd rfl hn.1 (fun hm => (Gd.get hn.2.1 hm)) (fun _ => (isV_bool.2 rfl)), ob1 rfl fun b q hk hn => ok_move rfl hn.1, gdT rfl rfl fun hp b q hk hn => ok_move rfl (up i2 hk hn.1), gdT rfl rfl fun hp b q hk hn => ok_rem rfl (Gd.get hn.1 hp) (isV_int.2 rfl) (hx732_10 hp), gdT rfl rfl fun hp b q hk hn => ok_lss rfl (Gd.get hn.1 hp) (isV_int.2 rfl), ob1 rfl fun b q hk hn => ok_pickM rfl hn.1 hx732_12 (fun hm => (Gd.get hn.2.1 hm)) (fun _ => (isV_bool.2 rfl)), trivial⟩ hQQ743 fun b q p => ?_
    exact tail_done (k := q) (hp744 _ _ ⟨Bs.post ⟨hg, hs, hd⟩ p, keep p 0 rfl i0, keep p 2 rfl i2, keep p 7 rfl i7, keep p 8 rfl i8, keep p 11 rfl i11, out p 12 89 _ rfl rfl rfl, trivial⟩)
  rintro a k ⟨⟨hg, hs, hd⟩, i0, i2, i7, i8, i11, i89, _⟩
  obtain ⟨s733, hs733, hr⟩ := bind_some hr
  refine cut (fun a' k' => Bs noF k0 102 a' k' ∧ (IsV day) (a'.get 0) k' ∧ (IsV holiday) (a'.get 2) k' ∧ (IsV x716_0) (a'.get 7) k' ∧ (IsV x721_3) (a'.get 8) k' ∧ (IsV s733) (a'.get 11) k' ∧ True) ?_ hQ ?_
  · intro Q742 hQQ742 hp734
    replace hr := hs733
    clear hQ
    have hQ := hQQ742
    refine wp_cond_split (isBool i89) (fun hc738 => ?_) (fun hc738 => ?_)
    · rw [if_pos hc738] at hr
      obtain ⟨x735_1, hx735_1, hr⟩ := bind_some hr
      refine cut (fun a' k' => Bs noF k0 102 a' k' ∧ (IsV day) (a'.get 0) k' ∧ (IsV holiday) (a'.get 2) k' ∧ (IsV x716_0) (a'.get 7) k' ∧ (IsV x721_3) (a'.get 8) k' ∧ (IsV x735_1) (a'.get 11) k' ∧ True) ?_ hQ ?_
      · intro Q736 hQQ736 hp737
        refine regionS (a0 := a) (k0 := k) (n := 102) (m := 3) (⟨some (IsV x731_1), [(11, none)]⟩ :: ⟨some (IsV x735_1), [(90, some 0)]⟩ :: ⟨some (IsV x735_1), [(91, some 1)]⟩ :: []) hs (by kernel_rfl) ⟨ob1 rfl fun b q hk hn => ok_move rfl (up i11 hk hn.1), ob1 rfl fun b q hk hn => ok_sub rfl hn.1 (isV_int.2 rfl) hx735_1, ob1 rfl fun b q hk hn => ok_assign rfl hn.1, trivial⟩ hQQ736 fun b q p => ?_
        exact tail_done (k := q) (hp737 _ _ ⟨Bs.post ⟨hg, hs, hd⟩ p, keep p 0 rfl i0, keep p 2 rfl i2, keep p 7 rfl i7, keep p 8 rfl i8, out p 2 11 _ rfl rfl rfl, trivial⟩)
      rintro a k ⟨⟨hg, hs, hd⟩, i0, i2, i7, i8, i11, _⟩
      obtain rfl := Option.some.inj hr
      exact hp734 _ _ ⟨⟨hg, hs, hd⟩, i0, i2, i7, i8, i11, trivial⟩
    rw [if_neg (by rw [hc738]; decide)] at hr
    refine wp_skip ?_
    obtain rfl := Option.some.inj hr
    exact hp734 _ _ ⟨⟨hg, hs, hd⟩, i0, i2, i7, i8, i11, trivial⟩
  clear hs733
  rintro a k ⟨⟨hg, hs, hd⟩, i0, i2, i7, i8, i11, _⟩
  refine wp_seq ?_
  obtain ⟨x739_9, hx739_9, hr⟩ := bind_some hr
  obtain ⟨x739_6, hx739_6, hx739_9⟩ := ite_bind hx739_9
  refine cut (fun a' k' => Bs noF k0 102 a' k' ∧ (IsV x739_9) (a'.get 6) k' ∧ True) ?_ hQ ?_
  · intro Q740 hQQ740 hp741
    refine regionS (a0 := a) (k0 := k) (n := 102) (m := 11) (⟨some (IsV x716_0), [(7, none)]⟩ :: ⟨some (IsV x716_0), [(92, some 0)]⟩ :: ⟨some (Gd (x716_0 = true) (IsV holiday)), [(2, none)]⟩ :: ⟨some (Gd (x716_0 = true) (IsV ([holiday]))), [(94, some 2)]⟩ :: ⟨some (Gd (x716_0 = true) (IsV day)), [(0, none)]⟩ :: ⟨some (Gd (x716_0 = true) (IsV x721_3)), [(8, none)]⟩ :: ⟨some (Gd (x716_0 = true) (IsV x739_6)), [(95, some 3), (96, some 4), (97, some 5)]⟩ :: ⟨some (Gd (x716_0 = true) (IsV s733)), [(11, none)]⟩ :: ⟨some (Gd (x716_0 = true) (IsV (x739_6 == s733))), [(98, some 6), (99, some 7)]⟩ :: ⟨some (IsV x739_9), [(93, some 1), (100, some 8)]⟩ :: ⟨some (IsV x739_9), [(101, some 9)]⟩ :: []) hs (by kernel_rfl) ⟨ob1 rfl fun b q hk hn => ok_move rfl (up i7 hk hn.1), ob1 rfl fun b q hk hn => ok_move rfl hn.1, gdT rfl rfl fun hp b q hk hn => ok_move rfl (up i2 hk hn.1), gdT rfl rfl fun hp b q hk hn => ok_buildSlice rfl Try.underlying22 eo3 rfl (by decide) (by decide) ⟨rfl, (Gd.get hn.1 hp), trivial⟩, gdT rfl rfl fun hp b q hk hn => ok_move rfl (up i0 hk hn.1), gdT rfl rfl fun hp b q hk hn => ok_move rfl (up i8 hk hn.1), gdT rfl rfl fun hp b q hk hn => ok_call rfl Try.call19 (calBetween_ok (Gd.get hn.1 hp) (Gd.get hn.2.1 hp) (Gd.get hn.2.2.1 hp) (hx739_6 hp)), gdT rfl rfl fun hp b q hk hn => ok_move rfl (up i11 hk hn.1), gdT rfl rfl fun hp b q hk hn => ok_eqI rfl (Gd.get hn.1 hp) (Gd.get hn.2.1 hp), ob1 rfl fun b q hk hn => ok_pickM rfl hn.1 hx739_9 (fun hm => (Gd.get hn.2.1 hm)) (fun _ => (isV_bool.2 rfl)), ob1 rfl fun b q hk hn => ok_assign rfl hn.1, trivial⟩ hQQ740 fun b q p => ?_
    exact tail_done (k := q) (hp741 _ _ ⟨Bs.post ⟨hg, hs, hd⟩ p, out p 10 6 _ rfl rfl rfl, trivial⟩)
  rintro a k ⟨⟨hg, hs, hd⟩, i6, _⟩
  refine wp_ret ?_
  obtain rfl := Option.some.inj hr
  exact retC1 rfl hd hg i6
end Go.Proofs.Ytdpekblabnfjnaa
