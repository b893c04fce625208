/- What the functions of credit compute, part 3 -/
import Derived.Test.YtbanncpkgbiklaaT2
namespace Go.Proofs.Ytbanncpkgbiklaa
open Go.Gb
set_option linter.unusedVariables false
set_option linter.unusedSimpArgs false
def rRun_L0 (moves : (List Move)) (s503 : (List Account) × Int) : Option (Flow ((List Account) × Int) ((List Account) × Int × Int)) :=
  if (decide (s503.2 < (moves.length : Int))) then
    (getI moves s503.2).bind fun x508_3 =>
    (rDo s503.1 x508_3).bind fun x508_5 =>
    if (x508_5.2 != 0) then
      some (.ret (s503.1, s503.2, x508_5.2))
    else
      (addI s503.2 1).bind fun x514_1 =>
      some (.go (x508_5.1, x514_1))
  else
    some (.ex 0 (s503.1, s503.2))
def rRun (l_ : (List Account)) (moves : (List Move)) : Option ((List Account) × Int × Int) :=
  (rRight l_).bind fun x497_1 =>
  if (!x497_1) then
    some (([] : List Account), 0, 1)
  else
    (appI [] l_).bind fun x501_2 =>
    (iterL (rRun_L0 moves) (moves.length + x501_2.length + 1) (x501_2, 0)).bind fun f527 => match f527 with
      | .go _ => none
      | .ex _ s528 =>
        some (s528.1, (moves.length : Int), 0)
      | .ret r532 => some r532
theorem rRun_ok {k0 : K} {v0 v1 : Value} {l_ : (List Account)} {moves : (List Move)} {r : (List Account) × Int × Int} (i0 : (IsV l_) v0 k0) (i1 : (IsV moves) v1 k0) (hr : rRun l_ moves = some r) :
    Calls Try.prog 16 #[v0, v1] k0.w (Ret k0 (IsTup3 (IsV r.1) (IsV r.2.1) (IsV r.2.2))) := by
  unfold rRun at hr
  refine Ret.ofC ?_
  refine enterK Try.func16 rfl Try.ntmps16 (show 2 ≤ 41 by decide) fun a k hk0 hs hd ha => ?_
  obtain ⟨e0, e1, _⟩ := ha
  replace i0 : (IsV l_) (a.get 0) k := by rw [e0, hk0]; exact i0
  replace i1 : (IsV moves) (a.get 1) k := by rw [e1, hk0]; exact i1
  have hQ : Gb.LetsOut (bodyPost Try.prog Try.f16 (RetC noF k0 (IsTup3 (IsV r.1) (IsV r.2.1) (IsV r.2.2)))) := letsOutC
  have hg : Chg noF k0 k := by rw [hk0]; exact Chg.refl _ k0
  refine wp_seq ?_
  refine cut (fun a' k' => Bs noF k0 41 a' k' ∧ (IsV l_) (a'.get 0) k' ∧ (IsV moves) (a'.get 1) k' ∧ True) ?_ hQ ?_
  · intro Q541 hQQ541 hp542
    refine regionS (a0 := a) (k0 := k) (n := 41) (m := 3) (⟨some IsE0, []⟩ :: ⟨some (IsV (α := Int) 0), []⟩ :: ⟨some (IsV (α := Int) 0), []⟩ :: []) hs (by kernel_rfl) ⟨ob1 rfl fun b q hk hn => ok_assign rfl isE0_nil, ob1 rfl fun b q hk hn => ok_assign rfl (isV_int.2 rfl), ob1 rfl fun b q hk hn => ok_assign rfl (isV_int.2 rfl), trivial⟩ hQQ541 fun b q p => ?_
    exact tail_done (k := q) (hp542 _ _ ⟨Bs.post ⟨hg, hs, hd⟩ p, keep p 0 rfl i0, keep p 1 rfl i1, trivial⟩)
  rintro a k ⟨⟨hg, hs, hd⟩, i0, i1, _⟩
  refine wp_seq ?_
  refine wp_seq ?_
  obtain ⟨x497_1, hx497_1, hr⟩ := bind_some hr
  refine cut (fun a' k' => Bs noF k0 41 a' k' ∧ (IsV l_) (a'.get 0) k' ∧ (IsV moves) (a'.get 1) k' ∧ (IsV (!x497_1)) (a'.get 13) k' ∧ True) ?_ hQ ?_
  · intro Q539 hQQ539 hp540
    refine regionS (a0 := a) (k0 := k) (n := 41) (m := 3) (⟨some (IsV l_), [(0, none)]⟩ :: ⟨some (IsV x497_1), [(11, some 0)]⟩ :: ⟨some (IsV (!x497_1)), [(12, some 1)]⟩ :: []) hs (by kernel_rfl) ⟨ob1 rfl fun b q hk hn => ok_move rfl (up i0 hk hn.1), ob1 rfl fun b q hk hn => ok_call rfl Try.call18 (rRight_ok hn.1 hx497_1), ob1 rfl fun b q hk hn => ok_not rfl hn.1, trivial⟩ hQQ539 fun b q p => ?_
    exact tail_done (k := q) (hp540 _ _ ⟨Bs.post ⟨hg, hs, hd⟩ p, keep p 0 rfl i0, keep p 1 rfl i1, out p 2 13 _ rfl rfl rfl, trivial⟩)
  rintro a k ⟨⟨hg, hs, hd⟩, i0, i1, i13, _⟩
  refine wp_cond_split (isBool i13) (fun hc538 => ?_) (fun hc538 => ?_)
  · rw [if_pos hc538] at hr
    refine wp_seq ?_
    refine cut (fun a' k' => Bs noF k0 41 a' k' ∧ (IsV ([] : List Account)) (a'.get 4) k' ∧ (IsV (α := Int) 0) (a'.get 5) k' ∧ (IsV (α := Int) 1) (a'.get 6) k' ∧ True) ?_ hQ ?_
    · intro Q499 hQQ499 hp500
      refine regionS (a0 := a) (k0 := k) (n := 41) (m := 3) (⟨some IsE0, []⟩ :: ⟨some (IsV (α := Int) 0), []⟩ :: ⟨some (IsV (α := Int) 1), []⟩ :: []) hs (by kernel_rfl) ⟨ob1 rfl fun b q hk hn => ok_assign rfl isE0_nil, ob1 rfl fun b q hk hn => ok_assign rfl (isV_int.2 rfl), ob1 rfl fun b q hk hn => ok_assign rfl (isV_int.2 rfl), trivial⟩ hQQ499 fun b q p => ?_
      have hgq := hg.then p.grow
      have hsb := p.size.trans hs
      have hdb := p.defers.trans hd
      have j4 : IsE0 (b.get 4) q := out p 0 4 _ rfl rfl rfl
      have j5 : (IsV (α := Int) 0) (b.get 5) q := out p 1 5 _ rfl rfl rfl
      have j6 : (IsV (α := Int) 1) (b.get 6) q := out p 2 6 _ rfl rfl rfl
      replace j4 : IsV ([] : List Account) (b.get 4) q := j4.isV
      exact tail_done (k := q) (hp500 _ _ ⟨⟨hgq, hsb, hdb⟩, j4, j5, j6, trivial⟩)
    rintro a k ⟨⟨hg, hs, hd⟩, i4, i5, i6, _⟩
    refine wp_ret ?_
    obtain rfl := Option.some.inj hr
    exact retC3 rfl hd hg i4 i5 i6
  rw [if_neg (by rw [hc538]; decide)] at hr
  refine wp_skip ?_
  refine wp_seq ?_
  obtain ⟨x501_2, hx501_2, hr⟩ := bind_some hr
  refine cut (fun a' k' => Bs noF k0 41 a' k' ∧ (IsV moves) (a'.get 1) k' ∧ (IsV x501_2) (a'.get 7) k' ∧ True) ?_ hQ ?_
  · intro Q536 hQQ536 hp537
    refine regionS (a0 := a) (k0 := k) (n := 41) (m := 4) (⟨some IsE0, []⟩ :: ⟨some (IsV l_), [(0, none)]⟩ :: ⟨some (IsV x501_2), [(14, some 0), (15, some 1)]⟩ :: ⟨some (IsV x501_2), [(16, some 2)]⟩ :: []) hs (by kernel_rfl) ⟨ob1 rfl fun b q hk hn => ok_buildSlice0 rfl Try.underlying22 eo35, ob1 rfl fun b q hk hn => ok_move rfl (up i0 hk hn.1), ob1 rfl fun b q hk hn => ok_append0V rfl Try.underlying22 eo35 hn.1 (IsV.rd hn.2.1) hx501_2, ob1 rfl fun b q hk hn => ok_assign rfl hn.1, trivial⟩ hQQ536 fun b q p => ?_
    exact tail_done (k := q) (hp537 _ _ ⟨Bs.post ⟨hg, hs, hd⟩ p, keep p 1 rfl i1, out p 3 7 _ rfl rfl rfl, trivial⟩)
  rintro a k ⟨⟨hg, hs, hd⟩, i1, i7, _⟩
  refine wp_seq ?_
  refine wp_seq ?_
  refine cut (fun a' k' => Bs noF k0 41 a' k' ∧ (IsV moves) (a'.get 1) k' ∧ (IsV x501_2) (a'.get 7) k' ∧ (IsV (α := Int) 0) (a'.get 8) k' ∧ True) ?_ hQ ?_
  · intro Q534 hQQ534 hp535
    refine regionS (a0 := a) (k0 := k) (n := 41) (m := 1) (⟨some (IsV (α := Int) 0), []⟩ :: []) hs (by kernel_rfl) ⟨ob1 rfl fun b q hk hn => ok_assign rfl (isV_int.2 rfl), trivial⟩ hQQ534 fun b q p => ?_
    exact tail_done (k := q) (hp535 _ _ ⟨Bs.post ⟨hg, hs, hd⟩ p, keep p 1 rfl i1, keep p 7 rfl i7, out p 0 8 _ rfl rfl rfl, trivial⟩)
  rintro a k ⟨⟨hg, hs, hd⟩, i1, i7, i8, _⟩
  refine wp_block ?_
  obtain ⟨f527, hf527, hr⟩ := bind_some hr
  refine cutFe f527 (fun s' a' k' => Bs noF k0 41 a' k' ∧ (IsV moves) (a'.get 1) k' ∧ (IsV s'.1) (a'.get 7) k' ∧ (IsV s'.2) (a'.get 8) k' ∧ True) (fun i' s' a' k' => (i' = 0 ∧ Bs noF k0 41 a' k' ∧ (IsV moves) (a'.get 1) k' ∧ (IsV s'.1) (a'.get 7) k' ∧ True)) (fun r' a' k' => bodyPost Try.prog Try.f16 (RetC noF k0 (IsTup3 (IsV r'.1) (IsV r'.2.1) (IsV r'.2.2))) .ret a' k'.w) ?_ hQ ?_ ?_ ?_
  · intro Q533 hQQ533 hgo hex hret
    refine sim_loop ?_ _ _ _ _ _ hf527 ⟨⟨hg, hs, hd⟩, i1, i7, i8, trivial⟩ Q533 hQQ533 hgo hex hret
    clear hr hf527 hgo hex hret hQQ533 hQ hg hs hd i1 i7 i8
    intro s503 fl_ a k hr hS Q hQ hgo504 hex505 hret506
    obtain ⟨⟨hg, hs, hd⟩, i1, i7, i8, _⟩ := hS
    unfold rRun_L0 at hr
    refine wp_seq ?_
    refine wp_seq ?_
    refine cut (fun a' k' => Bs noF k0 41 a' k' ∧ (IsV moves) (a'.get 1) k' ∧ (IsV s503.1) (a'.get 7) k' ∧ (IsV s503.2) (a'.get 8) k' ∧ (IsV (decide (s503.2 < (moves.length : Int)))) (a'.get 20) k' ∧ True) ?_ hQ ?_
    · intro Q525 hQQ525 hp526
      refine regionS (a0 := a) (k0 := k) (n := 41) (m := 4) (⟨some (IsV s503.2), [(8, none)]⟩ :: ⟨some (IsV moves), [(1, none)]⟩ :: ⟨some (IsV (α := Int) (moves.length : Int)), [(18, some 1)]⟩ :: ⟨some (IsV (decide (s503.2 < (moves.length : Int)))), [(17, some 0), (19, some 2)]⟩ :: []) hs (by kernel_rfl) ⟨ob1 rfl fun b q hk hn => ok_move rfl (up i8 hk hn.1), ob1 rfl fun b q hk hn => ok_move rfl (up i1 hk hn.1), ob1 rfl fun b q hk hn => ok_len rfl rfl Try.underlying23 (IsV.rd hn.1), ob1 rfl fun b q hk hn => ok_lss rfl hn.1 hn.2.1, trivial⟩ hQQ525 fun b q p => ?_
      exact tail_done (k := q) (hp526 _ _ ⟨Bs.post ⟨hg, hs, hd⟩ p, keep p 1 rfl i1, keep p 7 rfl i7, keep p 8 rfl i8, out p 3 20 _ rfl rfl rfl, trivial⟩)
    rintro a k ⟨⟨hg, hs, hd⟩, i1, i7, i8, i20, _⟩
    refine wp_cond_split (isBool i20) (fun hc524 => ?_) (fun hc524 => ?_)
    · rw [if_pos hc524] at hr
      refine wp_skip ?_
      refine wp_seq ?_
      refine wp_block ?_
      refine wp_seq ?_
      obtain ⟨x508_3, hx508_3, hr⟩ := bind_some hr
      obtain ⟨x508_5, hx508_5, hr⟩ := bind_some hr
      refine cut (fun a' k' => Bs noF k0 41 a' k' ∧ (IsV moves) (a'.get 1) k' ∧ (IsV s503.1) (a'.get 7) k' ∧ (IsV s503.2) (a'.get 8) k' ∧ (IsV x508_5.1) (a'.get 9) k' ∧ (IsV x508_5.2) (a'.get 10) k' ∧ True) ?_ hQ ?_
      · intro Q522 hQQ522 hp523
        refine regionS (a0 := a) (k0 := k) (n := 41) (m := 11) (⟨some (IsV s503.1), [(7, none)]⟩ :: ⟨some (IsV moves), [(1, none)]⟩ :: ⟨some (IsV s503.2), [(8, none)]⟩ :: ⟨some (IsPtr x508_3), [(25, some 1), (26, some 2)]⟩ :: ⟨some (IsV x508_3), [(27, some 3)]⟩ :: ⟨some (IsTup2 (IsV x508_5.1) (IsV x508_5.2)), [(24, some 0), (28, some 4)]⟩ :: ⟨some (IsTup2 (IsV x508_5.1) (IsV x508_5.2)), [(29, some 5)]⟩ :: ⟨some (IsV x508_5.1), [(23, some 6)]⟩ :: ⟨some (IsV x508_5.2), [(23, some 6)]⟩ :: ⟨some (IsV x508_5.1), [(30, some 7)]⟩ :: ⟨some (IsV x508_5.2), [(31, some 8)]⟩ :: []) hs (by kernel_rfl) ⟨ob1 rfl fun b q hk hn => ok_move rfl (up i7 hk hn.1), ob1 rfl fun b q hk hn => ok_move rfl (up i1 hk hn.1), ob1 rfl fun b q hk hn => ok_move rfl (up i8 hk hn.1), ob1 rfl fun b q hk hn => ok_indexAddr rfl Try.underlying23 ty33 (IsV.rd hn.1) hn.2.1 hx508_3, ob1 rfl fun b q hk hn => ok_load rfl ty33 hn.1, ob1 rfl fun b q hk hn => ok_call rfl Try.call23 (rDo_ok hn.1 hn.2.1 hx508_5), ob1 rfl fun b q hk hn => ok_move rfl hn.1, ob1 rfl fun b q hk hn => ok_ext2_0 rfl hn.1, ob1 rfl fun b q hk hn => ok_ext2_1 rfl hn.1, ob1 rfl fun b q hk hn => ok_assign rfl hn.1, ob1 rfl fun b q hk hn => ok_assign rfl hn.1, trivial⟩ hQQ522 fun b q p => ?_
        exact tail_done (k := q) (hp523 _ _ ⟨Bs.post ⟨hg, hs, hd⟩ p, keep p 1 rfl i1, keep p 7 rfl i7, keep p 8 rfl i8, out p 9 9 _ rfl rfl rfl, out p 10 10 _ rfl rfl rfl, trivial⟩)
      rintro a k ⟨⟨hg, hs, hd⟩, i1, i7, i8, i9, i10, _⟩
      refine wp_seq ?_
      refine wp_seq ?_
      refine cut (fun a' k' => Bs noF k0 41 a' k' ∧ (IsV moves) (a'.get 1) k' ∧ (IsV s503.1) (a'.get 7) k' ∧ (IsV s503.2) (a'.get 8) k' ∧ (IsV x508_5.1) (a'.get 9) k' ∧ (IsV x508_5.2) (a'.get 10) k' ∧ (IsV (x508_5.2 != 0)) (a'.get 33) k' ∧ True) ?_ hQ ?_
      · intro Q520 hQQ520 hp521
        refine regionS (a0 := a) (k0 := k) (n := 41) (m := 2) (⟨some (IsV x508_5.2), [(10, none)]⟩ :: ⟨some (IsV (x508_5.2 != 0)), [(32, some 0)]⟩ :: []) hs (by kernel_rfl) ⟨ob1 rfl fun b q hk hn => ok_move rfl (up i10 hk hn.1), ob1 rfl fun b q hk hn => ok_neI rfl hn.1 (isV_int.2 rfl), trivial⟩ hQQ520 fun b q p => ?_
        exact tail_done (k := q) (hp521 _ _ ⟨Bs.post ⟨hg, hs, hd⟩ p, keep p 1 rfl i1, keep p 7 rfl i7, keep p 8 rfl i8, keep p 9 rfl i9, keep p 10 rfl i10, out p 1 33 _ rfl rfl rfl, trivial⟩)
      rintro a k ⟨⟨hg, hs, hd⟩, i1, i7, i8, i9, i10, i33, _⟩
      refine wp_cond_split (isBool i33) (fun hc519 => ?_) (fun hc519 => ?_)
      · rw [if_pos hc519] at hr
        refine wp_seq ?_
        refine cut (fun a' k' => Bs noF k0 41 a' k' ∧ (IsV s503.1) (a'.get 4) k' ∧ (IsV s503.2) (a'.get 5) k' ∧ (IsV x508_5.2) (a'.get 6) k' ∧ True) ?_ hQ ?_
        · intro Q511 hQQ511 hp512
          refine regionS (a0 := a) (k0 := k) (n := 41) (m := 6) (⟨some (IsV s503.1), [(7, none)]⟩ :: ⟨some (IsV s503.2), [(8, none)]⟩ :: ⟨some (IsV x508_5.2), [(10, none)]⟩ :: ⟨some (IsV s503.1), [(34, some 0)]⟩ :: ⟨some (IsV s503.2), [(35, some 1)]⟩ :: ⟨some (IsV x508_5.2), [(36, some 2)]⟩ :: []) hs (by kernel_rfl) ⟨ob1 rfl fun b q hk hn => ok_move rfl (up i7 hk hn.1), ob1 rfl fun b q hk hn => ok_move rfl (up i8 hk hn.1), ob1 rfl fun b q hk hn => ok_move rfl (up i10 hk hn.1), ob1 rfl fun b q hk hn => ok_assign rfl hn.1, ob1 rfl fun b q hk hn => ok_assign rfl hn.1, ob1 rfl fun b q hk hn => ok_assign rfl hn.1, trivial⟩ hQQ511 fun b q p => ?_
          exact tail_done (k := q) (hp512 _ _ ⟨Bs.post ⟨hg, hs, hd⟩ p, out p 3 4 _ rfl rfl rfl, out p 4 5 _ rfl rfl rfl, out p 5 6 _ rfl rfl rfl, trivial⟩)
        rintro a k ⟨⟨hg, hs, hd⟩, i4, i5, i6, _⟩
        refine wp_ret ?_
        exact hret506 _ _ _ (Option.some.inj hr).symm (retC3 rfl hd hg i4 i5 i6)
      rw [if_neg (by rw [hc519]; decide)] at hr
      refine wp_skip ?_
      refine cut (fun a' k' => Bs noF k0 41 a' k' ∧ (IsV moves) (a'.get 1) k' ∧ (IsV x508_5.1) (a'.get 7) k' ∧ (IsV s503.2) (a'.get 8) k' ∧ True) ?_ hQ ?_
      · intro Q517 hQQ517 hp518
        refine regionS (a0 := a) (k0 := k) (n := 41) (m := 2) (⟨some (IsV x508_5.1), [(9, none)]⟩ :: ⟨some (IsV x508_5.1), [(37, some 0)]⟩ :: []) hs (by kernel_rfl) ⟨ob1 rfl fun b q hk hn => ok_move rfl (up i9 hk hn.1), ob1 rfl fun b q hk hn => ok_assign rfl hn.1, trivial⟩ hQQ517 fun b q p => ?_
        exact tail_done (k := q) (hp518 _ _ ⟨Bs.post ⟨hg, hs, hd⟩ p, keep p 1 rfl i1, out p 1 7 _ rfl rfl rfl, keep p 8 rfl i8, trivial⟩)
      rintro a k ⟨⟨hg, hs, hd⟩, i1, i7, i8, _⟩
      obtain ⟨x514_1, hx514_1, hr⟩ := bind_some hr
      refine cut (fun a' k' => Bs noF k0 41 a' k' ∧ (IsV moves) (a'.get 1) k' ∧ (IsV x508_5.1) (a'.get 7) k' ∧ (IsV x514_1) (a'.get 8) k' ∧ True) ?_ hQ ?_
      · intro Q515 hQQ515 hp516
        refine regionS (a0 := a) (k0 := k) (n := 41) (m := 3) (⟨some (IsV s503.2), [(8, none)]⟩ :: ⟨some (IsV x514_1), [(21, some 0)]⟩ :: ⟨some (IsV x514_1), [(22, some 1)]⟩ :: []) hs (by kernel_rfl) ⟨ob1 rfl fun b q hk hn => ok_move rfl (up i8 hk hn.1), ob1 rfl fun b q hk hn => ok_add rfl hn.1 (isV_int.2 rfl) hx514_1, ob1 rfl fun b q hk hn => ok_assign rfl hn.1, trivial⟩ hQQ515 fun b q p => ?_
        exact tail_done (k := q) (hp516 _ _ ⟨Bs.post ⟨hg, hs, hd⟩ p, keep p 1 rfl i1, keep p 7 rfl i7, out p 2 8 _ rfl rfl rfl, trivial⟩)
      rintro a k ⟨⟨hg, hs, hd⟩, i1, i7, i8, _⟩
      exact hgo504 _ _ _ (Option.some.inj hr).symm ⟨⟨hg, hs, hd⟩, i1, i7, i8, trivial⟩
    rw [if_neg (by rw [hc524]; decide)] at hr
    refine wp_exit ?_
    exact hex505 _ _ _ _ (Option.some.inj hr).symm ⟨rfl, ⟨hg, hs, hd⟩, i1, i7, trivial⟩
  · rintro r532 a k rfl hR
    dsimp only at hr
    obtain rfl := Option.some.inj hr
    exact hR
  · rintro _ _ _ rfl _
    simp at hr
  clear hf527
  rintro _ s528 a k rfl ⟨rfl, ⟨hg, hs, hd⟩, i1, i7, _⟩
  dsimp only at hr
  refine wp_seq ?_
  refine cut (fun a' k' => Bs noF k0 41 a' k' ∧ (IsV s528.1) (a'.get 4) k' ∧ (IsV (α := Int) (moves.length : Int)) (a'.get 5) k' ∧ (IsV (α := Int) 0) (a'.get 6) k' ∧ True) ?_ hQ ?_
  · intro Q530 hQQ530 hp531
    refine regionS (a0 := a) (k0 := k) (n := 41) (m := 6) (⟨some (IsV s528.1), [(7, none)]⟩ :: ⟨some (IsV moves), [(1, none)]⟩ :: ⟨some (IsV (α := Int) (moves.length : Int)), [(39, some 1)]⟩ :: ⟨some (IsV s528.1), [(38, some 0)]⟩ :: ⟨some (IsV (α := Int) (moves.length : Int)), [(40, some 2)]⟩ :: ⟨some (IsV (α := Int) 0), []⟩ :: []) hs (by kernel_rfl) ⟨ob1 rfl fun b q hk hn => ok_move rfl (up i7 hk hn.1), ob1 rfl fun b q hk hn => ok_move rfl (up i1 hk hn.1), ob1 rfl fun b q hk hn => ok_len rfl rfl Try.underlying23 (IsV.rd hn.1), ob1 rfl fun b q hk hn => ok_assign rfl hn.1, ob1 rfl fun b q hk hn => ok_assign rfl hn.1, ob1 rfl fun b q hk hn => ok_assign rfl (isV_int.2 rfl), trivial⟩ hQQ530 fun b q p => ?_
    exact tail_done (k := q) (hp531 _ _ ⟨Bs.post ⟨hg, hs, hd⟩ p, out p 3 4 _ rfl rfl rfl, out p 4 5 _ rfl rfl rfl, out p 5 6 _ rfl rfl rfl, trivial⟩)
  rintro a k ⟨⟨hg, hs, hd⟩, i4, i5, i6, _⟩
  refine wp_ret ?_
  obtain rfl := Option.some.inj hr
  exact retC3 rfl hd hg i4 i5 i6
def clone (s_ : (List Account)) : Option ((List Account)) :=
  (appI [] s_).bind fun x548_2 =>
  some x548_2
theorem clone_okO {k0 : K} {v0 : Value} {s_ : (List Account)} {r : (List Account)} (i0 : (IsV s_) v0 k0) (hr : clone s_ = some r) :
    Calls Try.prog 25 #[v0] k0.w (Ret k0 (IsOwn k0.w.heap.size 35 r)) := by
  unfold clone at hr
  refine Ret.ofC ?_
  refine enterK Try.func25 rfl Try.ntmps25 (show 1 ≤ 8 by decide) fun a k hk0 hs hd ha => ?_
  obtain ⟨e0, _⟩ := ha
  replace i0 : (IsV s_) (a.get 0) k := by rw [e0, hk0]; exact i0
  have hQ : Gb.LetsOut (bodyPost Try.prog Try.f25 (RetC noF k0 (IsOwn k0.w.heap.size 35 r))) := letsOutC
  have hg : Chg noF k0 k := by rw [hk0]; exact Chg.refl _ k0
  refine wp_seq ?_
  refine cut (fun a' k' => Bs noF k0 8 a' k' ∧ (IsV s_) (a'.get 0) k' ∧ True) ?_ hQ ?_
  · intro Q554 hQQ554 hp555
    refine regionS (a0 := a) (k0 := k) (n := 8) (m := 1) (⟨some IsE0, []⟩ :: []) hs (by kernel_rfl) ⟨ob1 rfl fun b q hk hn => ok_assign rfl isE0_nil, trivial⟩ hQQ554 fun b q p => ?_
    exact tail_done (k := q) (hp555 _ _ ⟨Bs.post ⟨hg, hs, hd⟩ p, keep p 0 rfl i0, trivial⟩)
  rintro a k ⟨⟨hg, hs, hd⟩, i0, _⟩
  refine wp_seq ?_
  refine wp_seq ?_
  refine cut (fun a' k' => Bs noF k0 8 a' k' ∧ (IsV s_) (a'.get 0) k' ∧ (IsNT s_) (a'.get 4) k' ∧ True) ?_ hQ ?_
  · intro Q552 hQQ552 hp553
    refine regionS (a0 := a) (k0 := k) (n := 8) (m := 2) (⟨some (IsV s_), [(0, none)]⟩ :: ⟨some (IsNT s_), [(3, some 0)]⟩ :: []) hs (by kernel_rfl) ⟨ob1 rfl fun b q hk hn => ok_move rfl (up i0 hk hn.1), ob1 rfl fun b q hk hn => ok_eqNil rfl Try.underlying22 (IsV.rd hn.1), trivial⟩ hQQ552 fun b q p => ?_
    exact tail_done (k := q) (hp553 _ _ ⟨Bs.post ⟨hg, hs, hd⟩ p, keep p 0 rfl i0, out p 1 4 _ rfl rfl rfl, trivial⟩)
  rintro a k ⟨⟨hg, hs, hd⟩, i0, i4, _⟩
  obtain ⟨bb, hbb, hnil⟩ := i4
  refine wp_cond_split hbb (fun hc551 => ?_) (fun hc551 => ?_)
  · replace hr : some ([] : List Account) = some r := by rw [hnil hc551] at hr; simpa [appI] using hr
    refine wp_seq ?_
    refine cut (fun a' k' => Bs noF k0 8 a' k' ∧ IsOwn 0 35 ([] : List Account) (a'.get 2) k' ∧ Lo k0 (obF (a'.get 2)) ∧ True) ?_ hQ ?_
    · intro Q546 hQQ546 hp547
      refine regionS (a0 := a) (k0 := k) (n := 8) (m := 1) (⟨some IsE0, []⟩ :: []) hs (by kernel_rfl) ⟨ob1 rfl fun b q hk hn => ok_assign rfl isE0_nil, trivial⟩ hQQ546 fun b q p => ?_
      have hgq := hg.then p.grow
      have hsb := p.size.trans hs
      have hdb := p.defers.trans hd
      have j2 : IsE0 (b.get 2) q := out p 0 2 _ rfl rfl rfl
      have y2 : Lo k0 (obF (b.get 2)) := j2.lo
      replace j2 : IsOwn 0 35 ([] : List Account) (b.get 2) q := j2.own0
      exact tail_done (k := q) (hp547 _ _ ⟨⟨hgq, hsb, hdb⟩, j2, y2, trivial⟩)
    rintro a k ⟨⟨hg, hs, hd⟩, i2, n2, _⟩
    refine wp_ret ?_
    obtain rfl := Option.some.inj hr
    exact retC1 rfl hd hg (show ResOk _ _ _ (.tmp 2) _ from IsOwn.raise (k0 := k0) i2 n2)
  · skip
    refine wp_skip ?_
    refine wp_seq ?_
    obtain ⟨x548_2, hx548_2, hr⟩ := bind_some hr
    refine cut (fun a' k' => Bs noF k0 8 a' k' ∧ IsOwn 0 35 x548_2 (a'.get 2) k' ∧ Lo k0 (obF (a'.get 2)) ∧ True) ?_ hQ ?_
    · intro Q549 hQQ549 hp550
      refine regionS (a0 := a) (k0 := k) (n := 8) (m := 4) (⟨some IsE0, []⟩ :: ⟨some (IsV s_), [(0, none)]⟩ :: ⟨some (IsOwn k.w.heap.size 35 x548_2), [(5, some 0), (6, some 1)]⟩ :: ⟨some (IsOwn k.w.heap.size 35 x548_2), [(7, some 2)]⟩ :: []) hs (by kernel_rfl) ⟨ob1 rfl fun b q hk hn => ok_buildSlice0 rfl Try.underlying22 eo35, ob1 rfl fun b q hk hn => ok_move rfl (up i0 hk hn.1), ob1 rfl fun b q hk hn => ok_append0 rfl Try.underlying22 eo35 hk.size hn.1 (IsV.rd hn.2.1) hx548_2, ob1 rfl fun b q hk hn => ok_assign rfl hn.1, trivial⟩ hQQ549 fun b q p => ?_
      have hgq := hg.then p.grow
      have hsb := p.size.trans hs
      have hdb := p.defers.trans hd
      have j2 : (IsOwn k.w.heap.size 35 x548_2) (b.get 2) q := out p 3 2 _ rfl rfl rfl
      have x2 : Lo k (obF (b.get 2)) := j2.loF
      have y2 := x2.chg hg
      replace j2 := j2.weaken (Nat.zero_le _)
      exact tail_done (k := q) (hp550 _ _ ⟨⟨hgq, hsb, hdb⟩, j2, y2, trivial⟩)
    rintro a k ⟨⟨hg, hs, hd⟩, i2, n2, _⟩
    refine wp_ret ?_
    obtain rfl := Option.some.inj hr
    exact retC1 rfl hd hg (show ResOk _ _ _ (.tmp 2) _ from IsOwn.raise (k0 := k0) i2 n2)
theorem clone_ok {k0 : K} {v0 : Value} {s_ : (List Account)} {r : (List Account)} (i0 : (IsV s_) v0 k0) (hr : clone s_ = some r) :
    Calls Try.prog 25 #[v0] k0.w (Ret k0 (IsV r)) :=
  ret_give (clone_okO i0 hr)
def cFind_L0 (l_ : (List Account)) (lot : Int) (s558 : Int) : Option (Flow (Int) ((Option Int))) :=
  if (decide (s558 < (l_.length : Int))) then
    (getI l_ s558).bind fun x564_2 =>
    if (x564_2.Lot == lot) then
      (getI l_ s558).bind fun x565_2 =>
      some (.ret (some s558))
    else
      (addI s558 1).bind fun x568_0 =>
      some (.go x568_0)
  else
    some (.ex 0 s558)
def cFind (l_ : (List Account)) (lot : Int) : Option ((Option Int)) :=
  (iterL (cFind_L0 l_ lot) (l_.length + 1) 0).bind fun f579 => match f579 with
    | .go _ => none
    | .ex _ _ =>
      some none
    | .ret r584 => some r584
theorem cFind_ok {k0 : K} {v0 v1 : Value} {l_ : (List Account)} {lot : Int} {r : (Option Int)} (i0 : (IsV l_) v0 k0) (i1 : (IsV lot) v1 k0) (hr : cFind l_ lot = some r) :
    Calls Try.prog 30 #[v0, v1] k0.w (Ret k0 (IsEP v0 (Enc.sz Account) r)) := by
  unfold cFind at hr
  refine Ret.ofC ?_
  refine enterK Try.func30 rfl Try.ntmps30 (show 2 ≤ 22 by decide) fun a k hk0 hs hd ha => ?_
  obtain ⟨e0, e1, _⟩ := ha
  replace i0 : (IsV l_) (a.get 0) k := by rw [e0, hk0]; exact i0
  replace i1 : (IsV lot) (a.get 1) k := by rw [e1, hk0]; exact i1
  have q0 := e0
  have hQ : Gb.LetsOut (bodyPost Try.prog Try.f30 (RetC noF k0 (IsEP v0 (Enc.sz Account) r))) := letsOutC
  have hg : Chg noF k0 k := by rw [hk0]; exact Chg.refl _ k0
  refine wp_seq ?_
  refine cut (fun a' k' => Bs noF k0 22 a' k' ∧ a'.get 0 = v0 ∧ (IsV l_) (a'.get 0) k' ∧ (IsV lot) (a'.get 1) k' ∧ True) ?_ hQ ?_
  · intro Q588 hQQ588 hp589
    refine regionS (a0 := a) (k0 := k) (n := 22) (m := 1) (⟨some (IsEP v0 (Enc.sz Account) none), []⟩ :: []) hs (by kernel_rfl) ⟨ob1 rfl fun b q hk hn => ok_assign rfl (show IsEP _ _ none _ _ from rfl), trivial⟩ hQQ588 fun b q p => ?_
    exact tail_done (k := q) (hp589 _ _ ⟨Bs.post ⟨hg, hs, hd⟩ p, (p.old 0 rfl).trans q0, keep p 0 rfl i0, keep p 1 rfl i1, trivial⟩)
  rintro a k ⟨⟨hg, hs, hd⟩, q0, i0, i1, _⟩
  refine wp_seq ?_
  refine wp_seq ?_
  refine cut (fun a' k' => Bs noF k0 22 a' k' ∧ a'.get 0 = v0 ∧ (IsV l_) (a'.get 0) k' ∧ (IsV lot) (a'.get 1) k' ∧ (IsV (α := Int) (l_.length : Int)) (a'.get 7) k' ∧ (IsV (α := Int) 0) (a'.get 8) k' ∧ True) ?_ hQ ?_
  · intro Q586 hQQ586 hp587
    refine regionS (a0 := a) (k0 := k) (n := 22) (m := 3) (⟨some (IsV l_), [(0, none)]⟩ :: ⟨some (IsV (α := Int) (l_.length : Int)), [(6, some 0)]⟩ :: ⟨some (IsV (α := Int) 0), []⟩ :: []) hs (by kernel_rfl) ⟨ob1 rfl fun b q hk hn => ok_move rfl (up i0 hk hn.1), ob1 rfl fun b q hk hn => ok_len rfl rfl Try.underlying22 (IsV.rd hn.1), ob1 rfl fun b q hk hn => ok_move rfl (isV_int.2 rfl), trivial⟩ hQQ586 fun b q p => ?_
    exact tail_done (k := q) (hp587 _ _ ⟨Bs.post ⟨hg, hs, hd⟩ p, (p.old 0 rfl).trans q0, keep p 0 rfl i0, keep p 1 rfl i1, out p 1 7 _ rfl rfl rfl, out p 2 8 _ rfl rfl rfl, trivial⟩)
  rintro a k ⟨⟨hg, hs, hd⟩, q0, i0, i1, i7, i8, _⟩
  refine wp_block ?_
  obtain ⟨f579, hf579, hr⟩ := bind_some hr
  refine cutFe f579 (fun s' a' k' => Bs noF k0 22 a' k' ∧ a'.get 0 = v0 ∧ (IsV l_) (a'.get 0) k' ∧ (IsV lot) (a'.get 1) k' ∧ (IsV (α := Int) (l_.length : Int)) (a'.get 7) k' ∧ (IsV s') (a'.get 8) k' ∧ True) (fun i' s' a' k' => (i' = 0 ∧ Bs noF k0 22 a' k' ∧ True)) (fun r' a' k' => bodyPost Try.prog Try.f30 (RetC noF k0 (IsEP v0 (Enc.sz Account) r')) .ret a' k'.w) ?_ hQ ?_ ?_ ?_
  · intro Q585 hQQ585 hgo hex hret
    refine sim_loop ?_ _ _ _ _ _ hf579 ⟨⟨hg, hs, hd⟩, q0, i0, i1, i7, i8, trivial⟩ Q585 hQQ585 hgo hex hret
    clear hr hf579 hgo hex hret hQQ585 hQ hg hs hd i0 i1 i7 i8 q0
    intro s558 fl_ a k hr hS Q hQ hgo559 hex560 hret561
    obtain ⟨⟨hg, hs, hd⟩, q0, i0, i1, i7, i8, _⟩ := hS
    unfold cFind_L0 at hr
    refine wp_seq ?_
    refine cut (fun a' k' => Bs noF k0 22 a' k' ∧ a'.get 0 = v0 ∧ (IsV l_) (a'.get 0) k' ∧ (IsV lot) (a'.get 1) k' ∧ (IsV (α := Int) (l_.length : Int)) (a'.get 7) k' ∧ (IsV s558) (a'.get 8) k' ∧ (IsV (decide (s558 < (l_.length : Int)))) (a'.get 9) k' ∧ True) ?_ hQ ?_
    · intro Q577 hQQ577 hp578
      refine regionS (a0 := a) (k0 := k) (n := 22) (m := 1) (⟨some (IsV (decide (s558 < (l_.length : Int)))), [(8, none), (7, none)]⟩ :: []) hs (by kernel_rfl) ⟨ob1 rfl fun b q hk hn => ok_lss rfl (up i8 hk hn.1) (up i7 hk hn.2.1), trivial⟩ hQQ577 fun b q p => ?_
      exact tail_done (k := q) (hp578 _ _ ⟨Bs.post ⟨hg, hs, hd⟩ p, (p.old 0 rfl).trans q0, keep p 0 rfl i0, keep p 1 rfl i1, keep p 7 rfl i7, keep p 8 rfl i8, out p 0 9 _ rfl rfl rfl, trivial⟩)
    rintro a k ⟨⟨hg, hs, hd⟩, q0, i0, i1, i7, i8, i9, _⟩
    refine wp_seq ?_
    refine wp_cond_split (isBool i9) (fun hc576 => ?_) (fun hc576 => ?_)
    · rw [if_pos hc576] at hr
      refine wp_skip ?_
      refine wp_seq ?_
      refine wp_block ?_
      refine wp_seq ?_
      refine cut (fun a' k' => Bs noF k0 22 a' k' ∧ a'.get 0 = v0 ∧ (IsV l_) (a'.get 0) k' ∧ (IsV lot) (a'.get 1) k' ∧ (IsV s558) (a'.get 5) k' ∧ (IsV (α := Int) (l_.length : Int)) (a'.get 7) k' ∧ (IsV s558) (a'.get 8) k' ∧ True) ?_ hQ ?_
      · intro Q574 hQQ574 hp575
        refine regionS (a0 := a) (k0 := k) (n := 22) (m := 2) (⟨some (IsV s558), [(8, none)]⟩ :: ⟨some (IsV s558), [(10, some 0)]⟩ :: []) hs (by kernel_rfl) ⟨ob1 rfl fun b q hk hn => ok_move rfl (up i8 hk hn.1), ob1 rfl fun b q hk hn => ok_assign rfl hn.1, trivial⟩ hQQ574 fun b q p => ?_
        exact tail_done (k := q) (hp575 _ _ ⟨Bs.post ⟨hg, hs, hd⟩ p, (p.old 0 rfl).trans q0, keep p 0 rfl i0, keep p 1 rfl i1, out p 1 5 _ rfl rfl rfl, keep p 7 rfl i7, keep p 8 rfl i8, trivial⟩)
      rintro a k ⟨⟨hg, hs, hd⟩, q0, i0, i1, i5, i7, i8, _⟩
      refine wp_seq ?_
      obtain ⟨x564_2, hx564_2, hr⟩ := bind_some hr
      refine cut (fun a' k' => Bs noF k0 22 a' k' ∧ a'.get 0 = v0 ∧ (IsV l_) (a'.get 0) k' ∧ (IsV lot) (a'.get 1) k' ∧ (IsV s558) (a'.get 5) k' ∧ (IsV (α := Int) (l_.length : Int)) (a'.get 7) k' ∧ (IsV s558) (a'.get 8) k' ∧ (IsV (x564_2.Lot == lot)) (a'.get 17) k' ∧ True) ?_ hQ ?_
      · intro Q572 hQQ572 hp573
        refine regionS (a0 := a) (k0 := k) (n := 22) (m := 7) (⟨some (IsV l_), [(0, none)]⟩ :: ⟨some (IsV s558), [(5, none)]⟩ :: ⟨some (IsPtr x564_2), [(11, some 0), (12, some 1)]⟩ :: ⟨some (IsPtr x564_2.Lot), [(13, some 2)]⟩ :: ⟨some (IsV x564_2.Lot), [(14, some 3)]⟩ :: ⟨some (IsV lot), [(1, none)]⟩ :: ⟨some (IsV (x564_2.Lot == lot)), [(15, some 4), (16, some 5)]⟩ :: []) hs (by kernel_rfl) ⟨ob1 rfl fun b q hk hn => ok_move rfl (up i0 hk hn.1), ob1 rfl fun b q hk hn => ok_move rfl (up i5 hk hn.1), ob1 rfl fun b q hk hn => ok_indexAddr rfl Try.underlying22 ty35 (IsV.rd hn.1) hn.2.1 hx564_2, ob1 rfl fun b q hk hn => ok_fieldAddr rfl fo35_0 (at_Account_0 _) hn.1, ob1 rfl fun b q hk hn => ok_load rfl ty3 hn.1, ob1 rfl fun b q hk hn => ok_move rfl (up i1 hk hn.1), ob1 rfl fun b q hk hn => ok_eqI rfl hn.1 hn.2.1, trivial⟩ hQQ572 fun b q p => ?_
        exact tail_done (k := q) (hp573 _ _ ⟨Bs.post ⟨hg, hs, hd⟩ p, (p.old 0 rfl).trans q0, keep p 0 rfl i0, keep p 1 rfl i1, keep p 5 rfl i5, keep p 7 rfl i7, keep p 8 rfl i8, out p 6 17 _ rfl rfl rfl, trivial⟩)
      rintro a k ⟨⟨hg, hs, hd⟩, q0, i0, i1, i5, i7, i8, i17, _⟩
      refine wp_cond_split (isBool i17) (fun hc571 => ?_) (fun hc571 => ?_)
      · rw [if_pos hc571] at hr
        refine wp_seq ?_
        obtain ⟨x565_2, hx565_2, hr⟩ := bind_some hr
        refine cut (fun a' k' => Bs noF k0 22 a' k' ∧ (IsEP v0 (Enc.sz Account) (some s558)) (a'.get 4) k' ∧ True) ?_ hQ ?_
        · intro Q566 hQQ566 hp567
          refine regionS (a0 := a) (k0 := k) (n := 22) (m := 4) (⟨some (VAt v0 l_), [(0, none)]⟩ :: ⟨some (IsV s558), [(5, none)]⟩ :: ⟨some (IsEP v0 (Enc.sz Account) (some s558)), [(18, some 0), (19, some 1)]⟩ :: ⟨some (IsEP v0 (Enc.sz Account) (some s558)), [(20, some 2)]⟩ :: []) hs (by kernel_rfl) ⟨ob1 rfl fun b q hk hn => ok_moveVA (.inl rfl) ⟨(hn.1).trans q0, up i0 hk hn.1⟩, ob1 rfl fun b q hk hn => ok_move rfl (up i5 hk hn.1), ob1 rfl fun b q hk hn => ok_indexEV rfl Try.underlying22 ty35 hn.1 hn.2.1 hx565_2, ob1 rfl fun b q hk hn => ok_assign rfl hn.1, trivial⟩ hQQ566 fun b q p => ?_
          exact tail_done (k := q) (hp567 _ _ ⟨Bs.post ⟨hg, hs, hd⟩ p, out p 3 4 _ rfl rfl rfl, trivial⟩)
        rintro a k ⟨⟨hg, hs, hd⟩, i4, _⟩
        refine wp_ret ?_
        exact hret561 _ _ _ (Option.some.inj hr).symm (retC1 rfl hd hg i4)
      rw [if_neg (by rw [hc571]; decide)] at hr
      refine wp_skip ?_
      obtain ⟨x568_0, hx568_0, hr⟩ := bind_some hr
      refine cut (fun a' k' => Bs noF k0 22 a' k' ∧ a'.get 0 = v0 ∧ (IsV l_) (a'.get 0) k' ∧ (IsV lot) (a'.get 1) k' ∧ (IsV (α := Int) (l_.length : Int)) (a'.get 7) k' ∧ (IsV x568_0) (a'.get 8) k' ∧ True) ?_ hQ ?_
      · intro Q569 hQQ569 hp570
        refine regionS (a0 := a) (k0 := k) (n := 22) (m := 2) (⟨some (IsV x568_0), [(8, none)]⟩ :: ⟨some (IsV x568_0), [(21, some 0)]⟩ :: []) hs (by kernel_rfl) ⟨ob1 rfl fun b q hk hn => ok_add rfl (up i8 hk hn.1) (isV_int.2 rfl) hx568_0, ob1 rfl fun b q hk hn => ok_move rfl hn.1, trivial⟩ hQQ569 fun b q p => ?_
        exact tail_done (k := q) (hp570 _ _ ⟨Bs.post ⟨hg, hs, hd⟩ p, (p.old 0 rfl).trans q0, keep p 0 rfl i0, keep p 1 rfl i1, keep p 7 rfl i7, out p 1 8 _ rfl rfl rfl, trivial⟩)
      rintro a k ⟨⟨hg, hs, hd⟩, q0, i0, i1, i7, i8, _⟩
      exact hgo559 _ _ _ (Option.some.inj hr).symm ⟨⟨hg, hs, hd⟩, q0, i0, i1, i7, i8, trivial⟩
    rw [if_neg (by rw [hc576]; decide)] at hr
    refine wp_exit ?_
    exact hex560 _ _ _ _ (Option.some.inj hr).symm ⟨rfl, ⟨hg, hs, hd⟩, trivial⟩
  · rintro r584 a k rfl hR
    dsimp only at hr
    obtain rfl := Option.some.inj hr
    exact hR
  · rintro _ _ _ rfl _
    simp at hr
  clear hf579
  rintro _ s580 a k rfl ⟨rfl, ⟨hg, hs, hd⟩, _⟩
  dsimp only at hr
  refine wp_seq ?_
  refine cut (fun a' k' => Bs noF k0 22 a' k' ∧ (IsEP v0 (Enc.sz Account) none) (a'.get 4) k' ∧ True) ?_ hQ ?_
  · intro Q582 hQQ582 hp583
    refine regionS (a0 := a) (k0 := k) (n := 22) (m := 1) (⟨some (IsEP v0 (Enc.sz Account) none), []⟩ :: []) hs (by kernel_rfl) ⟨ob1 rfl fun b q hk hn => ok_assign rfl (show IsEP _ _ none _ _ from rfl), trivial⟩ hQQ582 fun b q p => ?_
    exact tail_done (k := q) (hp583 _ _ ⟨Bs.post ⟨hg, hs, hd⟩ p, out p 0 4 _ rfl rfl rfl, trivial⟩)
  rintro a k ⟨⟨hg, hs, hd⟩, i4, _⟩
  refine wp_ret ?_
  obtain rfl := Option.some.inj hr
  exact retC1 rfl hd hg i4
def cUnits (l_ : (List Account)) (lot : Int) : Option (Int) :=
  (cFind l_ lot).bind fun x591_2 =>
  if (x591_2.isSome) then
    (atI l_ x591_2).bind fun x593_1 =>
    some x593_1.Units
  else
    some 0
theorem cUnits_ok {k0 : K} {v0 v1 : Value} {l_ : (List Account)} {lot : Int} {r : Int} (i0 : (IsV l_) v0 k0) (i1 : (IsV lot) v1 k0) (hr : cUnits l_ lot = some r) :
    Calls Try.prog 19 #[v0, v1] k0.w (Ret k0 (IsV r)) := by
  unfold cUnits at hr
  refine Ret.ofC ?_
  refine enterK Try.func19 rfl Try.ntmps19 (show 2 ≤ 15 by decide) fun a k hk0 hs hd ha => ?_
  obtain ⟨e0, e1, _⟩ := ha
  replace i0 : (IsV l_) (a.get 0) k := by rw [e0, hk0]; exact i0
  replace i1 : (IsV lot) (a.get 1) k := by rw [e1, hk0]; exact i1
  have q0 := e0
  have hQ : Gb.LetsOut (bodyPost Try.prog Try.f19 (RetC noF k0 (IsV r))) := letsOutC
  have hg : Chg noF k0 k := by rw [hk0]; exact Chg.refl _ k0
  refine wp_seq ?_
  refine cut (fun a' k' => Bs noF k0 15 a' k' ∧ a'.get 0 = v0 ∧ (IsV l_) (a'.get 0) k' ∧ (IsV lot) (a'.get 1) k' ∧ True) ?_ hQ ?_
  · intro Q604 hQQ604 hp605
    refine regionS (a0 := a) (k0 := k) (n := 15) (m := 1) (⟨some (IsV (α := Int) 0), []⟩ :: []) hs (by kernel_rfl) ⟨ob1 rfl fun b q hk hn => ok_assign rfl (isV_int.2 rfl), trivial⟩ hQQ604 fun b q p => ?_
    exact tail_done (k := q) (hp605 _ _ ⟨Bs.post ⟨hg, hs, hd⟩ p, (p.old 0 rfl).trans q0, keep p 0 rfl i0, keep p 1 rfl i1, trivial⟩)
  rintro a k ⟨⟨hg, hs, hd⟩, q0, i0, i1, _⟩
  refine wp_seq ?_
  refine wp_seq ?_
  obtain ⟨x591_2, hx591_2, hr⟩ := bind_some hr
  refine cut (fun a' k' => Bs noF k0 15 a' k' ∧ a'.get 0 = v0 ∧ (IsV l_) (a'.get 0) k' ∧ (IsEP v0 (Enc.sz Account) x591_2) (a'.get 5) k' ∧ True) ?_ hQ ?_
  · intro Q602 hQQ602 hp603
    refine regionS (a0 := a) (k0 := k) (n := 15) (m := 4) (⟨some (VAt v0 l_), [(0, none)]⟩ :: ⟨some (IsV lot), [(1, none)]⟩ :: ⟨some (IsEP v0 (Enc.sz Account) x591_2), [(6, some 0), (7, some 1)]⟩ :: ⟨some (IsEP v0 (Enc.sz Account) x591_2), [(8, some 2)]⟩ :: []) hs (by kernel_rfl) ⟨ob1 rfl fun b q hk hn => ok_moveVA (.inl rfl) ⟨(hn.1).trans q0, up i0 hk hn.1⟩, ob1 rfl fun b q hk hn => ok_move rfl (up i1 hk hn.1), ob1 rfl fun b q hk hn => ok_call rfl Try.call30 (ret_ep (cFind_ok (hn.1).2 hn.2.1 hx591_2) (hn.1).1), ob1 rfl fun b q hk hn => ok_assign rfl hn.1, trivial⟩ hQQ602 fun b q p => ?_
    exact tail_done (k := q) (hp603 _ _ ⟨Bs.post ⟨hg, hs, hd⟩ p, (p.old 0 rfl).trans q0, keep p 0 rfl i0, out p 3 5 _ rfl rfl rfl, trivial⟩)
  rintro a k ⟨⟨hg, hs, hd⟩, q0, i0, i5, _⟩
  refine wp_seq ?_
  refine cut (fun a' k' => Bs noF k0 15 a' k' ∧ a'.get 0 = v0 ∧ (IsV l_) (a'.get 0) k' ∧ (IsEP v0 (Enc.sz Account) x591_2) (a'.get 5) k' ∧ (IsV (x591_2.isSome)) (a'.get 10) k' ∧ True) ?_ hQ ?_
  · intro Q600 hQQ600 hp601
    refine regionS (a0 := a) (k0 := k) (n := 15) (m := 2) (⟨some (IsEP v0 (Enc.sz Account) x591_2), [(5, none)]⟩ :: ⟨some (IsV (x591_2.isSome)), [(9, some 0)]⟩ :: []) hs (by kernel_rfl) ⟨ob1 rfl fun b q hk hn => ok_move rfl (up i5 hk hn.1), ob1 rfl fun b q hk hn => ok_neEP rfl Try.underlying52 hn.1, trivial⟩ hQQ600 fun b q p => ?_
    exact tail_done (k := q) (hp601 _ _ ⟨Bs.post ⟨hg, hs, hd⟩ p, (p.old 0 rfl).trans q0, keep p 0 rfl i0, keep p 5 rfl i5, out p 1 10 _ rfl rfl rfl, trivial⟩)
  rintro a k ⟨⟨hg, hs, hd⟩, q0, i0, i5, i10, _⟩
  refine wp_cond_split (isBool i10) (fun hc599 => ?_) (fun hc599 => ?_)
  · rw [if_pos hc599] at hr
    refine wp_seq ?_
    obtain ⟨x593_1, hx593_1, hr⟩ := bind_some hr
    refine cut (fun a' k' => Bs noF k0 15 a' k' ∧ (IsV x593_1.Units) (a'.get 4) k' ∧ True) ?_ hQ ?_
    · intro Q594 hQQ594 hp595
      refine regionS (a0 := a) (k0 := k) (n := 15) (m := 5) (⟨some (IsEP v0 (Enc.sz Account) x591_2), [(5, none)]⟩ :: ⟨some (IsPtr x593_1), [(11, some 0)]⟩ :: ⟨some (IsPtr x593_1.Units), [(12, some 1)]⟩ :: ⟨some (IsV x593_1.Units), [(13, some 2)]⟩ :: ⟨some (IsV x593_1.Units), [(14, some 3)]⟩ :: []) hs (by kernel_rfl) ⟨ob1 rfl fun b q hk hn => ok_move rfl (up i5 hk hn.1), ob1 rfl fun b q hk hn => ok_nilCheckP rfl hn.1 (rdV i0 hk q0) hx593_1, ob1 rfl fun b q hk hn => ok_fieldAddr rfl fo35_1 (at_Account_1 _) hn.1, ob1 rfl fun b q hk hn => ok_load rfl ty3 hn.1, ob1 rfl fun b q hk hn => ok_assign rfl hn.1, trivial⟩ hQQ594 fun b q p => ?_
      exact tail_done (k := q) (hp595 _ _ ⟨Bs.post ⟨hg, hs, hd⟩ p, out p 4 4 _ rfl rfl rfl, trivial⟩)
    rintro a k ⟨⟨hg, hs, hd⟩, i4, _⟩
    refine wp_ret ?_
    obtain rfl := Option.some.inj hr
    exact retC1 rfl hd hg i4
  rw [if_neg (by rw [hc599]; decide)] at hr
  refine wp_skip ?_
  refine wp_seq ?_
  refine cut (fun a' k' => Bs noF k0 15 a' k' ∧ (IsV (α := Int) 0) (a'.get 4) k' ∧ True) ?_ hQ ?_
  · intro Q597 hQQ597 hp598
    refine regionS (a0 := a) (k0 := k) (n := 15) (m := 1) (⟨some (IsV (α := Int) 0), []⟩ :: []) hs (by kernel_rfl) ⟨ob1 rfl fun b q hk hn => ok_assign rfl (isV_int.2 rfl), trivial⟩ hQQ597 fun b q p => ?_
    exact tail_done (k := q) (hp598 _ _ ⟨Bs.post ⟨hg, hs, hd⟩ p, out p 0 4 _ rfl rfl rfl, trivial⟩)
  rintro a k ⟨⟨hg, hs, hd⟩, i4, _⟩
  refine wp_ret ?_
  obtain rfl := Option.some.inj hr
  exact retC1 rfl hd hg i4
def cOpen_L0 (l_ : (List Account)) (m_ : Move) (s617 : Int) : Option (Flow (Int) ((List Account) × Int)) :=
  (if (decide (s617 < (l_.length : Int))) then
    (getI l_ s617).bind fun x621_7 =>
    some (decide (x621_7.Lot < m_.To))
  else
    some false).bind fun x621_13 =>
  if x621_13 then
    (addI s617 1).bind fun x622_1 =>
    some (.go x622_1)
  else
    some (.ex 0 s617)
def cOpen (l_ : (List Account)) (m_ : Move) : Option ((List Account) × Int) :=
  (cFind l_ m_.To).bind fun x608_3 =>
  if (x608_3.isSome) then
    some (([] : List Account), 5)
  else
    if (decide (20000 ≤ (l_.length : Int))) then
      some (([] : List Account), 6)
    else
      (iterL (cOpen_L0 l_ m_) (l_.length + 1) 0).bind fun f628 => match f628 with
        | .go _ => none
        | .ex _ s629 =>
          (insertA l_ s629 ([(⟨m_.To, m_.N, (m_.From == 1)⟩ : Account)])).bind fun x630_11 =>
          some (x630_11, 0)
        | .ret r634 => some r634
theorem cOpen_ok {k0 : K} {v0 v1 : Value} {l_ : (List Account)} {m_ : Move} {r : (List Account) × Int} (i0 : (IsOwn 0 35 l_) v0 k0) (i1 : (IsV m_) v1 k0) (hr : cOpen l_ m_ = some r) :
    Calls Try.prog 29 #[v0, v1] k0.w (RetC (obF v0) k0 (IsTup2 (IsV r.1) (IsV r.2))) := by
  unfold cOpen at hr
  refine enterK Try.func29 rfl Try.ntmps29 (show 2 ≤ 43 by decide) fun a k hk0 hs hd ha => ?_
  obtain ⟨e0, e1, _⟩ := ha
  replace i0 : (IsOwn 0 35 l_) (a.get 0) k := by rw [e0, hk0]; exact i0
  replace i1 : (IsV m_) (a.get 1) k := by rw [e1, hk0]; exact i1
  have n0 : Wr (obF v0) k0 (obF (a.get 0)) := fun b h => .inl (by rwa [e0] at h)
  have hQ : Gb.LetsOut (bodyPost Try.prog Try.f29 (RetC (obF v0) k0 (IsTup2 (IsV r.1) (IsV r.2)))) := letsOutC
  have hg : Chg (obF v0) k0 k := by rw [hk0]; exact Chg.refl _ k0
  refine wp_seq ?_
  refine cut (fun a' k' => Bs (obF v0) k0 43 a' k' ∧ IsOwn 0 35 l_ (a'.get 0) k' ∧ Wr (obF v0) k0 (obF (a'.get 0)) ∧ (IsRef m_) (a'.get 3) k' ∧ True) ?_ hQ ?_
  · intro Q644 hQQ644 hp645
    refine regionS (a0 := a) (k0 := k) (n := 43) (m := 3) (⟨some (IsBox k.w.heap.size m_), [(1, none)]⟩ :: ⟨some IsE0, []⟩ :: ⟨some (IsV (α := Int) 0), []⟩ :: []) hs (by kernel_rfl) ⟨ob1 rfl fun b q hk hn => ok_box _ hk.size rfl (up i1 hk hn.1), ob1 rfl fun b q hk hn => ok_assign rfl isE0_nil, ob1 rfl fun b q hk hn => ok_assign rfl (isV_int.2 rfl), trivial⟩ hQQ644 fun b q p => ?_
    have hgq := hg.then p.grow
    have hsb := p.size.trans hs
    have hdb := p.defers.trans hd
    have j0 := keep p 0 rfl i0
    have y0 : Wr (obF v0) k0 (obF (b.get 0)) := by rw [p.old 0 rfl]; exact n0
    obtain ⟨b3, j3, x3, z3⟩ : (IsBox k.w.heap.size m_) (b.get 3) q := out p 0 3 _ rfl rfl rfl
    replace x3 : Lo k (Eq b3) := Lo.eq x3
    have y3 : Lo k0 (Eq b3) := x3.chg hg
    have w0_3 : Apart (obF (b.get 0)) (Eq b3) := Apart.new (by rw [p.old 0 rfl]; exact i0.ltF) x3
    obtain ⟨q2, hsh, jn⟩ := z3.give
    replace j0 := j0.handed hsh w0_3
    rw [← j3] at jn
    replace j3 := jn
    replace hgq := hgq.hand hsh y3.wr
    rw [← hsh.w]
    clear hsh
    obtain ⟨q, hqq⟩ : ∃ q, q = q2 := ⟨q2, rfl⟩
    subst hqq
    exact tail_done (k := q) (hp645 _ _ ⟨⟨hgq, hsb, hdb⟩, j0, y0, j3, trivial⟩)
  rintro a k ⟨⟨hg, hs, hd⟩, i0, n0, i3, _⟩
  refine wp_seq ?_
  refine wp_seq ?_
  obtain ⟨u607, q0⟩ : ∃ u, a.get 0 = u := ⟨_, rfl⟩
  obtain ⟨x608_3, hx608_3, hr⟩ := bind_some hr
  refine cut (fun a' k' => Bs (obF v0) k0 43 a' k' ∧ a'.get 0 = u607 ∧ IsOwn 0 35 l_ (a'.get 0) k' ∧ Wr (obF v0) k0 (obF (a'.get 0)) ∧ (IsRef m_) (a'.get 3) k' ∧ (IsV (x608_3.isSome)) (a'.get 11) k' ∧ True) ?_ hQ ?_
  · intro Q642 hQQ642 hp643
    refine regionS (a0 := a) (k0 := k) (n := 43) (m := 5) (⟨some (OwnAt (a.get 0) 0 35 l_), [(0, none)]⟩ :: ⟨some (IsPtr m_.To), [(3, none)]⟩ :: ⟨some (IsV m_.To), [(8, some 1)]⟩ :: ⟨some (IsEP u607 (Enc.sz Account) x608_3), [(7, some 0), (9, some 2)]⟩ :: ⟨some (IsV (x608_3.isSome)), [(10, some 3)]⟩ :: []) hs (by kernel_rfl) ⟨ob1 rfl fun b q hk hn => ok_moveOA (.inl rfl) ⟨hn.1, up i0 hk hn.1⟩, ob1 rfl fun b q hk hn => ok_fieldAddr rfl fo33_2 (at_Move_2 _) ((up i3 hk hn.1)).ptr, ob1 rfl fun b q hk hn => ok_load rfl ty3 hn.1, ob1 rfl fun b q hk hn => ok_call rfl Try.call30 (ret_ep (by obtain ⟨kb9, hb9, hv9⟩ := IsOwn.give (hn.1).2; exact borrow hb9 (cFind_ok hv9 (Pers.pers hb9.le hn.2.1) hx608_3)) ((hn.1).1.trans q0)), ob1 rfl fun b q hk hn => ok_neEP rfl Try.underlying52 hn.1, trivial⟩ hQQ642 fun b q p => ?_
    exact tail_done (k := q) (hp643 _ _ ⟨Bs.post ⟨hg, hs, hd⟩ p, (p.old 0 rfl).trans q0, keep p 0 rfl i0, (by rw [p.old 0 rfl]; exact n0), keep p 3 rfl i3, out p 4 11 _ rfl rfl rfl, trivial⟩)
  rintro a k ⟨⟨hg, hs, hd⟩, q0, i0, n0, i3, i11, _⟩
  refine wp_cond_split (isBool i11) (fun hc641 => ?_) (fun hc641 => ?_)
  · rw [if_pos hc641] at hr
    refine wp_seq ?_
    refine cut (fun a' k' => Bs (obF v0) k0 43 a' k' ∧ (IsV ([] : List Account)) (a'.get 4) k' ∧ (IsV (α := Int) 5) (a'.get 5) k' ∧ True) ?_ hQ ?_
    · intro Q610 hQQ610 hp611
      refine regionS (a0 := a) (k0 := k) (n := 43) (m := 2) (⟨some IsE0, []⟩ :: ⟨some (IsV (α := Int) 5), []⟩ :: []) hs (by kernel_rfl) ⟨ob1 rfl fun b q hk hn => ok_assign rfl isE0_nil, ob1 rfl fun b q hk hn => ok_assign rfl (isV_int.2 rfl), trivial⟩ hQQ610 fun b q p => ?_
      have hgq := hg.then p.grow
      have hsb := p.size.trans hs
      have hdb := p.defers.trans hd
      have j4 : IsE0 (b.get 4) q := out p 0 4 _ rfl rfl rfl
      have j5 : (IsV (α := Int) 5) (b.get 5) q := out p 1 5 _ rfl rfl rfl
      replace j4 : IsV ([] : List Account) (b.get 4) q := j4.isV
      exact tail_done (k := q) (hp611 _ _ ⟨⟨hgq, hsb, hdb⟩, j4, j5, trivial⟩)
    rintro a k ⟨⟨hg, hs, hd⟩, i4, i5, _⟩
    refine wp_ret ?_
    obtain rfl := Option.some.inj hr
    exact retC2 rfl hd hg i4 i5
  rw [if_neg (by rw [hc641]; decide)] at hr
  refine wp_skip ?_
  refine wp_seq ?_
  refine wp_seq ?_
  refine cut (fun a' k' => Bs (obF v0) k0 43 a' k' ∧ a'.get 0 = u607 ∧ IsOwn 0 35 l_ (a'.get 0) k' ∧ Wr (obF v0) k0 (obF (a'.get 0)) ∧ (IsRef m_) (a'.get 3) k' ∧ (IsV (decide (20000 ≤ (l_.length : Int)))) (a'.get 14) k' ∧ True) ?_ hQ ?_
  · intro Q639 hQQ639 hp640
    refine regionS (a0 := a) (k0 := k) (n := 43) (m := 3) (⟨some (OwnAt (a.get 0) 0 35 l_), [(0, none)]⟩ :: ⟨some (IsV (α := Int) (l_.length : Int)), [(12, some 0)]⟩ :: ⟨some (IsV (decide (20000 ≤ (l_.length : Int)))), [(13, some 1)]⟩ :: []) hs (by kernel_rfl) ⟨ob1 rfl fun b q hk hn => ok_moveOA (.inl rfl) ⟨hn.1, up i0 hk hn.1⟩, ob1 rfl fun b q hk hn => ok_len rfl rfl Try.underlying22 (IsOwn.rd (hn.1).2), ob1 rfl fun b q hk hn => ok_geq rfl hn.1 (isV_int.2 rfl), trivial⟩ hQQ639 fun b q p => ?_
    exact tail_done (k := q) (hp640 _ _ ⟨Bs.post ⟨hg, hs, hd⟩ p, (p.old 0 rfl).trans q0, keep p 0 rfl i0, (by rw [p.old 0 rfl]; exact n0), keep p 3 rfl i3, out p 2 14 _ rfl rfl rfl, trivial⟩)
  rintro a k ⟨⟨hg, hs, hd⟩, q0, i0, n0, i3, i14, _⟩
  refine wp_cond_split (isBool i14) (fun hc638 => ?_) (fun hc638 => ?_)
  · rw [if_pos hc638] at hr
    refine wp_seq ?_
    refine cut (fun a' k' => Bs (obF v0) k0 43 a' k' ∧ (IsV ([] : List Account)) (a'.get 4) k' ∧ (IsV (α := Int) 6) (a'.get 5) k' ∧ True) ?_ hQ ?_
    · intro Q614 hQQ614 hp615
      refine regionS (a0 := a) (k0 := k) (n := 43) (m := 2) (⟨some IsE0, []⟩ :: ⟨some (IsV (α := Int) 6), []⟩ :: []) hs (by kernel_rfl) ⟨ob1 rfl fun b q hk hn => ok_assign rfl isE0_nil, ob1 rfl fun b q hk hn => ok_assign rfl (isV_int.2 rfl), trivial⟩ hQQ614 fun b q p => ?_
      have hgq := hg.then p.grow
      have hsb := p.size.trans hs
      have hdb := p.defers.trans hd
      have j4 : IsE0 (b.get 4) q := out p 0 4 _ rfl rfl rfl
      have j5 : (IsV (α := Int) 6) (b.get 5) q := out p 1 5 _ rfl rfl rfl
      replace j4 : IsV ([] : List Account) (b.get 4) q := j4.isV
      exact tail_done (k := q) (hp615 _ _ ⟨⟨hgq, hsb, hdb⟩, j4, j5, trivial⟩)
    rintro a k ⟨⟨hg, hs, hd⟩, i4, i5, _⟩
    refine wp_ret ?_
    obtain rfl := Option.some.inj hr
    exact retC2 rfl hd hg i4 i5
  rw [if_neg (by rw [hc638]; decide)] at hr
  refine wp_skip ?_
  refine wp_seq ?_
  refine cut (fun a' k' => Bs (obF v0) k0 43 a' k' ∧ a'.get 0 = u607 ∧ IsOwn 0 35 l_ (a'.get 0) k' ∧ Wr (obF v0) k0 (obF (a'.get 0)) ∧ (IsRef m_) (a'.get 3) k' ∧ (IsV (α := Int) 0) (a'.get 6) k' ∧ True) ?_ hQ ?_
  · intro Q636 hQQ636 hp637
    refine regionS (a0 := a) (k0 := k) (n := 43) (m := 1) (⟨some (IsV (α := Int) 0), []⟩ :: []) hs (by kernel_rfl) ⟨ob1 rfl fun b q hk hn => ok_assign rfl (isV_int.2 rfl), trivial⟩ hQQ636 fun b q p => ?_
    exact tail_done (k := q) (hp637 _ _ ⟨Bs.post ⟨hg, hs, hd⟩ p, (p.old 0 rfl).trans q0, keep p 0 rfl i0, (by rw [p.old 0 rfl]; exact n0), keep p 3 rfl i3, out p 0 6 _ rfl rfl rfl, trivial⟩)
  rintro a k ⟨⟨hg, hs, hd⟩, q0, i0, n0, i3, i6, _⟩
  refine wp_seq ?_
  refine wp_block ?_
  obtain ⟨f628, hf628, hr⟩ := bind_some hr
  refine cutFe f628 (fun s' a' k' => Bs (obF v0) k0 43 a' k' ∧ a'.get 0 = u607 ∧ IsOwn 0 35 l_ (a'.get 0) k' ∧ Wr (obF v0) k0 (obF (a'.get 0)) ∧ (IsRef m_) (a'.get 3) k' ∧ (IsV s') (a'.get 6) k' ∧ True) (fun i' s' a' k' => (i' = 0 ∧ Bs (obF v0) k0 43 a' k' ∧ a'.get 0 = u607 ∧ IsOwn 0 35 l_ (a'.get 0) k' ∧ Wr (obF v0) k0 (obF (a'.get 0)) ∧ (IsRef m_) (a'.get 3) k' ∧ (IsV s') (a'.get 6) k' ∧ True)) (fun r' a' k' => bodyPost Try.prog Try.f29 (RetC (obF v0) k0 (IsTup2 (IsV r'.1) (IsV r'.2))) .ret a' k'.w) ?_ hQ ?_ ?_ ?_
  · intro Q635 hQQ635 hgo hex hret
    refine sim_loop ?_ _ _ _ _ _ hf628 ⟨⟨hg, hs, hd⟩, q0, i0, n0, i3, i6, trivial⟩ Q635 hQQ635 hgo hex hret
    clear hr hf628 hgo hex hret hQQ635 hQ hg hs hd i0 i3 i6 n0 q0
    intro s617 fl_ a k hr hS Q hQ hgo618 hex619 hret620
    obtain ⟨⟨hg, hs, hd⟩, q0, i0, n0, i3, i6, _⟩ := hS
    unfold cOpen_L0 at hr
    refine wp_seq ?_
    refine wp_seq ?_
    obtain ⟨x621_13, hx621_13, hr⟩ := bind_some hr
    obtain ⟨x621_7, hx621_7, hx621_13⟩ := ite_bind hx621_13
    refine cut (fun a' k' => Bs (obF v0) k0 43 a' k' ∧ a'.get 0 = u607 ∧ IsOwn 0 35 l_ (a'.get 0) k' ∧ Wr (obF v0) k0 (obF (a'.get 0)) ∧ (IsRef m_) (a'.get 3) k' ∧ (IsV s617) (a'.get 6) k' ∧ (IsV x621_13) (a'.get 28) k' ∧ True) ?_ hQ ?_
    · intro Q626 hQQ626 hp627
      refine region (a0 := a) (k0 := k) (n := 43) (m := 14) (⟨some (IsV s617), [(6, none)]⟩ :: ⟨some (OwnAt (a.get 0) 0 35 l_), [(0, none)]⟩ :: ⟨some (IsV (α := Int) (l_.length : Int)), [(16, some 1)]⟩ :: ⟨some (IsV (decide (s617 < (l_.length : Int)))), [(15, some 0), (17, some 2)]⟩ :: ⟨some (IsV (decide (s617 < (l_.length : Int)))), [(18, some 3)]⟩ :: ⟨some (Gd ((decide (s617 < (l_.length : Int))) = true) (OwnAt (a.get 0) 0 35 l_)), [(0, none)]⟩ :: ⟨some (Gd ((decide (s617 < (l_.length : Int))) = true) (IsV s617)), [(6, none)]⟩ :: ⟨some (Gd ((decide (s617 < (l_.length : Int))) = true) (IsPtr x621_7)), [(20, some 5), (21, some 6)]⟩ :: ⟨some (Gd ((decide (s617 < (l_.length : Int))) = true) (IsPtr x621_7.Lot)), [(22, some 7)]⟩ :: ⟨some (Gd ((decide (s617 < (l_.length : Int))) = true) (IsV x621_7.Lot)), [(23, some 8)]⟩ :: ⟨some (Gd ((decide (s617 < (l_.length : Int))) = true) (IsPtr m_.To)), [(3, none)]⟩ :: ⟨some (Gd ((decide (s617 < (l_.length : Int))) = true) (IsV m_.To)), [(25, some 10)]⟩ :: ⟨some (Gd ((decide (s617 < (l_.length : Int))) = true) (IsV (decide (x621_7.Lot < m_.To)))), [(24, some 9), (26, some 11)]⟩ :: ⟨some (IsV x621_13), [(19, some 4), (27, some 12)]⟩ :: []) hmix hs (by kernel_rfl) ⟨ob1 rfl fun b q hk hn => ok_move rfl (up i6 hk hn.1), ob1 rfl fun b q hk hn => ok_moveOA (.inl rfl) ⟨hn.1, up i0 hk hn.1⟩, ob1 rfl fun b q hk hn => ok_len rfl rfl Try.underlying22 (IsOwn.rd (hn.1).2), ob1 rfl fun b q hk hn => ok_lss rfl hn.1 hn.2.1, ob1 rfl fun b q hk hn => ok_move rfl hn.1, gdT rfl rfl fun hp b q hk hn => ok_moveOA (.inl rfl) ⟨hn.1, up i0 hk hn.1⟩, gdT rfl rfl fun hp b q hk hn => ok_move rfl (up i6 hk hn.1), gdT rfl rfl fun hp b q hk hn => ok_indexAddr rfl Try.underlying22 ty35 (IsOwn.rd ((Gd.get hn.1 hp)).2) (Gd.get hn.2.1 hp) (hx621_7 hp), gdT rfl rfl fun hp b q hk hn => ok_fieldAddr rfl fo35_0 (at_Account_0 _) (Gd.get hn.1 hp), gdT rfl rfl fun hp b q hk hn => ok_load rfl ty3 (Gd.get hn.1 hp), gdT rfl rfl fun hp b q hk hn => ok_fieldAddr rfl fo33_2 (at_Move_2 _) ((up i3 hk hn.1)).ptr, gdT rfl rfl fun hp b q hk hn => ok_load rfl ty3 (Gd.get hn.1 hp), gdT rfl rfl fun hp b q hk hn => ok_lss rfl (Gd.get hn.1 hp) (Gd.get hn.2.1 hp), ob1 rfl fun b q hk hn => ok_pickM rfl hn.1 hx621_13 (fun hm => (Gd.get hn.2.1 hm)) (fun _ => (isV_bool.2 rfl)), trivial⟩ hQQ626 fun b q p => ?_
      exact tail_done (k := q) (hp627 _ _ ⟨Bs.post ⟨hg, hs, hd⟩ p, (p.old 0 rfl).trans q0, keep p 0 rfl i0, (by rw [p.old 0 rfl]; exact n0), keep p 3 rfl i3, keep p 6 rfl i6, out p 13 28 _ rfl rfl rfl, trivial⟩)
    rintro a k ⟨⟨hg, hs, hd⟩, q0, i0, n0, i3, i6, i28, _⟩
    refine wp_cond_split (isBool i28) (fun hc625 => ?_) (fun hc625 => ?_)
    · rw [if_pos hc625] at hr
      refine wp_skip ?_
      refine wp_block ?_
      obtain ⟨x622_1, hx622_1, hr⟩ := bind_some hr
      refine cut (fun a' k' => Bs (obF v0) k0 43 a' k' ∧ a'.get 0 = u607 ∧ IsOwn 0 35 l_ (a'.get 0) k' ∧ Wr (obF v0) k0 (obF (a'.get 0)) ∧ (IsRef m_) (a'.get 3) k' ∧ (IsV x622_1) (a'.get 6) k' ∧ True) ?_ hQ ?_
      · intro Q623 hQQ623 hp624
        refine regionS (a0 := a) (k0 := k) (n := 43) (m := 3) (⟨some (IsV s617), [(6, none)]⟩ :: ⟨some (IsV x622_1), [(29, some 0)]⟩ :: ⟨some (IsV x622_1), [(30, some 1)]⟩ :: []) hs (by kernel_rfl) ⟨ob1 rfl fun b q hk hn => ok_move rfl (up i6 hk hn.1), ob1 rfl fun b q hk hn => ok_add rfl hn.1 (isV_int.2 rfl) hx622_1, ob1 rfl fun b q hk hn => ok_assign rfl hn.1, trivial⟩ hQQ623 fun b q p => ?_
        exact tail_done (k := q) (hp624 _ _ ⟨Bs.post ⟨hg, hs, hd⟩ p, (p.old 0 rfl).trans q0, keep p 0 rfl i0, (by rw [p.old 0 rfl]; exact n0), keep p 3 rfl i3, out p 2 6 _ rfl rfl rfl, trivial⟩)
      rintro a k ⟨⟨hg, hs, hd⟩, q0, i0, n0, i3, i6, _⟩
      exact hgo618 _ _ _ (Option.some.inj hr).symm ⟨⟨hg, hs, hd⟩, q0, i0, n0, i3, i6, trivial⟩
    rw [if_neg (by rw [hc625]; decide)] at hr
    refine wp_exit ?_
    exact hex619 _ _ _ _ (Option.some.inj hr).symm ⟨rfl, ⟨hg, hs, hd⟩, q0, i0, n0, i3, i6, trivial⟩
  · rintro r634 a k rfl hR
    dsimp only at hr
    obtain rfl := Option.some.inj hr
    exact hR
  · rintro _ _ _ rfl _
    simp at hr
  clear hf628
  rintro _ s629 a k rfl ⟨rfl, ⟨hg, hs, hd⟩, q0, i0, n0, i3, i6, _⟩
  dsimp only at hr
  refine wp_seq ?_
  obtain ⟨x630_11, hx630_11, hr⟩ := bind_some hr
  refine cut (fun a' k' => Bs (obF v0) k0 43 a' k' ∧ IsOwn 0 35 x630_11 (a'.get 4) k' ∧ Wr (obF v0) k0 (obF (a'.get 4)) ∧ (IsV (α := Int) 0) (a'.get 5) k' ∧ True) ?_ hQ ?_
  · intro Q632 hQQ632 hp633
    refine regionS (a0 := a) (k0 := k) (n := 43) (m := 11) (⟨some (OwnAt (a.get 0) 0 35 l_), [(0, none)]⟩ :: ⟨some (IsV s629), [(6, none)]⟩ :: ⟨some (IsPtr m_.To), [(3, none)]⟩ :: ⟨some (IsV m_.To), [(33, some 2)]⟩ :: ⟨some (IsPtr m_.N), [(3, none)]⟩ :: ⟨some (IsV m_.N), [(35, some 4)]⟩ :: ⟨some (IsPtr m_.From), [(3, none)]⟩ :: ⟨some (IsV m_.From), [(37, some 6)]⟩ :: ⟨some (IsV (m_.From == 1)), [(38, some 7)]⟩ :: ⟨some (IsV (⟨m_.To, m_.N, (m_.From == 1)⟩ : Account)), [(34, some 3), (36, some 5), (39, some 8)]⟩ :: ⟨some (IsOwn k.w.heap.size 35 ([(⟨m_.To, m_.N, (m_.From == 1)⟩ : Account)])), [(40, some 9)]⟩ :: []) hs (by kernel_rfl) ⟨ob1 rfl fun b q hk hn => ok_moveOA (.inl rfl) ⟨hn.1, up i0 hk hn.1⟩, ob1 rfl fun b q hk hn => ok_move rfl (up i6 hk hn.1), ob1 rfl fun b q hk hn => ok_fieldAddr rfl fo33_2 (at_Move_2 _) ((up i3 hk hn.1)).ptr, ob1 rfl fun b q hk hn => ok_load rfl ty3 hn.1, ob1 rfl fun b q hk hn => ok_fieldAddr rfl fo33_3 (at_Move_3 _) ((up i3 hk hn.1)).ptr, ob1 rfl fun b q hk hn => ok_load rfl ty3 hn.1, ob1 rfl fun b q hk hn => ok_fieldAddr rfl fo33_1 (at_Move_1 _) ((up i3 hk hn.1)).ptr, ob1 rfl fun b q hk hn => ok_load rfl ty3 hn.1, ob1 rfl fun b q hk hn => ok_eqI rfl hn.1 (isV_int.2 rfl), ob1 rfl fun b q hk hn => ok_build rfl (bld35_0_1_2 hn.1 hn.2.1 hn.2.2.1), ob1 rfl fun b q hk hn => ok_buildSliceO rfl Try.underlying22 eo35 hk.size rfl (by decide) (by decide) ⟨rfl, hn.1, trivial⟩, trivial⟩ hQQ632 fun b q p => ?_
    have hgq := hg.then p.grow
    have hsb := p.size.trans hs
    have hdb := p.defers.trans hd
    have e31 : b.get 31 = a.get 0 := (out p 0 31 _ rfl rfl rfl).1
    have j31 : IsOwn 0 35 l_ (b.get 31) q := (out p 0 31 _ rfl rfl rfl).2
    have y31 : Wr (obF v0) k0 (obF (b.get 31)) := by rw [e31]; exact n0
    have j32 : (IsV s629) (b.get 32) q := out p 1 32 _ rfl rfl rfl
    have j41 : (IsOwn k.w.heap.size 35 ([(⟨m_.To, m_.N, (m_.From == 1)⟩ : Account)])) (b.get 41) q := out p 10 41 _ rfl rfl rfl
    have x41 : Lo k (obF (b.get 41)) := j41.loF
    have y41 := x41.chg hg
    replace j41 := j41.weaken (Nat.zero_le _)
    have w31_41 : Apart (obF (b.get 31)) (obF (b.get 41)) := Apart.new (by rw [e31]; exact i0.ltF) x41
    have hns := j31.nshF
    refine tail_call (F := obF (b.get 31)) (i := 11) (d := 42) rfl rfl rfl rfl (by rw [hsb]; decide) Try.call36 hQQ632 (insertA_ok j31 j32 j41 w31_41 hx630_11) fun b2 q2 hsz hdf hoth hch hres => ?_
    have hle := hch.le hns
    obtain ⟨hown, hob⟩ := hres
    have yn : Wr (obF v0) k0 (obF (b2.get 42)) := y31.app hgq hob
    have v41 : Apart (obF (b.get 41)) (obF (b2.get 42)) := Apart.app (w31_41.symm) j41.ltF hob
    replace j32 := Pers.pers hle j32
    replace j41 := j41.keep hch (w31_41.symm) hns
    replace hgq := hgq.step hch y31
    rw [← hoth 32 (by decide)] at j32
    rw [← hoth 41 (by decide)] at j41
    rw [← hoth 41 (by decide)] at y41
    rw [← hoth 41 (by decide)] at v41
    have w41_42 := v41
    have j42 := hown
    have y42 := yn
    have hres := True.intro
    clear hown hob yn
    replace hsb := hsz.trans hsb
    replace hdb := hdf.trans hdb
    clear hle hch hres hns hsz hdf hoth
    obtain ⟨b, hbb⟩ : ∃ b, b = b2 := ⟨b2, rfl⟩
    subst hbb
    obtain ⟨q, hqq⟩ : ∃ q, q = q2 := ⟨q2, rfl⟩
    subst hqq
    refine tail_assign (i := 12) (d := 4) rfl rfl (.inl rfl) rfl (by rw [hsb]; decide) fun b2 hsz hdf hnew hoth => ?_
    have jn : (IsOwn 0 35 x630_11) (b2.get 4) q := by rw [hnew]; exact j42
    have yn : Wr (obF v0) k0 (obF (b2.get 4)) := by rw [hnew]; exact y42
    have v41 : Apart (obF (b.get 41)) (obF (b2.get 4)) := by rw [hnew]; exact w41_42
    rw [← hoth 32 (by decide)] at j32
    rw [← hoth 41 (by decide)] at j41
    rw [← hoth 41 (by decide)] at y41
    rw [← hoth 41 (by decide)] at v41
    have w4_41 := v41.symm
    have j4 := jn
    have y4 := yn
    replace hsb := hsz.trans hsb
    replace hdb := hdf.trans hdb
    clear hsz hdf hoth
    obtain ⟨b, hbb⟩ : ∃ b, b = b2 := ⟨b2, rfl⟩
    subst hbb
    refine tail_assign (i := 13) (d := 5) rfl rfl (.inl rfl) rfl (by rw [hsb]; decide) fun b2 hsz hdf hnew hoth => ?_
    have jn : (IsV (α := Int) 0) (b2.get 5) q := by rw [hnew]; exact (isV_int.2 rfl)
    rw [← hoth 4 (by decide)] at j4
    rw [← hoth 4 (by decide)] at y4
    rw [← hoth 32 (by decide)] at j32
    rw [← hoth 41 (by decide)] at j41
    rw [← hoth 41 (by decide)] at y41
    rw [← hoth 4 (by decide), ← hoth 41 (by decide)] at w4_41
    have j5 := jn
    replace hsb := hsz.trans hsb
    replace hdb := hdf.trans hdb
    clear hsz hdf hoth
    obtain ⟨b, hbb⟩ : ∃ b, b = b2 := ⟨b2, rfl⟩
    subst hbb
    exact tail_done (k := q) (hp633 _ _ ⟨⟨hgq, hsb, hdb⟩, j4, y4, j5, trivial⟩)
  rintro a k ⟨⟨hg, hs, hd⟩, i4, n4, i5, _⟩
  refine wp_ret ?_
  obtain ⟨kk, sh631, ii4⟩ := i4.give
  replace i5 := Pers.pers sh631.le i5
  replace i4 := ii4
  replace hg := hg.hand sh631 n4
  rw [← sh631.w]
  clear sh631
  obtain ⟨k, hkk⟩ : ∃ k, k = kk := ⟨kk, rfl⟩
  subst hkk
  obtain rfl := Option.some.inj hr
  exact retC2 rfl hd hg i4 i5
def cDo (l_ : (List Account)) (m_ : Move) : Option ((List Account) × Int) :=
  (cRight l_).bind fun x647_1 =>
  (if (!x647_1) then
    some true
  else
    (cValid m_).bind fun x647_5 =>
    some (!x647_5)).bind fun x647_7 =>
  if x647_7 then
    some (([] : List Account), 1)
  else
    (clone l_).bind fun x651_1 =>
    if (m_.Kind == 0) then
      (cOpen x651_1 m_).bind fun x653_2 =>
      some (x653_2.1, x653_2.2)
    else
      (cFind x651_1 m_.From).bind fun x657_3 =>
      (cFind x651_1 m_.To).bind fun x657_7 =>
      (if (x657_3.isNone) then
        some (x657_3.isNone)
      else
        some ((m_.Kind == 1) && (x657_7.isNone))).bind fun s660 =>
      if s660 then
        some (([] : List Account), 4)
      else
        (if (m_.Kind == 1) then
          (atI x651_1 x657_7).bind fun x669_3 =>
          some (!x669_3.Receives)
        else
          some false).bind fun x669_7 =>
        if x669_7 then
          some (([] : List Account), 24)
        else
          (atI x651_1 x657_3).bind fun x673_1 =>
          if (decide (x673_1.Units < m_.N)) then
            some (([] : List Account), 23)
          else
            (if (m_.Kind == 1) then
              (atI x651_1 x657_7).bind fun x677_3 =>
              (addI x677_3.Units m_.N).bind fun x677_8 =>
              some (decide (1073741824 < x677_8))
            else
              some false).bind fun x677_10 =>
            if x677_10 then
              some (([] : List Account), 6)
            else
              (atI x651_1 x657_3).bind fun x681_1 =>
              (subI x681_1.Units m_.N).bind fun x681_6 =>
              (atI x651_1 x657_3).bind fun x681_7 =>
              (some (x651_1.set ((x657_3.getD 0)).toNat ({ x681_7 with Units := x681_6 }))).bind fun x681_9 =>
              (if (m_.Kind == 1) then
                (atI x681_9 x657_7).bind fun x685_1 =>
                (addI x685_1.Units m_.N).bind fun x685_6 =>
                (atI x681_9 x657_7).bind fun x685_7 =>
                (some (x681_9.set ((x657_7.getD 0)).toNat ({ x685_7 with Units := x685_6 }))).bind fun x685_9 =>
                some x685_9
              else
                some x681_9).bind fun s683 =>
              some (s683, 0)
theorem cDo_ok {k0 : K} {v0 v1 : Value} {l_ : (List Account)} {m_ : Move} {r : (List Account) × Int} (i0 : (IsV l_) v0 k0) (i1 : (IsV m_) v1 k0) (hr : cDo l_ m_ = some r) :
    Calls Try.prog 13 #[v0, v1] k0.w (Ret k0 (IsTup2 (IsV r.1) (IsV r.2))) := by
  unfold cDo at hr
  refine Ret.ofC ?_
  refine enterK Try.func13 rfl Try.ntmps13 (show 2 ≤ 96 by decide) fun a k hk0 hs hd ha => ?_
  obtain ⟨e0, e1, _⟩ := ha
  replace i0 : (IsV l_) (a.get 0) k := by rw [e0, hk0]; exact i0
  replace i1 : (IsV m_) (a.get 1) k := by rw [e1, hk0]; exact i1
  have hQ : Gb.LetsOut (bodyPost Try.prog Try.f13 (RetC noF k0 (IsTup2 (IsV r.1) (IsV r.2)))) := letsOutC
  have hg : Chg noF k0 k := by rw [hk0]; exact Chg.refl _ k0
  refine wp_seq ?_
  refine cut (fun a' k' => Bs noF k0 96 a' k' ∧ (IsV l_) (a'.get 0) k' ∧ (IsRef m_) (a'.get 3) k' ∧ True) ?_ hQ ?_
  · intro Q724 hQQ724 hp725
    refine regionS (a0 := a) (k0 := k) (n := 96) (m := 3) (⟨some (IsBox k.w.heap.size m_), [(1, none)]⟩ :: ⟨some IsE0, []⟩ :: ⟨some (IsV (α := Int) 0), []⟩ :: []) hs (by kernel_rfl) ⟨ob1 rfl fun b q hk hn => ok_box _ hk.size rfl (up i1 hk hn.1), ob1 rfl fun b q hk hn => ok_assign rfl isE0_nil, ob1 rfl fun b q hk hn => ok_assign rfl (isV_int.2 rfl), trivial⟩ hQQ724 fun b q p => ?_
    have hgq := hg.then p.grow
    have hsb := p.size.trans hs
    have hdb := p.defers.trans hd
    have j0 := keep p 0 rfl i0
    obtain ⟨b3, j3, x3, z3⟩ : (IsBox k.w.heap.size m_) (b.get 3) q := out p 0 3 _ rfl rfl rfl
    replace x3 : Lo k (Eq b3) := Lo.eq x3
    have y3 : Lo k0 (Eq b3) := x3.chg hg
    obtain ⟨q2, hsh, jn⟩ := z3.give
    replace j0 := Pers.pers hsh.le j0
    rw [← j3] at jn
    replace j3 := jn
    replace hgq := hgq.hand hsh y3.wr
    rw [← hsh.w]
    clear hsh
    obtain ⟨q, hqq⟩ : ∃ q, q = q2 := ⟨q2, rfl⟩
    subst hqq
    exact tail_done (k := q) (hp725 _ _ ⟨⟨hgq, hsb, hdb⟩, j0, j3, trivial⟩)
  rintro a k ⟨⟨hg, hs, hd⟩, i0, i3, _⟩
  refine wp_seq ?_
  refine wp_seq ?_
  obtain ⟨x647_1, hx647_1, hr⟩ := bind_some hr
  obtain ⟨x647_7, hx647_7, hr⟩ := bind_some hr
  obtain ⟨x647_5, hx647_5, hx647_7⟩ := ite_bindF hx647_7
  refine cut (fun a' k' => Bs noF k0 96 a' k' ∧ (IsV l_) (a'.get 0) k' ∧ (IsRef m_) (a'.get 3) k' ∧ (IsV x647_7) (a'.get 17) k' ∧ True) ?_ hQ ?_
  · intro Q722 hQQ722 hp723
    refine regionS (a0 := a) (k0 := k) (n := 96) (m := 8) (⟨some (IsV l_), [(0, none)]⟩ :: ⟨some (IsV x647_1), [(10, some 0)]⟩ :: ⟨some (IsV (!x647_1)), [(11, some 1)]⟩ :: ⟨some (IsV (!x647_1)), [(12, some 2)]⟩ :: ⟨some (Gd ((!x647_1) = false) (IsV m_)), [(3, none)]⟩ :: ⟨some (Gd ((!x647_1) = false) (IsV x647_5)), [(14, some 4)]⟩ :: ⟨some (Gd ((!x647_1) = false) (IsV (!x647_5))), [(15, some 5)]⟩ :: ⟨some (IsV x647_7), [(13, some 3), (16, some 6)]⟩ :: []) hs (by kernel_rfl) ⟨ob1 rfl fun b q hk hn => ok_move rfl (up i0 hk hn.1), ob1 rfl fun b q hk hn => ok_call rfl Try.call17 (cRight_ok hn.1 hx647_1), ob1 rfl fun b q hk hn => ok_not rfl hn.1, ob1 rfl fun b q hk hn => ok_move rfl hn.1, gdF rfl rfl fun hp b q hk hn => ok_load rfl ty33 ((up i3 hk hn.1)).ptr, gdF rfl rfl fun hp b q hk hn => ok_call rfl Try.call28 (cValid_ok (Gd.get hn.1 hp) (hx647_5 hp)), gdF rfl rfl fun hp b q hk hn => ok_not rfl (Gd.get hn.1 hp), ob1 rfl fun b q hk hn => ok_pickM rfl hn.1 hx647_7 (fun _ => (isV_bool.2 rfl)) (fun hm => (Gd.get hn.2.1 hm)), trivial⟩ hQQ722 fun b q p => ?_
    exact tail_done (k := q) (hp723 _ _ ⟨Bs.post ⟨hg, hs, hd⟩ p, keep p 0 rfl i0, keep p 3 rfl i3, out p 7 17 _ rfl rfl rfl, trivial⟩)
  rintro a k ⟨⟨hg, hs, hd⟩, i0, i3, i17, _⟩
  refine wp_cond_split (isBool i17) (fun hc721 => ?_) (fun hc721 => ?_)
  · rw [if_pos hc721] at hr
    refine wp_seq ?_
    refine cut (fun a' k' => Bs noF k0 96 a' k' ∧ (IsV ([] : List Account)) (a'.get 4) k' ∧ (IsV (α := Int) 1) (a'.get 5) k' ∧ True) ?_ hQ ?_
    · intro Q649 hQQ649 hp650
      refine regionS (a0 := a) (k0 := k) (n := 96) (m := 2) (⟨some IsE0, []⟩ :: ⟨some (IsV (α := Int) 1), []⟩ :: []) hs (by kernel_rfl) ⟨ob1 rfl fun b q hk hn => ok_assign rfl isE0_nil, ob1 rfl fun b q hk hn => ok_assign rfl (isV_int.2 rfl), trivial⟩ hQQ649 fun b q p => ?_
      have hgq := hg.then p.grow
      have hsb := p.size.trans hs
      have hdb := p.defers.trans hd
      have j4 : IsE0 (b.get 4) q := out p 0 4 _ rfl rfl rfl
      have j5 : (IsV (α := Int) 1) (b.get 5) q := out p 1 5 _ rfl rfl rfl
      replace j4 : IsV ([] : List Account) (b.get 4) q := j4.isV
      exact tail_done (k := q) (hp650 _ _ ⟨⟨hgq, hsb, hdb⟩, j4, j5, trivial⟩)
    rintro a k ⟨⟨hg, hs, hd⟩, i4, i5, _⟩
    refine wp_ret ?_
    obtain rfl := Option.some.inj hr
    exact retC2 rfl hd hg i4 i5
  rw [if_neg (by rw [hc721]; decide)] at hr
  refine wp_skip ?_
  refine wp_seq ?_
  obtain ⟨x651_1, hx651_1, hr⟩ := bind_some hr
  refine cut (fun a' k' => Bs noF k0 96 a' k' ∧ (IsRef m_) (a'.get 3) k' ∧ IsOwn 0 35 x651_1 (a'.get 6) k' ∧ Lo k0 (obF (a'.get 6)) ∧ True) ?_ hQ ?_
  · intro Q719 hQQ719 hp720
    refine regionS (a0 := a) (k0 := k) (n := 96) (m := 3) (⟨some (IsV l_), [(0, none)]⟩ :: ⟨some (IsOwn k.w.heap.size 35 x651_1), [(18, some 0)]⟩ :: ⟨some (IsOwn k.w.heap.size 35 x651_1), [(19, some 1)]⟩ :: []) hs (by kernel_rfl) ⟨ob1 rfl fun b q hk hn => ok_move rfl (up i0 hk hn.1), ob1 rfl fun b q hk hn => ok_call rfl Try.call25 (ret_weaken hk.size (clone_okO hn.1 hx651_1)), ob1 rfl fun b q hk hn => ok_assign rfl hn.1, trivial⟩ hQQ719 fun b q p => ?_
    have hgq := hg.then p.grow
    have hsb := p.size.trans hs
    have hdb := p.defers.trans hd
    have j3 := keep p 3 rfl i3
    have j6 : (IsOwn k.w.heap.size 35 x651_1) (b.get 6) q := out p 2 6 _ rfl rfl rfl
    have x6 : Lo k (obF (b.get 6)) := j6.loF
    have y6 := x6.chg hg
    replace j6 := j6.weaken (Nat.zero_le _)
    exact tail_done (k := q) (hp720 _ _ ⟨⟨hgq, hsb, hdb⟩, j3, j6, y6, trivial⟩)
  rintro a k ⟨⟨hg, hs, hd⟩, i3, i6, n6, _⟩
  refine wp_seq ?_
  refine wp_seq ?_
  refine cut (fun a' k' => Bs noF k0 96 a' k' ∧ (IsRef m_) (a'.get 3) k' ∧ IsOwn 0 35 x651_1 (a'.get 6) k' ∧ Lo k0 (obF (a'.get 6)) ∧ (IsV (m_.Kind == 0)) (a'.get 22) k' ∧ True) ?_ hQ ?_
  · intro Q717 hQQ717 hp718
    refine regionS (a0 := a) (k0 := k) (n := 96) (m := 3) (⟨some (IsPtr m_.Kind), [(3, none)]⟩ :: ⟨some (IsV m_.Kind), [(20, some 0)]⟩ :: ⟨some (IsV (m_.Kind == 0)), [(21, some 1)]⟩ :: []) hs (by kernel_rfl) ⟨ob1 rfl fun b q hk hn => ok_fieldAddr rfl fo33_0 (at_Move_0 _) ((up i3 hk hn.1)).ptr, ob1 rfl fun b q hk hn => ok_load rfl ty3 hn.1, ob1 rfl fun b q hk hn => ok_eqI rfl hn.1 (isV_int.2 rfl), trivial⟩ hQQ717 fun b q p => ?_
    exact tail_done (k := q) (hp718 _ _ ⟨Bs.post ⟨hg, hs, hd⟩ p, keep p 3 rfl i3, keep p 6 rfl i6, (by rw [p.old 6 rfl]; exact n6), out p 2 22 _ rfl rfl rfl, trivial⟩)
  rintro a k ⟨⟨hg, hs, hd⟩, i3, i6, n6, i22, _⟩
  refine wp_cond_split (isBool i22) (fun hc716 => ?_) (fun hc716 => ?_)
  · rw [if_pos hc716] at hr
    refine wp_seq ?_
    obtain ⟨x653_2, hx653_2, hr⟩ := bind_some hr
    refine cut (fun a' k' => Bs noF k0 96 a' k' ∧ (IsV x653_2.1) (a'.get 4) k' ∧ (IsV x653_2.2) (a'.get 5) k' ∧ True) ?_ hQ ?_
    · intro Q654 hQQ654 hp655
      refine regionS (a0 := a) (k0 := k) (n := 96) (m := 2) (⟨some (OwnAt (a.get 6) 0 35 x651_1), [(6, none)]⟩ :: ⟨some (IsV m_), [(3, none)]⟩ :: []) hs (by kernel_rfl) ⟨ob1 rfl fun b q hk hn => ok_moveOA (.inl rfl) ⟨hn.1, up i6 hk hn.1⟩, ob1 rfl fun b q hk hn => ok_load rfl ty33 ((up i3 hk hn.1)).ptr, trivial⟩ hQQ654 fun b q p => ?_
      have hgq := hg.then p.grow
      have hsb := p.size.trans hs
      have hdb := p.defers.trans hd
      have e23 : b.get 23 = a.get 6 := (out p 0 23 _ rfl rfl rfl).1
      have j23 : IsOwn 0 35 x651_1 (b.get 23) q := (out p 0 23 _ rfl rfl rfl).2
      have y23 : Lo k0 (obF (b.get 23)) := by rw [e23]; exact n6
      have j24 : (IsV m_) (b.get 24) q := out p 1 24 _ rfl rfl rfl
      have hns := j23.nshF
      refine tail_call (F := obF (b.get 23)) (i := 2) (d := 25) rfl rfl rfl rfl (by rw [hsb]; decide) Try.call29 hQQ654 (cOpen_ok j23 j24 hx653_2) fun b2 q2 hsz hdf hoth hch hres => ?_
      have hle := hch.le hns
      replace j24 := Pers.pers hle j24
      replace hgq := hgq.step hch y23.wr
      rw [← hoth 24 (by decide)] at j24
      have j25 : (IsTup2 (IsV x653_2.1) (IsV x653_2.2)) (b2.get 25) q2 := hres
      replace hsb := hsz.trans hsb
      replace hdb := hdf.trans hdb
      clear hle hch hres hns hsz hdf hoth
      obtain ⟨b, hbb⟩ : ∃ b, b = b2 := ⟨b2, rfl⟩
      subst hbb
      obtain ⟨q, hqq⟩ : ∃ q, q = q2 := ⟨q2, rfl⟩
      subst hqq
      have jx : (IsTup2 (IsV x653_2.1) (IsV x653_2.2)) (b.get 25) q := j25
      obtain ⟨y0_, y1_, hxt, jy0_, jy1_⟩ := jx
      refine tail_ext (i := 3) (d := 26) rfl rfl rfl rfl (by rw [hsb]; decide) hxt rfl fun b2 hsz hdf hnew hoth => ?_
      have jn : (IsV x653_2.1) (b2.get 26) q := by rw [hnew]; exact jy0_
      rw [← hoth 24 (by decide)] at j24
      rw [← hoth 25 (by decide)] at j25
      have j26 := jn
      replace hsb := hsz.trans hsb
      replace hdb := hdf.trans hdb
      clear hsz hdf hoth jn hnew hxt
      obtain ⟨b, hbb⟩ : ∃ b, b = b2 := ⟨b2, rfl⟩
      subst hbb
      have jx : (IsTup2 (IsV x653_2.1) (IsV x653_2.2)) (b.get 25) q := j25
      obtain ⟨y0_, y1_, hxt, jy0_, jy1_⟩ := jx
      refine tail_ext (i := 4) (d := 27) rfl rfl rfl rfl (by rw [hsb]; decide) hxt rfl fun b2 hsz hdf hnew hoth => ?_
      have jn : (IsV x653_2.2) (b2.get 27) q := by rw [hnew]; exact jy1_
      rw [← hoth 24 (by decide)] at j24
      rw [← hoth 25 (by decide)] at j25
      rw [← hoth 26 (by decide)] at j26
      have j27 := jn
      replace hsb := hsz.trans hsb
      replace hdb := hdf.trans hdb
      clear hsz hdf hoth jn hnew hxt
      obtain ⟨b, hbb⟩ : ∃ b, b = b2 := ⟨b2, rfl⟩
      subst hbb
      refine tail_assign (i := 5) (d := 4) rfl rfl (.inl rfl) rfl (by rw [hsb]; decide) fun b2 hsz hdf hnew hoth => ?_
      have jn : (IsV x653_2.1) (b2.get 4) q := by rw [hnew]; exact j26
      rw [← hoth 24 (by decide)] at j24
      rw [← hoth 25 (by decide)] at j25
      rw [← hoth 26 (by decide)] at j26
      rw [← hoth 27 (by decide)] at j27
      have j4 := jn
      replace hsb := hsz.trans hsb
      replace hdb := hdf.trans hdb
      clear hsz hdf hoth
      obtain ⟨b, hbb⟩ : ∃ b, b = b2 := ⟨b2, rfl⟩
      subst hbb
      refine tail_assign (i := 6) (d := 5) rfl rfl (.inl rfl) rfl (by rw [hsb]; decide) fun b2 hsz hdf hnew hoth => ?_
      have jn : (IsV x653_2.2) (b2.get 5) q := by rw [hnew]; exact j27
      rw [← hoth 4 (by decide)] at j4
      rw [← hoth 24 (by decide)] at j24
      rw [← hoth 25 (by decide)] at j25
      rw [← hoth 26 (by decide)] at j26
      rw [← hoth 27 (by decide)] at j27
      have j5 := jn
      replace hsb := hsz.trans hsb
      replace hdb := hdf.trans hdb
      clear hsz hdf hoth
      obtain ⟨b, hbb⟩ : ∃ b, b = b2 := ⟨b2, rfl⟩
      subst hbb
      exact tail_done (k := q) (hp655 _ _ ⟨⟨hgq, hsb, hdb⟩, j4, j5, trivial⟩)
    rintro a k ⟨⟨hg, hs, hd⟩, i4, i5, _⟩
    refine wp_ret ?_
    obtain rfl := Option.some.inj hr
    exact retC2 rfl hd hg i4 i5
  rw [if_neg (by rw [hc716]; decide)] at hr
  refine wp_skip ?_
  refine wp_seq ?_
  obtain ⟨u656, q6⟩ : ∃ u, a.get 6 = u := ⟨_, rfl⟩
  obtain ⟨x657_3, hx657_3, hr⟩ := bind_some hr
  obtain ⟨x657_7, hx657_7, hr⟩ := bind_some hr
  refine cut (fun a' k' => Bs noF k0 96 a' k' ∧ (IsRef m_) (a'.get 3) k' ∧ a'.get 6 = u656 ∧ IsOwn 0 35 x651_1 (a'.get 6) k' ∧ Lo k0 (obF (a'.get 6)) ∧ (IsEP u656 (Enc.sz Account) x657_3) (a'.get 7) k' ∧ (IsEP u656 (Enc.sz Account) x657_7) (a'.get 8) k' ∧ True) ?_ hQ ?_
  · intro Q714 hQQ714 hp715
    refine region (a0 := a) (k0 := k) (n := 96) (m := 10) (⟨some (OwnAt (a.get 6) 0 35 x651_1), [(6, none)]⟩ :: ⟨some (IsPtr m_.From), [(3, none)]⟩ :: ⟨some (IsV m_.From), [(29, some 1)]⟩ :: ⟨some (IsEP u656 (Enc.sz Account) x657_3), [(28, some 0), (30, some 2)]⟩ :: ⟨some (OwnAt (a.get 6) 0 35 x651_1), [(6, none)]⟩ :: ⟨some (IsPtr m_.To), [(3, none)]⟩ :: ⟨some (IsV m_.To), [(33, some 5)]⟩ :: ⟨some (IsEP u656 (Enc.sz Account) x657_7), [(32, some 4), (34, some 6)]⟩ :: ⟨some (IsEP u656 (Enc.sz Account) x657_3), [(31, some 3)]⟩ :: ⟨some (IsEP u656 (Enc.sz Account) x657_7), [(35, some 7)]⟩ :: []) hmix hs (by kernel_rfl) ⟨ob1 rfl fun b q hk hn => ok_moveOA (.inl rfl) ⟨hn.1, up i6 hk hn.1⟩, ob1 rfl fun b q hk hn => ok_fieldAddr rfl fo33_1 (at_Move_1 _) ((up i3 hk hn.1)).ptr, ob1 rfl fun b q hk hn => ok_load rfl ty3 hn.1, ob1 rfl fun b q hk hn => ok_call rfl Try.call30 (ret_ep (by obtain ⟨kb9, hb9, hv9⟩ := IsOwn.give (hn.1).2; exact borrow hb9 (cFind_ok hv9 (Pers.pers hb9.le hn.2.1) hx657_3)) ((hn.1).1.trans q6)), ob1 rfl fun b q hk hn => ok_moveOA (.inl rfl) ⟨hn.1, up i6 hk hn.1⟩, ob1 rfl fun b q hk hn => ok_fieldAddr rfl fo33_2 (at_Move_2 _) ((up i3 hk hn.1)).ptr, ob1 rfl fun b q hk hn => ok_load rfl ty3 hn.1, ob1 rfl fun b q hk hn => ok_call rfl Try.call30 (ret_ep (by obtain ⟨kb9, hb9, hv9⟩ := IsOwn.give (hn.1).2; exact borrow hb9 (cFind_ok hv9 (Pers.pers hb9.le hn.2.1) hx657_7)) ((hn.1).1.trans q6)), ob1 rfl fun b q hk hn => ok_assign rfl hn.1, ob1 rfl fun b q hk hn => ok_assign rfl hn.1, trivial⟩ hQQ714 fun b q p => ?_
    exact tail_done (k := q) (hp715 _ _ ⟨Bs.post ⟨hg, hs, hd⟩ p, keep p 3 rfl i3, (p.old 6 rfl).trans q6, keep p 6 rfl i6, (by rw [p.old 6 rfl]; exact n6), out p 8 7 _ rfl rfl rfl, out p 9 8 _ rfl rfl rfl, trivial⟩)
  rintro a k ⟨⟨hg, hs, hd⟩, i3, q6, i6, n6, i7, i8, _⟩
  refine wp_seq ?_
  refine cut (fun a' k' => Bs noF k0 96 a' k' ∧ (IsRef m_) (a'.get 3) k' ∧ a'.get 6 = u656 ∧ IsOwn 0 35 x651_1 (a'.get 6) k' ∧ Lo k0 (obF (a'.get 6)) ∧ (IsEP u656 (Enc.sz Account) x657_3) (a'.get 7) k' ∧ (IsEP u656 (Enc.sz Account) x657_7) (a'.get 8) k' ∧ (IsV (m_.Kind == 1)) (a'.get 9) k' ∧ True) ?_ hQ ?_
  · intro Q712 hQQ712 hp713
    refine regionS (a0 := a) (k0 := k) (n := 96) (m := 4) (⟨some (IsPtr m_.Kind), [(3, none)]⟩ :: ⟨some (IsV m_.Kind), [(36, some 0)]⟩ :: ⟨some (IsV (m_.Kind == 1)), [(37, some 1)]⟩ :: ⟨some (IsV (m_.Kind == 1)), [(38, some 2)]⟩ :: []) hs (by kernel_rfl) ⟨ob1 rfl fun b q hk hn => ok_fieldAddr rfl fo33_0 (at_Move_0 _) ((up i3 hk hn.1)).ptr, ob1 rfl fun b q hk hn => ok_load rfl ty3 hn.1, ob1 rfl fun b q hk hn => ok_eqI rfl hn.1 (isV_int.2 rfl), ob1 rfl fun b q hk hn => ok_assign rfl hn.1, trivial⟩ hQQ712 fun b q p => ?_
    exact tail_done (k := q) (hp713 _ _ ⟨Bs.post ⟨hg, hs, hd⟩ p, keep p 3 rfl i3, (p.old 6 rfl).trans q6, keep p 6 rfl i6, (by rw [p.old 6 rfl]; exact n6), keep p 7 rfl i7, keep p 8 rfl i8, out p 3 9 _ rfl rfl rfl, trivial⟩)
  rintro a k ⟨⟨hg, hs, hd⟩, i3, q6, i6, n6, i7, i8, i9, _⟩
  refine wp_seq ?_
  refine wp_block ?_
  refine wp_seq ?_
  refine wp_seq ?_
  refine cut (fun a' k' => Bs noF k0 96 a' k' ∧ (IsRef m_) (a'.get 3) k' ∧ a'.get 6 = u656 ∧ IsOwn 0 35 x651_1 (a'.get 6) k' ∧ Lo k0 (obF (a'.get 6)) ∧ (IsEP u656 (Enc.sz Account) x657_3) (a'.get 7) k' ∧ (IsEP u656 (Enc.sz Account) x657_7) (a'.get 8) k' ∧ (IsV (m_.Kind == 1)) (a'.get 9) k' ∧ (IsV (x657_3.isNone)) (a'.get 39) k' ∧ True) ?_ hQ ?_
  · intro Q710 hQQ710 hp711
    refine regionS (a0 := a) (k0 := k) (n := 96) (m := 3) (⟨some (IsEP u656 (Enc.sz Account) x657_3), [(7, none)]⟩ :: ⟨some (IsV (x657_3.isNone)), [(40, some 0)]⟩ :: ⟨some (IsV (x657_3.isNone)), [(41, some 1)]⟩ :: []) hs (by kernel_rfl) ⟨ob1 rfl fun b q hk hn => ok_move rfl (up i7 hk hn.1), ob1 rfl fun b q hk hn => ok_eqEP rfl Try.underlying52 hn.1, ob1 rfl fun b q hk hn => ok_assign rfl hn.1, trivial⟩ hQQ710 fun b q p => ?_
    exact tail_done (k := q) (hp711 _ _ ⟨Bs.post ⟨hg, hs, hd⟩ p, keep p 3 rfl i3, (p.old 6 rfl).trans q6, keep p 6 rfl i6, (by rw [p.old 6 rfl]; exact n6), keep p 7 rfl i7, keep p 8 rfl i8, keep p 9 rfl i9, out p 2 39 _ rfl rfl rfl, trivial⟩)
  rintro a k ⟨⟨hg, hs, hd⟩, i3, q6, i6, n6, i7, i8, i9, i39, _⟩
  obtain ⟨s660, hs660, hr⟩ := bind_some hr
  refine cut (fun a' k' => Bs noF k0 96 a' k' ∧ (IsRef m_) (a'.get 3) k' ∧ a'.get 6 = u656 ∧ IsOwn 0 35 x651_1 (a'.get 6) k' ∧ Lo k0 (obF (a'.get 6)) ∧ (IsEP u656 (Enc.sz Account) x657_3) (a'.get 7) k' ∧ (IsEP u656 (Enc.sz Account) x657_7) (a'.get 8) k' ∧ (IsV (m_.Kind == 1)) (a'.get 9) k' ∧ (IsV s660) (a'.get 39) k' ∧ True) ?_ hQ ?_
  · intro Q709 hQQ709 hp661
    replace hr := hs660
    clear hQ
    have hQ := hQQ709
    refine wp_cond_split (isBool i39) (fun hc665 => ?_) (fun hc665 => ?_)
    · rw [if_pos hc665] at hr
      refine wp_skip ?_
      obtain rfl := Option.some.inj hr
      exact hp661 _ _ ⟨⟨hg, hs, hd⟩, i3, q6, i6, n6, i7, i8, i9, i39, trivial⟩
    rw [if_neg (by rw [hc665]; decide)] at hr
    refine cut (fun a' k' => Bs noF k0 96 a' k' ∧ (IsRef m_) (a'.get 3) k' ∧ a'.get 6 = u656 ∧ IsOwn 0 35 x651_1 (a'.get 6) k' ∧ Lo k0 (obF (a'.get 6)) ∧ (IsEP u656 (Enc.sz Account) x657_3) (a'.get 7) k' ∧ (IsEP u656 (Enc.sz Account) x657_7) (a'.get 8) k' ∧ (IsV (m_.Kind == 1)) (a'.get 9) k' ∧ (IsV ((m_.Kind == 1) && (x657_7.isNone))) (a'.get 39) k' ∧ True) ?_ hQ ?_
    · intro Q663 hQQ663 hp664
      refine regionS (a0 := a) (k0 := k) (n := 96) (m := 6) (⟨some (IsV (m_.Kind == 1)), [(9, none)]⟩ :: ⟨some (IsV (m_.Kind == 1)), [(42, some 0)]⟩ :: ⟨some (Gd ((m_.Kind == 1) = true) (IsEP u656 (Enc.sz Account) x657_7)), [(8, none)]⟩ :: ⟨some (Gd ((m_.Kind == 1) = true) (IsV (x657_7.isNone))), [(44, some 2)]⟩ :: ⟨some (IsV ((m_.Kind == 1) && (x657_7.isNone))), [(43, some 1), (45, some 3)]⟩ :: ⟨some (IsV ((m_.Kind == 1) && (x657_7.isNone))), [(46, some 4)]⟩ :: []) hs (by kernel_rfl) ⟨ob1 rfl fun b q hk hn => ok_move rfl (up i9 hk hn.1), ob1 rfl fun b q hk hn => ok_move rfl hn.1, gdT rfl rfl fun hp b q hk hn => ok_move rfl (up i8 hk hn.1), gdT rfl rfl fun hp b q hk hn => ok_eqEP rfl Try.underlying52 (Gd.get hn.1 hp), ob1 rfl fun b q hk hn => ok_pickAnd rfl hn.1 (fun hm => (Gd.get hn.2.1 hm)) (fun _ => (isV_bool.2 rfl)), ob1 rfl fun b q hk hn => ok_assign rfl hn.1, trivial⟩ hQQ663 fun b q p => ?_
      exact tail_done (k := q) (hp664 _ _ ⟨Bs.post ⟨hg, hs, hd⟩ p, keep p 3 rfl i3, (p.old 6 rfl).trans q6, keep p 6 rfl i6, (by rw [p.old 6 rfl]; exact n6), keep p 7 rfl i7, keep p 8 rfl i8, keep p 9 rfl i9, out p 5 39 _ rfl rfl rfl, trivial⟩)
    rintro a k ⟨⟨hg, hs, hd⟩, i3, q6, i6, n6, i7, i8, i9, i39, _⟩
    obtain rfl := Option.some.inj hr
    exact hp661 _ _ ⟨⟨hg, hs, hd⟩, i3, q6, i6, n6, i7, i8, i9, i39, trivial⟩
  clear hs660
  rintro a k ⟨⟨hg, hs, hd⟩, i3, q6, i6, n6, i7, i8, i9, i39, _⟩
  refine wp_cond_split (isBool i39) (fun hc708 => ?_) (fun hc708 => ?_)
  · rw [if_pos hc708] at hr
    refine wp_seq ?_
    refine cut (fun a' k' => Bs noF k0 96 a' k' ∧ (IsV ([] : List Account)) (a'.get 4) k' ∧ (IsV (α := Int) 4) (a'.get 5) k' ∧ True) ?_ hQ ?_
    · intro Q667 hQQ667 hp668
      refine regionS (a0 := a) (k0 := k) (n := 96) (m := 2) (⟨some IsE0, []⟩ :: ⟨some (IsV (α := Int) 4), []⟩ :: []) hs (by kernel_rfl) ⟨ob1 rfl fun b q hk hn => ok_assign rfl isE0_nil, ob1 rfl fun b q hk hn => ok_assign rfl (isV_int.2 rfl), trivial⟩ hQQ667 fun b q p => ?_
      have hgq := hg.then p.grow
      have hsb := p.size.trans hs
      have hdb := p.defers.trans hd
      have j4 : IsE0 (b.get 4) q := out p 0 4 _ rfl rfl rfl
      have j5 : (IsV (α := Int) 4) (b.get 5) q := out p 1 5 _ rfl rfl rfl
      replace j4 : IsV ([] : List Account) (b.get 4) q := j4.isV
      exact tail_done (k := q) (hp668 _ _ ⟨⟨hgq, hsb, hdb⟩, j4, j5, trivial⟩)
    rintro a k ⟨⟨hg, hs, hd⟩, i4, i5, _⟩
    refine wp_ret ?_
    obtain rfl := Option.some.inj hr
    exact retC2 rfl hd hg i4 i5
  rw [if_neg (by rw [hc708]; decide)] at hr
  refine wp_seq ?_
  obtain ⟨x669_7, hx669_7, hr⟩ := bind_some hr
  obtain ⟨x669_3, hx669_3, hx669_7⟩ := ite_bind hx669_7
  refine cut (fun a' k' => Bs noF k0 96 a' k' ∧ (IsRef m_) (a'.get 3) k' ∧ a'.get 6 = u656 ∧ IsOwn 0 35 x651_1 (a'.get 6) k' ∧ Lo k0 (obF (a'.get 6)) ∧ (IsEP u656 (Enc.sz Account) x657_3) (a'.get 7) k' ∧ (IsEP u656 (Enc.sz Account) x657_7) (a'.get 8) k' ∧ (IsV (m_.Kind == 1)) (a'.get 9) k' ∧ (IsV x669_7) (a'.get 47) k' ∧ True) ?_ hQ ?_
  · intro Q706 hQQ706 hp707
    refine regionS (a0 := a) (k0 := k) (n := 96) (m := 9) (⟨some (IsV (m_.Kind == 1)), [(9, none)]⟩ :: ⟨some (IsV (m_.Kind == 1)), [(48, some 0)]⟩ :: ⟨some (Gd ((m_.Kind == 1) = true) (IsEP u656 (Enc.sz Account) x657_7)), [(8, none)]⟩ :: ⟨some (Gd ((m_.Kind == 1) = true) (IsPtr x669_3)), [(50, some 2)]⟩ :: ⟨some (Gd ((m_.Kind == 1) = true) (IsPtr x669_3.Receives)), [(51, some 3)]⟩ :: ⟨some (Gd ((m_.Kind == 1) = true) (IsV x669_3.Receives)), [(52, some 4)]⟩ :: ⟨some (Gd ((m_.Kind == 1) = true) (IsV (!x669_3.Receives))), [(53, some 5)]⟩ :: ⟨some (IsV x669_7), [(49, some 1), (54, some 6)]⟩ :: ⟨some (IsV x669_7), [(55, some 7)]⟩ :: []) hs (by kernel_rfl) ⟨ob1 rfl fun b q hk hn => ok_move rfl (up i9 hk hn.1), ob1 rfl fun b q hk hn => ok_move rfl hn.1, gdT rfl rfl fun hp b q hk hn => ok_move rfl (up i8 hk hn.1), gdT rfl rfl fun hp b q hk hn => ok_nilCheckP rfl (Gd.get hn.1 hp) (rdO i6 hk q6) (hx669_3 hp), gdT rfl rfl fun hp b q hk hn => ok_fieldAddr rfl fo35_2 (at_Account_2 _) (Gd.get hn.1 hp), gdT rfl rfl fun hp b q hk hn => ok_load rfl ty4 (Gd.get hn.1 hp), gdT rfl rfl fun hp b q hk hn => ok_not rfl (Gd.get hn.1 hp), ob1 rfl fun b q hk hn => ok_pickM rfl hn.1 hx669_7 (fun hm => (Gd.get hn.2.1 hm)) (fun _ => (isV_bool.2 rfl)), ob1 rfl fun b q hk hn => ok_assign rfl hn.1, trivial⟩ hQQ706 fun b q p => ?_
    exact tail_done (k := q) (hp707 _ _ ⟨Bs.post ⟨hg, hs, hd⟩ p, keep p 3 rfl i3, (p.old 6 rfl).trans q6, keep p 6 rfl i6, (by rw [p.old 6 rfl]; exact n6), keep p 7 rfl i7, keep p 8 rfl i8, keep p 9 rfl i9, out p 8 47 _ rfl rfl rfl, trivial⟩)
  rintro a k ⟨⟨hg, hs, hd⟩, i3, q6, i6, n6, i7, i8, i9, i47, _⟩
  refine wp_cond_split (isBool i47) (fun hc705 => ?_) (fun hc705 => ?_)
  · rw [if_pos hc705] at hr
    refine wp_seq ?_
    refine cut (fun a' k' => Bs noF k0 96 a' k' ∧ (IsV ([] : List Account)) (a'.get 4) k' ∧ (IsV (α := Int) 24) (a'.get 5) k' ∧ True) ?_ hQ ?_
    · intro Q671 hQQ671 hp672
      refine regionS (a0 := a) (k0 := k) (n := 96) (m := 2) (⟨some IsE0, []⟩ :: ⟨some (IsV (α := Int) 24), []⟩ :: []) hs (by kernel_rfl) ⟨ob1 rfl fun b q hk hn => ok_assign rfl isE0_nil, ob1 rfl fun b q hk hn => ok_assign rfl (isV_int.2 rfl), trivial⟩ hQQ671 fun b q p => ?_
      have hgq := hg.then p.grow
      have hsb := p.size.trans hs
      have hdb := p.defers.trans hd
      have j4 : IsE0 (b.get 4) q := out p 0 4 _ rfl rfl rfl
      have j5 : (IsV (α := Int) 24) (b.get 5) q := out p 1 5 _ rfl rfl rfl
      replace j4 : IsV ([] : List Account) (b.get 4) q := j4.isV
      exact tail_done (k := q) (hp672 _ _ ⟨⟨hgq, hsb, hdb⟩, j4, j5, trivial⟩)
    rintro a k ⟨⟨hg, hs, hd⟩, i4, i5, _⟩
    refine wp_ret ?_
    obtain rfl := Option.some.inj hr
    exact retC2 rfl hd hg i4 i5
  rw [if_neg (by rw [hc705]; decide)] at hr
  refine wp_seq ?_
  obtain ⟨x673_1, hx673_1, hr⟩ := bind_some hr
  refine cut (fun a' k' => Bs noF k0 96 a' k' ∧ (IsRef m_) (a'.get 3) k' ∧ a'.get 6 = u656 ∧ IsOwn 0 35 x651_1 (a'.get 6) k' ∧ Lo k0 (obF (a'.get 6)) ∧ (IsEP u656 (Enc.sz Account) x657_3) (a'.get 7) k' ∧ (IsEP u656 (Enc.sz Account) x657_7) (a'.get 8) k' ∧ (IsV (m_.Kind == 1)) (a'.get 9) k' ∧ (IsV (decide (x673_1.Units < m_.N))) (a'.get 56) k' ∧ True) ?_ hQ ?_
  · intro Q703 hQQ703 hp704
    refine region (a0 := a) (k0 := k) (n := 96) (m := 8) (⟨some (IsEP u656 (Enc.sz Account) x657_3), [(7, none)]⟩ :: ⟨some (IsPtr x673_1), [(57, some 0)]⟩ :: ⟨some (IsPtr x673_1.Units), [(58, some 1)]⟩ :: ⟨some (IsV x673_1.Units), [(59, some 2)]⟩ :: ⟨some (IsPtr m_.N), [(3, none)]⟩ :: ⟨some (IsV m_.N), [(61, some 4)]⟩ :: ⟨some (IsV (decide (x673_1.Units < m_.N))), [(60, some 3), (62, some 5)]⟩ :: ⟨some (IsV (decide (x673_1.Units < m_.N))), [(63, some 6)]⟩ :: []) hmix hs (by kernel_rfl) ⟨ob1 rfl fun b q hk hn => ok_move rfl (up i7 hk hn.1), ob1 rfl fun b q hk hn => ok_nilCheckP rfl hn.1 (rdO i6 hk q6) hx673_1, ob1 rfl fun b q hk hn => ok_fieldAddr rfl fo35_1 (at_Account_1 _) hn.1, ob1 rfl fun b q hk hn => ok_load rfl ty3 hn.1, ob1 rfl fun b q hk hn => ok_fieldAddr rfl fo33_3 (at_Move_3 _) ((up i3 hk hn.1)).ptr, ob1 rfl fun b q hk hn => ok_load rfl ty3 hn.1, ob1 rfl fun b q hk hn => ok_lss rfl hn.1 hn.2.1, ob1 rfl fun b q hk hn => ok_assign rfl hn.1, trivial⟩ hQQ703 fun b q p => ?_
    exact tail_done (k := q) (hp704 _ _ ⟨Bs.post ⟨hg, hs, hd⟩ p, keep p 3 rfl i3, (p.old 6 rfl).trans q6, keep p 6 rfl i6, (by rw [p.old 6 rfl]; exact n6), keep p 7 rfl i7, keep p 8 rfl i8, keep p 9 rfl i9, out p 7 56 _ rfl rfl rfl, trivial⟩)
  rintro a k ⟨⟨hg, hs, hd⟩, i3, q6, i6, n6, i7, i8, i9, i56, _⟩
  refine wp_cond_split (isBool i56) (fun hc702 => ?_) (fun hc702 => ?_)
  · rw [if_pos hc702] at hr
    refine wp_seq ?_
    refine cut (fun a' k' => Bs noF k0 96 a' k' ∧ (IsV ([] : List Account)) (a'.get 4) k' ∧ (IsV (α := Int) 23) (a'.get 5) k' ∧ True) ?_ hQ ?_
    · intro Q675 hQQ675 hp676
      refine regionS (a0 := a) (k0 := k) (n := 96) (m := 2) (⟨some IsE0, []⟩ :: ⟨some (IsV (α := Int) 23), []⟩ :: []) hs (by kernel_rfl) ⟨ob1 rfl fun b q hk hn => ok_assign rfl isE0_nil, ob1 rfl fun b q hk hn => ok_assign rfl (isV_int.2 rfl), trivial⟩ hQQ675 fun b q p => ?_
      have hgq := hg.then p.grow
      have hsb := p.size.trans hs
      have hdb := p.defers.trans hd
      have j4 : IsE0 (b.get 4) q := out p 0 4 _ rfl rfl rfl
      have j5 : (IsV (α := Int) 23) (b.get 5) q := out p 1 5 _ rfl rfl rfl
      replace j4 : IsV ([] : List Account) (b.get 4) q := j4.isV
      exact tail_done (k := q) (hp676 _ _ ⟨⟨hgq, hsb, hdb⟩, j4, j5, trivial⟩)
    rintro a k ⟨⟨hg, hs, hd⟩, i4, i5, _⟩
    refine wp_ret ?_
    obtain rfl := Option.some.inj hr
    exact retC2 rfl hd hg i4 i5
  rw [if_neg (by rw [hc702]; decide)] at hr
  refine wp_seq ?_
  obtain ⟨x677_10, hx677_10, hr⟩ := bind_some hr
  obtain ⟨x677_3, hx677_3, hx677_10⟩ := ite_bind hx677_10
  obtain ⟨x677_8, hx677_8, hx677_10⟩ := ite_bind hx677_10
  refine cut (fun a' k' => Bs noF k0 96 a' k' ∧ (IsRef m_) (a'.get 3) k' ∧ a'.get 6 = u656 ∧ IsOwn 0 35 x651_1 (a'.get 6) k' ∧ Lo k0 (obF (a'.get 6)) ∧ (IsEP u656 (Enc.sz Account) x657_3) (a'.get 7) k' ∧ (IsEP u656 (Enc.sz Account) x657_7) (a'.get 8) k' ∧ (IsV (m_.Kind == 1)) (a'.get 9) k' ∧ (IsV x677_10) (a'.get 64) k' ∧ True) ?_ hQ ?_
  · intro Q700 hQQ700 hp701
    refine region (a0 := a) (k0 := k) (n := 96) (m := 12) (⟨some (IsV (m_.Kind == 1)), [(9, none)]⟩ :: ⟨some (IsV (m_.Kind == 1)), [(65, some 0)]⟩ :: ⟨some (Gd ((m_.Kind == 1) = true) (IsEP u656 (Enc.sz Account) x657_7)), [(8, none)]⟩ :: ⟨some (Gd ((m_.Kind == 1) = true) (IsPtr x677_3)), [(67, some 2)]⟩ :: ⟨some (Gd ((m_.Kind == 1) = true) (IsPtr x677_3.Units)), [(68, some 3)]⟩ :: ⟨some (Gd ((m_.Kind == 1) = true) (IsV x677_3.Units)), [(69, some 4)]⟩ :: ⟨some (Gd ((m_.Kind == 1) = true) (IsPtr m_.N)), [(3, none)]⟩ :: ⟨some (Gd ((m_.Kind == 1) = true) (IsV m_.N)), [(71, some 6)]⟩ :: ⟨some (Gd ((m_.Kind == 1) = true) (IsV x677_8)), [(70, some 5), (72, some 7)]⟩ :: ⟨some (Gd ((m_.Kind == 1) = true) (IsV (decide (1073741824 < x677_8)))), [(73, some 8)]⟩ :: ⟨some (IsV x677_10), [(66, some 1), (74, some 9)]⟩ :: ⟨some (IsV x677_10), [(75, some 10)]⟩ :: []) hmix hs (by kernel_rfl) ⟨ob1 rfl fun b q hk hn => ok_move rfl (up i9 hk hn.1), ob1 rfl fun b q hk hn => ok_move rfl hn.1, gdT rfl rfl fun hp b q hk hn => ok_move rfl (up i8 hk hn.1), gdT rfl rfl fun hp b q hk hn => ok_nilCheckP rfl (Gd.get hn.1 hp) (rdO i6 hk q6) (hx677_3 hp), gdT rfl rfl fun hp b q hk hn => ok_fieldAddr rfl fo35_1 (at_Account_1 _) (Gd.get hn.1 hp), gdT rfl rfl fun hp b q hk hn => ok_load rfl ty3 (Gd.get hn.1 hp), gdT rfl rfl fun hp b q hk hn => ok_fieldAddr rfl fo33_3 (at_Move_3 _) ((up i3 hk hn.1)).ptr, gdT rfl rfl fun hp b q hk hn => ok_load rfl ty3 (Gd.get hn.1 hp), gdT rfl rfl fun hp b q hk hn => ok_add rfl (Gd.get hn.1 hp) (Gd.get hn.2.1 hp) (hx677_8 hp), gdT rfl rfl fun hp b q hk hn => ok_gtr rfl (Gd.get hn.1 hp) (isV_int.2 rfl), ob1 rfl fun b q hk hn => ok_pickM rfl hn.1 hx677_10 (fun hm => (Gd.get hn.2.1 hm)) (fun _ => (isV_bool.2 rfl)), ob1 rfl fun b q hk hn => ok_assign rfl hn.1, trivial⟩ hQQ700 fun b q p => ?_
    exact tail_done (k := q) (hp701 _ _ ⟨Bs.post ⟨hg, hs, hd⟩ p, keep p 3 rfl i3, (p.old 6 rfl).trans q6, keep p 6 rfl i6, (by rw [p.old 6 rfl]; exact n6), keep p 7 rfl i7, keep p 8 rfl i8, keep p 9 rfl i9, out p 11 64 _ rfl rfl rfl, trivial⟩)
  rintro a k ⟨⟨hg, hs, hd⟩, i3, q6, i6, n6, i7, i8, i9, i64, _⟩
  refine wp_cond_split (isBool i64) (fun hc699 => ?_) (fun hc699 => ?_)
  · rw [if_pos hc699] at hr
    refine wp_seq ?_
    refine cut (fun a' k' => Bs noF k0 96 a' k' ∧ (IsV ([] : List Account)) (a'.get 4) k' ∧ (IsV (α := Int) 6) (a'.get 5) k' ∧ True) ?_ hQ ?_
    · intro Q679 hQQ679 hp680
      refine regionS (a0 := a) (k0 := k) (n := 96) (m := 2) (⟨some IsE0, []⟩ :: ⟨some (IsV (α := Int) 6), []⟩ :: []) hs (by kernel_rfl) ⟨ob1 rfl fun b q hk hn => ok_assign rfl isE0_nil, ob1 rfl fun b q hk hn => ok_assign rfl (isV_int.2 rfl), trivial⟩ hQQ679 fun b q p => ?_
      have hgq := hg.then p.grow
      have hsb := p.size.trans hs
      have hdb := p.defers.trans hd
      have j4 : IsE0 (b.get 4) q := out p 0 4 _ rfl rfl rfl
      have j5 : (IsV (α := Int) 6) (b.get 5) q := out p 1 5 _ rfl rfl rfl
      replace j4 : IsV ([] : List Account) (b.get 4) q := j4.isV
      exact tail_done (k := q) (hp680 _ _ ⟨⟨hgq, hsb, hdb⟩, j4, j5, trivial⟩)
    rintro a k ⟨⟨hg, hs, hd⟩, i4, i5, _⟩
    refine wp_ret ?_
    obtain rfl := Option.some.inj hr
    exact retC2 rfl hd hg i4 i5
  rw [if_neg (by rw [hc699]; decide)] at hr
  refine wp_skip ?_
  refine wp_seq ?_
  obtain ⟨x681_1, hx681_1, hr⟩ := bind_some hr
  obtain ⟨x681_6, hx681_6, hr⟩ := bind_some hr
  obtain ⟨x681_7, hx681_7, hr⟩ := bind_some hr
  obtain ⟨x681_9, hx681_9, hr⟩ := bind_some hr
  refine cut (fun a' k' => Bs noF k0 96 a' k' ∧ (IsRef m_) (a'.get 3) k' ∧ a'.get 6 = u656 ∧ IsOwn 0 35 x681_9 (a'.get 6) k' ∧ Lo k0 (obF (a'.get 6)) ∧ (IsEP u656 (Enc.sz Account) x657_7) (a'.get 8) k' ∧ (IsV (m_.Kind == 1)) (a'.get 9) k' ∧ True) ?_ hQ ?_
  · intro Q697 hQQ697 hp698
    refine region (a0 := a) (k0 := k) (n := 96) (m := 9) (⟨some (IsEP u656 (Enc.sz Account) x657_3), [(7, none)]⟩ :: ⟨some (IsPtr x681_1), [(76, some 0)]⟩ :: ⟨some (IsPtr x681_1.Units), [(77, some 1)]⟩ :: ⟨some (IsV x681_1.Units), [(78, some 2)]⟩ :: ⟨some (IsPtr m_.N), [(3, none)]⟩ :: ⟨some (IsV m_.N), [(80, some 4)]⟩ :: ⟨some (IsV x681_6), [(79, some 3), (81, some 5)]⟩ :: ⟨some (IsAdrO (a.get 6) (((x657_3.getD 0)).toNat * Enc.sz Account)), [(76, some 0)]⟩ :: ⟨some (IsAdrO (a.get 6) (((x657_3.getD 0)).toNat * Enc.sz Account + 1)), [(83, some 7)]⟩ :: []) hmix hs (by kernel_rfl) ⟨ob1 rfl fun b q hk hn => ok_move rfl (up i7 hk hn.1), ob1 rfl fun b q hk hn => ok_nilCheckP rfl hn.1 (rdO i6 hk q6) hx681_1, ob1 rfl fun b q hk hn => ok_fieldAddr rfl fo35_1 (at_Account_1 _) hn.1, ob1 rfl fun b q hk hn => ok_load rfl ty3 hn.1, ob1 rfl fun b q hk hn => ok_fieldAddr rfl fo33_3 (at_Move_3 _) ((up i3 hk hn.1)).ptr, ob1 rfl fun b q hk hn => ok_load rfl ty3 hn.1, ob1 rfl fun b q hk hn => ok_sub rfl hn.1 hn.2.1 hx681_6, ob1 rfl fun b q hk hn => ok_nilCheckO rfl (by rw [q6]; exact hn.1) (atI_spec hx681_7).1, ob1 rfl fun b q hk hn => ok_fieldAdrO rfl fo35_1 hn.1, trivial⟩ hQQ697 fun b q p => ?_
    have hgq := hg.then p.grow
    have hsb := p.size.trans hs
    have hdb := p.defers.trans hd
    have j3 := keep p 3 rfl i3
    have j6 := keep p 6 rfl i6
    have y6 : Lo k0 (obF (b.get 6)) := by rw [p.old 6 rfl]; exact n6
    have j8 := keep p 8 rfl i8
    have j9 := keep p 9 rfl i9
    have j82 : (IsV x681_6) (b.get 82) q := out p 6 82 _ rfl rfl rfl
    have j84 : IsAdrO (a.get 6) (((x657_3.getD 0)).toNat * Enc.sz Account + 1) (b.get 84) q := out p 8 84 _ rfl rfl rfl
    have qb6 := (p.old 6 rfl).trans q6
    have eo : b.get 6 = a.get 6 := p.old 6 rfl
    have hns := j6.nshF
    refine tail_storeS (i := 9) (u := b.get 6) (m := ((x657_3.getD 0)).toNat) (off := 0 + 1) rfl rfl rfl rfl szf3 upd_F35_1 (by rw [eo]; exact j84) j6 (getI_spec (atI_spec hx681_7).2).2.1 j82 fun q2 hch hz => ?_
    replace hgq := hgq.step hch y6.wr
    have hle := hch.le hns
    replace j3 := Pers.pers hle j3
    replace j8 := Pers.pers hle j8
    replace j9 := Pers.pers hle j9
    replace j82 := Pers.pers hle j82
    replace j84 := Pers.pers hle j84
    replace j6 := hz
    rw [Option.some.inj hx681_9] at j6
    clear hns hle hch eo hz
    obtain ⟨q, hqq⟩ : ∃ q, q = q2 := ⟨q2, rfl⟩
    subst hqq
    exact tail_done (k := q) (hp698 _ _ ⟨⟨hgq, hsb, hdb⟩, j3, qb6, j6, y6, j8, j9, trivial⟩)
  rintro a k ⟨⟨hg, hs, hd⟩, i3, q6, i6, n6, i8, i9, _⟩
  refine wp_seq ?_
  refine wp_seq ?_
  refine cut (fun a' k' => Bs noF k0 96 a' k' ∧ (IsRef m_) (a'.get 3) k' ∧ a'.get 6 = u656 ∧ IsOwn 0 35 x681_9 (a'.get 6) k' ∧ Lo k0 (obF (a'.get 6)) ∧ (IsEP u656 (Enc.sz Account) x657_7) (a'.get 8) k' ∧ (IsV (m_.Kind == 1)) (a'.get 85) k' ∧ True) ?_ hQ ?_
  · intro Q695 hQQ695 hp696
    refine regionS (a0 := a) (k0 := k) (n := 96) (m := 1) (⟨some (IsV (m_.Kind == 1)), [(9, none)]⟩ :: []) hs (by kernel_rfl) ⟨ob1 rfl fun b q hk hn => ok_move rfl (up i9 hk hn.1), trivial⟩ hQQ695 fun b q p => ?_
    exact tail_done (k := q) (hp696 _ _ ⟨Bs.post ⟨hg, hs, hd⟩ p, keep p 3 rfl i3, (p.old 6 rfl).trans q6, keep p 6 rfl i6, (by rw [p.old 6 rfl]; exact n6), keep p 8 rfl i8, out p 0 85 _ rfl rfl rfl, trivial⟩)
  rintro a k ⟨⟨hg, hs, hd⟩, i3, q6, i6, n6, i8, i85, _⟩
  obtain ⟨s683, hs683, hr⟩ := bind_some hr
  refine cut (fun a' k' => Bs noF k0 96 a' k' ∧ a'.get 6 = u656 ∧ (IsV s683) (a'.get 6) k' ∧ True) ?_ hQ ?_
  · intro Q694 hQQ694 hp684
    replace hr := hs683
    clear hQ
    have hQ := hQQ694
    refine wp_cond_split (isBool i85) (fun hc690 => ?_) (fun hc690 => ?_)
    · rw [if_pos hc690] at hr
      obtain ⟨x685_1, hx685_1, hr⟩ := bind_some hr
      obtain ⟨x685_6, hx685_6, hr⟩ := bind_some hr
      obtain ⟨x685_7, hx685_7, hr⟩ := bind_some hr
      obtain ⟨x685_9, hx685_9, hr⟩ := bind_some hr
      refine cut (fun a' k' => Bs noF k0 96 a' k' ∧ a'.get 6 = u656 ∧ IsOwn 0 35 x685_9 (a'.get 6) k' ∧ Lo k0 (obF (a'.get 6)) ∧ True) ?_ hQ ?_
      · intro Q687 hQQ687 hp688
        refine region (a0 := a) (k0 := k) (n := 96) (m := 9) (⟨some (IsEP u656 (Enc.sz Account) x657_7), [(8, none)]⟩ :: ⟨some (IsPtr x685_1), [(86, some 0)]⟩ :: ⟨some (IsPtr x685_1.Units), [(87, some 1)]⟩ :: ⟨some (IsV x685_1.Units), [(88, some 2)]⟩ :: ⟨some (IsPtr m_.N), [(3, none)]⟩ :: ⟨some (IsV m_.N), [(90, some 4)]⟩ :: ⟨some (IsV x685_6), [(89, some 3), (91, some 5)]⟩ :: ⟨some (IsAdrO (a.get 6) (((x657_7.getD 0)).toNat * Enc.sz Account)), [(86, some 0)]⟩ :: ⟨some (IsAdrO (a.get 6) (((x657_7.getD 0)).toNat * Enc.sz Account + 1)), [(93, some 7)]⟩ :: []) hmix hs (by kernel_rfl) ⟨ob1 rfl fun b q hk hn => ok_move rfl (up i8 hk hn.1), ob1 rfl fun b q hk hn => ok_nilCheckP rfl hn.1 (rdO i6 hk q6) hx685_1, ob1 rfl fun b q hk hn => ok_fieldAddr rfl fo35_1 (at_Account_1 _) hn.1, ob1 rfl fun b q hk hn => ok_load rfl ty3 hn.1, ob1 rfl fun b q hk hn => ok_fieldAddr rfl fo33_3 (at_Move_3 _) ((up i3 hk hn.1)).ptr, ob1 rfl fun b q hk hn => ok_load rfl ty3 hn.1, ob1 rfl fun b q hk hn => ok_add rfl hn.1 hn.2.1 hx685_6, ob1 rfl fun b q hk hn => ok_nilCheckO rfl (by rw [q6]; exact hn.1) (atI_spec hx685_7).1, ob1 rfl fun b q hk hn => ok_fieldAdrO rfl fo35_1 hn.1, trivial⟩ hQQ687 fun b q p => ?_
        have hgq := hg.then p.grow
        have hsb := p.size.trans hs
        have hdb := p.defers.trans hd
        have j6 := keep p 6 rfl i6
        have y6 : Lo k0 (obF (b.get 6)) := by rw [p.old 6 rfl]; exact n6
        have j92 : (IsV x685_6) (b.get 92) q := out p 6 92 _ rfl rfl rfl
        have j94 : IsAdrO (a.get 6) (((x657_7.getD 0)).toNat * Enc.sz Account + 1) (b.get 94) q := out p 8 94 _ rfl rfl rfl
        have qb6 := (p.old 6 rfl).trans q6
        have eo : b.get 6 = a.get 6 := p.old 6 rfl
        have hns := j6.nshF
        refine tail_storeS (i := 9) (u := b.get 6) (m := ((x657_7.getD 0)).toNat) (off := 0 + 1) rfl rfl rfl rfl szf3 upd_F35_1 (by rw [eo]; exact j94) j6 (getI_spec (atI_spec hx685_7).2).2.1 j92 fun q2 hch hz => ?_
        replace hgq := hgq.step hch y6.wr
        have hle := hch.le hns
        replace j92 := Pers.pers hle j92
        replace j94 := Pers.pers hle j94
        replace j6 := hz
        rw [Option.some.inj hx685_9] at j6
        clear hns hle hch eo hz
        obtain ⟨q, hqq⟩ : ∃ q, q = q2 := ⟨q2, rfl⟩
        subst hqq
        exact tail_done (k := q) (hp688 _ _ ⟨⟨hgq, hsb, hdb⟩, qb6, j6, y6, trivial⟩)
      rintro a k ⟨⟨hg, hs, hd⟩, q6, i6, n6, _⟩
      obtain ⟨kk, sh686, ii6⟩ := i6.give
      replace i6 := ii6
      replace hg := hg.hand sh686 n6.wr
      rw [← sh686.w]
      clear sh686
      obtain ⟨k, hkk⟩ : ∃ k, k = kk := ⟨kk, rfl⟩
      subst hkk
      obtain rfl := Option.some.inj hr
      exact hp684 _ _ ⟨⟨hg, hs, hd⟩, q6, i6, trivial⟩
    rw [if_neg (by rw [hc690]; decide)] at hr
    refine wp_skip ?_
    obtain ⟨kk, sh689, ii6⟩ := i6.give
    replace i6 := ii6
    replace hg := hg.hand sh689 n6.wr
    rw [← sh689.w]
    clear sh689
    obtain ⟨k, hkk⟩ : ∃ k, k = kk := ⟨kk, rfl⟩
    subst hkk
    obtain rfl := Option.some.inj hr
    exact hp684 _ _ ⟨⟨hg, hs, hd⟩, q6, i6, trivial⟩
  clear hs683
  rintro a k ⟨⟨hg, hs, hd⟩, q6, i6, _⟩
  refine wp_seq ?_
  refine cut (fun a' k' => Bs noF k0 96 a' k' ∧ (IsV s683) (a'.get 4) k' ∧ (IsV (α := Int) 0) (a'.get 5) k' ∧ True) ?_ hQ ?_
  · intro Q692 hQQ692 hp693
    refine regionS (a0 := a) (k0 := k) (n := 96) (m := 3) (⟨some (IsV s683), [(6, none)]⟩ :: ⟨some (IsV s683), [(95, some 0)]⟩ :: ⟨some (IsV (α := Int) 0), []⟩ :: []) hs (by kernel_rfl) ⟨ob1 rfl fun b q hk hn => ok_move rfl (up i6 hk hn.1), ob1 rfl fun b q hk hn => ok_assign rfl hn.1, ob1 rfl fun b q hk hn => ok_assign rfl (isV_int.2 rfl), trivial⟩ hQQ692 fun b q p => ?_
    exact tail_done (k := q) (hp693 _ _ ⟨Bs.post ⟨hg, hs, hd⟩ p, out p 1 4 _ rfl rfl rfl, out p 2 5 _ rfl rfl rfl, trivial⟩)
  rintro a k ⟨⟨hg, hs, hd⟩, i4, i5, _⟩
  refine wp_ret ?_
  obtain rfl := Option.some.inj hr
  exact retC2 rfl hd hg i4 i5
def cRun_L0 (moves : (List Move)) (s733 : (List Account) × Int) : Option (Flow ((List Account) × Int) ((List Account) × Int × Int)) :=
  if (decide (s733.2 < (moves.length : Int))) then
    (getI moves s733.2).bind fun x738_1 =>
    (cDo s733.1 x738_1).bind fun x739_2 =>
    if (x739_2.2 != 0) then
      some (.ret (s733.1, s733.2, x739_2.2))
    else
      (addI s733.2 1).bind fun x745_0 =>
      some (.go (x739_2.1, x745_0))
  else
    some (.ex 0 (s733.1, s733.2))
def cRun (l_ : (List Account)) (moves : (List Move)) : Option ((List Account) × Int × Int) :=
  (cRight l_).bind fun x727_1 =>
  if (!x727_1) then
    some (([] : List Account), 0, 1)
  else
    (clone l_).bind fun x731_1 =>
    (iterL (cRun_L0 moves) (moves.length + 1) (x731_1, 0)).bind fun f760 => match f760 with
      | .go _ => none
      | .ex _ s761 =>
        some (s761.1, (moves.length : Int), 0)
      | .ret r765 => some r765
theorem cRun_ok {k0 : K} {v0 v1 : Value} {l_ : (List Account)} {moves : (List Move)} {r : (List Account) × Int × Int} (i0 : (IsV l_) v0 k0) (i1 : (IsV moves) v1 k0) (hr : cRun l_ moves = some r) :
    Calls Try.prog 10 #[v0, v1] k0.w (Ret k0 (IsTup3 (IsV r.1) (IsV r.2.1) (IsV r.2.2))) := by
  unfold cRun at hr
  refine Ret.ofC ?_
  refine enterK Try.func10 rfl Try.ntmps10 (show 2 ≤ 40 by decide) fun a k hk0 hs hd ha => ?_
  obtain ⟨e0, e1, _⟩ := ha
  replace i0 : (IsV l_) (a.get 0) k := by rw [e0, hk0]; exact i0
  replace i1 : (IsV moves) (a.get 1) k := by rw [e1, hk0]; exact i1
  have hQ : Gb.LetsOut (bodyPost Try.prog Try.f10 (RetC noF k0 (IsTup3 (IsV r.1) (IsV r.2.1) (IsV r.2.2)))) := letsOutC
  have hg : Chg noF k0 k := by rw [hk0]; exact Chg.refl _ k0
  refine wp_seq ?_
  refine cut (fun a' k' => Bs noF k0 40 a' k' ∧ (IsV l_) (a'.get 0) k' ∧ (IsV moves) (a'.get 1) k' ∧ True) ?_ hQ ?_
  · intro Q774 hQQ774 hp775
    refine regionS (a0 := a) (k0 := k) (n := 40) (m := 3) (⟨some IsE0, []⟩ :: ⟨some (IsV (α := Int) 0), []⟩ :: ⟨some (IsV (α := Int) 0), []⟩ :: []) hs (by kernel_rfl) ⟨ob1 rfl fun b q hk hn => ok_assign rfl isE0_nil, ob1 rfl fun b q hk hn => ok_assign rfl (isV_int.2 rfl), ob1 rfl fun b q hk hn => ok_assign rfl (isV_int.2 rfl), trivial⟩ hQQ774 fun b q p => ?_
    exact tail_done (k := q) (hp775 _ _ ⟨Bs.post ⟨hg, hs, hd⟩ p, keep p 0 rfl i0, keep p 1 rfl i1, trivial⟩)
  rintro a k ⟨⟨hg, hs, hd⟩, i0, i1, _⟩
  refine wp_seq ?_
  refine wp_seq ?_
  obtain ⟨x727_1, hx727_1, hr⟩ := bind_some hr
  refine cut (fun a' k' => Bs noF k0 40 a' k' ∧ (IsV l_) (a'.get 0) k' ∧ (IsV moves) (a'.get 1) k' ∧ (IsV (!x727_1)) (a'.get 14) k' ∧ True) ?_ hQ ?_
  · intro Q772 hQQ772 hp773
    refine regionS (a0 := a) (k0 := k) (n := 40) (m := 3) (⟨some (IsV l_), [(0, none)]⟩ :: ⟨some (IsV x727_1), [(12, some 0)]⟩ :: ⟨some (IsV (!x727_1)), [(13, some 1)]⟩ :: []) hs (by kernel_rfl) ⟨ob1 rfl fun b q hk hn => ok_move rfl (up i0 hk hn.1), ob1 rfl fun b q hk hn => ok_call rfl Try.call17 (cRight_ok hn.1 hx727_1), ob1 rfl fun b q hk hn => ok_not rfl hn.1, trivial⟩ hQQ772 fun b q p => ?_
    exact tail_done (k := q) (hp773 _ _ ⟨Bs.post ⟨hg, hs, hd⟩ p, keep p 0 rfl i0, keep p 1 rfl i1, out p 2 14 _ rfl rfl rfl, trivial⟩)
  rintro a k ⟨⟨hg, hs, hd⟩, i0, i1, i14, _⟩
  refine wp_cond_split (isBool i14) (fun hc771 => ?_) (fun hc771 => ?_)
  · rw [if_pos hc771] at hr
    refine wp_seq ?_
    refine cut (fun a' k' => Bs noF k0 40 a' k' ∧ (IsV ([] : List Account)) (a'.get 4) k' ∧ (IsV (α := Int) 0) (a'.get 5) k' ∧ (IsV (α := Int) 1) (a'.get 6) k' ∧ True) ?_ hQ ?_
    · intro Q729 hQQ729 hp730
      refine regionS (a0 := a) (k0 := k) (n := 40) (m := 3) (⟨some IsE0, []⟩ :: ⟨some (IsV (α := Int) 0), []⟩ :: ⟨some (IsV (α := Int) 1), []⟩ :: []) hs (by kernel_rfl) ⟨ob1 rfl fun b q hk hn => ok_assign rfl isE0_nil, ob1 rfl fun b q hk hn => ok_assign rfl (isV_int.2 rfl), ob1 rfl fun b q hk hn => ok_assign rfl (isV_int.2 rfl), trivial⟩ hQQ729 fun b q p => ?_
      have hgq := hg.then p.grow
      have hsb := p.size.trans hs
      have hdb := p.defers.trans hd
      have j4 : IsE0 (b.get 4) q := out p 0 4 _ rfl rfl rfl
      have j5 : (IsV (α := Int) 0) (b.get 5) q := out p 1 5 _ rfl rfl rfl
      have j6 : (IsV (α := Int) 1) (b.get 6) q := out p 2 6 _ rfl rfl rfl
      replace j4 : IsV ([] : List Account) (b.get 4) q := j4.isV
      exact tail_done (k := q) (hp730 _ _ ⟨⟨hgq, hsb, hdb⟩, j4, j5, j6, trivial⟩)
    rintro a k ⟨⟨hg, hs, hd⟩, i4, i5, i6, _⟩
    refine wp_ret ?_
    obtain rfl := Option.some.inj hr
    exact retC3 rfl hd hg i4 i5 i6
  rw [if_neg (by rw [hc771]; decide)] at hr
  refine wp_skip ?_
  refine wp_seq ?_
  obtain ⟨x731_1, hx731_1, hr⟩ := bind_some hr
  refine cut (fun a' k' => Bs noF k0 40 a' k' ∧ (IsV moves) (a'.get 1) k' ∧ (IsV x731_1) (a'.get 7) k' ∧ True) ?_ hQ ?_
  · intro Q769 hQQ769 hp770
    refine regionS (a0 := a) (k0 := k) (n := 40) (m := 3) (⟨some (IsV l_), [(0, none)]⟩ :: ⟨some (IsV x731_1), [(15, some 0)]⟩ :: ⟨some (IsV x731_1), [(16, some 1)]⟩ :: []) hs (by kernel_rfl) ⟨ob1 rfl fun b q hk hn => ok_move rfl (up i0 hk hn.1), ob1 rfl fun b q hk hn => ok_call rfl Try.call25 (clone_ok hn.1 hx731_1), ob1 rfl fun b q hk hn => ok_assign rfl hn.1, trivial⟩ hQQ769 fun b q p => ?_
    exact tail_done (k := q) (hp770 _ _ ⟨Bs.post ⟨hg, hs, hd⟩ p, keep p 1 rfl i1, out p 2 7 _ rfl rfl rfl, trivial⟩)
  rintro a k ⟨⟨hg, hs, hd⟩, i1, i7, _⟩
  refine wp_seq ?_
  refine wp_seq ?_
  refine cut (fun a' k' => Bs noF k0 40 a' k' ∧ (IsV moves) (a'.get 1) k' ∧ (IsV x731_1) (a'.get 7) k' ∧ (IsV moves) (a'.get 17) k' ∧ (IsV (α := Int) (moves.length : Int)) (a'.get 18) k' ∧ (IsV (α := Int) 0) (a'.get 19) k' ∧ True) ?_ hQ ?_
  · intro Q767 hQQ767 hp768
    refine regionS (a0 := a) (k0 := k) (n := 40) (m := 3) (⟨some (IsV moves), [(1, none)]⟩ :: ⟨some (IsV (α := Int) (moves.length : Int)), [(17, some 0)]⟩ :: ⟨some (IsV (α := Int) 0), []⟩ :: []) hs (by kernel_rfl) ⟨ob1 rfl fun b q hk hn => ok_move rfl (up i1 hk hn.1), ob1 rfl fun b q hk hn => ok_len rfl rfl Try.underlying23 (IsV.rd hn.1), ob1 rfl fun b q hk hn => ok_move rfl (isV_int.2 rfl), trivial⟩ hQQ767 fun b q p => ?_
    exact tail_done (k := q) (hp768 _ _ ⟨Bs.post ⟨hg, hs, hd⟩ p, keep p 1 rfl i1, keep p 7 rfl i7, out p 0 17 _ rfl rfl rfl, out p 1 18 _ rfl rfl rfl, out p 2 19 _ rfl rfl rfl, trivial⟩)
  rintro a k ⟨⟨hg, hs, hd⟩, i1, i7, i17, i18, i19, _⟩
  refine wp_block ?_
  obtain ⟨f760, hf760, hr⟩ := bind_some hr
  refine cutFe f760 (fun s' a' k' => Bs noF k0 40 a' k' ∧ (IsV moves) (a'.get 1) k' ∧ (IsV s'.1) (a'.get 7) k' ∧ (IsV moves) (a'.get 17) k' ∧ (IsV (α := Int) (moves.length : Int)) (a'.get 18) k' ∧ (IsV s'.2) (a'.get 19) k' ∧ True) (fun i' s' a' k' => (i' = 0 ∧ Bs noF k0 40 a' k' ∧ (IsV moves) (a'.get 1) k' ∧ (IsV s'.1) (a'.get 7) k' ∧ True)) (fun r' a' k' => bodyPost Try.prog Try.f10 (RetC noF k0 (IsTup3 (IsV r'.1) (IsV r'.2.1) (IsV r'.2.2))) .ret a' k'.w) ?_ hQ ?_ ?_ ?_
  · intro Q766 hQQ766 hgo hex hret
    refine sim_loop ?_ _ _ _ _ _ hf760 ⟨⟨hg, hs, hd⟩, i1, i7, i17, i18, i19, trivial⟩ Q766 hQQ766 hgo hex hret
    clear hr hf760 hgo hex hret hQQ766 hQ hg hs hd i1 i17 i18 i19 i7
    intro s733 fl_ a k hr hS Q hQ hgo734 hex735 hret736
    obtain ⟨⟨hg, hs, hd⟩, i1, i7, i17, i18, i19, _⟩ := hS
    unfold cRun_L0 at hr
    refine wp_seq ?_
    refine cut (fun a' k' => Bs noF k0 40 a' k' ∧ (IsV moves) (a'.get 1) k' ∧ (IsV s733.1) (a'.get 7) k' ∧ (IsV moves) (a'.get 17) k' ∧ (IsV (α := Int) (moves.length : Int)) (a'.get 18) k' ∧ (IsV s733.2) (a'.get 19) k' ∧ (IsV (decide (s733.2 < (moves.length : Int)))) (a'.get 20) k' ∧ True) ?_ hQ ?_
    · intro Q758 hQQ758 hp759
      refine regionS (a0 := a) (k0 := k) (n := 40) (m := 1) (⟨some (IsV (decide (s733.2 < (moves.length : Int)))), [(19, none), (18, none)]⟩ :: []) hs (by kernel_rfl) ⟨ob1 rfl fun b q hk hn => ok_lss rfl (up i19 hk hn.1) (up i18 hk hn.2.1), trivial⟩ hQQ758 fun b q p => ?_
      exact tail_done (k := q) (hp759 _ _ ⟨Bs.post ⟨hg, hs, hd⟩ p, keep p 1 rfl i1, keep p 7 rfl i7, keep p 17 rfl i17, keep p 18 rfl i18, keep p 19 rfl i19, out p 0 20 _ rfl rfl rfl, trivial⟩)
    rintro a k ⟨⟨hg, hs, hd⟩, i1, i7, i17, i18, i19, i20, _⟩
    refine wp_seq ?_
    refine wp_cond_split (isBool i20) (fun hc757 => ?_) (fun hc757 => ?_)
    · rw [if_pos hc757] at hr
      refine wp_skip ?_
      refine wp_seq ?_
      refine wp_block ?_
      refine wp_seq ?_
      obtain ⟨x738_1, hx738_1, hr⟩ := bind_some hr
      refine cut (fun a' k' => Bs noF k0 40 a' k' ∧ (IsV moves) (a'.get 1) k' ∧ (IsV s733.1) (a'.get 7) k' ∧ (IsV s733.2) (a'.get 8) k' ∧ (IsRef x738_1) (a'.get 9) k' ∧ (IsV moves) (a'.get 17) k' ∧ (IsV (α := Int) (moves.length : Int)) (a'.get 18) k' ∧ (IsV s733.2) (a'.get 19) k' ∧ True) ?_ hQ ?_
      · intro Q755 hQQ755 hp756
        refine regionS (a0 := a) (k0 := k) (n := 40) (m := 5) (⟨some (IsV s733.2), [(19, none)]⟩ :: ⟨some (IsPtr x738_1), [(17, none), (19, none)]⟩ :: ⟨some (IsV x738_1), [(22, some 1)]⟩ :: ⟨some (IsBox k.w.heap.size (⟨0, 0, 0, 0⟩ : Move)), []⟩ :: ⟨some (IsV s733.2), [(21, some 0)]⟩ :: []) hs (by kernel_rfl) ⟨ob1 rfl fun b q hk hn => ok_move rfl (up i19 hk hn.1), ob1 rfl fun b q hk hn => ok_indexAddr rfl Try.underlying23 ty33 (IsV.rd (up i17 hk hn.1)) (up i19 hk hn.2.1) hx738_1, ob1 rfl fun b q hk hn => ok_load rfl ty33 hn.1, ob1 rfl fun b q hk hn => ok_alloc _ hk.size rfl z33, ob1 rfl fun b q hk hn => ok_assign rfl hn.1, trivial⟩ hQQ755 fun b q p => ?_
        have hgq := hg.then p.grow
        have hsb := p.size.trans hs
        have hdb := p.defers.trans hd
        have j1 := keep p 1 rfl i1
        have j7 := keep p 7 rfl i7
        have j8 : (IsV s733.2) (b.get 8) q := out p 4 8 _ rfl rfl rfl
        obtain ⟨b9, j9, x9, z9⟩ : (IsBox k.w.heap.size (⟨0, 0, 0, 0⟩ : Move)) (b.get 9) q := out p 3 9 _ rfl rfl rfl
        replace x9 : Lo k (Eq b9) := Lo.eq x9
        have y9 : Lo k0 (Eq b9) := x9.chg hg
        have j17 := keep p 17 rfl i17
        have j18 := keep p 18 rfl i18
        have j19 := keep p 19 rfl i19
        have j23 : (IsV x738_1) (b.get 23) q := out p 2 23 _ rfl rfl rfl
        have hns := z9.nshF
        refine tail_storeB (i := 5) rfl rfl rfl rfl szf33 (Upd.self (α := Move)) j9 z9 j23 fun q2 hch hz => ?_
        replace hgq := hgq.step hch y9.wr
        have hle := hch.le hns
        replace j1 := Pers.pers hle j1
        replace j7 := Pers.pers hle j7
        replace j8 := Pers.pers hle j8
        replace j17 := Pers.pers hle j17
        replace j18 := Pers.pers hle j18
        replace j19 := Pers.pers hle j19
        replace j23 := Pers.pers hle j23
        replace z9 := hz
        clear hns hle hch
        obtain ⟨q, hqq⟩ : ∃ q, q = q2 := ⟨q2, rfl⟩
        subst hqq
        obtain ⟨q2, hsh, jn⟩ := z9.give
        replace j1 := Pers.pers hsh.le j1
        replace j7 := Pers.pers hsh.le j7
        replace j8 := Pers.pers hsh.le j8
        replace j17 := Pers.pers hsh.le j17
        replace j18 := Pers.pers hsh.le j18
        replace j19 := Pers.pers hsh.le j19
        rw [← j9] at jn
        replace j9 := jn
        replace hgq := hgq.hand hsh y9.wr
        rw [← hsh.w]
        clear hsh
        obtain ⟨q, hqq⟩ : ∃ q, q = q2 := ⟨q2, rfl⟩
        subst hqq
        exact tail_done (k := q) (hp756 _ _ ⟨⟨hgq, hsb, hdb⟩, j1, j7, j8, j9, j17, j18, j19, trivial⟩)
      rintro a k ⟨⟨hg, hs, hd⟩, i1, i7, i8, i9, i17, i18, i19, _⟩
      refine wp_seq ?_
      obtain ⟨x739_2, hx739_2, hr⟩ := bind_some hr
      refine cut (fun a' k' => Bs noF k0 40 a' k' ∧ (IsV moves) (a'.get 1) k' ∧ (IsV s733.1) (a'.get 7) k' ∧ (IsV s733.2) (a'.get 8) k' ∧ (IsV x739_2.1) (a'.get 10) k' ∧ (IsV x739_2.2) (a'.get 11) k' ∧ (IsV moves) (a'.get 17) k' ∧ (IsV (α := Int) (moves.length : Int)) (a'.get 18) k' ∧ (IsV s733.2) (a'.get 19) k' ∧ True) ?_ hQ ?_
      · intro Q753 hQQ753 hp754
        refine regionS (a0 := a) (k0 := k) (n := 40) (m := 8) (⟨some (IsV s733.1), [(7, none)]⟩ :: ⟨some (IsV x738_1), [(9, none)]⟩ :: ⟨some (IsTup2 (IsV x739_2.1) (IsV x739_2.2)), [(25, some 0), (26, some 1)]⟩ :: ⟨some (IsTup2 (IsV x739_2.1) (IsV x739_2.2)), [(27, some 2)]⟩ :: ⟨some (IsV x739_2.1), [(24, some 3)]⟩ :: ⟨some (IsV x739_2.2), [(24, some 3)]⟩ :: ⟨some (IsV x739_2.1), [(28, some 4)]⟩ :: ⟨some (IsV x739_2.2), [(29, some 5)]⟩ :: []) hs (by kernel_rfl) ⟨ob1 rfl fun b q hk hn => ok_move rfl (up i7 hk hn.1), ob1 rfl fun b q hk hn => ok_load rfl ty33 ((up i9 hk hn.1)).ptr, ob1 rfl fun b q hk hn => ok_call rfl Try.call13 (cDo_ok hn.1 hn.2.1 hx739_2), ob1 rfl fun b q hk hn => ok_move rfl hn.1, ob1 rfl fun b q hk hn => ok_ext2_0 rfl hn.1, ob1 rfl fun b q hk hn => ok_ext2_1 rfl hn.1, ob1 rfl fun b q hk hn => ok_assign rfl hn.1, ob1 rfl fun b q hk hn => ok_assign rfl hn.1, trivial⟩ hQQ753 fun b q p => ?_
        exact tail_done (k := q) (hp754 _ _ ⟨Bs.post ⟨hg, hs, hd⟩ p, keep p 1 rfl i1, keep p 7 rfl i7, keep p 8 rfl i8, out p 6 10 _ rfl rfl rfl, out p 7 11 _ rfl rfl rfl, keep p 17 rfl i17, keep p 18 rfl i18, keep p 19 rfl i19, trivial⟩)
      rintro a k ⟨⟨hg, hs, hd⟩, i1, i7, i8, i10, i11, i17, i18, i19, _⟩
      refine wp_seq ?_
      refine wp_seq ?_
      refine cut (fun a' k' => Bs noF k0 40 a' k' ∧ (IsV moves) (a'.get 1) k' ∧ (IsV s733.1) (a'.get 7) k' ∧ (IsV s733.2) (a'.get 8) k' ∧ (IsV x739_2.1) (a'.get 10) k' ∧ (IsV x739_2.2) (a'.get 11) k' ∧ (IsV moves) (a'.get 17) k' ∧ (IsV (α := Int) (moves.length : Int)) (a'.get 18) k' ∧ (IsV s733.2) (a'.get 19) k' ∧ (IsV (x739_2.2 != 0)) (a'.get 31) k' ∧ True) ?_ hQ ?_
      · intro Q751 hQQ751 hp752
        refine regionS (a0 := a) (k0 := k) (n := 40) (m := 2) (⟨some (IsV x739_2.2), [(11, none)]⟩ :: ⟨some (IsV (x739_2.2 != 0)), [(30, some 0)]⟩ :: []) hs (by kernel_rfl) ⟨ob1 rfl fun b q hk hn => ok_move rfl (up i11 hk hn.1), ob1 rfl fun b q hk hn => ok_neI rfl hn.1 (isV_int.2 rfl), trivial⟩ hQQ751 fun b q p => ?_
        exact tail_done (k := q) (hp752 _ _ ⟨Bs.post ⟨hg, hs, hd⟩ p, keep p 1 rfl i1, keep p 7 rfl i7, keep p 8 rfl i8, keep p 10 rfl i10, keep p 11 rfl i11, keep p 17 rfl i17, keep p 18 rfl i18, keep p 19 rfl i19, out p 1 31 _ rfl rfl rfl, trivial⟩)
      rintro a k ⟨⟨hg, hs, hd⟩, i1, i7, i8, i10, i11, i17, i18, i19, i31, _⟩
      refine wp_cond_split (isBool i31) (fun hc750 => ?_) (fun hc750 => ?_)
      · rw [if_pos hc750] at hr
        refine wp_seq ?_
        refine cut (fun a' k' => Bs noF k0 40 a' k' ∧ (IsV s733.1) (a'.get 4) k' ∧ (IsV s733.2) (a'.get 5) k' ∧ (IsV x739_2.2) (a'.get 6) k' ∧ True) ?_ hQ ?_
        · intro Q742 hQQ742 hp743
          refine regionS (a0 := a) (k0 := k) (n := 40) (m := 6) (⟨some (IsV s733.1), [(7, none)]⟩ :: ⟨some (IsV s733.2), [(8, none)]⟩ :: ⟨some (IsV x739_2.2), [(11, none)]⟩ :: ⟨some (IsV s733.1), [(32, some 0)]⟩ :: ⟨some (IsV s733.2), [(33, some 1)]⟩ :: ⟨some (IsV x739_2.2), [(34, some 2)]⟩ :: []) hs (by kernel_rfl) ⟨ob1 rfl fun b q hk hn => ok_move rfl (up i7 hk hn.1), ob1 rfl fun b q hk hn => ok_move rfl (up i8 hk hn.1), ob1 rfl fun b q hk hn => ok_move rfl (up i11 hk hn.1), ob1 rfl fun b q hk hn => ok_assign rfl hn.1, ob1 rfl fun b q hk hn => ok_assign rfl hn.1, ob1 rfl fun b q hk hn => ok_assign rfl hn.1, trivial⟩ hQQ742 fun b q p => ?_
          exact tail_done (k := q) (hp743 _ _ ⟨Bs.post ⟨hg, hs, hd⟩ p, out p 3 4 _ rfl rfl rfl, out p 4 5 _ rfl rfl rfl, out p 5 6 _ rfl rfl rfl, trivial⟩)
        rintro a k ⟨⟨hg, hs, hd⟩, i4, i5, i6, _⟩
        refine wp_ret ?_
        exact hret736 _ _ _ (Option.some.inj hr).symm (retC3 rfl hd hg i4 i5 i6)
      rw [if_neg (by rw [hc750]; decide)] at hr
      refine wp_skip ?_
      refine cut (fun a' k' => Bs noF k0 40 a' k' ∧ (IsV moves) (a'.get 1) k' ∧ (IsV x739_2.1) (a'.get 7) k' ∧ (IsV moves) (a'.get 17) k' ∧ (IsV (α := Int) (moves.length : Int)) (a'.get 18) k' ∧ (IsV s733.2) (a'.get 19) k' ∧ True) ?_ hQ ?_
      · intro Q748 hQQ748 hp749
        refine regionS (a0 := a) (k0 := k) (n := 40) (m := 2) (⟨some (IsV x739_2.1), [(10, none)]⟩ :: ⟨some (IsV x739_2.1), [(35, some 0)]⟩ :: []) hs (by kernel_rfl) ⟨ob1 rfl fun b q hk hn => ok_move rfl (up i10 hk hn.1), ob1 rfl fun b q hk hn => ok_assign rfl hn.1, trivial⟩ hQQ748 fun b q p => ?_
        exact tail_done (k := q) (hp749 _ _ ⟨Bs.post ⟨hg, hs, hd⟩ p, keep p 1 rfl i1, out p 1 7 _ rfl rfl rfl, keep p 17 rfl i17, keep p 18 rfl i18, keep p 19 rfl i19, trivial⟩)
      rintro a k ⟨⟨hg, hs, hd⟩, i1, i7, i17, i18, i19, _⟩
      obtain ⟨x745_0, hx745_0, hr⟩ := bind_some hr
      refine cut (fun a' k' => Bs noF k0 40 a' k' ∧ (IsV moves) (a'.get 1) k' ∧ (IsV x739_2.1) (a'.get 7) k' ∧ (IsV moves) (a'.get 17) k' ∧ (IsV (α := Int) (moves.length : Int)) (a'.get 18) k' ∧ (IsV x745_0) (a'.get 19) k' ∧ True) ?_ hQ ?_
      · intro Q746 hQQ746 hp747
        refine regionS (a0 := a) (k0 := k) (n := 40) (m := 2) (⟨some (IsV x745_0), [(19, none)]⟩ :: ⟨some (IsV x745_0), [(36, some 0)]⟩ :: []) hs (by kernel_rfl) ⟨ob1 rfl fun b q hk hn => ok_add rfl (up i19 hk hn.1) (isV_int.2 rfl) hx745_0, ob1 rfl fun b q hk hn => ok_move rfl hn.1, trivial⟩ hQQ746 fun b q p => ?_
        exact tail_done (k := q) (hp747 _ _ ⟨Bs.post ⟨hg, hs, hd⟩ p, keep p 1 rfl i1, keep p 7 rfl i7, keep p 17 rfl i17, keep p 18 rfl i18, out p 1 19 _ rfl rfl rfl, trivial⟩)
      rintro a k ⟨⟨hg, hs, hd⟩, i1, i7, i17, i18, i19, _⟩
      exact hgo734 _ _ _ (Option.some.inj hr).symm ⟨⟨hg, hs, hd⟩, i1, i7, i17, i18, i19, trivial⟩
    rw [if_neg (by rw [hc757]; decide)] at hr
    refine wp_exit ?_
    exact hex735 _ _ _ _ (Option.some.inj hr).symm ⟨rfl, ⟨hg, hs, hd⟩, i1, i7, trivial⟩
  · rintro r765 a k rfl hR
    dsimp only at hr
    obtain rfl := Option.some.inj hr
    exact hR
  · rintro _ _ _ rfl _
    simp at hr
  clear hf760
  rintro _ s761 a k rfl ⟨rfl, ⟨hg, hs, hd⟩, i1, i7, _⟩
  dsimp only at hr
  refine wp_seq ?_
  refine cut (fun a' k' => Bs noF k0 40 a' k' ∧ (IsV s761.1) (a'.get 4) k' ∧ (IsV (α := Int) (moves.length : Int)) (a'.get 5) k' ∧ (IsV (α := Int) 0) (a'.get 6) k' ∧ True) ?_ hQ ?_
  · intro Q763 hQQ763 hp764
    refine regionS (a0 := a) (k0 := k) (n := 40) (m := 6) (⟨some (IsV s761.1), [(7, none)]⟩ :: ⟨some (IsV moves), [(1, none)]⟩ :: ⟨some (IsV (α := Int) (moves.length : Int)), [(38, some 1)]⟩ :: ⟨some (IsV s761.1), [(37, some 0)]⟩ :: ⟨some (IsV (α := Int) (moves.length : Int)), [(39, some 2)]⟩ :: ⟨some (IsV (α := Int) 0), []⟩ :: []) hs (by kernel_rfl) ⟨ob1 rfl fun b q hk hn => ok_move rfl (up i7 hk hn.1), ob1 rfl fun b q hk hn => ok_move rfl (up i1 hk hn.1), ob1 rfl fun b q hk hn => ok_len rfl rfl Try.underlying23 (IsV.rd hn.1), ob1 rfl fun b q hk hn => ok_assign rfl hn.1, ob1 rfl fun b q hk hn => ok_assign rfl hn.1, ob1 rfl fun b q hk hn => ok_assign rfl (isV_int.2 rfl), trivial⟩ hQQ763 fun b q p => ?_
    exact tail_done (k := q) (hp764 _ _ ⟨Bs.post ⟨hg, hs, hd⟩ p, out p 3 4 _ rfl rfl rfl, out p 4 5 _ rfl rfl rfl, out p 5 6 _ rfl rfl rfl, trivial⟩)
  rintro a k ⟨⟨hg, hs, hd⟩, i4, i5, i6, _⟩
  refine wp_ret ?_
  obtain rfl := Option.some.inj hr
  exact retC3 rfl hd hg i4 i5 i6
def cTrace_L0 (l_ : (List Account)) (s784 : (GMap Int (List (Int × Int))) × Int) : Option (Flow ((GMap Int (List (Int × Int))) × Int) ((List (Int × Int)) × Int)) :=
  if (decide (s784.2 < (l_.length : Int))) then
    (getI l_ s784.2).bind fun x789_0 =>
    (cPut s784.1 x789_0.Lot x789_0.Lot x789_0.Units).bind fun x790_7 =>
    (addI s784.2 1).bind fun x791_0 =>
    some (.go (x790_7, x791_0))
  else
    some (.ex 0 (s784.1, s784.2))
def cTrace_L1 (moves : (List Move)) (s804 : (GMap Int (List (Int × Int))) × Int) : Option (Flow ((GMap Int (List (Int × Int))) × Int) ((List (Int × Int)) × Int)) :=
  if (decide (s804.2 < (moves.length : Int))) then
    (getI moves s804.2).bind fun x809_0 =>
    (if (x809_0.Kind == 0) then
      (cPut s804.1 x809_0.To x809_0.To x809_0.N).bind fun x814_7 =>
      some x814_7
    else
      (if (x809_0.Kind == 1) then
        (cTake s804.1 x809_0.From x809_0.To x809_0.N).bind fun x820_7 =>
        some x820_7
      else
        (if (x809_0.Kind == 2) then
          (cTake s804.1 x809_0.From 0 x809_0.N).bind fun x826_5 =>
          some x826_5
        else
          (if (x809_0.Kind == 3) then
            (cTake s804.1 x809_0.From (-1) x809_0.N).bind fun x832_5 =>
            some x832_5
          else
            some s804.1).bind fun s830 =>
          some s830).bind fun s824 =>
        some s824).bind fun s818 =>
      some s818).bind fun s812 =>
    (addI s804.2 1).bind fun x848_0 =>
    some (.go (s812, x848_0))
  else
    some (.ex 2 (s804.1, s804.2))
def cTrace (l_ : (List Account)) (moves : (List Move)) (lot : Int) : Option ((List (Int × Int)) × Int) :=
  (cRun l_ moves).bind fun x777_2 =>
  if (x777_2.2.2 != 0) then
    some (([] : List (Int × Int)), x777_2.2.2)
  else
    (iterL (cTrace_L0 l_) (l_.length + 1) ((⟨[]⟩ : (GMap Int (List (Int × Int)))), 0)).bind fun f801 => match f801 with
      | .go _ => none
      | .ex _ s802 =>
        (iterL (cTrace_L1 moves) (moves.length + 1) (s802.1, 0)).bind fun f862 => match f862 with
          | .go _ => none
          | .ex _ s863 =>
            some ((((s863.1).get lot).getD ([])), 0)
          | .ret r867 => some r867
      | .ret r871 => some r871
theorem cTrace_ok {k0 : K} {v0 v1 v2 : Value} {l_ : (List Account)} {moves : (List Move)} {lot : Int} {r : (List (Int × Int)) × Int} (i0 : (IsV l_) v0 k0) (i1 : (IsV moves) v1 k0) (i2 : (IsV lot) v2 k0) (hr : cTrace l_ moves lot = some r) :
    Calls Try.prog 11 #[v0, v1, v2] k0.w (Ret k0 (IsTup2 (IsV r.1) (IsV r.2))) := by
  unfold cTrace at hr
  refine Ret.ofC ?_
  refine enterK Try.func11 rfl Try.ntmps11 (show 3 ≤ 90 by decide) fun a k hk0 hs hd ha => ?_
  obtain ⟨e0, e1, e2, _⟩ := ha
  replace i0 : (IsV l_) (a.get 0) k := by rw [e0, hk0]; exact i0
  replace i1 : (IsV moves) (a.get 1) k := by rw [e1, hk0]; exact i1
  replace i2 : (IsV lot) (a.get 2) k := by rw [e2, hk0]; exact i2
  have hQ : Gb.LetsOut (bodyPost Try.prog Try.f11 (RetC noF k0 (IsTup2 (IsV r.1) (IsV r.2)))) := letsOutC
  have hg : Chg noF k0 k := by rw [hk0]; exact Chg.refl _ k0
  refine wp_seq ?_
  refine cut (fun a' k' => Bs noF k0 90 a' k' ∧ (IsV l_) (a'.get 0) k' ∧ (IsV moves) (a'.get 1) k' ∧ (IsV lot) (a'.get 2) k' ∧ True) ?_ hQ ?_
  · intro Q882 hQQ882 hp883
    refine regionS (a0 := a) (k0 := k) (n := 90) (m := 2) (⟨some IsE0, []⟩ :: ⟨some (IsV (α := Int) 0), []⟩ :: []) hs (by kernel_rfl) ⟨ob1 rfl fun b q hk hn => ok_assign rfl isE0_nil, ob1 rfl fun b q hk hn => ok_assign rfl (isV_int.2 rfl), trivial⟩ hQQ882 fun b q p => ?_
    exact tail_done (k := q) (hp883 _ _ ⟨Bs.post ⟨hg, hs, hd⟩ p, keep p 0 rfl i0, keep p 1 rfl i1, keep p 2 rfl i2, trivial⟩)
  rintro a k ⟨⟨hg, hs, hd⟩, i0, i1, i2, _⟩
  refine wp_seq ?_
  refine wp_seq ?_
  obtain ⟨x777_2, hx777_2, hr⟩ := bind_some hr
  refine cut (fun a' k' => Bs noF k0 90 a' k' ∧ (IsV l_) (a'.get 0) k' ∧ (IsV moves) (a'.get 1) k' ∧ (IsV lot) (a'.get 2) k' ∧ (IsV x777_2.2.2) (a'.get 10) k' ∧ True) ?_ hQ ?_
  · intro Q880 hQQ880 hp881
    refine regionS (a0 := a) (k0 := k) (n := 90) (m := 10) (⟨some (IsV l_), [(0, none)]⟩ :: ⟨some (IsV moves), [(1, none)]⟩ :: ⟨some (IsTup3 (IsV x777_2.1) (IsV x777_2.2.1) (IsV x777_2.2.2)), [(17, some 0), (18, some 1)]⟩ :: ⟨some (IsTup3 (IsV x777_2.1) (IsV x777_2.2.1) (IsV x777_2.2.2)), [(19, some 2)]⟩ :: ⟨some (IsV x777_2.1), [(16, some 3)]⟩ :: ⟨some (IsV x777_2.2.1), [(16, some 3)]⟩ :: ⟨some (IsV x777_2.2.2), [(16, some 3)]⟩ :: ⟨some (IsV x777_2.1), [(20, some 4)]⟩ :: ⟨some (IsV x777_2.2.1), [(21, some 5)]⟩ :: ⟨some (IsV x777_2.2.2), [(22, some 6)]⟩ :: []) hs (by kernel_rfl) ⟨ob1 rfl fun b q hk hn => ok_move rfl (up i0 hk hn.1), ob1 rfl fun b q hk hn => ok_move rfl (up i1 hk hn.1), ob1 rfl fun b q hk hn => ok_call rfl Try.call10 (cRun_ok hn.1 hn.2.1 hx777_2), ob1 rfl fun b q hk hn => ok_move rfl hn.1, ob1 rfl fun b q hk hn => ok_ext3_0 rfl hn.1, ob1 rfl fun b q hk hn => ok_ext3_1 rfl hn.1, ob1 rfl fun b q hk hn => ok_ext3_2 rfl hn.1, ob1 rfl fun b q hk hn => ok_assign rfl hn.1, ob1 rfl fun b q hk hn => ok_assign rfl hn.1, ob1 rfl fun b q hk hn => ok_assign rfl hn.1, trivial⟩ hQQ880 fun b q p => ?_
    exact tail_done (k := q) (hp881 _ _ ⟨Bs.post ⟨hg, hs, hd⟩ p, keep p 0 rfl i0, keep p 1 rfl i1, keep p 2 rfl i2, out p 9 10 _ rfl rfl rfl, trivial⟩)
  rintro a k ⟨⟨hg, hs, hd⟩, i0, i1, i2, i10, _⟩
  refine wp_seq ?_
  refine cut (fun a' k' => Bs noF k0 90 a' k' ∧ (IsV l_) (a'.get 0) k' ∧ (IsV moves) (a'.get 1) k' ∧ (IsV lot) (a'.get 2) k' ∧ (IsV x777_2.2.2) (a'.get 10) k' ∧ (IsV (x777_2.2.2 != 0)) (a'.get 24) k' ∧ True) ?_ hQ ?_
  · intro Q878 hQQ878 hp879
    refine regionS (a0 := a) (k0 := k) (n := 90) (m := 2) (⟨some (IsV x777_2.2.2), [(10, none)]⟩ :: ⟨some (IsV (x777_2.2.2 != 0)), [(23, some 0)]⟩ :: []) hs (by kernel_rfl) ⟨ob1 rfl fun b q hk hn => ok_move rfl (up i10 hk hn.1), ob1 rfl fun b q hk hn => ok_neI rfl hn.1 (isV_int.2 rfl), trivial⟩ hQQ878 fun b q p => ?_
    exact tail_done (k := q) (hp879 _ _ ⟨Bs.post ⟨hg, hs, hd⟩ p, keep p 0 rfl i0, keep p 1 rfl i1, keep p 2 rfl i2, keep p 10 rfl i10, out p 1 24 _ rfl rfl rfl, trivial⟩)
  rintro a k ⟨⟨hg, hs, hd⟩, i0, i1, i2, i10, i24, _⟩
  refine wp_cond_split (isBool i24) (fun hc877 => ?_) (fun hc877 => ?_)
  · rw [if_pos hc877] at hr
    refine wp_seq ?_
    refine cut (fun a' k' => Bs noF k0 90 a' k' ∧ (IsV ([] : List (Int × Int))) (a'.get 6) k' ∧ (IsV x777_2.2.2) (a'.get 7) k' ∧ True) ?_ hQ ?_
    · intro Q780 hQQ780 hp781
      refine regionS (a0 := a) (k0 := k) (n := 90) (m := 3) (⟨some (IsV x777_2.2.2), [(10, none)]⟩ :: ⟨some IsE0, []⟩ :: ⟨some (IsV x777_2.2.2), [(25, some 0)]⟩ :: []) hs (by kernel_rfl) ⟨ob1 rfl fun b q hk hn => ok_move rfl (up i10 hk hn.1), ob1 rfl fun b q hk hn => ok_assign rfl isE0_nil, ob1 rfl fun b q hk hn => ok_assign rfl hn.1, trivial⟩ hQQ780 fun b q p => ?_
      have hgq := hg.then p.grow
      have hsb := p.size.trans hs
      have hdb := p.defers.trans hd
      have j6 : IsE0 (b.get 6) q := out p 1 6 _ rfl rfl rfl
      have j7 : (IsV x777_2.2.2) (b.get 7) q := out p 2 7 _ rfl rfl rfl
      replace j6 : IsV ([] : List (Int × Int)) (b.get 6) q := j6.isV
      exact tail_done (k := q) (hp781 _ _ ⟨⟨hgq, hsb, hdb⟩, j6, j7, trivial⟩)
    rintro a k ⟨⟨hg, hs, hd⟩, i6, i7, _⟩
    refine wp_ret ?_
    obtain rfl := Option.some.inj hr
    exact retC2 rfl hd hg i6 i7
  rw [if_neg (by rw [hc877]; decide)] at hr
  refine wp_skip ?_
  refine wp_seq ?_
  refine cut (fun a' k' => ∃ F11, Bs noF k0 90 a' k' ∧ (IsV l_) (a'.get 0) k' ∧ (IsV moves) (a'.get 1) k' ∧ (IsV lot) (a'.get 2) k' ∧ (SlR (KeyV.kv (κ := Int)) 37 ((⟨[]⟩ : (GMap Int (List (Int × Int))))).l) F11 (a'.get 11) k' ∧ Lo k0 F11 ∧ True) ?_ hQ ?_
  · intro Q875 hQQ875 hp876
    refine regionS (a0 := a) (k0 := k) (n := 90) (m := 2) (⟨some (IsNewMap (KeyV.kv (κ := Int)) k.w.heap.size), []⟩ :: ⟨some (IsNewMap (KeyV.kv (κ := Int)) k.w.heap.size), [(26, some 0)]⟩ :: []) hs (by kernel_rfl) ⟨ob1 rfl fun b q hk hn => ok_makeMap hk.size rfl, ob1 rfl fun b q hk hn => ok_assign rfl hn.1, trivial⟩ hQQ875 fun b q p => ?_
    have hgq := hg.then p.grow
    have hsb := p.size.trans hs
    have hdb := p.defers.trans hd
    have j0 := keep p 0 rfl i0
    have j1 := keep p 1 rfl i1
    have j2 := keep p 2 rfl i2
    obtain ⟨F11, j11, x11⟩ : ∃ F, (SlR (KeyV.kv (κ := Int)) 37 ((⟨[]⟩ : (GMap Int (List (Int × Int))))).l) F (b.get 11) q ∧ Lo k F := SlR.new (out p 1 11 _ rfl rfl rfl)
    have y11 : Lo k0 F11 := x11.chg hg
    exact tail_done (k := q) (hp876 _ _ ⟨F11, ⟨hgq, hsb, hdb⟩, j0, j1, j2, j11, y11, trivial⟩)
  rintro a k ⟨F11, ⟨hg, hs, hd⟩, i0, i1, i2, i11, n11, _⟩
  refine wp_seq ?_
  refine wp_seq ?_
  refine cut (fun a' k' => ∃ F11, Bs noF k0 90 a' k' ∧ (IsV moves) (a'.get 1) k' ∧ (IsV lot) (a'.get 2) k' ∧ (SlR (KeyV.kv (κ := Int)) 37 ((⟨[]⟩ : (GMap Int (List (Int × Int))))).l) F11 (a'.get 11) k' ∧ Lo k0 F11 ∧ (IsV l_) (a'.get 27) k' ∧ (IsV (α := Int) (l_.length : Int)) (a'.get 28) k' ∧ (IsV (α := Int) 0) (a'.get 29) k' ∧ True) ?_ hQ ?_
  · intro Q873 hQQ873 hp874
    refine regionS (a0 := a) (k0 := k) (n := 90) (m := 3) (⟨some (IsV l_), [(0, none)]⟩ :: ⟨some (IsV (α := Int) (l_.length : Int)), [(27, some 0)]⟩ :: ⟨some (IsV (α := Int) 0), []⟩ :: []) hs (by kernel_rfl) ⟨ob1 rfl fun b q hk hn => ok_move rfl (up i0 hk hn.1), ob1 rfl fun b q hk hn => ok_len rfl rfl Try.underlying22 (IsV.rd hn.1), ob1 rfl fun b q hk hn => ok_move rfl (isV_int.2 rfl), trivial⟩ hQQ873 fun b q p => ?_
    exact tail_done (k := q) (hp874 _ _ ⟨F11, Bs.post ⟨hg, hs, hd⟩ p, keep p 1 rfl i1, keep p 2 rfl i2, keep p 11 rfl i11, n11, out p 0 27 _ rfl rfl rfl, out p 1 28 _ rfl rfl rfl, out p 2 29 _ rfl rfl rfl, trivial⟩)
  rintro a k ⟨F11, ⟨hg, hs, hd⟩, i1, i2, i11, n11, i27, i28, i29, _⟩
  refine wp_block ?_
  obtain ⟨f801, hf801, hr⟩ := bind_some hr
  refine cutFe f801 (fun s' a' k' => ∃ F11, Bs noF k0 90 a' k' ∧ (IsV moves) (a'.get 1) k' ∧ (IsV lot) (a'.get 2) k' ∧ (SlR (KeyV.kv (κ := Int)) 37 (s'.1).l) F11 (a'.get 11) k' ∧ Lo k0 F11 ∧ (IsV l_) (a'.get 27) k' ∧ (IsV (α := Int) (l_.length : Int)) (a'.get 28) k' ∧ (IsV s'.2) (a'.get 29) k' ∧ True) (fun i' s' a' k' => (i' = 0 ∧ ∃ F11, Bs noF k0 90 a' k' ∧ (IsV moves) (a'.get 1) k' ∧ (IsV lot) (a'.get 2) k' ∧ (SlR (KeyV.kv (κ := Int)) 37 (s'.1).l) F11 (a'.get 11) k' ∧ Lo k0 F11 ∧ True)) (fun r' a' k' => bodyPost Try.prog Try.f11 (RetC noF k0 (IsTup2 (IsV r'.1) (IsV r'.2))) .ret a' k'.w) ?_ hQ ?_ ?_ ?_
  · intro Q872 hQQ872 hgo hex hret
    refine sim_loop ?_ _ _ _ _ _ hf801 ⟨F11, ⟨hg, hs, hd⟩, i1, i2, i11, n11, i27, i28, i29, trivial⟩ Q872 hQQ872 hgo hex hret
    clear hr hf801 hgo hex hret hQQ872 hQ hg hs hd F11 i1 i11 i2 i27 i28 i29 n11
    intro s784 fl_ a k hr hS Q hQ hgo785 hex786 hret787
    obtain ⟨F11, ⟨hg, hs, hd⟩, i1, i2, i11, n11, i27, i28, i29, _⟩ := hS
    unfold cTrace_L0 at hr
    refine wp_seq ?_
    refine cut (fun a' k' => ∃ F11, Bs noF k0 90 a' k' ∧ (IsV moves) (a'.get 1) k' ∧ (IsV lot) (a'.get 2) k' ∧ (SlR (KeyV.kv (κ := Int)) 37 (s784.1).l) F11 (a'.get 11) k' ∧ Lo k0 F11 ∧ (IsV l_) (a'.get 27) k' ∧ (IsV (α := Int) (l_.length : Int)) (a'.get 28) k' ∧ (IsV s784.2) (a'.get 29) k' ∧ (IsV (decide (s784.2 < (l_.length : Int)))) (a'.get 30) k' ∧ True) ?_ hQ ?_
    · intro Q799 hQQ799 hp800
      refine regionS (a0 := a) (k0 := k) (n := 90) (m := 1) (⟨some (IsV (decide (s784.2 < (l_.length : Int)))), [(29, none), (28, none)]⟩ :: []) hs (by kernel_rfl) ⟨ob1 rfl fun b q hk hn => ok_lss rfl (up i29 hk hn.1) (up i28 hk hn.2.1), trivial⟩ hQQ799 fun b q p => ?_
      exact tail_done (k := q) (hp800 _ _ ⟨F11, Bs.post ⟨hg, hs, hd⟩ p, keep p 1 rfl i1, keep p 2 rfl i2, keep p 11 rfl i11, n11, keep p 27 rfl i27, keep p 28 rfl i28, keep p 29 rfl i29, out p 0 30 _ rfl rfl rfl, trivial⟩)
    rintro a k ⟨F11, ⟨hg, hs, hd⟩, i1, i2, i11, n11, i27, i28, i29, i30, _⟩
    refine wp_seq ?_
    refine wp_cond_split (isBool i30) (fun hc798 => ?_) (fun hc798 => ?_)
    · rw [if_pos hc798] at hr
      refine wp_skip ?_
      refine wp_seq ?_
      refine wp_block ?_
      refine wp_seq ?_
      obtain ⟨x789_0, hx789_0, hr⟩ := bind_some hr
      refine cut (fun a' k' => ∃ F11, Bs noF k0 90 a' k' ∧ (IsV moves) (a'.get 1) k' ∧ (IsV lot) (a'.get 2) k' ∧ (SlR (KeyV.kv (κ := Int)) 37 (s784.1).l) F11 (a'.get 11) k' ∧ Lo k0 F11 ∧ (IsRef x789_0) (a'.get 13) k' ∧ (IsV l_) (a'.get 27) k' ∧ (IsV (α := Int) (l_.length : Int)) (a'.get 28) k' ∧ (IsV s784.2) (a'.get 29) k' ∧ True) ?_ hQ ?_
      · intro Q796 hQQ796 hp797
        refine regionS (a0 := a) (k0 := k) (n := 90) (m := 3) (⟨some (IsPtr x789_0), [(27, none), (29, none)]⟩ :: ⟨some (IsV x789_0), [(31, some 0)]⟩ :: ⟨some (IsBox k.w.heap.size (⟨0, 0, false⟩ : Account)), []⟩ :: []) hs (by kernel_rfl) ⟨ob1 rfl fun b q hk hn => ok_indexAddr rfl Try.underlying22 ty35 (IsV.rd (up i27 hk hn.1)) (up i29 hk hn.2.1) hx789_0, ob1 rfl fun b q hk hn => ok_load rfl ty35 hn.1, ob1 rfl fun b q hk hn => ok_alloc _ hk.size rfl z35, trivial⟩ hQQ796 fun b q p => ?_
        have hgq := hg.then p.grow
        have hsb := p.size.trans hs
        have hdb := p.defers.trans hd
        have j1 := keep p 1 rfl i1
        have j2 := keep p 2 rfl i2
        have j11 : (SlR (KeyV.kv (κ := Int)) 37 (s784.1).l) F11 (b.get 11) q := keep p 11 rfl i11
        have y11 := n11
        obtain ⟨b13, j13, x13, z13⟩ : (IsBox k.w.heap.size (⟨0, 0, false⟩ : Account)) (b.get 13) q := out p 2 13 _ rfl rfl rfl
        replace x13 : Lo k (Eq b13) := Lo.eq x13
        have y13 : Lo k0 (Eq b13) := x13.chg hg
        have j27 := keep p 27 rfl i27
        have j28 := keep p 28 rfl i28
        have j29 := keep p 29 rfl i29
        have j32 : (IsV x789_0) (b.get 32) q := out p 1 32 _ rfl rfl rfl
        have w11_13 : Apart F11 (Eq b13) := Apart.new (Rsc.lt i11) x13
        have hns := z13.nshF
        refine tail_storeB (i := 3) rfl rfl rfl rfl szf35 (Upd.self (α := Account)) j13 z13 j32 fun q2 hch hz => ?_
        replace hgq := hgq.step hch y13.wr
        have hle := hch.le hns
        replace j1 := Pers.pers hle j1
        replace j2 := Pers.pers hle j2
        replace j11 := Rsc.keep j11 hch w11_13 hns
        replace j27 := Pers.pers hle j27
        replace j28 := Pers.pers hle j28
        replace j29 := Pers.pers hle j29
        replace j32 := Pers.pers hle j32
        replace z13 := hz
        clear hns hle hch
        obtain ⟨q, hqq⟩ : ∃ q, q = q2 := ⟨q2, rfl⟩
        subst hqq
        obtain ⟨q2, hsh, jn⟩ := z13.give
        replace j1 := Pers.pers hsh.le j1
        replace j2 := Pers.pers hsh.le j2
        replace j11 := Rsc.handed j11 hsh w11_13
        replace j27 := Pers.pers hsh.le j27
        replace j28 := Pers.pers hsh.le j28
        replace j29 := Pers.pers hsh.le j29
        rw [← j13] at jn
        replace j13 := jn
        replace hgq := hgq.hand hsh y13.wr
        rw [← hsh.w]
        clear hsh
        obtain ⟨q, hqq⟩ : ∃ q, q = q2 := ⟨q2, rfl⟩
        subst hqq
        exact tail_done (k := q) (hp797 _ _ ⟨F11, ⟨hgq, hsb, hdb⟩, j1, j2, j11, y11, j13, j27, j28, j29, trivial⟩)
      rintro a k ⟨F11, ⟨hg, hs, hd⟩, i1, i2, i11, n11, i13, i27, i28, i29, _⟩
      obtain ⟨x790_7, hx790_7, hr⟩ := bind_some hr
      refine cut (fun a' k' => ∃ F11, Bs noF k0 90 a' k' ∧ (IsV moves) (a'.get 1) k' ∧ (IsV lot) (a'.get 2) k' ∧ (SlR (KeyV.kv (κ := Int)) 37 (x790_7).l) F11 (a'.get 11) k' ∧ Lo k0 F11 ∧ (IsV l_) (a'.get 27) k' ∧ (IsV (α := Int) (l_.length : Int)) (a'.get 28) k' ∧ (IsV s784.2) (a'.get 29) k' ∧ True) ?_ hQ ?_
      · intro Q794 hQQ794 hp795
        refine regionS (a0 := a) (k0 := k) (n := 90) (m := 7) (⟨some (Is (a.get 11)), [(11, none)]⟩ :: ⟨some (IsPtr x789_0.Lot), [(13, none)]⟩ :: ⟨some (IsV x789_0.Lot), [(34, some 1)]⟩ :: ⟨some (IsPtr x789_0.Lot), [(13, none)]⟩ :: ⟨some (IsV x789_0.Lot), [(36, some 3)]⟩ :: ⟨some (IsPtr x789_0.Units), [(13, none)]⟩ :: ⟨some (IsV x789_0.Units), [(38, some 5)]⟩ :: []) hs (by kernel_rfl) ⟨ob1 rfl fun b q hk hn => ok_move rfl hn.1, ob1 rfl fun b q hk hn => ok_fieldAddr rfl fo35_0 (at_Account_0 _) ((up i13 hk hn.1)).ptr, ob1 rfl fun b q hk hn => ok_load rfl ty3 hn.1, ob1 rfl fun b q hk hn => ok_fieldAddr rfl fo35_0 (at_Account_0 _) ((up i13 hk hn.1)).ptr, ob1 rfl fun b q hk hn => ok_load rfl ty3 hn.1, ob1 rfl fun b q hk hn => ok_fieldAddr rfl fo35_1 (at_Account_1 _) ((up i13 hk hn.1)).ptr, ob1 rfl fun b q hk hn => ok_load rfl ty3 hn.1, trivial⟩ hQQ794 fun b q p => ?_
        have hgq := hg.then p.grow
        have hsb := p.size.trans hs
        have hdb := p.defers.trans hd
        have j1 := keep p 1 rfl i1
        have j2 := keep p 2 rfl i2
        have j11 : (SlR (KeyV.kv (κ := Int)) 37 (s784.1).l) F11 (b.get 11) q := keep p 11 rfl i11
        have y11 := n11
        have j27 := keep p 27 rfl i27
        have j28 := keep p 28 rfl i28
        have j29 := keep p 29 rfl i29
        have j33 : b.get 33 = b.get 11 := (show b.get 33 = a.get 11 from out p 0 33 _ rfl rfl rfl).trans (p.old 11 rfl).symm
        have j35 : (IsV x789_0.Lot) (b.get 35) q := out p 2 35 _ rfl rfl rfl
        have j37 : (IsV x789_0.Lot) (b.get 37) q := out p 4 37 _ rfl rfl rfl
        have j39 : (IsV x789_0.Units) (b.get 39) q := out p 6 39 _ rfl rfl rfl
        have hns := Rsc.nsh j11
        refine tail_call (F := F11) (i := 7) (d := 40) rfl rfl rfl rfl (by rw [hsb]; decide) Try.call26 hQQ794 (cPut_ok (show (SlR (KeyV.kv (κ := Int)) 37 (s784.1).l) F11 (b.get 33) q by rw [j33]; exact j11) j35 j37 j39 hx790_7) fun b2 q2 hsz hdf hoth hch hres => ?_
        have hle := hch.le hns
        obtain ⟨G11, hown, hob⟩ := hres
        rw [show b.eval (.tmp 33) = b.get 11 from j33] at hown
        have yn : Lo k0 G11 := fun c hc => (hob c hc).elim (y11 c) (fun h => Nat.le_trans hgq.size h)
        replace j1 := Pers.pers hle j1
        replace j2 := Pers.pers hle j2
        replace j27 := Pers.pers hle j27
        replace j28 := Pers.pers hle j28
        replace j29 := Pers.pers hle j29
        replace j35 := Pers.pers hle j35
        replace j37 := Pers.pers hle j37
        replace j39 := Pers.pers hle j39
        replace hgq := hgq.step hch y11.wr
        rw [← hoth 1 (by decide)] at j1
        rw [← hoth 2 (by decide)] at j2
        rw [← hoth 27 (by decide)] at j27
        rw [← hoth 28 (by decide)] at j28
        rw [← hoth 29 (by decide)] at j29
        rw [← hoth 35 (by decide)] at j35
        rw [← hoth 37 (by decide)] at j37
        rw [← hoth 39 (by decide)] at j39
        rw [← hoth 11 (by decide)] at hown
        replace j11 := hown
        replace y11 := yn
        clear hown hob yn hle hch hns
        obtain ⟨F11, hFF⟩ : ∃ F, F = G11 := ⟨_, rfl⟩
        subst hFF
        replace hsb := hsz.trans hsb
        replace hdb := hdf.trans hdb
        clear hsz hdf hoth
        obtain ⟨b, hbb⟩ : ∃ b, b = b2 := ⟨b2, rfl⟩
        subst hbb
        obtain ⟨q, hqq⟩ : ∃ q, q = q2 := ⟨q2, rfl⟩
        subst hqq
        exact tail_done (k := q) (hp795 _ _ ⟨F11, ⟨hgq, hsb, hdb⟩, j1, j2, j11, y11, j27, j28, j29, trivial⟩)
      rintro a k ⟨F11, ⟨hg, hs, hd⟩, i1, i2, i11, n11, i27, i28, i29, _⟩
      obtain ⟨x791_0, hx791_0, hr⟩ := bind_some hr
      refine cut (fun a' k' => ∃ F11, Bs noF k0 90 a' k' ∧ (IsV moves) (a'.get 1) k' ∧ (IsV lot) (a'.get 2) k' ∧ (SlR (KeyV.kv (κ := Int)) 37 (x790_7).l) F11 (a'.get 11) k' ∧ Lo k0 F11 ∧ (IsV l_) (a'.get 27) k' ∧ (IsV (α := Int) (l_.length : Int)) (a'.get 28) k' ∧ (IsV x791_0) (a'.get 29) k' ∧ True) ?_ hQ ?_
      · intro Q792 hQQ792 hp793
        refine regionS (a0 := a) (k0 := k) (n := 90) (m := 2) (⟨some (IsV x791_0), [(29, none)]⟩ :: ⟨some (IsV x791_0), [(41, some 0)]⟩ :: []) hs (by kernel_rfl) ⟨ob1 rfl fun b q hk hn => ok_add rfl (up i29 hk hn.1) (isV_int.2 rfl) hx791_0, ob1 rfl fun b q hk hn => ok_move rfl hn.1, trivial⟩ hQQ792 fun b q p => ?_
        exact tail_done (k := q) (hp793 _ _ ⟨F11, Bs.post ⟨hg, hs, hd⟩ p, keep p 1 rfl i1, keep p 2 rfl i2, keep p 11 rfl i11, n11, keep p 27 rfl i27, keep p 28 rfl i28, out p 1 29 _ rfl rfl rfl, trivial⟩)
      rintro a k ⟨F11, ⟨hg, hs, hd⟩, i1, i2, i11, n11, i27, i28, i29, _⟩
      exact hgo785 _ _ _ (Option.some.inj hr).symm ⟨F11, ⟨hg, hs, hd⟩, i1, i2, i11, n11, i27, i28, i29, trivial⟩
    rw [if_neg (by rw [hc798]; decide)] at hr
    refine wp_exit ?_
    exact hex786 _ _ _ _ (Option.some.inj hr).symm ⟨rfl, F11, ⟨hg, hs, hd⟩, i1, i2, i11, n11, trivial⟩
  · rintro r871 a k rfl hR
    dsimp only at hr
    obtain rfl := Option.some.inj hr
    exact hR
  · rintro _ _ _ rfl _
    simp at hr
  clear hf801
  rintro _ s802 a k rfl ⟨rfl, F11, ⟨hg, hs, hd⟩, i1, i2, i11, n11, _⟩
  dsimp only at hr
  refine wp_seq ?_
  refine wp_seq ?_
  refine cut (fun a' k' => ∃ F11, Bs noF k0 90 a' k' ∧ (IsV lot) (a'.get 2) k' ∧ (SlR (KeyV.kv (κ := Int)) 37 (s802.1).l) F11 (a'.get 11) k' ∧ Lo k0 F11 ∧ (IsV moves) (a'.get 42) k' ∧ (IsV (α := Int) (moves.length : Int)) (a'.get 43) k' ∧ (IsV (α := Int) 0) (a'.get 44) k' ∧ True) ?_ hQ ?_
  · intro Q869 hQQ869 hp870
    refine regionS (a0 := a) (k0 := k) (n := 90) (m := 3) (⟨some (IsV moves), [(1, none)]⟩ :: ⟨some (IsV (α := Int) (moves.length : Int)), [(42, some 0)]⟩ :: ⟨some (IsV (α := Int) 0), []⟩ :: []) hs (by kernel_rfl) ⟨ob1 rfl fun b q hk hn => ok_move rfl (up i1 hk hn.1), ob1 rfl fun b q hk hn => ok_len rfl rfl Try.underlying23 (IsV.rd hn.1), ob1 rfl fun b q hk hn => ok_move rfl (isV_int.2 rfl), trivial⟩ hQQ869 fun b q p => ?_
    exact tail_done (k := q) (hp870 _ _ ⟨F11, Bs.post ⟨hg, hs, hd⟩ p, keep p 2 rfl i2, keep p 11 rfl i11, n11, out p 0 42 _ rfl rfl rfl, out p 1 43 _ rfl rfl rfl, out p 2 44 _ rfl rfl rfl, trivial⟩)
  rintro a k ⟨F11, ⟨hg, hs, hd⟩, i2, i11, n11, i42, i43, i44, _⟩
  refine wp_block ?_
  obtain ⟨f862, hf862, hr⟩ := bind_some hr
  refine cutFe f862 (fun s' a' k' => ∃ F11, Bs noF k0 90 a' k' ∧ (IsV lot) (a'.get 2) k' ∧ (SlR (KeyV.kv (κ := Int)) 37 (s'.1).l) F11 (a'.get 11) k' ∧ Lo k0 F11 ∧ (IsV moves) (a'.get 42) k' ∧ (IsV (α := Int) (moves.length : Int)) (a'.get 43) k' ∧ (IsV s'.2) (a'.get 44) k' ∧ True) (fun i' s' a' k' => (i' = 2 ∧ Bs noF k0 90 a' k' ∧ (IsV lot) (a'.get 2) k' ∧ (IsV s'.1) (a'.get 11) k' ∧ True)) (fun r' a' k' => bodyPost Try.prog Try.f11 (RetC noF k0 (IsTup2 (IsV r'.1) (IsV r'.2))) .ret a' k'.w) ?_ hQ ?_ ?_ ?_
  · intro Q868 hQQ868 hgo hex hret
    refine sim_loop ?_ _ _ _ _ _ hf862 ⟨F11, ⟨hg, hs, hd⟩, i2, i11, n11, i42, i43, i44, trivial⟩ Q868 hQQ868 hgo hex hret
    clear hr hf862 hgo hex hret hQQ868 hQ hg hs hd F11 i11 i2 i42 i43 i44 n11
    intro s804 fl_ a k hr hS Q hQ hgo805 hex806 hret807
    obtain ⟨F11, ⟨hg, hs, hd⟩, i2, i11, n11, i42, i43, i44, _⟩ := hS
    unfold cTrace_L1 at hr
    refine wp_seq ?_
    refine cut (fun a' k' => ∃ F11, Bs noF k0 90 a' k' ∧ (IsV lot) (a'.get 2) k' ∧ (SlR (KeyV.kv (κ := Int)) 37 (s804.1).l) F11 (a'.get 11) k' ∧ Lo k0 F11 ∧ (IsV moves) (a'.get 42) k' ∧ (IsV (α := Int) (moves.length : Int)) (a'.get 43) k' ∧ (IsV s804.2) (a'.get 44) k' ∧ (IsV (decide (s804.2 < (moves.length : Int)))) (a'.get 45) k' ∧ True) ?_ hQ ?_
    · intro Q860 hQQ860 hp861
      refine regionS (a0 := a) (k0 := k) (n := 90) (m := 1) (⟨some (IsV (decide (s804.2 < (moves.length : Int)))), [(44, none), (43, none)]⟩ :: []) hs (by kernel_rfl) ⟨ob1 rfl fun b q hk hn => ok_lss rfl (up i44 hk hn.1) (up i43 hk hn.2.1), trivial⟩ hQQ860 fun b q p => ?_
      exact tail_done (k := q) (hp861 _ _ ⟨F11, Bs.post ⟨hg, hs, hd⟩ p, keep p 2 rfl i2, keep p 11 rfl i11, n11, keep p 42 rfl i42, keep p 43 rfl i43, keep p 44 rfl i44, out p 0 45 _ rfl rfl rfl, trivial⟩)
    rintro a k ⟨F11, ⟨hg, hs, hd⟩, i2, i11, n11, i42, i43, i44, i45, _⟩
    refine wp_seq ?_
    refine wp_cond_split (isBool i45) (fun hc859 => ?_) (fun hc859 => ?_)
    · rw [if_pos hc859] at hr
      refine wp_skip ?_
      refine wp_seq ?_
      refine wp_block ?_
      refine wp_seq ?_
      obtain ⟨x809_0, hx809_0, hr⟩ := bind_some hr
      refine cut (fun a' k' => ∃ F11, Bs noF k0 90 a' k' ∧ (IsV lot) (a'.get 2) k' ∧ (SlR (KeyV.kv (κ := Int)) 37 (s804.1).l) F11 (a'.get 11) k' ∧ Lo k0 F11 ∧ (IsRef x809_0) (a'.get 15) k' ∧ (IsV moves) (a'.get 42) k' ∧ (IsV (α := Int) (moves.length : Int)) (a'.get 43) k' ∧ (IsV s804.2) (a'.get 44) k' ∧ True) ?_ hQ ?_
      · intro Q856 hQQ856 hp857
        refine regionS (a0 := a) (k0 := k) (n := 90) (m := 3) (⟨some (IsPtr x809_0), [(42, none), (44, none)]⟩ :: ⟨some (IsV x809_0), [(46, some 0)]⟩ :: ⟨some (IsBox k.w.heap.size (⟨0, 0, 0, 0⟩ : Move)), []⟩ :: []) hs (by kernel_rfl) ⟨ob1 rfl fun b q hk hn => ok_indexAddr rfl Try.underlying23 ty33 (IsV.rd (up i42 hk hn.1)) (up i44 hk hn.2.1) hx809_0, ob1 rfl fun b q hk hn => ok_load rfl ty33 hn.1, ob1 rfl fun b q hk hn => ok_alloc _ hk.size rfl z33, trivial⟩ hQQ856 fun b q p => ?_
        have hgq := hg.then p.grow
        have hsb := p.size.trans hs
        have hdb := p.defers.trans hd
        have j2 := keep p 2 rfl i2
        have j11 : (SlR (KeyV.kv (κ := Int)) 37 (s804.1).l) F11 (b.get 11) q := keep p 11 rfl i11
        have y11 := n11
        obtain ⟨b15, j15, x15, z15⟩ : (IsBox k.w.heap.size (⟨0, 0, 0, 0⟩ : Move)) (b.get 15) q := out p 2 15 _ rfl rfl rfl
        replace x15 : Lo k (Eq b15) := Lo.eq x15
        have y15 : Lo k0 (Eq b15) := x15.chg hg
        have j42 := keep p 42 rfl i42
        have j43 := keep p 43 rfl i43
        have j44 := keep p 44 rfl i44
        have j47 : (IsV x809_0) (b.get 47) q := out p 1 47 _ rfl rfl rfl
        have w11_15 : Apart F11 (Eq b15) := Apart.new (Rsc.lt i11) x15
        have hns := z15.nshF
        refine tail_storeB (i := 3) rfl rfl rfl rfl szf33 (Upd.self (α := Move)) j15 z15 j47 fun q2 hch hz => ?_
        replace hgq := hgq.step hch y15.wr
        have hle := hch.le hns
        replace j2 := Pers.pers hle j2
        replace j11 := Rsc.keep j11 hch w11_15 hns
        replace j42 := Pers.pers hle j42
        replace j43 := Pers.pers hle j43
        replace j44 := Pers.pers hle j44
        replace j47 := Pers.pers hle j47
        replace z15 := hz
        clear hns hle hch
        obtain ⟨q, hqq⟩ : ∃ q, q = q2 := ⟨q2, rfl⟩
        subst hqq
        obtain ⟨q2, hsh, jn⟩ := z15.give
        replace j2 := Pers.pers hsh.le j2
        replace j11 := Rsc.handed j11 hsh w11_15
        replace j42 := Pers.pers hsh.le j42
        replace j43 := Pers.pers hsh.le j43
        replace j44 := Pers.pers hsh.le j44
        rw [← j15] at jn
        replace j15 := jn
        replace hgq := hgq.hand hsh y15.wr
        rw [← hsh.w]
        clear hsh
        obtain ⟨q, hqq⟩ : ∃ q, q = q2 := ⟨q2, rfl⟩
        subst hqq
        exact tail_done (k := q) (hp857 _ _ ⟨F11, ⟨hgq, hsb, hdb⟩, j2, j11, y11, j15, j42, j43, j44, trivial⟩)
      rintro a k ⟨F11, ⟨hg, hs, hd⟩, i2, i11, n11, i15, i42, i43, i44, _⟩
      refine wp_seq ?_
      refine cut (fun a' k' => ∃ F11, Bs noF k0 90 a' k' ∧ (IsV lot) (a'.get 2) k' ∧ (SlR (KeyV.kv (κ := Int)) 37 (s804.1).l) F11 (a'.get 11) k' ∧ Lo k0 F11 ∧ (IsRef x809_0) (a'.get 15) k' ∧ (IsV moves) (a'.get 42) k' ∧ (IsV (α := Int) (moves.length : Int)) (a'.get 43) k' ∧ (IsV s804.2) (a'.get 44) k' ∧ (IsV x809_0.Kind) (a'.get 49) k' ∧ True) ?_ hQ ?_
      · intro Q854 hQQ854 hp855
        refine regionS (a0 := a) (k0 := k) (n := 90) (m := 2) (⟨some (IsPtr x809_0.Kind), [(15, none)]⟩ :: ⟨some (IsV x809_0.Kind), [(48, some 0)]⟩ :: []) hs (by kernel_rfl) ⟨ob1 rfl fun b q hk hn => ok_fieldAddr rfl fo33_0 (at_Move_0 _) ((up i15 hk hn.1)).ptr, ob1 rfl fun b q hk hn => ok_load rfl ty3 hn.1, trivial⟩ hQQ854 fun b q p => ?_
        exact tail_done (k := q) (hp855 _ _ ⟨F11, Bs.post ⟨hg, hs, hd⟩ p, keep p 2 rfl i2, keep p 11 rfl i11, n11, keep p 15 rfl i15, keep p 42 rfl i42, keep p 43 rfl i43, keep p 44 rfl i44, out p 1 49 _ rfl rfl rfl, trivial⟩)
      rintro a k ⟨F11, ⟨hg, hs, hd⟩, i2, i11, n11, i15, i42, i43, i44, i49, _⟩
      refine wp_block ?_
      refine wp_seq ?_
      refine cut (fun a' k' => ∃ F11, Bs noF k0 90 a' k' ∧ (IsV lot) (a'.get 2) k' ∧ (SlR (KeyV.kv (κ := Int)) 37 (s804.1).l) F11 (a'.get 11) k' ∧ Lo k0 F11 ∧ (IsRef x809_0) (a'.get 15) k' ∧ (IsV moves) (a'.get 42) k' ∧ (IsV (α := Int) (moves.length : Int)) (a'.get 43) k' ∧ (IsV s804.2) (a'.get 44) k' ∧ (IsV x809_0.Kind) (a'.get 49) k' ∧ (IsV (x809_0.Kind == 0)) (a'.get 50) k' ∧ True) ?_ hQ ?_
      · intro Q852 hQQ852 hp853
        refine regionS (a0 := a) (k0 := k) (n := 90) (m := 2) (⟨some (IsV (x809_0.Kind == 0)), [(49, none)]⟩ :: ⟨some (IsV (x809_0.Kind == 0)), [(51, some 0)]⟩ :: []) hs (by kernel_rfl) ⟨ob1 rfl fun b q hk hn => ok_eqI rfl (up i49 hk hn.1) (isV_int.2 rfl), ob1 rfl fun b q hk hn => ok_assign rfl hn.1, trivial⟩ hQQ852 fun b q p => ?_
        exact tail_done (k := q) (hp853 _ _ ⟨F11, Bs.post ⟨hg, hs, hd⟩ p, keep p 2 rfl i2, keep p 11 rfl i11, n11, keep p 15 rfl i15, keep p 42 rfl i42, keep p 43 rfl i43, keep p 44 rfl i44, keep p 49 rfl i49, out p 1 50 _ rfl rfl rfl, trivial⟩)
      rintro a k ⟨F11, ⟨hg, hs, hd⟩, i2, i11, n11, i15, i42, i43, i44, i49, i50, _⟩
      obtain ⟨s812, hs812, hr⟩ := bind_some hr
      refine cut (fun a' k' => ∃ F11, Bs noF k0 90 a' k' ∧ (IsV lot) (a'.get 2) k' ∧ (SlR (KeyV.kv (κ := Int)) 37 (s812).l) F11 (a'.get 11) k' ∧ Lo k0 F11 ∧ (IsV moves) (a'.get 42) k' ∧ (IsV (α := Int) (moves.length : Int)) (a'.get 43) k' ∧ (IsV s804.2) (a'.get 44) k' ∧ True) ?_ hQ ?_
      · intro Q851 hQQ851 hp813
        replace hr := hs812
        clear hQ
        have hQ := hQQ851
        refine wp_cond_split (isBool i50) (fun hc847 => ?_) (fun hc847 => ?_)
        · rw [if_pos hc847] at hr
          obtain ⟨x814_7, hx814_7, hr⟩ := bind_some hr
          refine cut (fun a' k' => ∃ F11, Bs noF k0 90 a' k' ∧ (IsV lot) (a'.get 2) k' ∧ (SlR (KeyV.kv (κ := Int)) 37 (x814_7).l) F11 (a'.get 11) k' ∧ Lo k0 F11 ∧ (IsV moves) (a'.get 42) k' ∧ (IsV (α := Int) (moves.length : Int)) (a'.get 43) k' ∧ (IsV s804.2) (a'.get 44) k' ∧ True) ?_ hQ ?_
          · intro Q815 hQQ815 hp816
            refine regionS (a0 := a) (k0 := k) (n := 90) (m := 7) (⟨some (Is (a.get 11)), [(11, none)]⟩ :: ⟨some (IsPtr x809_0.To), [(15, none)]⟩ :: ⟨some (IsV x809_0.To), [(53, some 1)]⟩ :: ⟨some (IsPtr x809_0.To), [(15, none)]⟩ :: ⟨some (IsV x809_0.To), [(55, some 3)]⟩ :: ⟨some (IsPtr x809_0.N), [(15, none)]⟩ :: ⟨some (IsV x809_0.N), [(57, some 5)]⟩ :: []) hs (by kernel_rfl) ⟨ob1 rfl fun b q hk hn => ok_move rfl hn.1, ob1 rfl fun b q hk hn => ok_fieldAddr rfl fo33_2 (at_Move_2 _) ((up i15 hk hn.1)).ptr, ob1 rfl fun b q hk hn => ok_load rfl ty3 hn.1, ob1 rfl fun b q hk hn => ok_fieldAddr rfl fo33_2 (at_Move_2 _) ((up i15 hk hn.1)).ptr, ob1 rfl fun b q hk hn => ok_load rfl ty3 hn.1, ob1 rfl fun b q hk hn => ok_fieldAddr rfl fo33_3 (at_Move_3 _) ((up i15 hk hn.1)).ptr, ob1 rfl fun b q hk hn => ok_load rfl ty3 hn.1, trivial⟩ hQQ815 fun b q p => ?_
            have hgq := hg.then p.grow
            have hsb := p.size.trans hs
            have hdb := p.defers.trans hd
            have j2 := keep p 2 rfl i2
            have j11 : (SlR (KeyV.kv (κ := Int)) 37 (s804.1).l) F11 (b.get 11) q := keep p 11 rfl i11
            have y11 := n11
            have j42 := keep p 42 rfl i42
            have j43 := keep p 43 rfl i43
            have j44 := keep p 44 rfl i44
            have j52 : b.get 52 = b.get 11 := (show b.get 52 = a.get 11 from out p 0 52 _ rfl rfl rfl).trans (p.old 11 rfl).symm
            have j54 : (IsV x809_0.To) (b.get 54) q := out p 2 54 _ rfl rfl rfl
            have j56 : (IsV x809_0.To) (b.get 56) q := out p 4 56 _ rfl rfl rfl
            have j58 : (IsV x809_0.N) (b.get 58) q := out p 6 58 _ rfl rfl rfl
            have hns := Rsc.nsh j11
            refine tail_call (F := F11) (i := 7) (d := 59) rfl rfl rfl rfl (by rw [hsb]; decide) Try.call26 hQQ815 (cPut_ok (show (SlR (KeyV.kv (κ := Int)) 37 (s804.1).l) F11 (b.get 52) q by rw [j52]; exact j11) j54 j56 j58 hx814_7) fun b2 q2 hsz hdf hoth hch hres => ?_
            have hle := hch.le hns
            obtain ⟨G11, hown, hob⟩ := hres
            rw [show b.eval (.tmp 52) = b.get 11 from j52] at hown
            have yn : Lo k0 G11 := fun c hc => (hob c hc).elim (y11 c) (fun h => Nat.le_trans hgq.size h)
            replace j2 := Pers.pers hle j2
            replace j42 := Pers.pers hle j42
            replace j43 := Pers.pers hle j43
            replace j44 := Pers.pers hle j44
            replace j54 := Pers.pers hle j54
            replace j56 := Pers.pers hle j56
            replace j58 := Pers.pers hle j58
            replace hgq := hgq.step hch y11.wr
            rw [← hoth 2 (by decide)] at j2
            rw [← hoth 42 (by decide)] at j42
            rw [← hoth 43 (by decide)] at j43
            rw [← hoth 44 (by decide)] at j44
            rw [← hoth 54 (by decide)] at j54
            rw [← hoth 56 (by decide)] at j56
            rw [← hoth 58 (by decide)] at j58
            rw [← hoth 11 (by decide)] at hown
            replace j11 := hown
            replace y11 := yn
            clear hown hob yn hle hch hns
            obtain ⟨F11, hFF⟩ : ∃ F, F = G11 := ⟨_, rfl⟩
            subst hFF
            replace hsb := hsz.trans hsb
            replace hdb := hdf.trans hdb
            clear hsz hdf hoth
            obtain ⟨b, hbb⟩ : ∃ b, b = b2 := ⟨b2, rfl⟩
            subst hbb
            obtain ⟨q, hqq⟩ : ∃ q, q = q2 := ⟨q2, rfl⟩
            subst hqq
            exact tail_done (k := q) (hp816 _ _ ⟨F11, ⟨hgq, hsb, hdb⟩, j2, j11, y11, j42, j43, j44, trivial⟩)
          rintro a k ⟨F11, ⟨hg, hs, hd⟩, i2, i11, n11, i42, i43, i44, _⟩
          obtain rfl := Option.some.inj hr
          exact hp813 _ _ ⟨F11, ⟨hg, hs, hd⟩, i2, i11, n11, i42, i43, i44, trivial⟩
        rw [if_neg (by rw [hc847]; decide)] at hr
        refine wp_seq ?_
        refine cut (fun a' k' => ∃ F11, Bs noF k0 90 a' k' ∧ (IsV lot) (a'.get 2) k' ∧ (SlR (KeyV.kv (κ := Int)) 37 (s804.1).l) F11 (a'.get 11) k' ∧ Lo k0 F11 ∧ (IsRef x809_0) (a'.get 15) k' ∧ (IsV moves) (a'.get 42) k' ∧ (IsV (α := Int) (moves.length : Int)) (a'.get 43) k' ∧ (IsV s804.2) (a'.get 44) k' ∧ (IsV x809_0.Kind) (a'.get 49) k' ∧ (IsV (x809_0.Kind == 1)) (a'.get 60) k' ∧ True) ?_ hQ ?_
        · intro Q845 hQQ845 hp846
          refine regionS (a0 := a) (k0 := k) (n := 90) (m := 2) (⟨some (IsV (x809_0.Kind == 1)), [(49, none)]⟩ :: ⟨some (IsV (x809_0.Kind == 1)), [(61, some 0)]⟩ :: []) hs (by kernel_rfl) ⟨ob1 rfl fun b q hk hn => ok_eqI rfl (up i49 hk hn.1) (isV_int.2 rfl), ob1 rfl fun b q hk hn => ok_assign rfl hn.1, trivial⟩ hQQ845 fun b q p => ?_
          exact tail_done (k := q) (hp846 _ _ ⟨F11, Bs.post ⟨hg, hs, hd⟩ p, keep p 2 rfl i2, keep p 11 rfl i11, n11, keep p 15 rfl i15, keep p 42 rfl i42, keep p 43 rfl i43, keep p 44 rfl i44, keep p 49 rfl i49, out p 1 60 _ rfl rfl rfl, trivial⟩)
        rintro a k ⟨F11, ⟨hg, hs, hd⟩, i2, i11, n11, i15, i42, i43, i44, i49, i60, _⟩
        obtain ⟨s818, hs818, hr⟩ := bind_some hr
        refine cut (fun a' k' => ∃ F11, Bs noF k0 90 a' k' ∧ (IsV lot) (a'.get 2) k' ∧ (SlR (KeyV.kv (κ := Int)) 37 (s818).l) F11 (a'.get 11) k' ∧ Lo k0 F11 ∧ (IsV moves) (a'.get 42) k' ∧ (IsV (α := Int) (moves.length : Int)) (a'.get 43) k' ∧ (IsV s804.2) (a'.get 44) k' ∧ True) ?_ hQ ?_
        · intro Q844 hQQ844 hp819
          replace hr := hs818
          clear hQ
          have hQ := hQQ844
          refine wp_cond_split (isBool i60) (fun hc843 => ?_) (fun hc843 => ?_)
          · rw [if_pos hc843] at hr
            obtain ⟨x820_7, hx820_7, hr⟩ := bind_some hr
            refine cut (fun a' k' => ∃ F11, Bs noF k0 90 a' k' ∧ (IsV lot) (a'.get 2) k' ∧ (SlR (KeyV.kv (κ := Int)) 37 (x820_7).l) F11 (a'.get 11) k' ∧ Lo k0 F11 ∧ (IsV moves) (a'.get 42) k' ∧ (IsV (α := Int) (moves.length : Int)) (a'.get 43) k' ∧ (IsV s804.2) (a'.get 44) k' ∧ True) ?_ hQ ?_
            · intro Q821 hQQ821 hp822
              refine regionS (a0 := a) (k0 := k) (n := 90) (m := 7) (⟨some (Is (a.get 11)), [(11, none)]⟩ :: ⟨some (IsPtr x809_0.From), [(15, none)]⟩ :: ⟨some (IsV x809_0.From), [(63, some 1)]⟩ :: ⟨some (IsPtr x809_0.To), [(15, none)]⟩ :: ⟨some (IsV x809_0.To), [(65, some 3)]⟩ :: ⟨some (IsPtr x809_0.N), [(15, none)]⟩ :: ⟨some (IsV x809_0.N), [(67, some 5)]⟩ :: []) hs (by kernel_rfl) ⟨ob1 rfl fun b q hk hn => ok_move rfl hn.1, ob1 rfl fun b q hk hn => ok_fieldAddr rfl fo33_1 (at_Move_1 _) ((up i15 hk hn.1)).ptr, ob1 rfl fun b q hk hn => ok_load rfl ty3 hn.1, ob1 rfl fun b q hk hn => ok_fieldAddr rfl fo33_2 (at_Move_2 _) ((up i15 hk hn.1)).ptr, ob1 rfl fun b q hk hn => ok_load rfl ty3 hn.1, ob1 rfl fun b q hk hn => ok_fieldAddr rfl fo33_3 (at_Move_3 _) ((up i15 hk hn.1)).ptr, ob1 rfl fun b q hk hn => ok_load rfl ty3 hn.1, trivial⟩ hQQ821 fun b q p => ?_
              have hgq := hg.then p.grow
              have hsb := p.size.trans hs
              have hdb := p.defers.trans hd
              have j2 := keep p 2 rfl i2
              have j11 : (SlR (KeyV.kv (κ := Int)) 37 (s804.1).l) F11 (b.get 11) q := keep p 11 rfl i11
              have y11 := n11
              have j42 := keep p 42 rfl i42
              have j43 := keep p 43 rfl i43
              have j44 := keep p 44 rfl i44
              have j62 : b.get 62 = b.get 11 := (show b.get 62 = a.get 11 from out p 0 62 _ rfl rfl rfl).trans (p.old 11 rfl).symm
              have j64 : (IsV x809_0.From) (b.get 64) q := out p 2 64 _ rfl rfl rfl
              have j66 : (IsV x809_0.To) (b.get 66) q := out p 4 66 _ rfl rfl rfl
              have j68 : (IsV x809_0.N) (b.get 68) q := out p 6 68 _ rfl rfl rfl
              have hns := Rsc.nsh j11
              refine tail_call (F := F11) (i := 7) (d := 69) rfl rfl rfl rfl (by rw [hsb]; decide) Try.call27 hQQ821 (cTake_ok (show (SlR (KeyV.kv (κ := Int)) 37 (s804.1).l) F11 (b.get 62) q by rw [j62]; exact j11) j64 j66 j68 hx820_7) fun b2 q2 hsz hdf hoth hch hres => ?_
              have hle := hch.le hns
              obtain ⟨G11, hown, hob⟩ := hres
              rw [show b.eval (.tmp 62) = b.get 11 from j62] at hown
              have yn : Lo k0 G11 := fun c hc => (hob c hc).elim (y11 c) (fun h => Nat.le_trans hgq.size h)
              replace j2 := Pers.pers hle j2
              replace j42 := Pers.pers hle j42
              replace j43 := Pers.pers hle j43
              replace j44 := Pers.pers hle j44
              replace j64 := Pers.pers hle j64
              replace j66 := Pers.pers hle j66
              replace j68 := Pers.pers hle j68
              replace hgq := hgq.step hch y11.wr
              rw [← hoth 2 (by decide)] at j2
              rw [← hoth 42 (by decide)] at j42
              rw [← hoth 43 (by decide)] at j43
              rw [← hoth 44 (by decide)] at j44
              rw [← hoth 64 (by decide)] at j64
              rw [← hoth 66 (by decide)] at j66
              rw [← hoth 68 (by decide)] at j68
              rw [← hoth 11 (by decide)] at hown
              replace j11 := hown
              replace y11 := yn
              clear hown hob yn hle hch hns
              obtain ⟨F11, hFF⟩ : ∃ F, F = G11 := ⟨_, rfl⟩
              subst hFF
              replace hsb := hsz.trans hsb
              replace hdb := hdf.trans hdb
              clear hsz hdf hoth
              obtain ⟨b, hbb⟩ : ∃ b, b = b2 := ⟨b2, rfl⟩
              subst hbb
              obtain ⟨q, hqq⟩ : ∃ q, q = q2 := ⟨q2, rfl⟩
              subst hqq
              exact tail_done (k := q) (hp822 _ _ ⟨F11, ⟨hgq, hsb, hdb⟩, j2, j11, y11, j42, j43, j44, trivial⟩)
            rintro a k ⟨F11, ⟨hg, hs, hd⟩, i2, i11, n11, i42, i43, i44, _⟩
            obtain rfl := Option.some.inj hr
            exact hp819 _ _ ⟨F11, ⟨hg, hs, hd⟩, i2, i11, n11, i42, i43, i44, trivial⟩
          rw [if_neg (by rw [hc843]; decide)] at hr
          refine wp_seq ?_
          refine cut (fun a' k' => ∃ F11, Bs noF k0 90 a' k' ∧ (IsV lot) (a'.get 2) k' ∧ (SlR (KeyV.kv (κ := Int)) 37 (s804.1).l) F11 (a'.get 11) k' ∧ Lo k0 F11 ∧ (IsRef x809_0) (a'.get 15) k' ∧ (IsV moves) (a'.get 42) k' ∧ (IsV (α := Int) (moves.length : Int)) (a'.get 43) k' ∧ (IsV s804.2) (a'.get 44) k' ∧ (IsV x809_0.Kind) (a'.get 49) k' ∧ (IsV (x809_0.Kind == 2)) (a'.get 70) k' ∧ True) ?_ hQ ?_
          · intro Q841 hQQ841 hp842
            refine regionS (a0 := a) (k0 := k) (n := 90) (m := 2) (⟨some (IsV (x809_0.Kind == 2)), [(49, none)]⟩ :: ⟨some (IsV (x809_0.Kind == 2)), [(71, some 0)]⟩ :: []) hs (by kernel_rfl) ⟨ob1 rfl fun b q hk hn => ok_eqI rfl (up i49 hk hn.1) (isV_int.2 rfl), ob1 rfl fun b q hk hn => ok_assign rfl hn.1, trivial⟩ hQQ841 fun b q p => ?_
            exact tail_done (k := q) (hp842 _ _ ⟨F11, Bs.post ⟨hg, hs, hd⟩ p, keep p 2 rfl i2, keep p 11 rfl i11, n11, keep p 15 rfl i15, keep p 42 rfl i42, keep p 43 rfl i43, keep p 44 rfl i44, keep p 49 rfl i49, out p 1 70 _ rfl rfl rfl, trivial⟩)
          rintro a k ⟨F11, ⟨hg, hs, hd⟩, i2, i11, n11, i15, i42, i43, i44, i49, i70, _⟩
          obtain ⟨s824, hs824, hr⟩ := bind_some hr
          refine cut (fun a' k' => ∃ F11, Bs noF k0 90 a' k' ∧ (IsV lot) (a'.get 2) k' ∧ (SlR (KeyV.kv (κ := Int)) 37 (s824).l) F11 (a'.get 11) k' ∧ Lo k0 F11 ∧ (IsV moves) (a'.get 42) k' ∧ (IsV (α := Int) (moves.length : Int)) (a'.get 43) k' ∧ (IsV s804.2) (a'.get 44) k' ∧ True) ?_ hQ ?_
          · intro Q840 hQQ840 hp825
            replace hr := hs824
            clear hQ
            have hQ := hQQ840
            refine wp_cond_split (isBool i70) (fun hc839 => ?_) (fun hc839 => ?_)
            · rw [if_pos hc839] at hr
              obtain ⟨x826_5, hx826_5, hr⟩ := bind_some hr
              refine cut (fun a' k' => ∃ F11, Bs noF k0 90 a' k' ∧ (IsV lot) (a'.get 2) k' ∧ (SlR (KeyV.kv (κ := Int)) 37 (x826_5).l) F11 (a'.get 11) k' ∧ Lo k0 F11 ∧ (IsV moves) (a'.get 42) k' ∧ (IsV (α := Int) (moves.length : Int)) (a'.get 43) k' ∧ (IsV s804.2) (a'.get 44) k' ∧ True) ?_ hQ ?_
              · intro Q827 hQQ827 hp828
                refine regionS (a0 := a) (k0 := k) (n := 90) (m := 5) (⟨some (Is (a.get 11)), [(11, none)]⟩ :: ⟨some (IsPtr x809_0.From), [(15, none)]⟩ :: ⟨some (IsV x809_0.From), [(73, some 1)]⟩ :: ⟨some (IsPtr x809_0.N), [(15, none)]⟩ :: ⟨some (IsV x809_0.N), [(75, some 3)]⟩ :: []) hs (by kernel_rfl) ⟨ob1 rfl fun b q hk hn => ok_move rfl hn.1, ob1 rfl fun b q hk hn => ok_fieldAddr rfl fo33_1 (at_Move_1 _) ((up i15 hk hn.1)).ptr, ob1 rfl fun b q hk hn => ok_load rfl ty3 hn.1, ob1 rfl fun b q hk hn => ok_fieldAddr rfl fo33_3 (at_Move_3 _) ((up i15 hk hn.1)).ptr, ob1 rfl fun b q hk hn => ok_load rfl ty3 hn.1, trivial⟩ hQQ827 fun b q p => ?_
                have hgq := hg.then p.grow
                have hsb := p.size.trans hs
                have hdb := p.defers.trans hd
                have j2 := keep p 2 rfl i2
                have j11 : (SlR (KeyV.kv (κ := Int)) 37 (s804.1).l) F11 (b.get 11) q := keep p 11 rfl i11
                have y11 := n11
                have j42 := keep p 42 rfl i42
                have j43 := keep p 43 rfl i43
                have j44 := keep p 44 rfl i44
                have j72 : b.get 72 = b.get 11 := (show b.get 72 = a.get 11 from out p 0 72 _ rfl rfl rfl).trans (p.old 11 rfl).symm
                have j74 : (IsV x809_0.From) (b.get 74) q := out p 2 74 _ rfl rfl rfl
                have j76 : (IsV x809_0.N) (b.get 76) q := out p 4 76 _ rfl rfl rfl
                have hns := Rsc.nsh j11
                refine tail_call (F := F11) (i := 5) (d := 77) rfl rfl rfl rfl (by rw [hsb]; decide) Try.call27 hQQ827 (cTake_ok (show (SlR (KeyV.kv (κ := Int)) 37 (s804.1).l) F11 (b.get 72) q by rw [j72]; exact j11) j74 (isV_int.2 rfl) j76 hx826_5) fun b2 q2 hsz hdf hoth hch hres => ?_
                have hle := hch.le hns
                obtain ⟨G11, hown, hob⟩ := hres
                rw [show b.eval (.tmp 72) = b.get 11 from j72] at hown
                have yn : Lo k0 G11 := fun c hc => (hob c hc).elim (y11 c) (fun h => Nat.le_trans hgq.size h)
                replace j2 := Pers.pers hle j2
                replace j42 := Pers.pers hle j42
                replace j43 := Pers.pers hle j43
                replace j44 := Pers.pers hle j44
                replace j74 := Pers.pers hle j74
                replace j76 := Pers.pers hle j76
                replace hgq := hgq.step hch y11.wr
                rw [← hoth 2 (by decide)] at j2
                rw [← hoth 42 (by decide)] at j42
                rw [← hoth 43 (by decide)] at j43
                rw [← hoth 44 (by decide)] at j44
                rw [← hoth 74 (by decide)] at j74
                rw [← hoth 76 (by decide)] at j76
                rw [← hoth 11 (by decide)] at hown
                replace j11 := hown
                replace y11 := yn
                clear hown hob yn hle hch hns
                obtain ⟨F11, hFF⟩ : ∃ F, F = G11 := ⟨_, rfl⟩
                subst hFF
                replace hsb := hsz.trans hsb
                replace hdb := hdf.trans hdb
                clear hsz hdf hoth
                obtain ⟨b, hbb⟩ : ∃ b, b = b2 := ⟨b2, rfl⟩
                subst hbb
                obtain ⟨q, hqq⟩ : ∃ q, q = q2 := ⟨q2, rfl⟩
                subst hqq
                exact tail_done (k := q) (hp828 _ _ ⟨F11, ⟨hgq, hsb, hdb⟩, j2, j11, y11, j42, j43, j44, trivial⟩)
              rintro a k ⟨F11, ⟨hg, hs, hd⟩, i2, i11, n11, i42, i43, i44, _⟩
              obtain rfl := Option.some.inj hr
              exact hp825 _ _ ⟨F11, ⟨hg, hs, hd⟩, i2, i11, n11, i42, i43, i44, trivial⟩
            rw [if_neg (by rw [hc839]; decide)] at hr
            refine wp_seq ?_
            refine cut (fun a' k' => ∃ F11, Bs noF k0 90 a' k' ∧ (IsV lot) (a'.get 2) k' ∧ (SlR (KeyV.kv (κ := Int)) 37 (s804.1).l) F11 (a'.get 11) k' ∧ Lo k0 F11 ∧ (IsRef x809_0) (a'.get 15) k' ∧ (IsV moves) (a'.get 42) k' ∧ (IsV (α := Int) (moves.length : Int)) (a'.get 43) k' ∧ (IsV s804.2) (a'.get 44) k' ∧ (IsV (x809_0.Kind == 3)) (a'.get 78) k' ∧ True) ?_ hQ ?_
            · intro Q837 hQQ837 hp838
              refine regionS (a0 := a) (k0 := k) (n := 90) (m := 2) (⟨some (IsV (x809_0.Kind == 3)), [(49, none)]⟩ :: ⟨some (IsV (x809_0.Kind == 3)), [(79, some 0)]⟩ :: []) hs (by kernel_rfl) ⟨ob1 rfl fun b q hk hn => ok_eqI rfl (up i49 hk hn.1) (isV_int.2 rfl), ob1 rfl fun b q hk hn => ok_assign rfl hn.1, trivial⟩ hQQ837 fun b q p => ?_
              exact tail_done (k := q) (hp838 _ _ ⟨F11, Bs.post ⟨hg, hs, hd⟩ p, keep p 2 rfl i2, keep p 11 rfl i11, n11, keep p 15 rfl i15, keep p 42 rfl i42, keep p 43 rfl i43, keep p 44 rfl i44, out p 1 78 _ rfl rfl rfl, trivial⟩)
            rintro a k ⟨F11, ⟨hg, hs, hd⟩, i2, i11, n11, i15, i42, i43, i44, i78, _⟩
            obtain ⟨s830, hs830, hr⟩ := bind_some hr
            refine cut (fun a' k' => ∃ F11, Bs noF k0 90 a' k' ∧ (IsV lot) (a'.get 2) k' ∧ (SlR (KeyV.kv (κ := Int)) 37 (s830).l) F11 (a'.get 11) k' ∧ Lo k0 F11 ∧ (IsV moves) (a'.get 42) k' ∧ (IsV (α := Int) (moves.length : Int)) (a'.get 43) k' ∧ (IsV s804.2) (a'.get 44) k' ∧ True) ?_ hQ ?_
            · intro Q836 hQQ836 hp831
              replace hr := hs830
              clear hQ
              have hQ := hQQ836
              refine wp_cond_split (isBool i78) (fun hc835 => ?_) (fun hc835 => ?_)
              · rw [if_pos hc835] at hr
                obtain ⟨x832_5, hx832_5, hr⟩ := bind_some hr
                refine cut (fun a' k' => ∃ F11, Bs noF k0 90 a' k' ∧ (IsV lot) (a'.get 2) k' ∧ (SlR (KeyV.kv (κ := Int)) 37 (x832_5).l) F11 (a'.get 11) k' ∧ Lo k0 F11 ∧ (IsV moves) (a'.get 42) k' ∧ (IsV (α := Int) (moves.length : Int)) (a'.get 43) k' ∧ (IsV s804.2) (a'.get 44) k' ∧ True) ?_ hQ ?_
                · intro Q833 hQQ833 hp834
                  refine regionS (a0 := a) (k0 := k) (n := 90) (m := 5) (⟨some (Is (a.get 11)), [(11, none)]⟩ :: ⟨some (IsPtr x809_0.From), [(15, none)]⟩ :: ⟨some (IsV x809_0.From), [(81, some 1)]⟩ :: ⟨some (IsPtr x809_0.N), [(15, none)]⟩ :: ⟨some (IsV x809_0.N), [(83, some 3)]⟩ :: []) hs (by kernel_rfl) ⟨ob1 rfl fun b q hk hn => ok_move rfl hn.1, ob1 rfl fun b q hk hn => ok_fieldAddr rfl fo33_1 (at_Move_1 _) ((up i15 hk hn.1)).ptr, ob1 rfl fun b q hk hn => ok_load rfl ty3 hn.1, ob1 rfl fun b q hk hn => ok_fieldAddr rfl fo33_3 (at_Move_3 _) ((up i15 hk hn.1)).ptr, ob1 rfl fun b q hk hn => ok_load rfl ty3 hn.1, trivial⟩ hQQ833 fun b q p => ?_
                  have hgq := hg.then p.grow
                  have hsb := p.size.trans hs
                  have hdb := p.defers.trans hd
                  have j2 := keep p 2 rfl i2
                  have j11 : (SlR (KeyV.kv (κ := Int)) 37 (s804.1).l) F11 (b.get 11) q := keep p 11 rfl i11
                  have y11 := n11
                  have j42 := keep p 42 rfl i42
                  have j43 := keep p 43 rfl i43
                  have j44 := keep p 44 rfl i44
                  have j80 : b.get 80 = b.get 11 := (show b.get 80 = a.get 11 from out p 0 80 _ rfl rfl rfl).trans (p.old 11 rfl).symm
                  have j82 : (IsV x809_0.From) (b.get 82) q := out p 2 82 _ rfl rfl rfl
                  have j84 : (IsV x809_0.N) (b.get 84) q := out p 4 84 _ rfl rfl rfl
                  have hns := Rsc.nsh j11
                  refine tail_call (F := F11) (i := 5) (d := 85) rfl rfl rfl rfl (by rw [hsb]; decide) Try.call27 hQQ833 (cTake_ok (show (SlR (KeyV.kv (κ := Int)) 37 (s804.1).l) F11 (b.get 80) q by rw [j80]; exact j11) j82 (isV_int.2 rfl) j84 hx832_5) fun b2 q2 hsz hdf hoth hch hres => ?_
                  have hle := hch.le hns
                  obtain ⟨G11, hown, hob⟩ := hres
                  rw [show b.eval (.tmp 80) = b.get 11 from j80] at hown
                  have yn : Lo k0 G11 := fun c hc => (hob c hc).elim (y11 c) (fun h => Nat.le_trans hgq.size h)
                  replace j2 := Pers.pers hle j2
                  replace j42 := Pers.pers hle j42
                  replace j43 := Pers.pers hle j43
                  replace j44 := Pers.pers hle j44
                  replace j82 := Pers.pers hle j82
                  replace j84 := Pers.pers hle j84
                  replace hgq := hgq.step hch y11.wr
                  rw [← hoth 2 (by decide)] at j2
                  rw [← hoth 42 (by decide)] at j42
                  rw [← hoth 43 (by decide)] at j43
                  rw [← hoth 44 (by decide)] at j44
                  rw [← hoth 82 (by decide)] at j82
                  rw [← hoth 84 (by decide)] at j84
                  rw [← hoth 11 (by decide)] at hown
                  replace j11 := hown
                  replace y11 := yn
                  clear hown hob yn hle hch hns
                  obtain ⟨F11, hFF⟩ : ∃ F, F = G11 := ⟨_, rfl⟩
                  subst hFF
                  replace hsb := hsz.trans hsb
                  replace hdb := hdf.trans hdb
                  clear hsz hdf hoth
                  obtain ⟨b, hbb⟩ : ∃ b, b = b2 := ⟨b2, rfl⟩
                  subst hbb
                  obtain ⟨q, hqq⟩ : ∃ q, q = q2 := ⟨q2, rfl⟩
                  subst hqq
                  exact tail_done (k := q) (hp834 _ _ ⟨F11, ⟨hgq, hsb, hdb⟩, j2, j11, y11, j42, j43, j44, trivial⟩)
                rintro a k ⟨F11, ⟨hg, hs, hd⟩, i2, i11, n11, i42, i43, i44, _⟩
                obtain rfl := Option.some.inj hr
                exact hp831 _ _ ⟨F11, ⟨hg, hs, hd⟩, i2, i11, n11, i42, i43, i44, trivial⟩
              rw [if_neg (by rw [hc835]; decide)] at hr
              refine wp_skip ?_
              obtain rfl := Option.some.inj hr
              exact hp831 _ _ ⟨F11, ⟨hg, hs, hd⟩, i2, i11, n11, i42, i43, i44, trivial⟩
            clear hs830
            rintro a k ⟨F11, ⟨hg, hs, hd⟩, i2, i11, n11, i42, i43, i44, _⟩
            obtain rfl := Option.some.inj hr
            exact hp825 _ _ ⟨F11, ⟨hg, hs, hd⟩, i2, i11, n11, i42, i43, i44, trivial⟩
          clear hs824
          rintro a k ⟨F11, ⟨hg, hs, hd⟩, i2, i11, n11, i42, i43, i44, _⟩
          obtain rfl := Option.some.inj hr
          exact hp819 _ _ ⟨F11, ⟨hg, hs, hd⟩, i2, i11, n11, i42, i43, i44, trivial⟩
        clear hs818
        rintro a k ⟨F11, ⟨hg, hs, hd⟩, i2, i11, n11, i42, i43, i44, _⟩
        obtain rfl := Option.some.inj hr
        exact hp813 _ _ ⟨F11, ⟨hg, hs, hd⟩, i2, i11, n11, i42, i43, i44, trivial⟩
      clear hs812
      rintro a k ⟨F11, ⟨hg, hs, hd⟩, i2, i11, n11, i42, i43, i44, _⟩
      obtain ⟨x848_0, hx848_0, hr⟩ := bind_some hr
      refine cut (fun a' k' => ∃ F11, Bs noF k0 90 a' k' ∧ (IsV lot) (a'.get 2) k' ∧ (SlR (KeyV.kv (κ := Int)) 37 (s812).l) F11 (a'.get 11) k' ∧ Lo k0 F11 ∧ (IsV moves) (a'.get 42) k' ∧ (IsV (α := Int) (moves.length : Int)) (a'.get 43) k' ∧ (IsV x848_0) (a'.get 44) k' ∧ True) ?_ hQ ?_
      · intro Q849 hQQ849 hp850
        refine regionS (a0 := a) (k0 := k) (n := 90) (m := 2) (⟨some (IsV x848_0), [(44, none)]⟩ :: ⟨some (IsV x848_0), [(86, some 0)]⟩ :: []) hs (by kernel_rfl) ⟨ob1 rfl fun b q hk hn => ok_add rfl (up i44 hk hn.1) (isV_int.2 rfl) hx848_0, ob1 rfl fun b q hk hn => ok_move rfl hn.1, trivial⟩ hQQ849 fun b q p => ?_
        exact tail_done (k := q) (hp850 _ _ ⟨F11, Bs.post ⟨hg, hs, hd⟩ p, keep p 2 rfl i2, keep p 11 rfl i11, n11, keep p 42 rfl i42, keep p 43 rfl i43, out p 1 44 _ rfl rfl rfl, trivial⟩)
      rintro a k ⟨F11, ⟨hg, hs, hd⟩, i2, i11, n11, i42, i43, i44, _⟩
      exact hgo805 _ _ _ (Option.some.inj hr).symm ⟨F11, ⟨hg, hs, hd⟩, i2, i11, n11, i42, i43, i44, trivial⟩
    rw [if_neg (by rw [hc859]; decide)] at hr
    refine wp_exit ?_
    obtain ⟨kk, sh858, ii11⟩ := SlR.give i11
    replace i2 := Pers.pers sh858.le i2
    replace i11 := ii11
    replace hg := hg.hand sh858 n11.wr
    rw [← sh858.w]
    clear sh858
    obtain ⟨k, hkk⟩ : ∃ k, k = kk := ⟨kk, rfl⟩
    subst hkk
    exact hex806 _ _ _ _ (Option.some.inj hr).symm ⟨rfl, ⟨hg, hs, hd⟩, i2, i11, trivial⟩
  · rintro r867 a k rfl hR
    dsimp only at hr
    obtain rfl := Option.some.inj hr
    exact hR
  · rintro _ _ _ rfl _
    simp at hr
  clear hf862
  rintro _ s863 a k rfl ⟨rfl, ⟨hg, hs, hd⟩, i2, i11, _⟩
  dsimp only at hr
  refine wp_seq ?_
  refine cut (fun a' k' => Bs noF k0 90 a' k' ∧ (IsV (((s863.1).get lot).getD ([]))) (a'.get 6) k' ∧ (IsV (α := Int) 0) (a'.get 7) k' ∧ True) ?_ hQ ?_
  · intro Q865 hQQ865 hp866
    refine regionS (a0 := a) (k0 := k) (n := 90) (m := 5) (⟨some (IsV s863.1), [(11, none)]⟩ :: ⟨some (IsV lot), [(2, none)]⟩ :: ⟨some (IsV (((s863.1).get lot).getD ([]))), [(87, some 0), (88, some 1)]⟩ :: ⟨some (IsV (((s863.1).get lot).getD ([]))), [(89, some 2)]⟩ :: ⟨some (IsV (α := Int) 0), []⟩ :: []) hs (by kernel_rfl) ⟨ob1 rfl fun b q hk hn => ok_move rfl (up i11 hk hn.1), ob1 rfl fun b q hk hn => ok_move rfl (up i2 hk hn.1), ob1 rfl fun b q hk hn => ok_lookupV rfl key3 Try.underlying49 z29 hn.1 (isV_int.1 hn.2.1), ob1 rfl fun b q hk hn => ok_assign rfl hn.1, ob1 rfl fun b q hk hn => ok_assign rfl (isV_int.2 rfl), trivial⟩ hQQ865 fun b q p => ?_
    exact tail_done (k := q) (hp866 _ _ ⟨Bs.post ⟨hg, hs, hd⟩ p, out p 3 6 _ rfl rfl rfl, out p 4 7 _ rfl rfl rfl, trivial⟩)
  rintro a k ⟨⟨hg, hs, hd⟩, i6, i7, _⟩
  refine wp_ret ?_
  obtain rfl := Option.some.inj hr
  exact retC2 rfl hd hg i6 i7
def small  : Option (Bool) :=
  (cDo ([(⟨1, 10, false⟩ : Account), (⟨2, 3, true⟩ : Account)]) (⟨1, 1, 2, 4⟩ : Move)).bind fun x888_2 =>
  (cRun ([(⟨1, 10, false⟩ : Account), (⟨2, 3, true⟩ : Account)]) ([(⟨1, 1, 2, 4⟩ : Move), (⟨2, 2, 0, 5⟩ : Move)])).bind fun x889_4 =>
  (cTrace ([(⟨1, 10, false⟩ : Account), (⟨2, 3, true⟩ : Account)]) ([(⟨1, 1, 2, 4⟩ : Move)]) 2).bind fun x890_3 =>
  (cTrace ([(⟨1, 10, false⟩ : Account), (⟨2, 3, true⟩ : Account)]) ([(⟨1, 1, 2, 4⟩ : Move), (⟨2, 2, 0, 5⟩ : Move)]) 0).bind fun x891_4 =>
  (cDo ([(⟨1, 10, false⟩ : Account), (⟨2, 3, true⟩ : Account)]) (⟨1, 2, 1, 1⟩ : Move)).bind fun x892_2 =>
  (cDo ([(⟨1, 10, false⟩ : Account), (⟨2, 3, true⟩ : Account)]) (⟨1, 1, 2, 11⟩ : Move)).bind fun x893_2 =>
  (if (((((((x888_2.2 == 0) && (x889_4.2.2 == 0)) && (x890_3.2 == 0)) && (x891_4.2 == 0)) && (x892_2.2 == 24)) && (x893_2.2 == 23)) && (x889_4.2.1 == 2)) then
    (cUnits x888_2.1 1).bind fun x895_3 =>
    some (x895_3 == 6)
  else
    some false).bind fun x895_5 =>
  (if x895_5 then
    (cUnits x888_2.1 2).bind fun x895_8 =>
    some (x895_8 == 7)
  else
    some false).bind fun x895_10 =>
  (if x895_10 then
    (cUnits x889_4.1 2).bind fun x895_13 =>
    some (x895_13 == 2)
  else
    some false).bind fun x895_15 =>
  (if x895_15 then
    (rSameTrace x890_3.1 ([((2, 3) : (Int × Int)), ((1, 4) : (Int × Int))])).bind fun x895_21 =>
    some x895_21
  else
    some false).bind fun x895_22 =>
  (if x895_22 then
    (rSameTrace x891_4.1 ([((2, 3) : (Int × Int)), ((1, 2) : (Int × Int))])).bind fun x895_28 =>
    some x895_28
  else
    some false).bind fun x895_29 =>
  some x895_29
theorem small_ok {k0 : K} {r : Bool} (hr : small = some r) :
    Calls Try.prog 8 #[] k0.w (Ret k0 (IsV r)) := by
  unfold small at hr
  refine Ret.ofC ?_
  refine enterK Try.func8 rfl Try.ntmps8 (show 0 ≤ 121 by decide) fun a k hk0 hs hd ha => ?_
  have hQ : Gb.LetsOut (bodyPost Try.prog Try.f8 (RetC noF k0 (IsV r))) := letsOutC
  have hg : Chg noF k0 k := by rw [hk0]; exact Chg.refl _ k0
  refine wp_seq ?_
  refine cut (fun a' k' => Bs noF k0 121 a' k' ∧ True) ?_ hQ ?_
  · intro Q918 hQQ918 hp919
    refine regionS (a0 := a) (k0 := k) (n := 121) (m := 1) (⟨some (IsV false), []⟩ :: []) hs (by kernel_rfl) ⟨ob1 rfl fun b q hk hn => ok_assign rfl (isV_bool.2 rfl), trivial⟩ hQQ918 fun b q p => ?_
    exact tail_done (k := q) (hp919 _ _ ⟨Bs.post ⟨hg, hs, hd⟩ p, trivial⟩)
  rintro a k ⟨⟨hg, hs, hd⟩, _⟩
  refine wp_seq ?_
  refine cut (fun a' k' => Bs noF k0 121 a' k' ∧ (IsV ([(⟨1, 10, false⟩ : Account), (⟨2, 3, true⟩ : Account)])) (a'.get 1) k' ∧ True) ?_ hQ ?_
  · intro Q916 hQQ916 hp917
    refine regionS (a0 := a) (k0 := k) (n := 121) (m := 4) (⟨some (IsV (⟨1, 10, false⟩ : Account)), []⟩ :: ⟨some (IsV (⟨2, 3, true⟩ : Account)), []⟩ :: ⟨some (IsV ([(⟨1, 10, false⟩ : Account), (⟨2, 3, true⟩ : Account)])), [(18, some 0), (19, some 1)]⟩ :: ⟨some (IsV ([(⟨1, 10, false⟩ : Account), (⟨2, 3, true⟩ : Account)])), [(20, some 2)]⟩ :: []) hs (by kernel_rfl) ⟨ob1 rfl fun b q hk hn => ok_build rfl (bld35_0_1 (isV_int.2 rfl) (isV_int.2 rfl)), ob1 rfl fun b q hk hn => ok_build rfl (bld35_0_1_2 (isV_int.2 rfl) (isV_int.2 rfl) (isV_bool.2 rfl)), ob1 rfl fun b q hk hn => ok_buildSlice rfl Try.underlying22 eo35 rfl (by decide) (by decide) ⟨rfl, hn.1, rfl, hn.2.1, trivial⟩, ob1 rfl fun b q hk hn => ok_assign rfl hn.1, trivial⟩ hQQ916 fun b q p => ?_
    exact tail_done (k := q) (hp917 _ _ ⟨Bs.post ⟨hg, hs, hd⟩ p, out p 3 1 _ rfl rfl rfl, trivial⟩)
  rintro a k ⟨⟨hg, hs, hd⟩, i1, _⟩
  refine wp_seq ?_
  refine cut (fun a' k' => Bs noF k0 121 a' k' ∧ (IsV ([(⟨1, 10, false⟩ : Account), (⟨2, 3, true⟩ : Account)])) (a'.get 1) k' ∧ (IsRef (⟨1, 1, 2, 4⟩ : Move)) (a'.get 2) k' ∧ True) ?_ hQ ?_
  · intro Q914 hQQ914 hp915
    refine regionS (a0 := a) (k0 := k) (n := 121) (m := 2) (⟨some (IsV (⟨1, 1, 2, 4⟩ : Move)), []⟩ :: ⟨some (IsBox k.w.heap.size (⟨0, 0, 0, 0⟩ : Move)), []⟩ :: []) hs (by kernel_rfl) ⟨ob1 rfl fun b q hk hn => ok_build rfl (bld33_0_1_2_3 (isV_int.2 rfl) (isV_int.2 rfl) (isV_int.2 rfl) (isV_int.2 rfl)), ob1 rfl fun b q hk hn => ok_alloc _ hk.size rfl z33, trivial⟩ hQQ914 fun b q p => ?_
    have hgq := hg.then p.grow
    have hsb := p.size.trans hs
    have hdb := p.defers.trans hd
    have j1 := keep p 1 rfl i1
    obtain ⟨b2, j2, x2, z2⟩ : (IsBox k.w.heap.size (⟨0, 0, 0, 0⟩ : Move)) (b.get 2) q := out p 1 2 _ rfl rfl rfl
    replace x2 : Lo k (Eq b2) := Lo.eq x2
    have y2 : Lo k0 (Eq b2) := x2.chg hg
    have j21 : (IsV (⟨1, 1, 2, 4⟩ : Move)) (b.get 21) q := out p 0 21 _ rfl rfl rfl
    have hns := z2.nshF
    refine tail_storeB (i := 2) rfl rfl rfl rfl szf33 (Upd.self (α := Move)) j2 z2 j21 fun q2 hch hz => ?_
    replace hgq := hgq.step hch y2.wr
    have hle := hch.le hns
    replace j1 := Pers.pers hle j1
    replace j21 := Pers.pers hle j21
    replace z2 := hz
    clear hns hle hch
    obtain ⟨q, hqq⟩ : ∃ q, q = q2 := ⟨q2, rfl⟩
    subst hqq
    obtain ⟨q2, hsh, jn⟩ := z2.give
    replace j1 := Pers.pers hsh.le j1
    rw [← j2] at jn
    replace j2 := jn
    replace hgq := hgq.hand hsh y2.wr
    rw [← hsh.w]
    clear hsh
    obtain ⟨q, hqq⟩ : ∃ q, q = q2 := ⟨q2, rfl⟩
    subst hqq
    exact tail_done (k := q) (hp915 _ _ ⟨⟨hgq, hsb, hdb⟩, j1, j2, trivial⟩)
  rintro a k ⟨⟨hg, hs, hd⟩, i1, i2, _⟩
  refine wp_seq ?_
  refine cut (fun a' k' => Bs noF k0 121 a' k' ∧ (IsV ([(⟨1, 10, false⟩ : Account), (⟨2, 3, true⟩ : Account)])) (a'.get 1) k' ∧ (IsRef (⟨1, 1, 2, 4⟩ : Move)) (a'.get 2) k' ∧ (IsRef (⟨2, 2, 0, 5⟩ : Move)) (a'.get 3) k' ∧ True) ?_ hQ ?_
  · intro Q912 hQQ912 hp913
    refine regionS (a0 := a) (k0 := k) (n := 121) (m := 2) (⟨some (IsV (⟨2, 2, 0, 5⟩ : Move)), []⟩ :: ⟨some (IsBox k.w.heap.size (⟨0, 0, 0, 0⟩ : Move)), []⟩ :: []) hs (by kernel_rfl) ⟨ob1 rfl fun b q hk hn => ok_build rfl (bld33_0_1_3 (isV_int.2 rfl) (isV_int.2 rfl) (isV_int.2 rfl)), ob1 rfl fun b q hk hn => ok_alloc _ hk.size rfl z33, trivial⟩ hQQ912 fun b q p => ?_
    have hgq := hg.then p.grow
    have hsb := p.size.trans hs
    have hdb := p.defers.trans hd
    have j1 := keep p 1 rfl i1
    have j2 := keep p 2 rfl i2
    obtain ⟨b3, j3, x3, z3⟩ : (IsBox k.w.heap.size (⟨0, 0, 0, 0⟩ : Move)) (b.get 3) q := out p 1 3 _ rfl rfl rfl
    replace x3 : Lo k (Eq b3) := Lo.eq x3
    have y3 : Lo k0 (Eq b3) := x3.chg hg
    have j22 : (IsV (⟨2, 2, 0, 5⟩ : Move)) (b.get 22) q := out p 0 22 _ rfl rfl rfl
    have hns := z3.nshF
    refine tail_storeB (i := 2) rfl rfl rfl rfl szf33 (Upd.self (α := Move)) j3 z3 j22 fun q2 hch hz => ?_
    replace hgq := hgq.step hch y3.wr
    have hle := hch.le hns
    replace j1 := Pers.pers hle j1
    replace j2 := Pers.pers hle j2
    replace j22 := Pers.pers hle j22
    replace z3 := hz
    clear hns hle hch
    obtain ⟨q, hqq⟩ : ∃ q, q = q2 := ⟨q2, rfl⟩
    subst hqq
    obtain ⟨q2, hsh, jn⟩ := z3.give
    replace j1 := Pers.pers hsh.le j1
    replace j2 := Pers.pers hsh.le j2
    rw [← j3] at jn
    replace j3 := jn
    replace hgq := hgq.hand hsh y3.wr
    rw [← hsh.w]
    clear hsh
    obtain ⟨q, hqq⟩ : ∃ q, q = q2 := ⟨q2, rfl⟩
    subst hqq
    exact tail_done (k := q) (hp913 _ _ ⟨⟨hgq, hsb, hdb⟩, j1, j2, j3, trivial⟩)
  rintro a k ⟨⟨hg, hs, hd⟩, i1, i2, i3, _⟩
  refine wp_seq ?_
  obtain ⟨x888_2, hx888_2, hr⟩ := bind_some hr
  refine cut (fun a' k' => Bs noF k0 121 a' k' ∧ (IsV ([(⟨1, 10, false⟩ : Account), (⟨2, 3, true⟩ : Account)])) (a'.get 1) k' ∧ (IsRef (⟨1, 1, 2, 4⟩ : Move)) (a'.get 2) k' ∧ (IsRef (⟨2, 2, 0, 5⟩ : Move)) (a'.get 3) k' ∧ (IsV x888_2.1) (a'.get 4) k' ∧ (IsV x888_2.2) (a'.get 5) k' ∧ True) ?_ hQ ?_
  · intro Q910 hQQ910 hp911
    refine regionS (a0 := a) (k0 := k) (n := 121) (m := 8) (⟨some (IsV ([(⟨1, 10, false⟩ : Account), (⟨2, 3, true⟩ : Account)])), [(1, none)]⟩ :: ⟨some (IsV (⟨1, 1, 2, 4⟩ : Move)), [(2, none)]⟩ :: ⟨some (IsTup2 (IsV x888_2.1) (IsV x888_2.2)), [(24, some 0), (25, some 1)]⟩ :: ⟨some (IsTup2 (IsV x888_2.1) (IsV x888_2.2)), [(26, some 2)]⟩ :: ⟨some (IsV x888_2.1), [(23, some 3)]⟩ :: ⟨some (IsV x888_2.2), [(23, some 3)]⟩ :: ⟨some (IsV x888_2.1), [(27, some 4)]⟩ :: ⟨some (IsV x888_2.2), [(28, some 5)]⟩ :: []) hs (by kernel_rfl) ⟨ob1 rfl fun b q hk hn => ok_move rfl (up i1 hk hn.1), ob1 rfl fun b q hk hn => ok_load rfl ty33 ((up i2 hk hn.1)).ptr, ob1 rfl fun b q hk hn => ok_call rfl Try.call13 (cDo_ok hn.1 hn.2.1 hx888_2), ob1 rfl fun b q hk hn => ok_move rfl hn.1, ob1 rfl fun b q hk hn => ok_ext2_0 rfl hn.1, ob1 rfl fun b q hk hn => ok_ext2_1 rfl hn.1, ob1 rfl fun b q hk hn => ok_assign rfl hn.1, ob1 rfl fun b q hk hn => ok_assign rfl hn.1, trivial⟩ hQQ910 fun b q p => ?_
    exact tail_done (k := q) (hp911 _ _ ⟨Bs.post ⟨hg, hs, hd⟩ p, keep p 1 rfl i1, keep p 2 rfl i2, keep p 3 rfl i3, out p 6 4 _ rfl rfl rfl, out p 7 5 _ rfl rfl rfl, trivial⟩)
  rintro a k ⟨⟨hg, hs, hd⟩, i1, i2, i3, i4, i5, _⟩
  refine wp_seq ?_
  obtain ⟨x889_4, hx889_4, hr⟩ := bind_some hr
  refine cut (fun a' k' => Bs noF k0 121 a' k' ∧ (IsV ([(⟨1, 10, false⟩ : Account), (⟨2, 3, true⟩ : Account)])) (a'.get 1) k' ∧ (IsRef (⟨1, 1, 2, 4⟩ : Move)) (a'.get 2) k' ∧ (IsRef (⟨2, 2, 0, 5⟩ : Move)) (a'.get 3) k' ∧ (IsV x888_2.1) (a'.get 4) k' ∧ (IsV x888_2.2) (a'.get 5) k' ∧ (IsV x889_4.1) (a'.get 6) k' ∧ (IsV x889_4.2.1) (a'.get 7) k' ∧ (IsV x889_4.2.2) (a'.get 8) k' ∧ True) ?_ hQ ?_
  · intro Q908 hQQ908 hp909
    refine regionS (a0 := a) (k0 := k) (n := 121) (m := 12) (⟨some (IsV ([(⟨1, 10, false⟩ : Account), (⟨2, 3, true⟩ : Account)])), [(1, none)]⟩ :: ⟨some (IsV (⟨1, 1, 2, 4⟩ : Move)), [(2, none)]⟩ :: ⟨some (IsV (⟨2, 2, 0, 5⟩ : Move)), [(3, none)]⟩ :: ⟨some (IsV ([(⟨1, 1, 2, 4⟩ : Move), (⟨2, 2, 0, 5⟩ : Move)])), [(31, some 1), (32, some 2)]⟩ :: ⟨some (IsTup3 (IsV x889_4.1) (IsV x889_4.2.1) (IsV x889_4.2.2)), [(30, some 0), (33, some 3)]⟩ :: ⟨some (IsTup3 (IsV x889_4.1) (IsV x889_4.2.1) (IsV x889_4.2.2)), [(34, some 4)]⟩ :: ⟨some (IsV x889_4.1), [(29, some 5)]⟩ :: ⟨some (IsV x889_4.2.1), [(29, some 5)]⟩ :: ⟨some (IsV x889_4.2.2), [(29, some 5)]⟩ :: ⟨some (IsV x889_4.1), [(35, some 6)]⟩ :: ⟨some (IsV x889_4.2.1), [(36, some 7)]⟩ :: ⟨some (IsV x889_4.2.2), [(37, some 8)]⟩ :: []) hs (by kernel_rfl) ⟨ob1 rfl fun b q hk hn => ok_move rfl (up i1 hk hn.1), ob1 rfl fun b q hk hn => ok_load rfl ty33 ((up i2 hk hn.1)).ptr, ob1 rfl fun b q hk hn => ok_load rfl ty33 ((up i3 hk hn.1)).ptr, ob1 rfl fun b q hk hn => ok_buildSlice rfl Try.underlying23 eo33 rfl (by decide) (by decide) ⟨rfl, hn.1, rfl, hn.2.1, trivial⟩, ob1 rfl fun b q hk hn => ok_call rfl Try.call10 (cRun_ok hn.1 hn.2.1 hx889_4), ob1 rfl fun b q hk hn => ok_move rfl hn.1, ob1 rfl fun b q hk hn => ok_ext3_0 rfl hn.1, ob1 rfl fun b q hk hn => ok_ext3_1 rfl hn.1, ob1 rfl fun b q hk hn => ok_ext3_2 rfl hn.1, ob1 rfl fun b q hk hn => ok_assign rfl hn.1, ob1 rfl fun b q hk hn => ok_assign rfl hn.1, ob1 rfl fun b q hk hn => ok_assign rfl hn.1, trivial⟩ hQQ908 fun b q p => ?_
    exact tail_done (k := q) (hp909 _ _ ⟨Bs.post ⟨hg, hs, hd⟩ p, keep p 1 rfl i1, keep p 2 rfl i2, keep p 3 rfl i3, keep p 4 rfl i4, keep p 5 rfl i5, out p 9 6 _ rfl rfl rfl, out p 10 7 _ rfl rfl rfl, out p 11 8 _ rfl rfl rfl, trivial⟩)
  rintro a k ⟨⟨hg, hs, hd⟩, i1, i2, i3, i4, i5, i6, i7, i8, _⟩
  refine wp_seq ?_
  obtain ⟨x890_3, hx890_3, hr⟩ := bind_some hr
  refine cut (fun a' k' => Bs noF k0 121 a' k' ∧ (IsV ([(⟨1, 10, false⟩ : Account), (⟨2, 3, true⟩ : Account)])) (a'.get 1) k' ∧ (IsRef (⟨1, 1, 2, 4⟩ : Move)) (a'.get 2) k' ∧ (IsRef (⟨2, 2, 0, 5⟩ : Move)) (a'.get 3) k' ∧ (IsV x888_2.1) (a'.get 4) k' ∧ (IsV x888_2.2) (a'.get 5) k' ∧ (IsV x889_4.1) (a'.get 6) k' ∧ (IsV x889_4.2.1) (a'.get 7) k' ∧ (IsV x889_4.2.2) (a'.get 8) k' ∧ (IsV x890_3.1) (a'.get 9) k' ∧ (IsV x890_3.2) (a'.get 10) k' ∧ True) ?_ hQ ?_
  · intro Q906 hQQ906 hp907
    refine regionS (a0 := a) (k0 := k) (n := 121) (m := 9) (⟨some (IsV ([(⟨1, 10, false⟩ : Account), (⟨2, 3, true⟩ : Account)])), [(1, none)]⟩ :: ⟨some (IsV (⟨1, 1, 2, 4⟩ : Move)), [(2, none)]⟩ :: ⟨some (IsV ([(⟨1, 1, 2, 4⟩ : Move)])), [(40, some 1)]⟩ :: ⟨some (IsTup2 (IsV x890_3.1) (IsV x890_3.2)), [(39, some 0), (41, some 2)]⟩ :: ⟨some (IsTup2 (IsV x890_3.1) (IsV x890_3.2)), [(42, some 3)]⟩ :: ⟨some (IsV x890_3.1), [(38, some 4)]⟩ :: ⟨some (IsV x890_3.2), [(38, some 4)]⟩ :: ⟨some (IsV x890_3.1), [(43, some 5)]⟩ :: ⟨some (IsV x890_3.2), [(44, some 6)]⟩ :: []) hs (by kernel_rfl) ⟨ob1 rfl fun b q hk hn => ok_move rfl (up i1 hk hn.1), ob1 rfl fun b q hk hn => ok_load rfl ty33 ((up i2 hk hn.1)).ptr, ob1 rfl fun b q hk hn => ok_buildSlice rfl Try.underlying23 eo33 rfl (by decide) (by decide) ⟨rfl, hn.1, trivial⟩, ob1 rfl fun b q hk hn => ok_call rfl Try.call11 (cTrace_ok hn.1 hn.2.1 (isV_int.2 rfl) hx890_3), ob1 rfl fun b q hk hn => ok_move rfl hn.1, ob1 rfl fun b q hk hn => ok_ext2_0 rfl hn.1, ob1 rfl fun b q hk hn => ok_ext2_1 rfl hn.1, ob1 rfl fun b q hk hn => ok_assign rfl hn.1, ob1 rfl fun b q hk hn => ok_assign rfl hn.1, trivial⟩ hQQ906 fun b q p => ?_
    exact tail_done (k := q) (hp907 _ _ ⟨Bs.post ⟨hg, hs, hd⟩ p, keep p 1 rfl i1, keep p 2 rfl i2, keep p 3 rfl i3, keep p 4 rfl i4, keep p 5 rfl i5, keep p 6 rfl i6, keep p 7 rfl i7, keep p 8 rfl i8, out p 7 9 _ rfl rfl rfl, out p 8 10 _ rfl rfl rfl, trivial⟩)
  rintro a k ⟨⟨hg, hs, hd⟩, i1, i2, i3, i4, i5, i6, i7, i8, i9, i10, _⟩
  refine wp_seq ?_
  obtain ⟨x891_4, hx891_4, hr⟩ := bind_some hr
  refine cut (fun a' k' => Bs noF k0 121 a' k' ∧ (IsV ([(⟨1, 10, false⟩ : Account), (⟨2, 3, true⟩ : Account)])) (a'.get 1) k' ∧ (IsV x888_2.1) (a'.get 4) k' ∧ (IsV x888_2.2) (a'.get 5) k' ∧ (IsV x889_4.1) (a'.get 6) k' ∧ (IsV x889_4.2.1) (a'.get 7) k' ∧ (IsV x889_4.2.2) (a'.get 8) k' ∧ (IsV x890_3.1) (a'.get 9) k' ∧ (IsV x890_3.2) (a'.get 10) k' ∧ (IsV x891_4.1) (a'.get 11) k' ∧ (IsV x891_4.2) (a'.get 12) k' ∧ True) ?_ hQ ?_
  · intro Q904 hQQ904 hp905
    refine regionS (a0 := a) (k0 := k) (n := 121) (m := 10) (⟨some (IsV ([(⟨1, 10, false⟩ : Account), (⟨2, 3, true⟩ : Account)])), [(1, none)]⟩ :: ⟨some (IsV (⟨1, 1, 2, 4⟩ : Move)), [(2, none)]⟩ :: ⟨some (IsV (⟨2, 2, 0, 5⟩ : Move)), [(3, none)]⟩ :: ⟨some (IsV ([(⟨1, 1, 2, 4⟩ : Move), (⟨2, 2, 0, 5⟩ : Move)])), [(47, some 1), (48, some 2)]⟩ :: ⟨some (IsTup2 (IsV x891_4.1) (IsV x891_4.2)), [(46, some 0), (49, some 3)]⟩ :: ⟨some (IsTup2 (IsV x891_4.1) (IsV x891_4.2)), [(50, some 4)]⟩ :: ⟨some (IsV x891_4.1), [(45, some 5)]⟩ :: ⟨some (IsV x891_4.2), [(45, some 5)]⟩ :: ⟨some (IsV x891_4.1), [(51, some 6)]⟩ :: ⟨some (IsV x891_4.2), [(52, some 7)]⟩ :: []) hs (by kernel_rfl) ⟨ob1 rfl fun b q hk hn => ok_move rfl (up i1 hk hn.1), ob1 rfl fun b q hk hn => ok_load rfl ty33 ((up i2 hk hn.1)).ptr, ob1 rfl fun b q hk hn => ok_load rfl ty33 ((up i3 hk hn.1)).ptr, ob1 rfl fun b q hk hn => ok_buildSlice rfl Try.underlying23 eo33 rfl (by decide) (by decide) ⟨rfl, hn.1, rfl, hn.2.1, trivial⟩, ob1 rfl fun b q hk hn => ok_call rfl Try.call11 (cTrace_ok hn.1 hn.2.1 (isV_int.2 rfl) hx891_4), ob1 rfl fun b q hk hn => ok_move rfl hn.1, ob1 rfl fun b q hk hn => ok_ext2_0 rfl hn.1, ob1 rfl fun b q hk hn => ok_ext2_1 rfl hn.1, ob1 rfl fun b q hk hn => ok_assign rfl hn.1, ob1 rfl fun b q hk hn => ok_assign rfl hn.1, trivial⟩ hQQ904 fun b q p => ?_
    exact tail_done (k := q) (hp905 _ _ ⟨Bs.post ⟨hg, hs, hd⟩ p, keep p 1 rfl i1, keep p 4 rfl i4, keep p 5 rfl i5, keep p 6 rfl i6, keep p 7 rfl i7, keep p 8 rfl i8, keep p 9 rfl i9, keep p 10 rfl i10, out p 8 11 _ rfl rfl rfl, out p 9 12 _ rfl rfl rfl, trivial⟩)
  rintro a k ⟨⟨hg, hs, hd⟩, i1, i4, i5, i6, i7, i8, i9, i10, i11, i12, _⟩
  refine wp_seq ?_
  obtain ⟨x892_2, hx892_2, hr⟩ := bind_some hr
  refine cut (fun a' k' => Bs noF k0 121 a' k' ∧ (IsV ([(⟨1, 10, false⟩ : Account), (⟨2, 3, true⟩ : Account)])) (a'.get 1) k' ∧ (IsV x888_2.1) (a'.get 4) k' ∧ (IsV x888_2.2) (a'.get 5) k' ∧ (IsV x889_4.1) (a'.get 6) k' ∧ (IsV x889_4.2.1) (a'.get 7) k' ∧ (IsV x889_4.2.2) (a'.get 8) k' ∧ (IsV x890_3.1) (a'.get 9) k' ∧ (IsV x890_3.2) (a'.get 10) k' ∧ (IsV x891_4.1) (a'.get 11) k' ∧ (IsV x891_4.2) (a'.get 12) k' ∧ (IsV x892_2.2) (a'.get 14) k' ∧ True) ?_ hQ ?_
  · intro Q902 hQQ902 hp903
    refine regionS (a0 := a) (k0 := k) (n := 121) (m := 8) (⟨some (IsV ([(⟨1, 10, false⟩ : Account), (⟨2, 3, true⟩ : Account)])), [(1, none)]⟩ :: ⟨some (IsV (⟨1, 2, 1, 1⟩ : Move)), []⟩ :: ⟨some (IsTup2 (IsV x892_2.1) (IsV x892_2.2)), [(54, some 0), (55, some 1)]⟩ :: ⟨some (IsTup2 (IsV x892_2.1) (IsV x892_2.2)), [(56, some 2)]⟩ :: ⟨some (IsV x892_2.1), [(53, some 3)]⟩ :: ⟨some (IsV x892_2.2), [(53, some 3)]⟩ :: ⟨some (IsV x892_2.1), [(57, some 4)]⟩ :: ⟨some (IsV x892_2.2), [(58, some 5)]⟩ :: []) hs (by kernel_rfl) ⟨ob1 rfl fun b q hk hn => ok_move rfl (up i1 hk hn.1), ob1 rfl fun b q hk hn => ok_build rfl (bld33_0_1_2_3 (isV_int.2 rfl) (isV_int.2 rfl) (isV_int.2 rfl) (isV_int.2 rfl)), ob1 rfl fun b q hk hn => ok_call rfl Try.call13 (cDo_ok hn.1 hn.2.1 hx892_2), ob1 rfl fun b q hk hn => ok_move rfl hn.1, ob1 rfl fun b q hk hn => ok_ext2_0 rfl hn.1, ob1 rfl fun b q hk hn => ok_ext2_1 rfl hn.1, ob1 rfl fun b q hk hn => ok_assign rfl hn.1, ob1 rfl fun b q hk hn => ok_assign rfl hn.1, trivial⟩ hQQ902 fun b q p => ?_
    exact tail_done (k := q) (hp903 _ _ ⟨Bs.post ⟨hg, hs, hd⟩ p, keep p 1 rfl i1, keep p 4 rfl i4, keep p 5 rfl i5, keep p 6 rfl i6, keep p 7 rfl i7, keep p 8 rfl i8, keep p 9 rfl i9, keep p 10 rfl i10, keep p 11 rfl i11, keep p 12 rfl i12, out p 7 14 _ rfl rfl rfl, trivial⟩)
  rintro a k ⟨⟨hg, hs, hd⟩, i1, i4, i5, i6, i7, i8, i9, i10, i11, i12, i14, _⟩
  refine wp_seq ?_
  obtain ⟨x893_2, hx893_2, hr⟩ := bind_some hr
  refine cut (fun a' k' => Bs noF k0 121 a' k' ∧ (IsV x888_2.1) (a'.get 4) k' ∧ (IsV x888_2.2) (a'.get 5) k' ∧ (IsV x889_4.1) (a'.get 6) k' ∧ (IsV x889_4.2.1) (a'.get 7) k' ∧ (IsV x889_4.2.2) (a'.get 8) k' ∧ (IsV x890_3.1) (a'.get 9) k' ∧ (IsV x890_3.2) (a'.get 10) k' ∧ (IsV x891_4.1) (a'.get 11) k' ∧ (IsV x891_4.2) (a'.get 12) k' ∧ (IsV x892_2.2) (a'.get 14) k' ∧ (IsV x893_2.2) (a'.get 16) k' ∧ True) ?_ hQ ?_
  · intro Q900 hQQ900 hp901
    refine regionS (a0 := a) (k0 := k) (n := 121) (m := 8) (⟨some (IsV ([(⟨1, 10, false⟩ : Account), (⟨2, 3, true⟩ : Account)])), [(1, none)]⟩ :: ⟨some (IsV (⟨1, 1, 2, 11⟩ : Move)), []⟩ :: ⟨some (IsTup2 (IsV x893_2.1) (IsV x893_2.2)), [(60, some 0), (61, some 1)]⟩ :: ⟨some (IsTup2 (IsV x893_2.1) (IsV x893_2.2)), [(62, some 2)]⟩ :: ⟨some (IsV x893_2.1), [(59, some 3)]⟩ :: ⟨some (IsV x893_2.2), [(59, some 3)]⟩ :: ⟨some (IsV x893_2.1), [(63, some 4)]⟩ :: ⟨some (IsV x893_2.2), [(64, some 5)]⟩ :: []) hs (by kernel_rfl) ⟨ob1 rfl fun b q hk hn => ok_move rfl (up i1 hk hn.1), ob1 rfl fun b q hk hn => ok_build rfl (bld33_0_1_2_3 (isV_int.2 rfl) (isV_int.2 rfl) (isV_int.2 rfl) (isV_int.2 rfl)), ob1 rfl fun b q hk hn => ok_call rfl Try.call13 (cDo_ok hn.1 hn.2.1 hx893_2), ob1 rfl fun b q hk hn => ok_move rfl hn.1, ob1 rfl fun b q hk hn => ok_ext2_0 rfl hn.1, ob1 rfl fun b q hk hn => ok_ext2_1 rfl hn.1, ob1 rfl fun b q hk hn => ok_assign rfl hn.1, ob1 rfl fun b q hk hn => ok_assign rfl hn.1, trivial⟩ hQQ900 fun b q p => ?_
    exact tail_done (k := q) (hp901 _ _ ⟨Bs.post ⟨hg, hs, hd⟩ p, keep p 4 rfl i4, keep p 5 rfl i5, keep p 6 rfl i6, keep p 7 rfl i7, keep p 8 rfl i8, keep p 9 rfl i9, keep p 10 rfl i10, keep p 11 rfl i11, keep p 12 rfl i12, keep p 14 rfl i14, out p 7 16 _ rfl rfl rfl, trivial⟩)
  rintro a k ⟨⟨hg, hs, hd⟩, i4, i5, i6, i7, i8, i9, i10, i11, i12, i14, i16, _⟩
  refine wp_seq ?_
  refine cut (fun a' k' => Bs noF k0 121 a' k' ∧ (IsV x888_2.1) (a'.get 4) k' ∧ (IsV x889_4.1) (a'.get 6) k' ∧ (IsV x890_3.1) (a'.get 9) k' ∧ (IsV x891_4.1) (a'.get 11) k' ∧ (IsV (((((((x888_2.2 == 0) && (x889_4.2.2 == 0)) && (x890_3.2 == 0)) && (x891_4.2 == 0)) && (x892_2.2 == 24)) && (x893_2.2 == 23)) && (x889_4.2.1 == 2))) (a'.get 17) k' ∧ True) ?_ hQ ?_
  · intro Q898 hQQ898 hp899
    refine regionS (a0 := a) (k0 := k) (n := 121) (m := 27) (⟨some (IsV x888_2.2), [(5, none)]⟩ :: ⟨some (IsV (x888_2.2 == 0)), [(65, some 0)]⟩ :: ⟨some (IsV (x888_2.2 == 0)), [(66, some 1)]⟩ :: ⟨some (Gd ((x888_2.2 == 0) = true) (IsV x889_4.2.2)), [(8, none)]⟩ :: ⟨some (Gd ((x888_2.2 == 0) = true) (IsV (x889_4.2.2 == 0))), [(68, some 3)]⟩ :: ⟨some (IsV ((x888_2.2 == 0) && (x889_4.2.2 == 0))), [(67, some 2), (69, some 4)]⟩ :: ⟨some (IsV ((x888_2.2 == 0) && (x889_4.2.2 == 0))), [(70, some 5)]⟩ :: ⟨some (Gd (((x888_2.2 == 0) && (x889_4.2.2 == 0)) = true) (IsV x890_3.2)), [(10, none)]⟩ :: ⟨some (Gd (((x888_2.2 == 0) && (x889_4.2.2 == 0)) = true) (IsV (x890_3.2 == 0))), [(72, some 7)]⟩ :: ⟨some (IsV (((x888_2.2 == 0) && (x889_4.2.2 == 0)) && (x890_3.2 == 0))), [(71, some 6), (73, some 8)]⟩ :: ⟨some (IsV (((x888_2.2 == 0) && (x889_4.2.2 == 0)) && (x890_3.2 == 0))), [(74, some 9)]⟩ :: ⟨some (Gd ((((x888_2.2 == 0) && (x889_4.2.2 == 0)) && (x890_3.2 == 0)) = true) (IsV x891_4.2)), [(12, none)]⟩ :: ⟨some (Gd ((((x888_2.2 == 0) && (x889_4.2.2 == 0)) && (x890_3.2 == 0)) = true) (IsV (x891_4.2 == 0))), [(76, some 11)]⟩ :: ⟨some (IsV ((((x888_2.2 == 0) && (x889_4.2.2 == 0)) && (x890_3.2 == 0)) && (x891_4.2 == 0))), [(75, some 10), (77, some 12)]⟩ :: ⟨some (IsV ((((x888_2.2 == 0) && (x889_4.2.2 == 0)) && (x890_3.2 == 0)) && (x891_4.2 == 0))), [(78, some 13)]⟩ :: ⟨some (Gd (((((x888_2.2 == 0) && (x889_4.2.2 == 0)) && (x890_3.2 == 0)) && (x891_4.2 == 0)) = true) (IsV x892_2.2)), [(14, none)]⟩ :: ⟨some (Gd (((((x888_2.2 == 0) && (x889_4.2.2 == 0)) && (x890_3.2 == 0)) && (x891_4.2 == 0)) = true) (IsV (x892_2.2 == 24))), [(80, some 15)]⟩ :: ⟨some (IsV (((((x888_2.2 == 0) && (x889_4.2.2 == 0)) && (x890_3.2 == 0)) && (x891_4.2 == 0)) && (x892_2.2 == 24))), [(79, some 14), (81, some 16)]⟩ :: ⟨some (IsV (((((x888_2.2 == 0) && (x889_4.2.2 == 0)) && (x890_3.2 == 0)) && (x891_4.2 == 0)) && (x892_2.2 == 24))), [(82, some 17)]⟩ :: ⟨some (Gd ((((((x888_2.2 == 0) && (x889_4.2.2 == 0)) && (x890_3.2 == 0)) && (x891_4.2 == 0)) && (x892_2.2 == 24)) = true) (IsV x893_2.2)), [(16, none)]⟩ :: ⟨some (Gd ((((((x888_2.2 == 0) && (x889_4.2.2 == 0)) && (x890_3.2 == 0)) && (x891_4.2 == 0)) && (x892_2.2 == 24)) = true) (IsV (x893_2.2 == 23))), [(84, some 19)]⟩ :: ⟨some (IsV ((((((x888_2.2 == 0) && (x889_4.2.2 == 0)) && (x890_3.2 == 0)) && (x891_4.2 == 0)) && (x892_2.2 == 24)) && (x893_2.2 == 23))), [(83, some 18), (85, some 20)]⟩ :: ⟨some (IsV ((((((x888_2.2 == 0) && (x889_4.2.2 == 0)) && (x890_3.2 == 0)) && (x891_4.2 == 0)) && (x892_2.2 == 24)) && (x893_2.2 == 23))), [(86, some 21)]⟩ :: ⟨some (Gd (((((((x888_2.2 == 0) && (x889_4.2.2 == 0)) && (x890_3.2 == 0)) && (x891_4.2 == 0)) && (x892_2.2 == 24)) && (x893_2.2 == 23)) = true) (IsV x889_4.2.1)), [(7, none)]⟩ :: ⟨some (Gd (((((((x888_2.2 == 0) && (x889_4.2.2 == 0)) && (x890_3.2 == 0)) && (x891_4.2 == 0)) && (x892_2.2 == 24)) && (x893_2.2 == 23)) = true) (IsV (x889_4.2.1 == 2))), [(88, some 23)]⟩ :: ⟨some (IsV (((((((x888_2.2 == 0) && (x889_4.2.2 == 0)) && (x890_3.2 == 0)) && (x891_4.2 == 0)) && (x892_2.2 == 24)) && (x893_2.2 == 23)) && (x889_4.2.1 == 2))), [(87, some 22), (89, some 24)]⟩ :: ⟨some (IsV (((((((x888_2.2 == 0) && (x889_4.2.2 == 0)) && (x890_3.2 == 0)) && (x891_4.2 == 0)) && (x892_2.2 == 24)) && (x893_2.2 == 23)) && (x889_4.2.1 == 2))), [(90, some 25)]⟩ :: []) hs (by kernel_rfl) ⟨ob1 rfl fun b q hk hn => ok_move rfl (up i5 hk hn.1), ob1 rfl fun b q hk hn => ok_eqI rfl hn.1 (isV_int.2 rfl), ob1 rfl fun b q hk hn => ok_move rfl hn.1, gdT rfl rfl fun hp b q hk hn => ok_move rfl (up i8 hk hn.1), gdT rfl rfl fun hp b q hk hn => ok_eqI rfl (Gd.get hn.1 hp) (isV_int.2 rfl), ob1 rfl fun b q hk hn => ok_pickAnd rfl hn.1 (fun hm => (Gd.get hn.2.1 hm)) (fun _ => (isV_bool.2 rfl)), ob1 rfl fun b q hk hn => ok_move rfl hn.1, gdT rfl rfl fun hp b q hk hn => ok_move rfl (up i10 hk hn.1), gdT rfl rfl fun hp b q hk hn => ok_eqI rfl (Gd.get hn.1 hp) (isV_int.2 rfl), ob1 rfl fun b q hk hn => ok_pickAnd rfl hn.1 (fun hm => (Gd.get hn.2.1 hm)) (fun _ => (isV_bool.2 rfl)), ob1 rfl fun b q hk hn => ok_move rfl hn.1, gdT rfl rfl fun hp b q hk hn => ok_move rfl (up i12 hk hn.1), gdT rfl rfl fun hp b q hk hn => ok_eqI rfl (Gd.get hn.1 hp) (isV_int.2 rfl), ob1 rfl fun b q hk hn => ok_pickAnd rfl hn.1 (fun hm => (Gd.get hn.2.1 hm)) (fun _ => (isV_bool.2 rfl)), ob1 rfl fun b q hk hn => ok_move rfl hn.1, gdT rfl rfl fun hp b q hk hn => ok_move rfl (up i14 hk hn.1), gdT rfl rfl fun hp b q hk hn => ok_eqI rfl (Gd.get hn.1 hp) (isV_int.2 rfl), ob1 rfl fun b q hk hn => ok_pickAnd rfl hn.1 (fun hm => (Gd.get hn.2.1 hm)) (fun _ => (isV_bool.2 rfl)), ob1 rfl fun b q hk hn => ok_move rfl hn.1, gdT rfl rfl fun hp b q hk hn => ok_move rfl (up i16 hk hn.1), gdT rfl rfl fun hp b q hk hn => ok_eqI rfl (Gd.get hn.1 hp) (isV_int.2 rfl), ob1 rfl fun b q hk hn => ok_pickAnd rfl hn.1 (fun hm => (Gd.get hn.2.1 hm)) (fun _ => (isV_bool.2 rfl)), ob1 rfl fun b q hk hn => ok_move rfl hn.1, gdT rfl rfl fun hp b q hk hn => ok_move rfl (up i7 hk hn.1), gdT rfl rfl fun hp b q hk hn => ok_eqI rfl (Gd.get hn.1 hp) (isV_int.2 rfl), ob1 rfl fun b q hk hn => ok_pickAnd rfl hn.1 (fun hm => (Gd.get hn.2.1 hm)) (fun _ => (isV_bool.2 rfl)), ob1 rfl fun b q hk hn => ok_assign rfl hn.1, trivial⟩ hQQ898 fun b q p => ?_
    exact tail_done (k := q) (hp899 _ _ ⟨Bs.post ⟨hg, hs, hd⟩ p, keep p 4 rfl i4, keep p 6 rfl i6, keep p 9 rfl i9, keep p 11 rfl i11, out p 26 17 _ rfl rfl rfl, trivial⟩)
  rintro a k ⟨⟨hg, hs, hd⟩, i4, i6, i9, i11, i17, _⟩
  refine wp_seq ?_
  obtain ⟨x895_5, hx895_5, hr⟩ := bind_some hr
  obtain ⟨x895_3, hx895_3, hx895_5⟩ := ite_bind hx895_5
  obtain ⟨x895_10, hx895_10, hr⟩ := bind_some hr
  obtain ⟨x895_8, hx895_8, hx895_10⟩ := ite_bind hx895_10
  obtain ⟨x895_15, hx895_15, hr⟩ := bind_some hr
  obtain ⟨x895_13, hx895_13, hx895_15⟩ := ite_bind hx895_15
  obtain ⟨x895_22, hx895_22, hr⟩ := bind_some hr
  obtain ⟨x895_21, hx895_21, hx895_22⟩ := ite_bind hx895_22
  obtain ⟨x895_29, hx895_29, hr⟩ := bind_some hr
  obtain ⟨x895_28, hx895_28, hx895_29⟩ := ite_bind hx895_29
  refine cut (fun a' k' => Bs noF k0 121 a' k' ∧ (IsV x895_29) (a'.get 0) k' ∧ True) ?_ hQ ?_
  · intro Q896 hQQ896 hp897
    refine regionS (a0 := a) (k0 := k) (n := 121) (m := 31) (⟨some (IsV (((((((x888_2.2 == 0) && (x889_4.2.2 == 0)) && (x890_3.2 == 0)) && (x891_4.2 == 0)) && (x892_2.2 == 24)) && (x893_2.2 == 23)) && (x889_4.2.1 == 2))), [(17, none)]⟩ :: ⟨some (IsV (((((((x888_2.2 == 0) && (x889_4.2.2 == 0)) && (x890_3.2 == 0)) && (x891_4.2 == 0)) && (x892_2.2 == 24)) && (x893_2.2 == 23)) && (x889_4.2.1 == 2))), [(91, some 0)]⟩ :: ⟨some (Gd ((((((((x888_2.2 == 0) && (x889_4.2.2 == 0)) && (x890_3.2 == 0)) && (x891_4.2 == 0)) && (x892_2.2 == 24)) && (x893_2.2 == 23)) && (x889_4.2.1 == 2)) = true) (IsV x888_2.1)), [(4, none)]⟩ :: ⟨some (Gd ((((((((x888_2.2 == 0) && (x889_4.2.2 == 0)) && (x890_3.2 == 0)) && (x891_4.2 == 0)) && (x892_2.2 == 24)) && (x893_2.2 == 23)) && (x889_4.2.1 == 2)) = true) (IsV x895_3)), [(93, some 2)]⟩ :: ⟨some (Gd ((((((((x888_2.2 == 0) && (x889_4.2.2 == 0)) && (x890_3.2 == 0)) && (x891_4.2 == 0)) && (x892_2.2 == 24)) && (x893_2.2 == 23)) && (x889_4.2.1 == 2)) = true) (IsV (x895_3 == 6))), [(94, some 3)]⟩ :: ⟨some (IsV x895_5), [(92, some 1), (95, some 4)]⟩ :: ⟨some (IsV x895_5), [(96, some 5)]⟩ :: ⟨some (Gd (x895_5 = true) (IsV x888_2.1)), [(4, none)]⟩ :: ⟨some (Gd (x895_5 = true) (IsV x895_8)), [(98, some 7)]⟩ :: ⟨some (Gd (x895_5 = true) (IsV (x895_8 == 7))), [(99, some 8)]⟩ :: ⟨some (IsV x895_10), [(97, some 6), (100, some 9)]⟩ :: ⟨some (IsV x895_10), [(101, some 10)]⟩ :: ⟨some (Gd (x895_10 = true) (IsV x889_4.1)), [(6, none)]⟩ :: ⟨some (Gd (x895_10 = true) (IsV x895_13)), [(103, some 12)]⟩ :: ⟨some (Gd (x895_10 = true) (IsV (x895_13 == 2))), [(104, some 13)]⟩ :: ⟨some (IsV x895_15), [(102, some 11), (105, some 14)]⟩ :: ⟨some (IsV x895_15), [(106, some 15)]⟩ :: ⟨some (Gd (x895_15 = true) (IsV x890_3.1)), [(9, none)]⟩ :: ⟨some (Gd (x895_15 = true) (IsV ((2, 3) : (Int × Int)))), []⟩ :: ⟨some (Gd (x895_15 = true) (IsV ((1, 4) : (Int × Int)))), []⟩ :: ⟨some (Gd (x895_15 = true) (IsV ([((2, 3) : (Int × Int)), ((1, 4) : (Int × Int))]))), [(109, some 18), (110, some 19)]⟩ :: ⟨some (Gd (x895_15 = true) (IsV x895_21)), [(108, some 17), (111, some 20)]⟩ :: ⟨some (IsV x895_22), [(107, some 16), (112, some 21)]⟩ :: ⟨some (IsV x895_22), [(113, some 22)]⟩ :: ⟨some (Gd (x895_22 = true) (IsV x891_4.1)), [(11, none)]⟩ :: ⟨some (Gd (x895_22 = true) (IsV ((2, 3) : (Int × Int)))), []⟩ :: ⟨some (Gd (x895_22 = true) (IsV ((1, 2) : (Int × Int)))), []⟩ :: ⟨some (Gd (x895_22 = true) (IsV ([((2, 3) : (Int × Int)), ((1, 2) : (Int × Int))]))), [(116, some 25), (117, some 26)]⟩ :: ⟨some (Gd (x895_22 = true) (IsV x895_28)), [(115, some 24), (118, some 27)]⟩ :: ⟨some (IsV x895_29), [(114, some 23), (119, some 28)]⟩ :: ⟨some (IsV x895_29), [(120, some 29)]⟩ :: []) hs (by kernel_rfl) ⟨ob1 rfl fun b q hk hn => ok_move rfl (up i17 hk hn.1), ob1 rfl fun b q hk hn => ok_move rfl hn.1, gdT rfl rfl fun hp b q hk hn => ok_move rfl (up i4 hk hn.1), gdT rfl rfl fun hp b q hk hn => ok_call rfl Try.call19 (cUnits_ok (Gd.get hn.1 hp) (isV_int.2 rfl) (hx895_3 hp)), gdT rfl rfl fun hp b q hk hn => ok_eqI rfl (Gd.get hn.1 hp) (isV_int.2 rfl), ob1 rfl fun b q hk hn => ok_pickM rfl hn.1 hx895_5 (fun hm => (Gd.get hn.2.1 hm)) (fun _ => (isV_bool.2 rfl)), ob1 rfl fun b q hk hn => ok_move rfl hn.1, gdT rfl rfl fun hp b q hk hn => ok_move rfl (up i4 hk hn.1), gdT rfl rfl fun hp b q hk hn => ok_call rfl Try.call19 (cUnits_ok (Gd.get hn.1 hp) (isV_int.2 rfl) (hx895_8 hp)), gdT rfl rfl fun hp b q hk hn => ok_eqI rfl (Gd.get hn.1 hp) (isV_int.2 rfl), ob1 rfl fun b q hk hn => ok_pickM rfl hn.1 hx895_10 (fun hm => (Gd.get hn.2.1 hm)) (fun _ => (isV_bool.2 rfl)), ob1 rfl fun b q hk hn => ok_move rfl hn.1, gdT rfl rfl fun hp b q hk hn => ok_move rfl (up i6 hk hn.1), gdT rfl rfl fun hp b q hk hn => ok_call rfl Try.call19 (cUnits_ok (Gd.get hn.1 hp) (isV_int.2 rfl) (hx895_13 hp)), gdT rfl rfl fun hp b q hk hn => ok_eqI rfl (Gd.get hn.1 hp) (isV_int.2 rfl), ob1 rfl fun b q hk hn => ok_pickM rfl hn.1 hx895_15 (fun hm => (Gd.get hn.2.1 hm)) (fun _ => (isV_bool.2 rfl)), ob1 rfl fun b q hk hn => ok_move rfl hn.1, gdT rfl rfl fun hp b q hk hn => ok_move rfl (up i9 hk hn.1), gdT rfl rfl fun hp b q hk hn => ok_build rfl (bld37_0_1 (isV_int.2 rfl) (isV_int.2 rfl)), gdT rfl rfl fun hp b q hk hn => ok_build rfl (bld37_0_1 (isV_int.2 rfl) (isV_int.2 rfl)), gdT rfl rfl fun hp b q hk hn => ok_buildSlice rfl Try.underlying29 eo37 rfl (by decide) (by decide) ⟨rfl, (Gd.get hn.1 hp), rfl, (Gd.get hn.2.1 hp), trivial⟩, gdT rfl rfl fun hp b q hk hn => ok_call rfl Try.call15 (rSameTrace_ok (Gd.get hn.1 hp) (Gd.get hn.2.1 hp) (hx895_21 hp)), ob1 rfl fun b q hk hn => ok_pickM rfl hn.1 hx895_22 (fun hm => (Gd.get hn.2.1 hm)) (fun _ => (isV_bool.2 rfl)), ob1 rfl fun b q hk hn => ok_move rfl hn.1, gdT rfl rfl fun hp b q hk hn => ok_move rfl (up i11 hk hn.1), gdT rfl rfl fun hp b q hk hn => ok_build rfl (bld37_0_1 (isV_int.2 rfl) (isV_int.2 rfl)), gdT rfl rfl fun hp b q hk hn => ok_build rfl (bld37_0_1 (isV_int.2 rfl) (isV_int.2 rfl)), gdT rfl rfl fun hp b q hk hn => ok_buildSlice rfl Try.underlying29 eo37 rfl (by decide) (by decide) ⟨rfl, (Gd.get hn.1 hp), rfl, (Gd.get hn.2.1 hp), trivial⟩, gdT rfl rfl fun hp b q hk hn => ok_call rfl Try.call15 (rSameTrace_ok (Gd.get hn.1 hp) (Gd.get hn.2.1 hp) (hx895_28 hp)), ob1 rfl fun b q hk hn => ok_pickM rfl hn.1 hx895_29 (fun hm => (Gd.get hn.2.1 hm)) (fun _ => (isV_bool.2 rfl)), ob1 rfl fun b q hk hn => ok_assign rfl hn.1, trivial⟩ hQQ896 fun b q p => ?_
    exact tail_done (k := q) (hp897 _ _ ⟨Bs.post ⟨hg, hs, hd⟩ p, out p 30 0 _ rfl rfl rfl, trivial⟩)
  rintro a k ⟨⟨hg, hs, hd⟩, i0, _⟩
  refine wp_ret ?_
  obtain rfl := Option.some.inj hr
  exact retC1 rfl hd hg i0
def lawLimits_L1 (x938_5 : (List Account) × Int) (s941 : Int) : Option (Flow (Int) (Bool)) :=
  if (decide (s941 < (x938_5.1.length : Int))) then
    (getI x938_5.1 s941).bind fun x946_2 =>
    (if (decide (x946_2.Units < 0)) then
      some true
    else
      (getI x938_5.1 s941).bind fun x946_9 =>
      some (decide (1073741824 < x946_9.Units))).bind fun x946_13 =>
    if x946_13 then
      some (.ret false)
    else
      (addI s941 1).bind fun x950_1 =>
      some (.go x950_1)
  else
    some (.ex 2 s941)
def lawLimits_L3 (s928 : (List Account) × Int) (x938_5 : (List Account) × Int) (s962 : Int) (s969 : Bool × Int) : Option (Flow (Bool × Int) (Bool)) :=
  if (decide (s969.2 < (x938_5.1.length : Int))) then
    (if s969.1 then
      some true
    else
      (getI x938_5.1 s969.2).bind fun x974_4 =>
      (getI s928.1 s962).bind fun x974_9 =>
      (if (x974_4.Lot == x974_9.Lot) then
        (getI x938_5.1 s969.2).bind fun x974_16 =>
        (getI s928.1 s962).bind fun x974_21 =>
        some (x974_16.Receives == x974_21.Receives)
      else
        some false).bind fun x974_25 =>
      (if x974_25 then
        (getI s928.1 s962).bind fun x974_29 =>
        (if x974_29.Receives then
          some true
        else
          (getI x938_5.1 s969.2).bind fun x974_35 =>
          (getI s928.1 s962).bind fun x974_40 =>
          some (decide (x974_35.Units ≤ x974_40.Units))).bind fun x974_44 =>
        some x974_44
      else
        some false).bind fun x974_45 =>
      some x974_45).bind fun x974_46 =>
    (addI s969.2 1).bind fun x975_1 =>
    some (.go (x974_46, x975_1))
  else
    some (.ex 6 (s969.1, s969.2))
def lawLimits_L2 (m_ : (List Move)) (s928 : (List Account) × Int) (x938_5 : (List Account) × Int) (s962 : Int) : Option (Flow (Int) (Bool)) :=
  if (decide (s962 < (s928.1.length : Int))) then
    (iterL (lawLimits_L3 s928 x938_5 s962) (m_.length + s928.1.length + x938_5.1.length + 1) (false, 0)).bind fun f983 => match f983 with
      | .go _ => none
      | .ex _ s984 =>
        if (!s984.1) then
          some (.ret false)
        else
          (addI s962 1).bind fun x989_1 =>
          some (.go x989_1)
      | .ret r995 => some (.ret r995)
  else
    some (.ex 4 s962)
def lawLimits_L0 (m_ : (List Move)) (s928 : (List Account) × Int) : Option (Flow ((List Account) × Int) (Bool)) :=
  if (decide (s928.2 < (m_.length : Int))) then
    ((getI m_ s928.2).bind fun x938_3 =>
    (cDo s928.1 x938_3).bind fun x938_5 =>
    if (x938_5.2 != 0) then
      some (.go s928.1)
    else
      (iterL (lawLimits_L1 x938_5) (m_.length + s928.1.length + x938_5.1.length + 1) 0).bind fun f959 => match f959 with
        | .go _ => none
        | .ex _ _ =>
          (iterL (lawLimits_L2 m_ s928 x938_5) (m_.length + s928.1.length + x938_5.1.length + 1) 0).bind fun f1004 => match f1004 with
            | .go _ => none
            | .ex _ _ =>
              some (.go x938_5.1)
            | .ret r1009 => some (.ret r1009)
        | .ret r1013 => some (.ret r1013) : Option (Flow ((List Account)) (Bool))).bind fun f1022 => match f1022 with
      | .go s1023 =>
        (addI s928.2 1).bind fun x1024_1 =>
        some (.go (s1023, x1024_1))
      | .ex _ _ => none
      | .ret r1027 => some (.ret r1027)
  else
    some (.ex 0 (s928.1, s928.2))
def lawLimits (l_ : (List Account)) (m_ : (List Move)) : Option (Bool) :=
  (small).bind fun x921_0 =>
  (few l_ m_).bind fun x922_2 =>
  if (!x922_2) then
    some x921_0
  else
    (iterL (lawLimits_L0 m_) (m_.length + l_.length + 1) (l_, 0)).bind fun f1032 => match f1032 with
      | .go _ => none
      | .ex _ _ =>
        some x921_0
      | .ret r1037 => some r1037
theorem lawLimits_ok {k0 : K} {v0 v1 : Value} {l_ : (List Account)} {m_ : (List Move)} {r : Bool} (i0 : (IsV l_) v0 k0) (i1 : (IsV m_) v1 k0) (hr : lawLimits l_ m_ = some r) :
    Calls Try.prog 4 #[v0, v1] k0.w (Ret k0 (IsV r)) := by
  unfold lawLimits at hr
  refine Ret.ofC ?_
  refine enterK Try.func4 rfl Try.ntmps4 (show 2 ≤ 121 by decide) fun a k hk0 hs hd ha => ?_
  obtain ⟨e0, e1, _⟩ := ha
  replace i0 : (IsV l_) (a.get 0) k := by rw [e0, hk0]; exact i0
  replace i1 : (IsV m_) (a.get 1) k := by rw [e1, hk0]; exact i1
  have hQ : Gb.LetsOut (bodyPost Try.prog Try.f4 (RetC noF k0 (IsV r))) := letsOutC
  have hg : Chg noF k0 k := by rw [hk0]; exact Chg.refl _ k0
  refine wp_seq ?_
  refine cut (fun a' k' => Bs noF k0 121 a' k' ∧ (IsV l_) (a'.get 0) k' ∧ (IsV m_) (a'.get 1) k' ∧ True) ?_ hQ ?_
  · intro Q1048 hQQ1048 hp1049
    refine regionS (a0 := a) (k0 := k) (n := 121) (m := 1) (⟨some (IsV false), []⟩ :: []) hs (by kernel_rfl) ⟨ob1 rfl fun b q hk hn => ok_assign rfl (isV_bool.2 rfl), trivial⟩ hQQ1048 fun b q p => ?_
    exact tail_done (k := q) (hp1049 _ _ ⟨Bs.post ⟨hg, hs, hd⟩ p, keep p 0 rfl i0, keep p 1 rfl i1, trivial⟩)
  rintro a k ⟨⟨hg, hs, hd⟩, i0, i1, _⟩
  refine wp_seq ?_
  obtain ⟨x921_0, hx921_0, hr⟩ := bind_some hr
  refine cut (fun a' k' => Bs noF k0 121 a' k' ∧ (IsV l_) (a'.get 0) k' ∧ (IsV m_) (a'.get 1) k' ∧ (IsV x921_0) (a'.get 5) k' ∧ True) ?_ hQ ?_
  · intro Q1046 hQQ1046 hp1047
    refine regionS (a0 := a) (k0 := k) (n := 121) (m := 2) (⟨some (IsV x921_0), []⟩ :: ⟨some (IsV x921_0), [(14, some 0)]⟩ :: []) hs (by kernel_rfl) ⟨ob1 rfl fun b q hk hn => ok_call rfl Try.call8 (small_ok hx921_0), ob1 rfl fun b q hk hn => ok_assign rfl hn.1, trivial⟩ hQQ1046 fun b q p => ?_
    exact tail_done (k := q) (hp1047 _ _ ⟨Bs.post ⟨hg, hs, hd⟩ p, keep p 0 rfl i0, keep p 1 rfl i1, out p 1 5 _ rfl rfl rfl, trivial⟩)
  rintro a k ⟨⟨hg, hs, hd⟩, i0, i1, i5, _⟩
  refine wp_seq ?_
  refine wp_seq ?_
  obtain ⟨x922_2, hx922_2, hr⟩ := bind_some hr
  refine cut (fun a' k' => Bs noF k0 121 a' k' ∧ (IsV l_) (a'.get 0) k' ∧ (IsV m_) (a'.get 1) k' ∧ (IsV x921_0) (a'.get 5) k' ∧ (IsV (!x922_2)) (a'.get 18) k' ∧ True) ?_ hQ ?_
  · intro Q1044 hQQ1044 hp1045
    refine regionS (a0 := a) (k0 := k) (n := 121) (m := 4) (⟨some (IsV l_), [(0, none)]⟩ :: ⟨some (IsV m_), [(1, none)]⟩ :: ⟨some (IsV x922_2), [(15, some 0), (16, some 1)]⟩ :: ⟨some (IsV (!x922_2)), [(17, some 2)]⟩ :: []) hs (by kernel_rfl) ⟨ob1 rfl fun b q hk hn => ok_move rfl (up i0 hk hn.1), ob1 rfl fun b q hk hn => ok_move rfl (up i1 hk hn.1), ob1 rfl fun b q hk hn => ok_call rfl Try.call9 (few_ok hn.1 hn.2.1 hx922_2), ob1 rfl fun b q hk hn => ok_not rfl hn.1, trivial⟩ hQQ1044 fun b q p => ?_
    exact tail_done (k := q) (hp1045 _ _ ⟨Bs.post ⟨hg, hs, hd⟩ p, keep p 0 rfl i0, keep p 1 rfl i1, keep p 5 rfl i5, out p 3 18 _ rfl rfl rfl, trivial⟩)
  rintro a k ⟨⟨hg, hs, hd⟩, i0, i1, i5, i18, _⟩
  refine wp_cond_split (isBool i18) (fun hc1043 => ?_) (fun hc1043 => ?_)
  · rw [if_pos hc1043] at hr
    refine wp_seq ?_
    refine cut (fun a' k' => Bs noF k0 121 a' k' ∧ (IsV x921_0) (a'.get 4) k' ∧ True) ?_ hQ ?_
    · intro Q924 hQQ924 hp925
      refine regionS (a0 := a) (k0 := k) (n := 121) (m := 2) (⟨some (IsV x921_0), [(5, none)]⟩ :: ⟨some (IsV x921_0), [(19, some 0)]⟩ :: []) hs (by kernel_rfl) ⟨ob1 rfl fun b q hk hn => ok_move rfl (up i5 hk hn.1), ob1 rfl fun b q hk hn => ok_assign rfl hn.1, trivial⟩ hQQ924 fun b q p => ?_
      exact tail_done (k := q) (hp925 _ _ ⟨Bs.post ⟨hg, hs, hd⟩ p, out p 1 4 _ rfl rfl rfl, trivial⟩)
    rintro a k ⟨⟨hg, hs, hd⟩, i4, _⟩
    refine wp_ret ?_
    obtain rfl := Option.some.inj hr
    exact retC1 rfl hd hg i4
  rw [if_neg (by rw [hc1043]; decide)] at hr
  refine wp_skip ?_
  refine wp_seq ?_
  refine cut (fun a' k' => Bs noF k0 121 a' k' ∧ (IsV m_) (a'.get 1) k' ∧ (IsV x921_0) (a'.get 5) k' ∧ (IsV l_) (a'.get 6) k' ∧ True) ?_ hQ ?_
  · intro Q1041 hQQ1041 hp1042
    refine regionS (a0 := a) (k0 := k) (n := 121) (m := 2) (⟨some (IsV l_), [(0, none)]⟩ :: ⟨some (IsV l_), [(20, some 0)]⟩ :: []) hs (by kernel_rfl) ⟨ob1 rfl fun b q hk hn => ok_move rfl (up i0 hk hn.1), ob1 rfl fun b q hk hn => ok_assign rfl hn.1, trivial⟩ hQQ1041 fun b q p => ?_
    exact tail_done (k := q) (hp1042 _ _ ⟨Bs.post ⟨hg, hs, hd⟩ p, keep p 1 rfl i1, keep p 5 rfl i5, out p 1 6 _ rfl rfl rfl, trivial⟩)
  rintro a k ⟨⟨hg, hs, hd⟩, i1, i5, i6, _⟩
  refine wp_seq ?_
  refine wp_seq ?_
  refine cut (fun a' k' => Bs noF k0 121 a' k' ∧ (IsV m_) (a'.get 1) k' ∧ (IsV x921_0) (a'.get 5) k' ∧ (IsV l_) (a'.get 6) k' ∧ (IsV (α := Int) 0) (a'.get 7) k' ∧ True) ?_ hQ ?_
  · intro Q1039 hQQ1039 hp1040
    refine regionS (a0 := a) (k0 := k) (n := 121) (m := 1) (⟨some (IsV (α := Int) 0), []⟩ :: []) hs (by kernel_rfl) ⟨ob1 rfl fun b q hk hn => ok_assign rfl (isV_int.2 rfl), trivial⟩ hQQ1039 fun b q p => ?_
    exact tail_done (k := q) (hp1040 _ _ ⟨Bs.post ⟨hg, hs, hd⟩ p, keep p 1 rfl i1, keep p 5 rfl i5, keep p 6 rfl i6, out p 0 7 _ rfl rfl rfl, trivial⟩)
  rintro a k ⟨⟨hg, hs, hd⟩, i1, i5, i6, i7, _⟩
  refine wp_block ?_
  obtain ⟨f1032, hf1032, hr⟩ := bind_some hr
  refine cutFe f1032 (fun s' a' k' => Bs noF k0 121 a' k' ∧ (IsV m_) (a'.get 1) k' ∧ (IsV x921_0) (a'.get 5) k' ∧ (IsV s'.1) (a'.get 6) k' ∧ (IsV s'.2) (a'.get 7) k' ∧ True) (fun i' s' a' k' => (i' = 0 ∧ Bs noF k0 121 a' k' ∧ (IsV x921_0) (a'.get 5) k' ∧ True)) (fun r' a' k' => bodyPost Try.prog Try.f4 (RetC noF k0 (IsV r')) .ret a' k'.w) ?_ hQ ?_ ?_ ?_
  · intro Q1038 hQQ1038 hgo hex hret
    refine sim_loop ?_ _ _ _ _ _ hf1032 ⟨⟨hg, hs, hd⟩, i1, i5, i6, i7, trivial⟩ Q1038 hQQ1038 hgo hex hret
    clear hr hf1032 hgo hex hret hQQ1038 hQ hg hs hd i1 i5 i6 i7
    intro s928 fl_ a k hr hS Q hQ hgo929 hex930 hret931
    obtain ⟨⟨hg, hs, hd⟩, i1, i5, i6, i7, _⟩ := hS
    unfold lawLimits_L0 at hr
    refine wp_seq ?_
    refine wp_seq ?_
    refine cut (fun a' k' => Bs noF k0 121 a' k' ∧ (IsV m_) (a'.get 1) k' ∧ (IsV x921_0) (a'.get 5) k' ∧ (IsV s928.1) (a'.get 6) k' ∧ (IsV s928.2) (a'.get 7) k' ∧ (IsV (decide (s928.2 < (m_.length : Int)))) (a'.get 24) k' ∧ True) ?_ hQ ?_
    · intro Q1030 hQQ1030 hp1031
      refine regionS (a0 := a) (k0 := k) (n := 121) (m := 4) (⟨some (IsV s928.2), [(7, none)]⟩ :: ⟨some (IsV m_), [(1, none)]⟩ :: ⟨some (IsV (α := Int) (m_.length : Int)), [(22, some 1)]⟩ :: ⟨some (IsV (decide (s928.2 < (m_.length : Int)))), [(21, some 0), (23, some 2)]⟩ :: []) hs (by kernel_rfl) ⟨ob1 rfl fun b q hk hn => ok_move rfl (up i7 hk hn.1), ob1 rfl fun b q hk hn => ok_move rfl (up i1 hk hn.1), ob1 rfl fun b q hk hn => ok_len rfl rfl Try.underlying23 (IsV.rd hn.1), ob1 rfl fun b q hk hn => ok_lss rfl hn.1 hn.2.1, trivial⟩ hQQ1030 fun b q p => ?_
      exact tail_done (k := q) (hp1031 _ _ ⟨Bs.post ⟨hg, hs, hd⟩ p, keep p 1 rfl i1, keep p 5 rfl i5, keep p 6 rfl i6, keep p 7 rfl i7, out p 3 24 _ rfl rfl rfl, trivial⟩)
    rintro a k ⟨⟨hg, hs, hd⟩, i1, i5, i6, i7, i24, _⟩
    refine wp_cond_split (isBool i24) (fun hc1029 => ?_) (fun hc1029 => ?_)
    · rw [if_pos hc1029] at hr
      refine wp_skip ?_
      refine wp_seq ?_
      obtain ⟨f1022, hf1022, hr⟩ := bind_some hr
      refine cutFg f1022 (fun s' a' k' => Bs noF k0 121 a' k' ∧ (IsV m_) (a'.get 1) k' ∧ (IsV x921_0) (a'.get 5) k' ∧ (IsV s') (a'.get 6) k' ∧ (IsV s928.2) (a'.get 7) k' ∧ True) (fun i' s' a' k' => False) (fun r' a' k' => bodyPost Try.prog Try.f4 (RetC noF k0 (IsV r')) .ret a' k'.w) ?_ hQ ?_ ?_ ?_
      · intro Q1028 hQQ1028 hgo935 hex936 hret937
        replace hr := hf1022
        clear hQ
        have hQ := hQQ1028
        refine wp_block ?_
        refine wp_seq ?_
        obtain ⟨x938_3, hx938_3, hr⟩ := bind_some hr
        obtain ⟨x938_5, hx938_5, hr⟩ := bind_some hr
        refine cut (fun a' k' => Bs noF k0 121 a' k' ∧ (IsV m_) (a'.get 1) k' ∧ (IsV x921_0) (a'.get 5) k' ∧ (IsV s928.1) (a'.get 6) k' ∧ (IsV s928.2) (a'.get 7) k' ∧ (IsV x938_5.1) (a'.get 8) k' ∧ (IsV x938_5.2) (a'.get 9) k' ∧ True) ?_ hQ ?_
        · intro Q1020 hQQ1020 hp1021
          refine regionS (a0 := a) (k0 := k) (n := 121) (m := 11) (⟨some (IsV s928.1), [(6, none)]⟩ :: ⟨some (IsV m_), [(1, none)]⟩ :: ⟨some (IsV s928.2), [(7, none)]⟩ :: ⟨some (IsPtr x938_3), [(29, some 1), (30, some 2)]⟩ :: ⟨some (IsV x938_3), [(31, some 3)]⟩ :: ⟨some (IsTup2 (IsV x938_5.1) (IsV x938_5.2)), [(28, some 0), (32, some 4)]⟩ :: ⟨some (IsTup2 (IsV x938_5.1) (IsV x938_5.2)), [(33, some 5)]⟩ :: ⟨some (IsV x938_5.1), [(27, some 6)]⟩ :: ⟨some (IsV x938_5.2), [(27, some 6)]⟩ :: ⟨some (IsV x938_5.1), [(34, some 7)]⟩ :: ⟨some (IsV x938_5.2), [(35, some 8)]⟩ :: []) hs (by kernel_rfl) ⟨ob1 rfl fun b q hk hn => ok_move rfl (up i6 hk hn.1), ob1 rfl fun b q hk hn => ok_move rfl (up i1 hk hn.1), ob1 rfl fun b q hk hn => ok_move rfl (up i7 hk hn.1), ob1 rfl fun b q hk hn => ok_indexAddr rfl Try.underlying23 ty33 (IsV.rd hn.1) hn.2.1 hx938_3, ob1 rfl fun b q hk hn => ok_load rfl ty33 hn.1, ob1 rfl fun b q hk hn => ok_call rfl Try.call13 (cDo_ok hn.1 hn.2.1 hx938_5), ob1 rfl fun b q hk hn => ok_move rfl hn.1, ob1 rfl fun b q hk hn => ok_ext2_0 rfl hn.1, ob1 rfl fun b q hk hn => ok_ext2_1 rfl hn.1, ob1 rfl fun b q hk hn => ok_assign rfl hn.1, ob1 rfl fun b q hk hn => ok_assign rfl hn.1, trivial⟩ hQQ1020 fun b q p => ?_
          exact tail_done (k := q) (hp1021 _ _ ⟨Bs.post ⟨hg, hs, hd⟩ p, keep p 1 rfl i1, keep p 5 rfl i5, keep p 6 rfl i6, keep p 7 rfl i7, out p 9 8 _ rfl rfl rfl, out p 10 9 _ rfl rfl rfl, trivial⟩)
        rintro a k ⟨⟨hg, hs, hd⟩, i1, i5, i6, i7, i8, i9, _⟩
        refine wp_seq ?_
        refine wp_seq ?_
        refine cut (fun a' k' => Bs noF k0 121 a' k' ∧ (IsV m_) (a'.get 1) k' ∧ (IsV x921_0) (a'.get 5) k' ∧ (IsV s928.1) (a'.get 6) k' ∧ (IsV s928.2) (a'.get 7) k' ∧ (IsV x938_5.1) (a'.get 8) k' ∧ (IsV (x938_5.2 != 0)) (a'.get 37) k' ∧ True) ?_ hQ ?_
        · intro Q1018 hQQ1018 hp1019
          refine regionS (a0 := a) (k0 := k) (n := 121) (m := 2) (⟨some (IsV x938_5.2), [(9, none)]⟩ :: ⟨some (IsV (x938_5.2 != 0)), [(36, some 0)]⟩ :: []) hs (by kernel_rfl) ⟨ob1 rfl fun b q hk hn => ok_move rfl (up i9 hk hn.1), ob1 rfl fun b q hk hn => ok_neI rfl hn.1 (isV_int.2 rfl), trivial⟩ hQQ1018 fun b q p => ?_
          exact tail_done (k := q) (hp1019 _ _ ⟨Bs.post ⟨hg, hs, hd⟩ p, keep p 1 rfl i1, keep p 5 rfl i5, keep p 6 rfl i6, keep p 7 rfl i7, keep p 8 rfl i8, out p 1 37 _ rfl rfl rfl, trivial⟩)
        rintro a k ⟨⟨hg, hs, hd⟩, i1, i5, i6, i7, i8, i37, _⟩
        refine wp_cond_split (isBool i37) (fun hc1017 => ?_) (fun hc1017 => ?_)
        · rw [if_pos hc1017] at hr
          refine wp_exit ?_
          exact hgo935 _ _ _ (Option.some.inj hr).symm ⟨⟨hg, hs, hd⟩, i1, i5, i6, i7, trivial⟩
        rw [if_neg (by rw [hc1017]; decide)] at hr
        refine wp_skip ?_
        refine wp_seq ?_
        refine wp_seq ?_
        refine cut (fun a' k' => Bs noF k0 121 a' k' ∧ (IsV m_) (a'.get 1) k' ∧ (IsV x921_0) (a'.get 5) k' ∧ (IsV s928.1) (a'.get 6) k' ∧ (IsV s928.2) (a'.get 7) k' ∧ (IsV x938_5.1) (a'.get 8) k' ∧ (IsV (α := Int) 0) (a'.get 10) k' ∧ True) ?_ hQ ?_
        · intro Q1015 hQQ1015 hp1016
          refine regionS (a0 := a) (k0 := k) (n := 121) (m := 1) (⟨some (IsV (α := Int) 0), []⟩ :: []) hs (by kernel_rfl) ⟨ob1 rfl fun b q hk hn => ok_assign rfl (isV_int.2 rfl), trivial⟩ hQQ1015 fun b q p => ?_
          exact tail_done (k := q) (hp1016 _ _ ⟨Bs.post ⟨hg, hs, hd⟩ p, keep p 1 rfl i1, keep p 5 rfl i5, keep p 6 rfl i6, keep p 7 rfl i7, keep p 8 rfl i8, out p 0 10 _ rfl rfl rfl, trivial⟩)
        rintro a k ⟨⟨hg, hs, hd⟩, i1, i5, i6, i7, i8, i10, _⟩
        refine wp_block ?_
        obtain ⟨f959, hf959, hr⟩ := bind_some hr
        refine cutFe f959 (fun s' a' k' => Bs noF k0 121 a' k' ∧ (IsV m_) (a'.get 1) k' ∧ (IsV x921_0) (a'.get 5) k' ∧ (IsV s928.1) (a'.get 6) k' ∧ (IsV s928.2) (a'.get 7) k' ∧ (IsV x938_5.1) (a'.get 8) k' ∧ (IsV s') (a'.get 10) k' ∧ True) (fun i' s' a' k' => (i' = 2 ∧ Bs noF k0 121 a' k' ∧ (IsV m_) (a'.get 1) k' ∧ (IsV x921_0) (a'.get 5) k' ∧ (IsV s928.1) (a'.get 6) k' ∧ (IsV s928.2) (a'.get 7) k' ∧ (IsV x938_5.1) (a'.get 8) k' ∧ True)) (fun r' a' k' => bodyPost Try.prog Try.f4 (RetC noF k0 (IsV r')) .ret a' k'.w) ?_ hQ ?_ ?_ ?_
        · intro Q1014 hQQ1014 hgo hex hret
          refine sim_loop ?_ _ _ _ _ _ hf959 ⟨⟨hg, hs, hd⟩, i1, i5, i6, i7, i8, i10, trivial⟩ Q1014 hQQ1014 hgo hex hret
          clear hr hf959 hgo hex hret hQQ1014 hQ hg hs hd i1 i10 i5 i6 i7 i8
          intro s941 fl_ a k hr hS Q hQ hgo942 hex943 hret944
          obtain ⟨⟨hg, hs, hd⟩, i1, i5, i6, i7, i8, i10, _⟩ := hS
          unfold lawLimits_L1 at hr
          refine wp_seq ?_
          refine wp_seq ?_
          refine cut (fun a' k' => Bs noF k0 121 a' k' ∧ (IsV m_) (a'.get 1) k' ∧ (IsV x921_0) (a'.get 5) k' ∧ (IsV s928.1) (a'.get 6) k' ∧ (IsV s928.2) (a'.get 7) k' ∧ (IsV x938_5.1) (a'.get 8) k' ∧ (IsV s941) (a'.get 10) k' ∧ (IsV (decide (s941 < (x938_5.1.length : Int)))) (a'.get 41) k' ∧ True) ?_ hQ ?_
          · intro Q957 hQQ957 hp958
            refine regionS (a0 := a) (k0 := k) (n := 121) (m := 4) (⟨some (IsV s941), [(10, none)]⟩ :: ⟨some (IsV x938_5.1), [(8, none)]⟩ :: ⟨some (IsV (α := Int) (x938_5.1.length : Int)), [(39, some 1)]⟩ :: ⟨some (IsV (decide (s941 < (x938_5.1.length : Int)))), [(38, some 0), (40, some 2)]⟩ :: []) hs (by kernel_rfl) ⟨ob1 rfl fun b q hk hn => ok_move rfl (up i10 hk hn.1), ob1 rfl fun b q hk hn => ok_move rfl (up i8 hk hn.1), ob1 rfl fun b q hk hn => ok_len rfl rfl Try.underlying22 (IsV.rd hn.1), ob1 rfl fun b q hk hn => ok_lss rfl hn.1 hn.2.1, trivial⟩ hQQ957 fun b q p => ?_
            exact tail_done (k := q) (hp958 _ _ ⟨Bs.post ⟨hg, hs, hd⟩ p, keep p 1 rfl i1, keep p 5 rfl i5, keep p 6 rfl i6, keep p 7 rfl i7, keep p 8 rfl i8, keep p 10 rfl i10, out p 3 41 _ rfl rfl rfl, trivial⟩)
          rintro a k ⟨⟨hg, hs, hd⟩, i1, i5, i6, i7, i8, i10, i41, _⟩
          refine wp_cond_split (isBool i41) (fun hc956 => ?_) (fun hc956 => ?_)
          · rw [if_pos hc956] at hr
            refine wp_skip ?_
            refine wp_seq ?_
            refine wp_block ?_
            refine wp_seq ?_
            obtain ⟨x946_2, hx946_2, hr⟩ := bind_some hr
            obtain ⟨x946_13, hx946_13, hr⟩ := bind_some hr
            obtain ⟨x946_9, hx946_9, hx946_13⟩ := ite_bindF hx946_13
            refine cut (fun a' k' => Bs noF k0 121 a' k' ∧ (IsV m_) (a'.get 1) k' ∧ (IsV x921_0) (a'.get 5) k' ∧ (IsV s928.1) (a'.get 6) k' ∧ (IsV s928.2) (a'.get 7) k' ∧ (IsV x938_5.1) (a'.get 8) k' ∧ (IsV s941) (a'.get 10) k' ∧ (IsV x946_13) (a'.get 57) k' ∧ True) ?_ hQ ?_
            · intro Q954 hQQ954 hp955
              refine regionS (a0 := a) (k0 := k) (n := 121) (m := 14) (⟨some (IsV x938_5.1), [(8, none)]⟩ :: ⟨some (IsV s941), [(10, none)]⟩ :: ⟨some (IsPtr x946_2), [(44, some 0), (45, some 1)]⟩ :: ⟨some (IsPtr x946_2.Units), [(46, some 2)]⟩ :: ⟨some (IsV x946_2.Units), [(47, some 3)]⟩ :: ⟨some (IsV (decide (x946_2.Units < 0))), [(48, some 4)]⟩ :: ⟨some (IsV (decide (x946_2.Units < 0))), [(49, some 5)]⟩ :: ⟨some (Gd ((decide (x946_2.Units < 0)) = false) (IsV x938_5.1)), [(8, none)]⟩ :: ⟨some (Gd ((decide (x946_2.Units < 0)) = false) (IsV s941)), [(10, none)]⟩ :: ⟨some (Gd ((decide (x946_2.Units < 0)) = false) (IsPtr x946_9)), [(51, some 7), (52, some 8)]⟩ :: ⟨some (Gd ((decide (x946_2.Units < 0)) = false) (IsPtr x946_9.Units)), [(53, some 9)]⟩ :: ⟨some (Gd ((decide (x946_2.Units < 0)) = false) (IsV x946_9.Units)), [(54, some 10)]⟩ :: ⟨some (Gd ((decide (x946_2.Units < 0)) = false) (IsV (decide (1073741824 < x946_9.Units)))), [(55, some 11)]⟩ :: ⟨some (IsV x946_13), [(50, some 6), (56, some 12)]⟩ :: []) hs (by kernel_rfl) ⟨ob1 rfl fun b q hk hn => ok_move rfl (up i8 hk hn.1), ob1 rfl fun b q hk hn => ok_move rfl (up i10 hk hn.1), ob1 rfl fun b q hk hn => ok_indexAddr rfl Try.underlying22 ty35 (IsV.rd hn.1) hn.2.1 hx946_2, ob1 rfl fun b q hk hn => ok_fieldAddr rfl fo35_1 (at_Account_1 _) hn.1, ob1 rfl fun b q hk hn => ok_load rfl ty3 hn.1, ob1 rfl fun b q hk hn => ok_lss rfl hn.1 (isV_int.2 rfl), ob1 rfl fun b q hk hn => ok_move rfl hn.1, gdF rfl rfl fun hp b q hk hn => ok_move rfl (up i8 hk hn.1), gdF rfl rfl fun hp b q hk hn => ok_move rfl (up i10 hk hn.1), gdF rfl rfl fun hp b q hk hn => ok_indexAddr rfl Try.underlying22 ty35 (IsV.rd (Gd.get hn.1 hp)) (Gd.get hn.2.1 hp) (hx946_9 hp), gdF rfl rfl fun hp b q hk hn => ok_fieldAddr rfl fo35_1 (at_Account_1 _) (Gd.get hn.1 hp), gdF rfl rfl fun hp b q hk hn => ok_load rfl ty3 (Gd.get hn.1 hp), gdF rfl rfl fun hp b q hk hn => ok_gtr rfl (Gd.get hn.1 hp) (isV_int.2 rfl), ob1 rfl fun b q hk hn => ok_pickM rfl hn.1 hx946_13 (fun _ => (isV_bool.2 rfl)) (fun hm => (Gd.get hn.2.1 hm)), trivial⟩ hQQ954 fun b q p => ?_
              exact tail_done (k := q) (hp955 _ _ ⟨Bs.post ⟨hg, hs, hd⟩ p, keep p 1 rfl i1, keep p 5 rfl i5, keep p 6 rfl i6, keep p 7 rfl i7, keep p 8 rfl i8, keep p 10 rfl i10, out p 13 57 _ rfl rfl rfl, trivial⟩)
            rintro a k ⟨⟨hg, hs, hd⟩, i1, i5, i6, i7, i8, i10, i57, _⟩
            refine wp_cond_split (isBool i57) (fun hc953 => ?_) (fun hc953 => ?_)
            · rw [if_pos hc953] at hr
              refine wp_seq ?_
              refine cut (fun a' k' => Bs noF k0 121 a' k' ∧ (IsV false) (a'.get 4) k' ∧ True) ?_ hQ ?_
              · intro Q948 hQQ948 hp949
                refine regionS (a0 := a) (k0 := k) (n := 121) (m := 1) (⟨some (IsV false), []⟩ :: []) hs (by kernel_rfl) ⟨ob1 rfl fun b q hk hn => ok_assign rfl (isV_bool.2 rfl), trivial⟩ hQQ948 fun b q p => ?_
                exact tail_done (k := q) (hp949 _ _ ⟨Bs.post ⟨hg, hs, hd⟩ p, out p 0 4 _ rfl rfl rfl, trivial⟩)
              rintro a k ⟨⟨hg, hs, hd⟩, i4, _⟩
              refine wp_ret ?_
              exact hret944 _ _ _ (Option.some.inj hr).symm (retC1 rfl hd hg i4)
            rw [if_neg (by rw [hc953]; decide)] at hr
            refine wp_skip ?_
            obtain ⟨x950_1, hx950_1, hr⟩ := bind_some hr
            refine cut (fun a' k' => Bs noF k0 121 a' k' ∧ (IsV m_) (a'.get 1) k' ∧ (IsV x921_0) (a'.get 5) k' ∧ (IsV s928.1) (a'.get 6) k' ∧ (IsV s928.2) (a'.get 7) k' ∧ (IsV x938_5.1) (a'.get 8) k' ∧ (IsV x950_1) (a'.get 10) k' ∧ True) ?_ hQ ?_
            · intro Q951 hQQ951 hp952
              refine regionS (a0 := a) (k0 := k) (n := 121) (m := 3) (⟨some (IsV s941), [(10, none)]⟩ :: ⟨some (IsV x950_1), [(42, some 0)]⟩ :: ⟨some (IsV x950_1), [(43, some 1)]⟩ :: []) hs (by kernel_rfl) ⟨ob1 rfl fun b q hk hn => ok_move rfl (up i10 hk hn.1), ob1 rfl fun b q hk hn => ok_add rfl hn.1 (isV_int.2 rfl) hx950_1, ob1 rfl fun b q hk hn => ok_assign rfl hn.1, trivial⟩ hQQ951 fun b q p => ?_
              exact tail_done (k := q) (hp952 _ _ ⟨Bs.post ⟨hg, hs, hd⟩ p, keep p 1 rfl i1, keep p 5 rfl i5, keep p 6 rfl i6, keep p 7 rfl i7, keep p 8 rfl i8, out p 2 10 _ rfl rfl rfl, trivial⟩)
            rintro a k ⟨⟨hg, hs, hd⟩, i1, i5, i6, i7, i8, i10, _⟩
            exact hgo942 _ _ _ (Option.some.inj hr).symm ⟨⟨hg, hs, hd⟩, i1, i5, i6, i7, i8, i10, trivial⟩
          rw [if_neg (by rw [hc956]; decide)] at hr
          refine wp_exit ?_
          exact hex943 _ _ _ _ (Option.some.inj hr).symm ⟨rfl, ⟨hg, hs, hd⟩, i1, i5, i6, i7, i8, trivial⟩
        · rintro r1013 a k rfl hR
          dsimp only at hr
          exact hret937 _ _ _ (Option.some.inj hr).symm hR
        · rintro _ _ _ rfl _
          simp at hr
        clear hf959
        rintro _ s960 a k rfl ⟨rfl, ⟨hg, hs, hd⟩, i1, i5, i6, i7, i8, _⟩
        dsimp only at hr
        refine wp_seq ?_
        refine wp_seq ?_
        refine cut (fun a' k' => Bs noF k0 121 a' k' ∧ (IsV m_) (a'.get 1) k' ∧ (IsV x921_0) (a'.get 5) k' ∧ (IsV s928.1) (a'.get 6) k' ∧ (IsV s928.2) (a'.get 7) k' ∧ (IsV x938_5.1) (a'.get 8) k' ∧ (IsV (α := Int) 0) (a'.get 11) k' ∧ True) ?_ hQ ?_
        · intro Q1011 hQQ1011 hp1012
          refine regionS (a0 := a) (k0 := k) (n := 121) (m := 1) (⟨some (IsV (α := Int) 0), []⟩ :: []) hs (by kernel_rfl) ⟨ob1 rfl fun b q hk hn => ok_assign rfl (isV_int.2 rfl), trivial⟩ hQQ1011 fun b q p => ?_
          exact tail_done (k := q) (hp1012 _ _ ⟨Bs.post ⟨hg, hs, hd⟩ p, keep p 1 rfl i1, keep p 5 rfl i5, keep p 6 rfl i6, keep p 7 rfl i7, keep p 8 rfl i8, out p 0 11 _ rfl rfl rfl, trivial⟩)
        rintro a k ⟨⟨hg, hs, hd⟩, i1, i5, i6, i7, i8, i11, _⟩
        refine wp_block ?_
        obtain ⟨f1004, hf1004, hr⟩ := bind_some hr
        refine cutFe f1004 (fun s' a' k' => Bs noF k0 121 a' k' ∧ (IsV m_) (a'.get 1) k' ∧ (IsV x921_0) (a'.get 5) k' ∧ (IsV s928.1) (a'.get 6) k' ∧ (IsV s928.2) (a'.get 7) k' ∧ (IsV x938_5.1) (a'.get 8) k' ∧ (IsV s') (a'.get 11) k' ∧ True) (fun i' s' a' k' => (i' = 4 ∧ Bs noF k0 121 a' k' ∧ (IsV m_) (a'.get 1) k' ∧ (IsV x921_0) (a'.get 5) k' ∧ (IsV s928.2) (a'.get 7) k' ∧ (IsV x938_5.1) (a'.get 8) k' ∧ True)) (fun r' a' k' => bodyPost Try.prog Try.f4 (RetC noF k0 (IsV r')) .ret a' k'.w) ?_ hQ ?_ ?_ ?_
        · intro Q1010 hQQ1010 hgo hex hret
          refine sim_loop ?_ _ _ _ _ _ hf1004 ⟨⟨hg, hs, hd⟩, i1, i5, i6, i7, i8, i11, trivial⟩ Q1010 hQQ1010 hgo hex hret
          clear hr hf1004 hgo hex hret hQQ1010 hQ hg hs hd i1 i11 i5 i6 i7 i8
          intro s962 fl_ a k hr hS Q hQ hgo963 hex964 hret965
          obtain ⟨⟨hg, hs, hd⟩, i1, i5, i6, i7, i8, i11, _⟩ := hS
          unfold lawLimits_L2 at hr
          refine wp_seq ?_
          refine wp_seq ?_
          refine cut (fun a' k' => Bs noF k0 121 a' k' ∧ (IsV m_) (a'.get 1) k' ∧ (IsV x921_0) (a'.get 5) k' ∧ (IsV s928.1) (a'.get 6) k' ∧ (IsV s928.2) (a'.get 7) k' ∧ (IsV x938_5.1) (a'.get 8) k' ∧ (IsV s962) (a'.get 11) k' ∧ (IsV (decide (s962 < (s928.1.length : Int)))) (a'.get 61) k' ∧ True) ?_ hQ ?_
          · intro Q1002 hQQ1002 hp1003
            refine regionS (a0 := a) (k0 := k) (n := 121) (m := 4) (⟨some (IsV s962), [(11, none)]⟩ :: ⟨some (IsV s928.1), [(6, none)]⟩ :: ⟨some (IsV (α := Int) (s928.1.length : Int)), [(59, some 1)]⟩ :: ⟨some (IsV (decide (s962 < (s928.1.length : Int)))), [(58, some 0), (60, some 2)]⟩ :: []) hs (by kernel_rfl) ⟨ob1 rfl fun b q hk hn => ok_move rfl (up i11 hk hn.1), ob1 rfl fun b q hk hn => ok_move rfl (up i6 hk hn.1), ob1 rfl fun b q hk hn => ok_len rfl rfl Try.underlying22 (IsV.rd hn.1), ob1 rfl fun b q hk hn => ok_lss rfl hn.1 hn.2.1, trivial⟩ hQQ1002 fun b q p => ?_
            exact tail_done (k := q) (hp1003 _ _ ⟨Bs.post ⟨hg, hs, hd⟩ p, keep p 1 rfl i1, keep p 5 rfl i5, keep p 6 rfl i6, keep p 7 rfl i7, keep p 8 rfl i8, keep p 11 rfl i11, out p 3 61 _ rfl rfl rfl, trivial⟩)
          rintro a k ⟨⟨hg, hs, hd⟩, i1, i5, i6, i7, i8, i11, i61, _⟩
          refine wp_cond_split (isBool i61) (fun hc1001 => ?_) (fun hc1001 => ?_)
          · rw [if_pos hc1001] at hr
            refine wp_skip ?_
            refine wp_seq ?_
            refine wp_block ?_
            refine wp_seq ?_
            refine cut (fun a' k' => Bs noF k0 121 a' k' ∧ (IsV m_) (a'.get 1) k' ∧ (IsV x921_0) (a'.get 5) k' ∧ (IsV s928.1) (a'.get 6) k' ∧ (IsV s928.2) (a'.get 7) k' ∧ (IsV x938_5.1) (a'.get 8) k' ∧ (IsV s962) (a'.get 11) k' ∧ (IsV false) (a'.get 12) k' ∧ True) ?_ hQ ?_
            · intro Q999 hQQ999 hp1000
              refine regionS (a0 := a) (k0 := k) (n := 121) (m := 1) (⟨some (IsV false), []⟩ :: []) hs (by kernel_rfl) ⟨ob1 rfl fun b q hk hn => ok_assign rfl (isV_bool.2 rfl), trivial⟩ hQQ999 fun b q p => ?_
              exact tail_done (k := q) (hp1000 _ _ ⟨Bs.post ⟨hg, hs, hd⟩ p, keep p 1 rfl i1, keep p 5 rfl i5, keep p 6 rfl i6, keep p 7 rfl i7, keep p 8 rfl i8, keep p 11 rfl i11, out p 0 12 _ rfl rfl rfl, trivial⟩)
            rintro a k ⟨⟨hg, hs, hd⟩, i1, i5, i6, i7, i8, i11, i12, _⟩
            refine wp_seq ?_
            refine wp_seq ?_
            refine cut (fun a' k' => Bs noF k0 121 a' k' ∧ (IsV m_) (a'.get 1) k' ∧ (IsV x921_0) (a'.get 5) k' ∧ (IsV s928.1) (a'.get 6) k' ∧ (IsV s928.2) (a'.get 7) k' ∧ (IsV x938_5.1) (a'.get 8) k' ∧ (IsV s962) (a'.get 11) k' ∧ (IsV false) (a'.get 12) k' ∧ (IsV (α := Int) 0) (a'.get 13) k' ∧ True) ?_ hQ ?_
            · intro Q997 hQQ997 hp998
              refine regionS (a0 := a) (k0 := k) (n := 121) (m := 1) (⟨some (IsV (α := Int) 0), []⟩ :: []) hs (by kernel_rfl) ⟨ob1 rfl fun b q hk hn => ok_assign rfl (isV_int.2 rfl), trivial⟩ hQQ997 fun b q p => ?_
              exact tail_done (k := q) (hp998 _ _ ⟨Bs.post ⟨hg, hs, hd⟩ p, keep p 1 rfl i1, keep p 5 rfl i5, keep p 6 rfl i6, keep p 7 rfl i7, keep p 8 rfl i8, keep p 11 rfl i11, keep p 12 rfl i12, out p 0 13 _ rfl rfl rfl, trivial⟩)
            rintro a k ⟨⟨hg, hs, hd⟩, i1, i5, i6, i7, i8, i11, i12, i13, _⟩
            refine wp_block ?_
            obtain ⟨f983, hf983, hr⟩ := bind_some hr
            refine cutFe f983 (fun s' a' k' => Bs noF k0 121 a' k' ∧ (IsV m_) (a'.get 1) k' ∧ (IsV x921_0) (a'.get 5) k' ∧ (IsV s928.1) (a'.get 6) k' ∧ (IsV s928.2) (a'.get 7) k' ∧ (IsV x938_5.1) (a'.get 8) k' ∧ (IsV s962) (a'.get 11) k' ∧ (IsV s'.1) (a'.get 12) k' ∧ (IsV s'.2) (a'.get 13) k' ∧ True) (fun i' s' a' k' => (i' = 6 ∧ Bs noF k0 121 a' k' ∧ (IsV m_) (a'.get 1) k' ∧ (IsV x921_0) (a'.get 5) k' ∧ (IsV s928.1) (a'.get 6) k' ∧ (IsV s928.2) (a'.get 7) k' ∧ (IsV x938_5.1) (a'.get 8) k' ∧ (IsV s962) (a'.get 11) k' ∧ (IsV s'.1) (a'.get 12) k' ∧ True)) (fun r' a' k' => bodyPost Try.prog Try.f4 (RetC noF k0 (IsV r')) .ret a' k'.w) ?_ hQ ?_ ?_ ?_
            · intro Q996 hQQ996 hgo hex hret
              refine sim_loop ?_ _ _ _ _ _ hf983 ⟨⟨hg, hs, hd⟩, i1, i5, i6, i7, i8, i11, i12, i13, trivial⟩ Q996 hQQ996 hgo hex hret
              clear hr hf983 hgo hex hret hQQ996 hQ hg hs hd i1 i11 i12 i13 i5 i6 i7 i8
              intro s969 fl_ a k hr hS Q hQ hgo970 hex971 hret972
              obtain ⟨⟨hg, hs, hd⟩, i1, i5, i6, i7, i8, i11, i12, i13, _⟩ := hS
              unfold lawLimits_L3 at hr
              refine wp_seq ?_
              refine wp_seq ?_
              refine cut (fun a' k' => Bs noF k0 121 a' k' ∧ (IsV m_) (a'.get 1) k' ∧ (IsV x921_0) (a'.get 5) k' ∧ (IsV s928.1) (a'.get 6) k' ∧ (IsV s928.2) (a'.get 7) k' ∧ (IsV x938_5.1) (a'.get 8) k' ∧ (IsV s962) (a'.get 11) k' ∧ (IsV s969.1) (a'.get 12) k' ∧ (IsV s969.2) (a'.get 13) k' ∧ (IsV (decide (s969.2 < (x938_5.1.length : Int)))) (a'.get 67) k' ∧ True) ?_ hQ ?_
              · intro Q981 hQQ981 hp982
                refine regionS (a0 := a) (k0 := k) (n := 121) (m := 4) (⟨some (IsV s969.2), [(13, none)]⟩ :: ⟨some (IsV x938_5.1), [(8, none)]⟩ :: ⟨some (IsV (α := Int) (x938_5.1.length : Int)), [(65, some 1)]⟩ :: ⟨some (IsV (decide (s969.2 < (x938_5.1.length : Int)))), [(64, some 0), (66, some 2)]⟩ :: []) hs (by kernel_rfl) ⟨ob1 rfl fun b q hk hn => ok_move rfl (up i13 hk hn.1), ob1 rfl fun b q hk hn => ok_move rfl (up i8 hk hn.1), ob1 rfl fun b q hk hn => ok_len rfl rfl Try.underlying22 (IsV.rd hn.1), ob1 rfl fun b q hk hn => ok_lss rfl hn.1 hn.2.1, trivial⟩ hQQ981 fun b q p => ?_
                exact tail_done (k := q) (hp982 _ _ ⟨Bs.post ⟨hg, hs, hd⟩ p, keep p 1 rfl i1, keep p 5 rfl i5, keep p 6 rfl i6, keep p 7 rfl i7, keep p 8 rfl i8, keep p 11 rfl i11, keep p 12 rfl i12, keep p 13 rfl i13, out p 3 67 _ rfl rfl rfl, trivial⟩)
              rintro a k ⟨⟨hg, hs, hd⟩, i1, i5, i6, i7, i8, i11, i12, i13, i67, _⟩
              refine wp_cond_split (isBool i67) (fun hc980 => ?_) (fun hc980 => ?_)
              · rw [if_pos hc980] at hr
                refine wp_skip ?_
                refine wp_seq ?_
                refine wp_block ?_
                obtain ⟨x974_46, hx974_46, hr⟩ := bind_some hr
                obtain ⟨x974_4, hx974_4, hx974_46⟩ := ite_bindF hx974_46
                obtain ⟨x974_9, hx974_9, hx974_46⟩ := ite_bindF hx974_46
                obtain ⟨x974_25, hx974_25, hx974_46⟩ := ite_bindF hx974_46
                obtain ⟨x974_16, hx974_16, hx974_25⟩ := ite_bindP hx974_25
                obtain ⟨x974_21, hx974_21, hx974_25⟩ := ite_bindP hx974_25
                obtain ⟨x974_45, hx974_45, hx974_46⟩ := ite_bindF hx974_46
                obtain ⟨x974_29, hx974_29, hx974_45⟩ := ite_bindP hx974_45
                obtain ⟨x974_44, hx974_44, hx974_45⟩ := ite_bindP hx974_45
                obtain ⟨x974_35, hx974_35, hx974_44⟩ := ite_bindFP hx974_44
                obtain ⟨x974_40, hx974_40, hx974_44⟩ := ite_bindFP hx974_44
                refine cut (fun a' k' => Bs noF k0 121 a' k' ∧ (IsV m_) (a'.get 1) k' ∧ (IsV x921_0) (a'.get 5) k' ∧ (IsV s928.1) (a'.get 6) k' ∧ (IsV s928.2) (a'.get 7) k' ∧ (IsV x938_5.1) (a'.get 8) k' ∧ (IsV s962) (a'.get 11) k' ∧ (IsV x974_46) (a'.get 12) k' ∧ (IsV s969.2) (a'.get 13) k' ∧ True) ?_ hQ ?_
                · intro Q978 hQQ978 hp979
                  refine region (a0 := a) (k0 := k) (n := 121) (m := 48) (⟨some (IsV s969.1), [(12, none)]⟩ :: ⟨some (IsV s969.1), [(70, some 0)]⟩ :: ⟨some (Gd (s969.1 = false) (IsV x938_5.1)), [(8, none)]⟩ :: ⟨some (Gd (s969.1 = false) (IsV s969.2)), [(13, none)]⟩ :: ⟨some (Gd (s969.1 = false) (IsPtr x974_4)), [(72, some 2), (73, some 3)]⟩ :: ⟨some (Gd (s969.1 = false) (IsPtr x974_4.Lot)), [(74, some 4)]⟩ :: ⟨some (Gd (s969.1 = false) (IsV x974_4.Lot)), [(75, some 5)]⟩ :: ⟨some (Gd (s969.1 = false) (IsV s928.1)), [(6, none)]⟩ :: ⟨some (Gd (s969.1 = false) (IsV s962)), [(11, none)]⟩ :: ⟨some (Gd (s969.1 = false) (IsPtr x974_9)), [(77, some 7), (78, some 8)]⟩ :: ⟨some (Gd (s969.1 = false) (IsPtr x974_9.Lot)), [(79, some 9)]⟩ :: ⟨some (Gd (s969.1 = false) (IsV x974_9.Lot)), [(80, some 10)]⟩ :: ⟨some (Gd (s969.1 = false) (IsV (x974_4.Lot == x974_9.Lot))), [(76, some 6), (81, some 11)]⟩ :: ⟨some (Gd (s969.1 = false) (IsV (x974_4.Lot == x974_9.Lot))), [(82, some 12)]⟩ :: ⟨some (Gd ((s969.1 = false) ∧ (x974_4.Lot == x974_9.Lot) = true) (IsV x938_5.1)), [(8, none)]⟩ :: ⟨some (Gd ((s969.1 = false) ∧ (x974_4.Lot == x974_9.Lot) = true) (IsV s969.2)), [(13, none)]⟩ :: ⟨some (Gd ((s969.1 = false) ∧ (x974_4.Lot == x974_9.Lot) = true) (IsPtr x974_16)), [(84, some 14), (85, some 15)]⟩ :: ⟨some (Gd ((s969.1 = false) ∧ (x974_4.Lot == x974_9.Lot) = true) (IsPtr x974_16.Receives)), [(86, some 16)]⟩ :: ⟨some (Gd ((s969.1 = false) ∧ (x974_4.Lot == x974_9.Lot) = true) (IsV x974_16.Receives)), [(87, some 17)]⟩ :: ⟨some (Gd ((s969.1 = false) ∧ (x974_4.Lot == x974_9.Lot) = true) (IsV s928.1)), [(6, none)]⟩ :: ⟨some (Gd ((s969.1 = false) ∧ (x974_4.Lot == x974_9.Lot) = true) (IsV s962)), [(11, none)]⟩ :: ⟨some (Gd ((s969.1 = false) ∧ (x974_4.Lot == x974_9.Lot) = true) (IsPtr x974_21)), [(89, some 19), (90, some 20)]⟩ :: ⟨some (Gd ((s969.1 = false) ∧ (x974_4.Lot == x974_9.Lot) = true) (IsPtr x974_21.Receives)), [(91, some 21)]⟩ :: ⟨some (Gd ((s969.1 = false) ∧ (x974_4.Lot == x974_9.Lot) = true) (IsV x974_21.Receives)), [(92, some 22)]⟩ :: ⟨some (Gd ((s969.1 = false) ∧ (x974_4.Lot == x974_9.Lot) = true) (IsV (x974_16.Receives == x974_21.Receives))), [(88, some 18), (93, some 23)]⟩ :: ⟨some (Gd (s969.1 = false) (IsV x974_25)), [(83, some 13), (94, some 24)]⟩ :: ⟨some (Gd (s969.1 = false) (IsV x974_25)), [(95, some 25)]⟩ :: ⟨some (Gd ((s969.1 = false) ∧ x974_25 = true) (IsV s928.1)), [(6, none)]⟩ :: ⟨some (Gd ((s969.1 = false) ∧ x974_25 = true) (IsV s962)), [(11, none)]⟩ :: ⟨some (Gd ((s969.1 = false) ∧ x974_25 = true) (IsPtr x974_29)), [(97, some 27), (98, some 28)]⟩ :: ⟨some (Gd ((s969.1 = false) ∧ x974_25 = true) (IsPtr x974_29.Receives)), [(99, some 29)]⟩ :: ⟨some (Gd ((s969.1 = false) ∧ x974_25 = true) (IsV x974_29.Receives)), [(100, some 30)]⟩ :: ⟨some (Gd ((s969.1 = false) ∧ x974_25 = true) (IsV x974_29.Receives)), [(101, some 31)]⟩ :: ⟨some (Gd (((s969.1 = false) ∧ x974_25 = true) ∧ x974_29.Receives = false) (IsV x938_5.1)), [(8, none)]⟩ :: ⟨some (Gd (((s969.1 = false) ∧ x974_25 = true) ∧ x974_29.Receives = false) (IsV s969.2)), [(13, none)]⟩ :: ⟨some (Gd (((s969.1 = false) ∧ x974_25 = true) ∧ x974_29.Receives = false) (IsPtr x974_35)), [(103, some 33), (104, some 34)]⟩ :: ⟨some (Gd (((s969.1 = false) ∧ x974_25 = true) ∧ x974_29.Receives = false) (IsPtr x974_35.Units)), [(105, some 35)]⟩ :: ⟨some (Gd (((s969.1 = false) ∧ x974_25 = true) ∧ x974_29.Receives = false) (IsV x974_35.Units)), [(106, some 36)]⟩ :: ⟨some (Gd (((s969.1 = false) ∧ x974_25 = true) ∧ x974_29.Receives = false) (IsV s928.1)), [(6, none)]⟩ :: ⟨some (Gd (((s969.1 = false) ∧ x974_25 = true) ∧ x974_29.Receives = false) (IsV s962)), [(11, none)]⟩ :: ⟨some (Gd (((s969.1 = false) ∧ x974_25 = true) ∧ x974_29.Receives = false) (IsPtr x974_40)), [(108, some 38), (109, some 39)]⟩ :: ⟨some (Gd (((s969.1 = false) ∧ x974_25 = true) ∧ x974_29.Receives = false) (IsPtr x974_40.Units)), [(110, some 40)]⟩ :: ⟨some (Gd (((s969.1 = false) ∧ x974_25 = true) ∧ x974_29.Receives = false) (IsV x974_40.Units)), [(111, some 41)]⟩ :: ⟨some (Gd (((s969.1 = false) ∧ x974_25 = true) ∧ x974_29.Receives = false) (IsV (decide (x974_35.Units ≤ x974_40.Units)))), [(107, some 37), (112, some 42)]⟩ :: ⟨some (Gd ((s969.1 = false) ∧ x974_25 = true) (IsV x974_44)), [(102, some 32), (113, some 43)]⟩ :: ⟨some (Gd (s969.1 = false) (IsV x974_45)), [(96, some 26), (114, some 44)]⟩ :: ⟨some (IsV x974_46), [(71, some 1), (115, some 45)]⟩ :: ⟨some (IsV x974_46), [(116, some 46)]⟩ :: []) hmix hs (by kernel_rfl) ⟨ob1 rfl fun b q hk hn => ok_move rfl (up i12 hk hn.1), ob1 rfl fun b q hk hn => ok_move rfl hn.1, gdF rfl rfl fun hp b q hk hn => ok_move rfl (up i8 hk hn.1), gdF rfl rfl fun hp b q hk hn => ok_move rfl (up i13 hk hn.1), gdF rfl rfl fun hp b q hk hn => ok_indexAddr rfl Try.underlying22 ty35 (IsV.rd (Gd.get hn.1 hp)) (Gd.get hn.2.1 hp) (hx974_4 hp), gdF rfl rfl fun hp b q hk hn => ok_fieldAddr rfl fo35_0 (at_Account_0 _) (Gd.get hn.1 hp), gdF rfl rfl fun hp b q hk hn => ok_load rfl ty3 (Gd.get hn.1 hp), gdF rfl rfl fun hp b q hk hn => ok_move rfl (up i6 hk hn.1), gdF rfl rfl fun hp b q hk hn => ok_move rfl (up i11 hk hn.1), gdF rfl rfl fun hp b q hk hn => ok_indexAddr rfl Try.underlying22 ty35 (IsV.rd (Gd.get hn.1 hp)) (Gd.get hn.2.1 hp) (hx974_9 hp), gdF rfl rfl fun hp b q hk hn => ok_fieldAddr rfl fo35_0 (at_Account_0 _) (Gd.get hn.1 hp), gdF rfl rfl fun hp b q hk hn => ok_load rfl ty3 (Gd.get hn.1 hp), gdF rfl rfl fun hp b q hk hn => ok_eqI rfl (Gd.get hn.1 hp) (Gd.get hn.2.1 hp), gdF rfl rfl fun hp b q hk hn => ok_move rfl (Gd.get hn.1 hp), gdTT rfl rfl fun hp b q hk hn => ok_move rfl (up i8 hk hn.1), gdTT rfl rfl fun hp b q hk hn => ok_move rfl (up i13 hk hn.1), gdTT rfl rfl fun hp b q hk hn => ok_indexAddr rfl Try.underlying22 ty35 (IsV.rd (Gd.get hn.1 hp)) (Gd.get hn.2.1 hp) (hx974_16 hp), gdTT rfl rfl fun hp b q hk hn => ok_fieldAddr rfl fo35_2 (at_Account_2 _) (Gd.get hn.1 hp), gdTT rfl rfl fun hp b q hk hn => ok_load rfl ty4 (Gd.get hn.1 hp), gdTT rfl rfl fun hp b q hk hn => ok_move rfl (up i6 hk hn.1), gdTT rfl rfl fun hp b q hk hn => ok_move rfl (up i11 hk hn.1), gdTT rfl rfl fun hp b q hk hn => ok_indexAddr rfl Try.underlying22 ty35 (IsV.rd (Gd.get hn.1 hp)) (Gd.get hn.2.1 hp) (hx974_21 hp), gdTT rfl rfl fun hp b q hk hn => ok_fieldAddr rfl fo35_2 (at_Account_2 _) (Gd.get hn.1 hp), gdTT rfl rfl fun hp b q hk hn => ok_load rfl ty4 (Gd.get hn.1 hp), gdTT rfl rfl fun hp b q hk hn => ok_eqB rfl Try.underlying4 (Gd.get hn.1 hp) (Gd.get hn.2.1 hp), gdF rfl rfl fun hp b q hk hn => ok_pickM rfl (Gd.get hn.1 hp) (hx974_25 hp) (fun hm => (Gd.get hn.2.1 ⟨hp, hm⟩)) (fun _ => (isV_bool.2 rfl)), gdF rfl rfl fun hp b q hk hn => ok_move rfl (Gd.get hn.1 hp), gdTT rfl rfl fun hp b q hk hn => ok_move rfl (up i6 hk hn.1), gdTT rfl rfl fun hp b q hk hn => ok_move rfl (up i11 hk hn.1), gdTT rfl rfl fun hp b q hk hn => ok_indexAddr rfl Try.underlying22 ty35 (IsV.rd (Gd.get hn.1 hp)) (Gd.get hn.2.1 hp) (hx974_29 hp), gdTT rfl rfl fun hp b q hk hn => ok_fieldAddr rfl fo35_2 (at_Account_2 _) (Gd.get hn.1 hp), gdTT rfl rfl fun hp b q hk hn => ok_load rfl ty4 (Gd.get hn.1 hp), gdTT rfl rfl fun hp b q hk hn => ok_move rfl (Gd.get hn.1 hp), gdTF rfl rfl fun hp b q hk hn => ok_move rfl (up i8 hk hn.1), gdTF rfl rfl fun hp b q hk hn => ok_move rfl (up i13 hk hn.1), gdTF rfl rfl fun hp b q hk hn => ok_indexAddr rfl Try.underlying22 ty35 (IsV.rd (Gd.get hn.1 hp)) (Gd.get hn.2.1 hp) (hx974_35 hp), gdTF rfl rfl fun hp b q hk hn => ok_fieldAddr rfl fo35_1 (at_Account_1 _) (Gd.get hn.1 hp), gdTF rfl rfl fun hp b q hk hn => ok_load rfl ty3 (Gd.get hn.1 hp), gdTF rfl rfl fun hp b q hk hn => ok_move rfl (up i6 hk hn.1), gdTF rfl rfl fun hp b q hk hn => ok_move rfl (up i11 hk hn.1), gdTF rfl rfl fun hp b q hk hn => ok_indexAddr rfl Try.underlying22 ty35 (IsV.rd (Gd.get hn.1 hp)) (Gd.get hn.2.1 hp) (hx974_40 hp), gdTF rfl rfl fun hp b q hk hn => ok_fieldAddr rfl fo35_1 (at_Account_1 _) (Gd.get hn.1 hp), gdTF rfl rfl fun hp b q hk hn => ok_load rfl ty3 (Gd.get hn.1 hp), gdTF rfl rfl fun hp b q hk hn => ok_leq rfl (Gd.get hn.1 hp) (Gd.get hn.2.1 hp), gdTT rfl rfl fun hp b q hk hn => ok_pickM rfl (Gd.get hn.1 hp) (hx974_44 hp) (fun _ => (isV_bool.2 rfl)) (fun hm => (Gd.get hn.2.1 ⟨hp, hm⟩)), gdF rfl rfl fun hp b q hk hn => ok_pickM rfl (Gd.get hn.1 hp) (hx974_45 hp) (fun hm => (Gd.get hn.2.1 ⟨hp, hm⟩)) (fun _ => (isV_bool.2 rfl)), ob1 rfl fun b q hk hn => ok_pickM rfl hn.1 hx974_46 (fun _ => (isV_bool.2 rfl)) (fun hm => (Gd.get hn.2.1 hm)), ob1 rfl fun b q hk hn => ok_assign rfl hn.1, trivial⟩ hQQ978 fun b q p => ?_
                  exact tail_done (k := q) (hp979 _ _ ⟨Bs.post ⟨hg, hs, hd⟩ p, keep p 1 rfl i1, keep p 5 rfl i5, keep p 6 rfl i6, keep p 7 rfl i7, keep p 8 rfl i8, keep p 11 rfl i11, out p 47 12 _ rfl rfl rfl, keep p 13 rfl i13, trivial⟩)
                rintro a k ⟨⟨hg, hs, hd⟩, i1, i5, i6, i7, i8, i11, i12, i13, _⟩
                obtain ⟨x975_1, hx975_1, hr⟩ := bind_some hr
                refine cut (fun a' k' => Bs noF k0 121 a' k' ∧ (IsV m_) (a'.get 1) k' ∧ (IsV x921_0) (a'.get 5) k' ∧ (IsV s928.1) (a'.get 6) k' ∧ (IsV s928.2) (a'.get 7) k' ∧ (IsV x938_5.1) (a'.get 8) k' ∧ (IsV s962) (a'.get 11) k' ∧ (IsV x974_46) (a'.get 12) k' ∧ (IsV x975_1) (a'.get 13) k' ∧ True) ?_ hQ ?_
                · intro Q976 hQQ976 hp977
                  refine regionS (a0 := a) (k0 := k) (n := 121) (m := 3) (⟨some (IsV s969.2), [(13, none)]⟩ :: ⟨some (IsV x975_1), [(68, some 0)]⟩ :: ⟨some (IsV x975_1), [(69, some 1)]⟩ :: []) hs (by kernel_rfl) ⟨ob1 rfl fun b q hk hn => ok_move rfl (up i13 hk hn.1), ob1 rfl fun b q hk hn => ok_add rfl hn.1 (isV_int.2 rfl) hx975_1, ob1 rfl fun b q hk hn => ok_assign rfl hn.1, trivial⟩ hQQ976 fun b q p => ?_
                  exact tail_done (k := q) (hp977 _ _ ⟨Bs.post ⟨hg, hs, hd⟩ p, keep p 1 rfl i1, keep p 5 rfl i5, keep p 6 rfl i6, keep p 7 rfl i7, keep p 8 rfl i8, keep p 11 rfl i11, keep p 12 rfl i12, out p 2 13 _ rfl rfl rfl, trivial⟩)
                rintro a k ⟨⟨hg, hs, hd⟩, i1, i5, i6, i7, i8, i11, i12, i13, _⟩
                exact hgo970 _ _ _ (Option.some.inj hr).symm ⟨⟨hg, hs, hd⟩, i1, i5, i6, i7, i8, i11, i12, i13, trivial⟩
              rw [if_neg (by rw [hc980]; decide)] at hr
              refine wp_exit ?_
              exact hex971 _ _ _ _ (Option.some.inj hr).symm ⟨rfl, ⟨hg, hs, hd⟩, i1, i5, i6, i7, i8, i11, i12, trivial⟩
            · rintro r995 a k rfl hR
              dsimp only at hr
              exact hret965 _ _ _ (Option.some.inj hr).symm hR
            · rintro _ _ _ rfl _
              simp at hr
            clear hf983
            rintro _ s984 a k rfl ⟨rfl, ⟨hg, hs, hd⟩, i1, i5, i6, i7, i8, i11, i12, _⟩
            dsimp only at hr
            refine wp_seq ?_
            refine cut (fun a' k' => Bs noF k0 121 a' k' ∧ (IsV m_) (a'.get 1) k' ∧ (IsV x921_0) (a'.get 5) k' ∧ (IsV s928.1) (a'.get 6) k' ∧ (IsV s928.2) (a'.get 7) k' ∧ (IsV x938_5.1) (a'.get 8) k' ∧ (IsV s962) (a'.get 11) k' ∧ (IsV (!s984.1)) (a'.get 118) k' ∧ True) ?_ hQ ?_
            · intro Q993 hQQ993 hp994
              refine regionS (a0 := a) (k0 := k) (n := 121) (m := 2) (⟨some (IsV s984.1), [(12, none)]⟩ :: ⟨some (IsV (!s984.1)), [(117, some 0)]⟩ :: []) hs (by kernel_rfl) ⟨ob1 rfl fun b q hk hn => ok_move rfl (up i12 hk hn.1), ob1 rfl fun b q hk hn => ok_not rfl hn.1, trivial⟩ hQQ993 fun b q p => ?_
              exact tail_done (k := q) (hp994 _ _ ⟨Bs.post ⟨hg, hs, hd⟩ p, keep p 1 rfl i1, keep p 5 rfl i5, keep p 6 rfl i6, keep p 7 rfl i7, keep p 8 rfl i8, keep p 11 rfl i11, out p 1 118 _ rfl rfl rfl, trivial⟩)
            rintro a k ⟨⟨hg, hs, hd⟩, i1, i5, i6, i7, i8, i11, i118, _⟩
            refine wp_cond_split (isBool i118) (fun hc992 => ?_) (fun hc992 => ?_)
            · rw [if_pos hc992] at hr
              refine wp_seq ?_
              refine cut (fun a' k' => Bs noF k0 121 a' k' ∧ (IsV false) (a'.get 4) k' ∧ True) ?_ hQ ?_
              · intro Q987 hQQ987 hp988
                refine regionS (a0 := a) (k0 := k) (n := 121) (m := 1) (⟨some (IsV false), []⟩ :: []) hs (by kernel_rfl) ⟨ob1 rfl fun b q hk hn => ok_assign rfl (isV_bool.2 rfl), trivial⟩ hQQ987 fun b q p => ?_
                exact tail_done (k := q) (hp988 _ _ ⟨Bs.post ⟨hg, hs, hd⟩ p, out p 0 4 _ rfl rfl rfl, trivial⟩)
              rintro a k ⟨⟨hg, hs, hd⟩, i4, _⟩
              refine wp_ret ?_
              exact hret965 _ _ _ (Option.some.inj hr).symm (retC1 rfl hd hg i4)
            rw [if_neg (by rw [hc992]; decide)] at hr
            refine wp_skip ?_
            obtain ⟨x989_1, hx989_1, hr⟩ := bind_some hr
            refine cut (fun a' k' => Bs noF k0 121 a' k' ∧ (IsV m_) (a'.get 1) k' ∧ (IsV x921_0) (a'.get 5) k' ∧ (IsV s928.1) (a'.get 6) k' ∧ (IsV s928.2) (a'.get 7) k' ∧ (IsV x938_5.1) (a'.get 8) k' ∧ (IsV x989_1) (a'.get 11) k' ∧ True) ?_ hQ ?_
            · intro Q990 hQQ990 hp991
              refine regionS (a0 := a) (k0 := k) (n := 121) (m := 3) (⟨some (IsV s962), [(11, none)]⟩ :: ⟨some (IsV x989_1), [(62, some 0)]⟩ :: ⟨some (IsV x989_1), [(63, some 1)]⟩ :: []) hs (by kernel_rfl) ⟨ob1 rfl fun b q hk hn => ok_move rfl (up i11 hk hn.1), ob1 rfl fun b q hk hn => ok_add rfl hn.1 (isV_int.2 rfl) hx989_1, ob1 rfl fun b q hk hn => ok_assign rfl hn.1, trivial⟩ hQQ990 fun b q p => ?_
              exact tail_done (k := q) (hp991 _ _ ⟨Bs.post ⟨hg, hs, hd⟩ p, keep p 1 rfl i1, keep p 5 rfl i5, keep p 6 rfl i6, keep p 7 rfl i7, keep p 8 rfl i8, out p 2 11 _ rfl rfl rfl, trivial⟩)
            rintro a k ⟨⟨hg, hs, hd⟩, i1, i5, i6, i7, i8, i11, _⟩
            exact hgo963 _ _ _ (Option.some.inj hr).symm ⟨⟨hg, hs, hd⟩, i1, i5, i6, i7, i8, i11, trivial⟩
          rw [if_neg (by rw [hc1001]; decide)] at hr
          refine wp_exit ?_
          exact hex964 _ _ _ _ (Option.some.inj hr).symm ⟨rfl, ⟨hg, hs, hd⟩, i1, i5, i7, i8, trivial⟩
        · rintro r1009 a k rfl hR
          dsimp only at hr
          exact hret937 _ _ _ (Option.some.inj hr).symm hR
        · rintro _ _ _ rfl _
          simp at hr
        clear hf1004
        rintro _ s1005 a k rfl ⟨rfl, ⟨hg, hs, hd⟩, i1, i5, i7, i8, _⟩
        dsimp only at hr
        refine cut (fun a' k' => Bs noF k0 121 a' k' ∧ (IsV m_) (a'.get 1) k' ∧ (IsV x921_0) (a'.get 5) k' ∧ (IsV x938_5.1) (a'.get 6) k' ∧ (IsV s928.2) (a'.get 7) k' ∧ True) ?_ hQ ?_
        · intro Q1007 hQQ1007 hp1008
          refine regionS (a0 := a) (k0 := k) (n := 121) (m := 2) (⟨some (IsV x938_5.1), [(8, none)]⟩ :: ⟨some (IsV x938_5.1), [(119, some 0)]⟩ :: []) hs (by kernel_rfl) ⟨ob1 rfl fun b q hk hn => ok_move rfl (up i8 hk hn.1), ob1 rfl fun b q hk hn => ok_assign rfl hn.1, trivial⟩ hQQ1007 fun b q p => ?_
          exact tail_done (k := q) (hp1008 _ _ ⟨Bs.post ⟨hg, hs, hd⟩ p, keep p 1 rfl i1, keep p 5 rfl i5, out p 1 6 _ rfl rfl rfl, keep p 7 rfl i7, trivial⟩)
        rintro a k ⟨⟨hg, hs, hd⟩, i1, i5, i6, i7, _⟩
        exact hgo935 _ _ _ (Option.some.inj hr).symm ⟨⟨hg, hs, hd⟩, i1, i5, i6, i7, trivial⟩
      · rintro r1027 a k rfl hR
        dsimp only at hr
        exact hret931 _ _ _ (Option.some.inj hr).symm hR
      · rintro _ _ _ _ _ hX
        exact hX.elim
      clear hf1022
      rintro s1023 a k rfl ⟨⟨hg, hs, hd⟩, i1, i5, i6, i7, _⟩
      dsimp only at hr
      obtain ⟨x1024_1, hx1024_1, hr⟩ := bind_some hr
      refine cut (fun a' k' => Bs noF k0 121 a' k' ∧ (IsV m_) (a'.get 1) k' ∧ (IsV x921_0) (a'.get 5) k' ∧ (IsV s1023) (a'.get 6) k' ∧ (IsV x1024_1) (a'.get 7) k' ∧ True) ?_ hQ ?_
      · intro Q1025 hQQ1025 hp1026
        refine regionS (a0 := a) (k0 := k) (n := 121) (m := 3) (⟨some (IsV s928.2), [(7, none)]⟩ :: ⟨some (IsV x1024_1), [(25, some 0)]⟩ :: ⟨some (IsV x1024_1), [(26, some 1)]⟩ :: []) hs (by kernel_rfl) ⟨ob1 rfl fun b q hk hn => ok_move rfl (up i7 hk hn.1), ob1 rfl fun b q hk hn => ok_add rfl hn.1 (isV_int.2 rfl) hx1024_1, ob1 rfl fun b q hk hn => ok_assign rfl hn.1, trivial⟩ hQQ1025 fun b q p => ?_
        exact tail_done (k := q) (hp1026 _ _ ⟨Bs.post ⟨hg, hs, hd⟩ p, keep p 1 rfl i1, keep p 5 rfl i5, keep p 6 rfl i6, out p 2 7 _ rfl rfl rfl, trivial⟩)
      rintro a k ⟨⟨hg, hs, hd⟩, i1, i5, i6, i7, _⟩
      exact hgo929 _ _ _ (Option.some.inj hr).symm ⟨⟨hg, hs, hd⟩, i1, i5, i6, i7, trivial⟩
    rw [if_neg (by rw [hc1029]; decide)] at hr
    refine wp_exit ?_
    exact hex930 _ _ _ _ (Option.some.inj hr).symm ⟨rfl, ⟨hg, hs, hd⟩, i5, trivial⟩
  · rintro r1037 a k rfl hR
    dsimp only at hr
    obtain rfl := Option.some.inj hr
    exact hR
  · rintro _ _ _ rfl _
    simp at hr
  clear hf1032
  rintro _ s1033 a k rfl ⟨rfl, ⟨hg, hs, hd⟩, i5, _⟩
  dsimp only at hr
  refine wp_seq ?_
  refine cut (fun a' k' => Bs noF k0 121 a' k' ∧ (IsV x921_0) (a'.get 4) k' ∧ True) ?_ hQ ?_
  · intro Q1035 hQQ1035 hp1036
    refine regionS (a0 := a) (k0 := k) (n := 121) (m := 2) (⟨some (IsV x921_0), [(5, none)]⟩ :: ⟨some (IsV x921_0), [(120, some 0)]⟩ :: []) hs (by kernel_rfl) ⟨ob1 rfl fun b q hk hn => ok_move rfl (up i5 hk hn.1), ob1 rfl fun b q hk hn => ok_assign rfl hn.1, trivial⟩ hQQ1035 fun b q p => ?_
    exact tail_done (k := q) (hp1036 _ _ ⟨Bs.post ⟨hg, hs, hd⟩ p, out p 1 4 _ rfl rfl rfl, trivial⟩)
  rintro a k ⟨⟨hg, hs, hd⟩, i4, _⟩
  refine wp_ret ?_
  obtain rfl := Option.some.inj hr
  exact retC1 rfl hd hg i4
end Go.Proofs.Ytbanncpkgbiklaa
