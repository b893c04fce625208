/- What the functions compute that the law reaches, part 2 -/
import Derived.Test.YtpbeebhapbibfaaDoorT1
namespace Go.Proofs.YtpbeebhapbibfaaDoor
open Go.Gb
set_option linter.unusedVariables false
set_option linter.unusedSimpArgs false
set_option maxRecDepth 100000
def rect_Right (r_ : Rect) : Option (Bool) :=
 some ((((((decide (0 ≤ r_.X0)) && (decide (r_.X0 < r_.X1))) && (decide (r_.X1 ≤ 1048576))) && (decide (0 ≤ r_.Y0))) && (decide (r_.Y0 < r_.Y1))) && (decide (r_.Y1 ≤ 1048576)))
noncomputable def k16 := mk 16 [.st 0] [.bool] (fun x => rect_Right x) [] [] Tryd.f16 (.n) Tryd.func16 Tryd.call16 rfl rfl fun x => by kernel_rfl
theorem rect_Right_ok {k0 : K} {v0 : Value} {x0 : Rect} {r : Bool} (i0 : IsV x0 v0 k0) (hr : rect_Right x0 = some r) : Calls Tryd.prog 16 #[v0] k0.w (Ret k0 (IsV r)) := (k16.ok.ok k0 [v0] x0 r (GOk.none fun _ => rfl) i0 hr)
section
open Go.Proofs Go.RowKit Go.Lib Go.Sort Go.Shelf
def Tryd.sortIntsL_ren : Go.Shelf.Ren := ⟨fun | 189 => 38 | 125 => 53 | 257 => 52 | 128 => 71 | 129 => 72 | 294 => 62 | 295 => 63 | 296 => 64 | 297 => 65 | 298 => 66 | 299 => 67 | 216 => 68 | 300 => 69 | 301 => 70 | 328 => 80 | 329 => 81 | 330 => 82 | 331 => 83 | 332 => 84 | 215 => 85 | 343 => 87 | n => n, fun | 28 => 40 | 3 => 3 | 46 => 93 | 0 => 0 | 51 => 115 | 53 => 117 | 4 => 4 | 183 => 108 | 182 => 107 | 131 => 103 | 5 => 5 | 9 => 9 | 218 => 125 | 222 => 129 | 228 => 133 | 229 => 134 | n => n, fun | n => n⟩
theorem Tryd.sortIntsL : Go.Proofs.Lays.n189 Tryd.prog Tryd.sortIntsL_ren := {
 mixed := by kernel_rfl,
 f125 := Tryd.func53.trans (congrArg some (by kernel_rfl)),
 f128 := Tryd.func71.trans (congrArg some (by kernel_rfl)),
 f129 := Tryd.func72.trans (congrArg some (by kernel_rfl)),
 f189 := Tryd.func38.trans (congrArg some (by kernel_rfl)),
 f215 := Tryd.func85.trans (congrArg some (by kernel_rfl)),
 f216 := Tryd.func68.trans (congrArg some (by kernel_rfl)),
 f257 := Tryd.func52.trans (congrArg some (by kernel_rfl)),
 f294 := Tryd.func62.trans (congrArg some (by kernel_rfl)),
 f295 := Tryd.func63.trans (congrArg some (by kernel_rfl)),
 f296 := Tryd.func64.trans (congrArg some (by kernel_rfl)),
 f297 := Tryd.func65.trans (congrArg some (by kernel_rfl)),
 f298 := Tryd.func66.trans (congrArg some (by kernel_rfl)),
 f299 := Tryd.func67.trans (congrArg some (by kernel_rfl)),
 f300 := Tryd.func69.trans (congrArg some (by kernel_rfl)),
 f301 := Tryd.func70.trans (congrArg some (by kernel_rfl)),
 f328 := Tryd.func80.trans (congrArg some (by kernel_rfl)),
 f329 := Tryd.func81.trans (congrArg some (by kernel_rfl)),
 f330 := Tryd.func82.trans (congrArg some (by kernel_rfl)),
 f331 := Tryd.func83.trans (congrArg some (by kernel_rfl)),
 f332 := Tryd.func84.trans (congrArg some (by kernel_rfl)),
 f343 := Tryd.func87.trans (congrArg some (by kernel_rfl)),
 t0 := Tryd.underlying0,
 a0 := Tryd.isAgg0,
 z0 := Tryd.sizeOf0,
 v0 := Tryd.zeroValue0,
 t3 := Tryd.underlying3,
 a3 := Tryd.isAgg3,
 z3 := Tryd.sizeOf3,
 v3 := Tryd.zeroValue3,
 t4 := Tryd.underlying4,
 a4 := Tryd.isAgg4,
 z4 := Tryd.sizeOf4,
 v4 := Tryd.zeroValue4,
 t5 := Tryd.underlying5,
 a5 := Tryd.isAgg5,
 z5 := Tryd.sizeOf5,
 v5 := Tryd.zeroValue5,
 t9 := Tryd.underlying9,
 a9 := Tryd.isAgg9,
 z9 := Tryd.sizeOf9,
 v9 := Tryd.zeroValue9,
 t28 := Tryd.underlying40,
 a28 := Tryd.isAgg40,
 z28 := Tryd.sizeOf40,
 v28 := Tryd.zeroValue40,
 t46 := Tryd.underlying93,
 a46 := Tryd.isAgg93,
 z46 := Tryd.sizeOf93,
 v46 := Tryd.zeroValue93,
 t51 := Tryd.underlying115,
 a51 := Tryd.isAgg115,
 z51 := Tryd.sizeOf115,
 v51 := Tryd.zeroValue115,
 t53 := Tryd.underlying117,
 a53 := Tryd.isAgg117,
 z53 := Tryd.sizeOf117,
 v53 := Tryd.zeroValue117,
 t131 := Tryd.underlying103,
 a131 := Tryd.isAgg103,
 z131 := Tryd.sizeOf103,
 v131 := Tryd.zeroValue103,
 t182 := Tryd.underlying107,
 a182 := Tryd.isAgg107,
 z182 := Tryd.sizeOf107,
 v182 := Tryd.zeroValue107,
 t183 := Tryd.underlying108,
 a183 := Tryd.isAgg108,
 z183 := Tryd.sizeOf108,
 v183 := Tryd.zeroValue108,
 t218 := Tryd.underlying125,
 a218 := Tryd.isAgg125,
 z218 := Tryd.sizeOf125,
 v218 := Tryd.zeroValue125,
 t222 := Tryd.underlying129,
 a222 := Tryd.isAgg129,
 z222 := Tryd.sizeOf129,
 v222 := Tryd.zeroValue129,
 t228 := Tryd.underlying133,
 a228 := Tryd.isAgg133,
 z228 := Tryd.sizeOf133,
 v228 := Tryd.zeroValue133,
 t229 := Tryd.underlying134,
 a229 := Tryd.isAgg134,
 z229 := Tryd.sizeOf134,
 v229 := Tryd.zeroValue134 }
theorem sortInts_ok {k0 : K} {v0 : Value} {l r : List Int} (i0 : IsOwn 0 3 l v0 k0) (hr : sortInts l = some r) : Calls Tryd.prog 38 #[v0] k0.w (RetC (obF v0) k0 fun _ k' => IsOwn 0 3 r v0 k') := by
 unfold sortInts at hr
 split at hr
 ·rename_i hl
  obtain rfl := Option.some.inj hr
  refine sortI_own (S := fun l => l.mergeSort fun x y => decide (x ≤ y)) (List.length_mergeSort _) (fun p cap w => ?_) (fun blk off cap w hH hblk => ?_) i0
  ·have hcon := Any.slices_Sort_int_none Tryd.sortIntsL p cap w
   change Calls Tryd.prog 38 _ _ _ at hcon
   exact hcon
  ·have hcon := Any.slices_Sort_int Tryd.sortIntsL blk off cap l w hH hblk (by omega)
   change Calls Tryd.prog 38 _ _ _ at hcon
   exact hcon
 ·simp at hr
end
section
open Go.Proofs Go.RowKit Go.Lib Go.Sort Go.Shelf
def Tryd.compactL_ren : Go.Shelf.Ren := ⟨fun | 20 => 39 | n => n, fun | 22 => 40 | 3 => 3 | 4 => 4 | 0 => 0 | n => n, fun | n => n⟩
theorem Tryd.compactL : Go.Proofs.Lays2.n20 Tryd.prog Tryd.compactL_ren := {
 mixed := by kernel_rfl,
 f20 := Tryd.func39.trans (congrArg some (by kernel_rfl)),
 t0 := Tryd.underlying0,
 a0 := Tryd.isAgg0,
 z0 := Tryd.sizeOf0,
 v0 := Tryd.zeroValue0,
 t3 := Tryd.underlying3,
 a3 := Tryd.isAgg3,
 z3 := Tryd.sizeOf3,
 v3 := Tryd.zeroValue3,
 t4 := Tryd.underlying4,
 a4 := Tryd.isAgg4,
 z4 := Tryd.sizeOf4,
 v4 := Tryd.zeroValue4,
 t22 := Tryd.underlying40,
 a22 := Tryd.isAgg40,
 z22 := Tryd.sizeOf40,
 v22 := Tryd.zeroValue40,
 i3 := by kernel_rfl }
theorem compactInts_ok {k0 : K} {v0 : Value} {l r : List Int} (i0 : IsOwn 0 3 l v0 k0) (hr : compactInts l = some r) : Calls Tryd.prog 39 #[v0] k0.w (RetC (obF v0) k0 (IsOwnW v0 k0 3 r)) := by
 unfold compactInts at hr
 split at hr
 ·rename_i hl
  obtain rfl := Option.some.inj hr
  refine compactI_own compact_length hl (fun p cap w => ?_) (fun blk off cap w hH hc => ?_) i0
  ·have hcon := Any.slices_Compact_int_empty Tryd.compactL p cap w
   change Calls Tryd.prog 39 _ _ _ at hcon
   exact hcon
  ·have hcon := Any.slices_Compact_int Tryd.compactL blk off cap l w hH (by omega) hc
   change Calls Tryd.prog 39 _ _ _ at hcon
   exact hcon
 ·simp at hr
end
def solid_heights_L1 (x1 : (List Slab)) (s1 : (List Int) × Int) : Option (Flow ((List Int) × Int) ((List Int))) :=
 if (decide (s1.2 < (x1.length : Int))) then
  (getI x1 s1.2).bind fun x2 =>
  (appI s1.1 ([x2.Z0, x2.Z1])).bind fun x3 =>
  (addI s1.2 1).bind fun x4 =>
  some (.go (x3, x4))
 else
  some (.ex 2 (s1.1, s1.2))
def solid_heights_L0 (lists_ : (List (List Slab))) (s1 : (List Int) × Int) : Option (Flow ((List Int) × Int) ((List Int))) :=
 if (decide (s1.2 < (lists_.length : Int))) then
  (getI lists_ s1.2).bind fun x1 =>
  (iterL (solid_heights_L1 x1) (x1.length + 1) (s1.1, 0)).bind fun f1 => match f1 with
   | .go _ => none
   | .ex _ s2 =>
    (addI s1.2 1).bind fun x2 =>
    some (.go (s2.1, x2))
   | .ret r1 => some (.ret r1)
 else
  some (.ex 0 (s1.1, s1.2))
def solid_heights (lists_ : (List (List Slab))) : Option ((List Int)) :=
 (iterL (solid_heights_L0 lists_) (lists_.length + 1) (([] : List Int), 0)).bind fun f1 => match f1 with
  | .go _ => none
  | .ex _ s1 =>
   (sortInts s1.1).bind fun x1 =>
   (compactInts x1).bind fun x2 =>
   some x2
  | .ret r1 => some r1
theorem solid_heights_ok {k0 : K} {v0 : Value} {lists_ : (List (List Slab))} {r : (List Int)} (i0 : (IsV lists_) v0 k0) (hr : solid_heights lists_ = some r) :
  Calls Tryd.prog 17 #[v0] k0.w (Ret k0 (IsV r)) := by
 unfold solid_heights at hr
 refine Ret.ofC ?_
 refine enterK Tryd.func17 rfl Tryd.ntmps17 (show 1 ≤ 33 by decide) fun a k hk0 hs hd ha => ?_
 obtain ⟨e0, _⟩ := ha
 replace i0 : (IsV lists_) (a.get 0) k := by rw [e0, hk0]; exact i0
 have hQ : Gb.LetsOut (bodyPost Tryd.prog Tryd.f17 (RetC noF k0 (IsV r))) := letsOutC
 have hg : Chg noF k0 k := by rw [hk0]; exact Chg.refl _ k0
 refine stepL 1 (⟨some IsE0, []⟩ :: []) rfl ⟨hg, hs, hd⟩ (by kernel_rfl) ⟨ob1 rfl fun b q h n => ok_assign rfl isE0_nil, trivial⟩ [⟨_, _⟩] (fun b q p => ⟨p.ke 0 rfl i0, trivial⟩) ?_
 rintro a k ⟨⟨hg, hs, hd⟩, i0, _⟩
 refine cutS (fun c l => Bs noF k0 33 c l ∧ IsV lists_ (c.get 0) l ∧ IsOwn 0 3 ([] : List Int) (c.get 3) l ∧ Lo k0 (obF (c.get 3)) ∧ True) ?_ ?_
 ·intro Q1 W1 w1
  refine gS 1 (⟨some IsE0, []⟩ :: []) hs (by kernel_rfl) ⟨ob1 rfl fun b q h n => ok_assign rfl isE0_nil, trivial⟩ W1 fun b q p => ?_
  have hgq := hg.then p.grow
  have hsb := p.size.trans hs
  have hdb := p.defers.trans hd
  have j0 := p.ke 0 rfl i0
  have j3 : IsE0 (b.get 3) q := p.ou 0 3 rfl
  have y3 : Lo k0 (obF (b.get 3)) := j3.lo
  replace j3 : IsOwn 0 3 ([] : List Int) (b.get 3) q := j3.own0
  exact tail_done (k := q) (w1 _ _ ⟨⟨hgq, hsb, hdb⟩, j0, j3, y3, trivial⟩)
 rintro a k ⟨⟨hg, hs, hd⟩, i0, i3, n3, _⟩
 refine wp_seq ?_
 refine cutS (fun c l => Bs noF k0 33 c l ∧ IsOwn 0 3 ([] : List Int) (c.get 3) l ∧ Lo k0 (obF (c.get 3)) ∧ IsV lists_ (c.get 8) l ∧ IsL lists_ (c.get 9) l ∧ IsI 0 (c.get 10) l ∧ True) ?_ ?_
 ·intro Q2 W2 w2
  refine gS 3 (_ :: _ :: ⟨some (IsI 0), []⟩ :: []) hs (by kernel_rfl) ⟨mu rfl i0, o1 [(8, some 0)] rfl fun _ _ h n => ok_len rfl rfl Tryd.underlying75 (IsV.rd n.1), ob1 rfl fun _ _ h n => ok_move rfl (cI rfl), trivial⟩ W2 fun b q p => ?_
  exact tail_done (k := q) (w2 _ _ ⟨Bs.post ⟨hg, hs, hd⟩ p, p.ke 3 rfl i3, (by rw [p.old 3 rfl]; exact n3), p.ou 0 8 rfl, p.ou 1 9 rfl, p.ou 2 10 rfl, trivial⟩)
 rintro a k ⟨⟨hg, hs, hd⟩, i3, n3, i8, i9, i10, _⟩
 refine wp_block ?_
 obtain ⟨f1, hf1, hr⟩ := bind_some hr
 refine cutFe f1 (fun s' c l => Bs noF k0 33 c l ∧ IsOwn 0 3 s'.1 (c.get 3) l ∧ Lo k0 (obF (c.get 3)) ∧ IsV lists_ (c.get 8) l ∧ IsL lists_ (c.get 9) l ∧ IsV s'.2 (c.get 10) l ∧ True) (fun i' s' c l => (i' = 0 ∧ Bs noF k0 33 c l ∧ IsOwn 0 3 s'.1 (c.get 3) l ∧ Lo k0 (obF (c.get 3)) ∧ True)) (fun r' c l => bodyPost Tryd.prog Tryd.f17 (RetC noF k0 (IsV r')) .ret c l.w) ?_ hQ ?_ ?_ ?_
 ·intro Q3 W3 hgo hex hret
  refine sim_loop ?_ _ _ _ _ _ hf1 ⟨⟨hg, hs, hd⟩, i3, n3, i8, i9, i10, trivial⟩ Q3 W3 hgo hex hret
  clear hr hf1 hgo hex hret W3 hQ hg hs hd i10 i3 i8 i9 n3
  intro s1 fl_ a k hr hS Q hQ hgo11 hex12 hret13
  obtain ⟨⟨hg, hs, hd⟩, i3, n3, i8, i9, i10, _⟩ := hS
  unfold solid_heights_L0 at hr
  refine cutS (fun c l => Bs noF k0 33 c l ∧ IsOwn 0 3 s1.1 (c.get 3) l ∧ Lo k0 (obF (c.get 3)) ∧ IsV lists_ (c.get 8) l ∧ IsL lists_ (c.get 9) l ∧ IsV s1.2 (c.get 10) l ∧ (IsV (decide (s1.2 < (lists_.length : Int)))) (c.get 11) l ∧ True) ?_ ?_
  ·intro Q4 W4 w3
   refine gS 1 (_ :: []) hs (by kernel_rfl) ⟨o1 [(10, none), (9, none)] rfl fun _ _ h n => ok_lss rfl (up i10 h n.1) (up i9 h n.2.1), trivial⟩ W4 fun b q p => ?_
   exact tail_done (k := q) (w3 _ _ ⟨Bs.post ⟨hg, hs, hd⟩ p, p.ke 3 rfl i3, (by rw [p.old 3 rfl]; exact n3), p.ke 8 rfl i8, p.ke 9 rfl i9, p.ke 10 rfl i10, p.ou 0 11 rfl, trivial⟩)
  rintro a k ⟨⟨hg, hs, hd⟩, i3, n3, i8, i9, i10, i11, _⟩
  refine wp_seq ?_
  refine wp_cond_split (isBool i11) (fun hc45 => ?_) (fun hc45 => ?_)
  ·rw [if_pos hc45] at hr
   refine wp_skip ?_
   refine wp_seq ?_
   refine wp_block ?_
   refine wp_seq ?_
   obtain ⟨x1, hx1, hr⟩ := bind_some hr
   refine cut (fun a' k' => Bs noF k0 33 a' k' ∧ IsOwn 0 3 s1.1 (a'.get 3) k' ∧ Lo k0 (obF (a'.get 3)) ∧ (IsV x1) (a'.get 5) k' ∧ (IsV lists_) (a'.get 8) k' ∧ (IsL lists_) (a'.get 9) k' ∧ (IsV s1.2) (a'.get 10) k' ∧ True) ?_ hQ ?_
   ·intro Q5 W5 w4
    refine gS 3 (_ :: _ :: _ :: []) hs (by kernel_rfl) ⟨o1 [(8, none), (10, none)] rfl fun _ _ h n => ok_indexAddr rfl Tryd.underlying75 ty26 (IsV.rd (up i8 h n.1)) (up i10 h n.2.1) hx1, o1 [(12, some 0)] rfl fun _ _ h n => ok_load rfl ty26 n.1, cp 1 rfl rfl, trivial⟩ W5 fun b q p => ?_
    exact tail_done (k := q) (w4 _ _ ⟨Bs.post ⟨hg, hs, hd⟩ p, p.ke 3 rfl i3, (by rw [p.old 3 rfl]; exact n3), p.ou 2 5 rfl, p.ke 8 rfl i8, p.ke 9 rfl i9, p.ke 10 rfl i10, trivial⟩)
   rintro a k ⟨⟨hg, hs, hd⟩, i3, n3, i5, i8, i9, i10, _⟩
   refine cutS (fun c l => Bs noF k0 33 c l ∧ IsOwn 0 3 s1.1 (c.get 3) l ∧ Lo k0 (obF (c.get 3)) ∧ IsV lists_ (c.get 8) l ∧ IsL lists_ (c.get 9) l ∧ IsV s1.2 (c.get 10) l ∧ IsV x1 (c.get 14) l ∧ IsL x1 (c.get 15) l ∧ IsI 0 (c.get 16) l ∧ True) ?_ ?_
   ·intro Q6 W6 w5
    refine gS 3 (_ :: _ :: ⟨some (IsI 0), []⟩ :: []) hs (by kernel_rfl) ⟨mu rfl i5, o1 [(14, some 0)] rfl fun _ _ h n => ok_len rfl rfl Tryd.underlying26 (IsV.rd n.1), ob1 rfl fun _ _ h n => ok_move rfl (cI rfl), trivial⟩ W6 fun b q p => ?_
    exact tail_done (k := q) (w5 _ _ ⟨Bs.post ⟨hg, hs, hd⟩ p, p.ke 3 rfl i3, (by rw [p.old 3 rfl]; exact n3), p.ke 8 rfl i8, p.ke 9 rfl i9, p.ke 10 rfl i10, p.ou 0 14 rfl, p.ou 1 15 rfl, p.ou 2 16 rfl, trivial⟩)
   rintro a k ⟨⟨hg, hs, hd⟩, i3, n3, i8, i9, i10, i14, i15, i16, _⟩
   refine wp_block ?_
   obtain ⟨f2, hf2, hr⟩ := bind_some hr
   refine cutFe f2 (fun s' c l => Bs noF k0 33 c l ∧ IsOwn 0 3 s'.1 (c.get 3) l ∧ Lo k0 (obF (c.get 3)) ∧ IsV lists_ (c.get 8) l ∧ IsL lists_ (c.get 9) l ∧ IsV s1.2 (c.get 10) l ∧ IsV x1 (c.get 14) l ∧ IsL x1 (c.get 15) l ∧ IsV s'.2 (c.get 16) l ∧ True) (fun i' s' c l => (i' = 2 ∧ Bs noF k0 33 c l ∧ IsOwn 0 3 s'.1 (c.get 3) l ∧ Lo k0 (obF (c.get 3)) ∧ IsV lists_ (c.get 8) l ∧ IsL lists_ (c.get 9) l ∧ IsV s1.2 (c.get 10) l ∧ True)) (fun r' c l => bodyPost Tryd.prog Tryd.f17 (RetC noF k0 (IsV r')) .ret c l.w) ?_ hQ ?_ ?_ ?_
   ·intro Q7 W7 hgo hex hret
    refine sim_loop ?_ _ _ _ _ _ hf2 ⟨⟨hg, hs, hd⟩, i3, n3, i8, i9, i10, i14, i15, i16, trivial⟩ Q7 W7 hgo hex hret
    clear hr hf2 hgo hex hret W7 hQ hg hs hd i10 i14 i15 i16 i3 i8 i9 n3
    intro s2 fl_ a k hr hS Q hQ hgo18 hex19 hret20
    obtain ⟨⟨hg, hs, hd⟩, i3, n3, i8, i9, i10, i14, i15, i16, _⟩ := hS
    unfold solid_heights_L1 at hr
    refine cutS (fun c l => Bs noF k0 33 c l ∧ IsOwn 0 3 s2.1 (c.get 3) l ∧ Lo k0 (obF (c.get 3)) ∧ IsV lists_ (c.get 8) l ∧ IsL lists_ (c.get 9) l ∧ IsV s1.2 (c.get 10) l ∧ IsV x1 (c.get 14) l ∧ IsL x1 (c.get 15) l ∧ IsV s2.2 (c.get 16) l ∧ (IsV (decide (s2.2 < (x1.length : Int)))) (c.get 17) l ∧ True) ?_ ?_
    ·intro Q8 W8 w6
     refine gS 1 (_ :: []) hs (by kernel_rfl) ⟨o1 [(16, none), (15, none)] rfl fun _ _ h n => ok_lss rfl (up i16 h n.1) (up i15 h n.2.1), trivial⟩ W8 fun b q p => ?_
     exact tail_done (k := q) (w6 _ _ ⟨Bs.post ⟨hg, hs, hd⟩ p, p.ke 3 rfl i3, (by rw [p.old 3 rfl]; exact n3), p.ke 8 rfl i8, p.ke 9 rfl i9, p.ke 10 rfl i10, p.ke 14 rfl i14, p.ke 15 rfl i15, p.ke 16 rfl i16, p.ou 0 17 rfl, trivial⟩)
    rintro a k ⟨⟨hg, hs, hd⟩, i3, n3, i8, i9, i10, i14, i15, i16, i17, _⟩
    refine wp_seq ?_
    refine wp_cond_split (isBool i17) (fun hc31 => ?_) (fun hc31 => ?_)
    ·rw [if_pos hc31] at hr
     refine wp_skip ?_
     refine wp_seq ?_
     refine wp_block ?_
     refine wp_seq ?_
     obtain ⟨x2, hx2, hr⟩ := bind_some hr
     refine cut (fun a' k' => Bs noF k0 33 a' k' ∧ IsOwn 0 3 s2.1 (a'.get 3) k' ∧ Lo k0 (obF (a'.get 3)) ∧ (IsRef x2) (a'.get 7) k' ∧ (IsV lists_) (a'.get 8) k' ∧ (IsL lists_) (a'.get 9) k' ∧ (IsV s1.2) (a'.get 10) k' ∧ (IsV x1) (a'.get 14) k' ∧ (IsL x1) (a'.get 15) k' ∧ (IsV s2.2) (a'.get 16) k' ∧ True) ?_ hQ ?_
     ·intro Q9 W9 w7
      refine gS 3 (_ :: _ :: ⟨some (IsBox k.w.heap.size (⟨0, 0, []⟩ : Slab)), []⟩ :: []) hs (by kernel_rfl) ⟨o1 [(14, none), (16, none)] rfl fun _ _ h n => ok_indexAddr rfl Tryd.underlying26 ty54 (IsV.rd (up i14 h n.1)) (up i16 h n.2.1) hx2, o1 [(18, some 0)] rfl fun _ _ h n => ok_load rfl ty54 n.1, ob1 rfl fun _ _ h n => ok_alloc _ h.size rfl z54, trivial⟩ W9 fun b q p => ?_
      have hgq := hg.then p.grow
      have hsb := p.size.trans hs
      have hdb := p.defers.trans hd
      have j3 := p.ke 3 rfl i3
      have y3 : Lo k0 (obF (b.get 3)) := by rw [p.old 3 rfl]; exact n3
      obtain ⟨b7, j7, x7, z7⟩ : (IsBox k.w.heap.size (⟨0, 0, []⟩ : Slab)) (b.get 7) q := p.ou 2 7 rfl
      replace x7 : Lo k (Eq b7) := Lo.eq x7
      have y7 : Lo k0 (Eq b7) := x7.chg hg
      have j8 := p.ke 8 rfl i8
      have j9 := p.ke 9 rfl i9
      have j10 := p.ke 10 rfl i10
      have j14 := p.ke 14 rfl i14
      have j15 := p.ke 15 rfl i15
      have j16 := p.ke 16 rfl i16
      have j19 : (IsV x2) (b.get 19) q := p.ou 1 19 rfl
      have w3_7 : Apart (obF (b.get 3)) (Eq b7) := Apart.new (by rw [p.old 3 rfl]; exact i3.ltF) x7
      have hns := z7.nshF
      refine tail_storeB (i := 3) rfl rfl rfl rfl szf54 (Upd.self (α := Slab)) j7 z7 j19 fun q2 hch hz => ?_
      replace hgq := hgq.step hch y7.wr
      have hle := hch.le hns
      replace j3 := j3.keep hch w3_7 hns
      replace j8 := Pers.pers hle j8
      replace j9 := Pers.pers hle j9
      replace j10 := Pers.pers hle j10
      replace j14 := Pers.pers hle j14
      replace j15 := Pers.pers hle j15
      replace j16 := Pers.pers hle j16
      replace j19 := Pers.pers hle j19
      replace z7 := hz
      clear hns hle hch
      obtain ⟨q, hqq⟩ : ∃ q, q = q2 := ⟨q2, rfl⟩
      subst hqq
      obtain ⟨q2, hsh, jn⟩ := z7.give
      replace j3 := j3.handed hsh w3_7
      replace j8 := Pers.pers hsh.le j8
      replace j9 := Pers.pers hsh.le j9
      replace j10 := Pers.pers hsh.le j10
      replace j14 := Pers.pers hsh.le j14
      replace j15 := Pers.pers hsh.le j15
      replace j16 := Pers.pers hsh.le j16
      rw [← j7] at jn
      replace j7 := jn
      replace hgq := hgq.hand hsh y7.wr
      rw [← hsh.w]
      clear hsh
      obtain ⟨q, hqq⟩ : ∃ q, q = q2 := ⟨q2, rfl⟩
      subst hqq
      exact tail_done (k := q) (w7 _ _ ⟨⟨hgq, hsb, hdb⟩, j3, y3, j7, j8, j9, j10, j14, j15, j16, trivial⟩)
     rintro a k ⟨⟨hg, hs, hd⟩, i3, n3, i7, i8, i9, i10, i14, i15, i16, _⟩
     obtain ⟨x3, hx3, hr⟩ := bind_some hr
     refine cut (fun a' k' => Bs noF k0 33 a' k' ∧ IsOwn 0 3 x3 (a'.get 3) k' ∧ Lo k0 (obF (a'.get 3)) ∧ (IsV lists_) (a'.get 8) k' ∧ (IsL lists_) (a'.get 9) k' ∧ (IsV s1.2) (a'.get 10) k' ∧ (IsV x1) (a'.get 14) k' ∧ (IsL x1) (a'.get 15) k' ∧ (IsV s2.2) (a'.get 16) k' ∧ True) ?_ hQ ?_
     ·intro Q10 W10 w8
      refine gS 6 (⟨some (OwnAt (a.get 3) 0 3 s2.1), [(3, none)]⟩ :: _ :: _ :: _ :: _ :: ⟨some (IsV (α := (List Int)) ([x2.Z0, x2.Z1])), [(22, some 2), (24, some 4)]⟩ :: []) hs (by kernel_rfl) ⟨ob1 rfl fun _ _ h n => ok_moveOA (.inl rfl) (ownAt n.1 (up i3 h n.1)), o1 [(7, none)] rfl fun _ _ h n => ok_fieldAddr rfl fo54_0 (at_Slab_0 _) ((up i7 h n.1)).ptr, o1 [(21, some 1)] rfl fun _ _ h n => ok_load rfl ty3 n.1, o1 [(7, none)] rfl fun _ _ h n => ok_fieldAddr rfl fo54_1 (at_Slab_1 _) ((up i7 h n.1)).ptr, o1 [(23, some 3)] rfl fun _ _ h n => ok_load rfl ty3 n.1, ob1 rfl fun _ _ h n => ok_buildSlice rfl Tryd.underlying40 eo3 rfl (by decide) (by decide) ⟨rfl, n.1, rfl, n.2.1, trivial⟩, trivial⟩ W10 fun b q p => ?_
      have hgq := hg.then p.grow
      have hsb := p.size.trans hs
      have hdb := p.defers.trans hd
      have j8 := p.ke 8 rfl i8
      have j9 := p.ke 9 rfl i9
      have j10 := p.ke 10 rfl i10
      have j14 := p.ke 14 rfl i14
      have j15 := p.ke 15 rfl i15
      have j16 := p.ke 16 rfl i16
      have e20 : b.get 20 = a.get 3 := (p.ou 0 20 rfl).1
      have j20 : IsOwn 0 3 s2.1 (b.get 20) q := (p.ou 0 20 rfl).2
      have y20 : Lo k0 (obF (b.get 20)) := by rw [e20]; exact n3
      have j25 : (IsV (α := (List Int)) ([x2.Z0, x2.Z1])) (b.get 25) q := p.ou 5 25 rfl
      have hns := j20.nshF
      refine tail_appendS (i := 6) (d := 26) rfl rfl rfl rfl (by rw [hsb]; decide) (e := 3) Tryd.underlying40 eo3 j20 (IsV.rd j25) hx3 fun b2 q2 hsz hdf hoth hch hown hob => ?_
      have hle := hch.le hns
      have yn : Lo k0 (obF (b2.get 26)) := y20.app hgq hob
      replace j8 := Pers.pers hle j8
      replace j9 := Pers.pers hle j9
      replace j10 := Pers.pers hle j10
      replace j14 := Pers.pers hle j14
      replace j15 := Pers.pers hle j15
      replace j16 := Pers.pers hle j16
      replace j25 := Pers.pers hle j25
      replace hgq := hgq.step hch y20.wr
      rw [← hoth 8 (by decide)] at j8
      rw [← hoth 9 (by decide)] at j9
      rw [← hoth 10 (by decide)] at j10
      rw [← hoth 14 (by decide)] at j14
      rw [← hoth 15 (by decide)] at j15
      rw [← hoth 16 (by decide)] at j16
      rw [← hoth 25 (by decide)] at j25
      have j26 := hown
      have y26 := yn
      replace hsb := hsz.trans hsb
      replace hdb := hdf.trans hdb
      clear hle hch hown hob hns yn hsz hdf hoth
      obtain ⟨b, hbb⟩ : ∃ b, b = b2 := ⟨b2, rfl⟩
      subst hbb
      obtain ⟨q, hqq⟩ : ∃ q, q = q2 := ⟨q2, rfl⟩
      subst hqq
      refine tail_assign (i := 7) (d := 3) rfl rfl (.inl rfl) rfl (by rw [hsb]; decide) fun b2 hsz hdf hnew hoth => ?_
      have jn : (IsOwn 0 3 x3) (b2.get 3) q := by rw [hnew]; exact j26
      have yn : Lo k0 (obF (b2.get 3)) := by rw [hnew]; exact y26
      rw [← hoth 8 (by decide)] at j8
      rw [← hoth 9 (by decide)] at j9
      rw [← hoth 10 (by decide)] at j10
      rw [← hoth 14 (by decide)] at j14
      rw [← hoth 15 (by decide)] at j15
      rw [← hoth 16 (by decide)] at j16
      rw [← hoth 25 (by decide)] at j25
      have j3 := jn
      have y3 := yn
      replace hsb := hsz.trans hsb
      replace hdb := hdf.trans hdb
      clear hsz hdf hoth
      obtain ⟨b, hbb⟩ : ∃ b, b = b2 := ⟨b2, rfl⟩
      subst hbb
      exact tail_done (k := q) (w8 _ _ ⟨⟨hgq, hsb, hdb⟩, j3, y3, j8, j9, j10, j14, j15, j16, trivial⟩)
     rintro a k ⟨⟨hg, hs, hd⟩, i3, n3, i8, i9, i10, i14, i15, i16, _⟩
     obtain ⟨x4, hx4, hr⟩ := bind_some hr
     refine cut (fun a' k' => Bs noF k0 33 a' k' ∧ IsOwn 0 3 x3 (a'.get 3) k' ∧ Lo k0 (obF (a'.get 3)) ∧ (IsV lists_) (a'.get 8) k' ∧ (IsL lists_) (a'.get 9) k' ∧ (IsV s1.2) (a'.get 10) k' ∧ (IsV x1) (a'.get 14) k' ∧ (IsL x1) (a'.get 15) k' ∧ (IsV x4) (a'.get 16) k' ∧ True) ?_ hQ ?_
     ·intro Q11 W11 w9
      refine gS 2 (_ :: _ :: []) hs (by kernel_rfl) ⟨o1 [(16, none)] rfl fun _ _ h n => ok_add rfl (up i16 h n.1) (cI rfl) hx4, cm 0 rfl rfl, trivial⟩ W11 fun b q p => ?_
      exact tail_done (k := q) (w9 _ _ ⟨Bs.post ⟨hg, hs, hd⟩ p, p.ke 3 rfl i3, (by rw [p.old 3 rfl]; exact n3), p.ke 8 rfl i8, p.ke 9 rfl i9, p.ke 10 rfl i10, p.ke 14 rfl i14, p.ke 15 rfl i15, p.ou 1 16 rfl, trivial⟩)
     rintro a k ⟨⟨hg, hs, hd⟩, i3, n3, i8, i9, i10, i14, i15, i16, _⟩
     exact hgo18 _ _ _ (Option.some.inj hr).symm ⟨⟨hg, hs, hd⟩, i3, n3, i8, i9, i10, i14, i15, i16, trivial⟩
    rw [if_neg (by rw [hc31]; decide)] at hr
    refine wp_exit ?_
    exact hex19 _ _ _ _ (Option.some.inj hr).symm ⟨rfl, ⟨hg, hs, hd⟩, i3, n3, i8, i9, i10, trivial⟩
   ·rintro r1 a k rfl hR
    dsimp only at hr
    exact hret13 _ _ _ (Option.some.inj hr).symm hR
   ·rintro _ _ _ rfl _
    simp at hr
   clear hf2
   rintro _ s3 a k rfl ⟨rfl, ⟨hg, hs, hd⟩, i3, n3, i8, i9, i10, _⟩
   dsimp only at hr
   obtain ⟨x5, hx5, hr⟩ := bind_some hr
   refine cut (fun a' k' => Bs noF k0 33 a' k' ∧ IsOwn 0 3 s3.1 (a'.get 3) k' ∧ Lo k0 (obF (a'.get 3)) ∧ (IsV lists_) (a'.get 8) k' ∧ (IsL lists_) (a'.get 9) k' ∧ (IsV x5) (a'.get 10) k' ∧ True) ?_ hQ ?_
   ·intro Q12 W12 w10
    refine gS 2 (_ :: _ :: []) hs (by kernel_rfl) ⟨o1 [(10, none)] rfl fun _ _ h n => ok_add rfl (up i10 h n.1) (cI rfl) hx5, cm 0 rfl rfl, trivial⟩ W12 fun b q p => ?_
    exact tail_done (k := q) (w10 _ _ ⟨Bs.post ⟨hg, hs, hd⟩ p, p.ke 3 rfl i3, (by rw [p.old 3 rfl]; exact n3), p.ke 8 rfl i8, p.ke 9 rfl i9, p.ou 1 10 rfl, trivial⟩)
   rintro a k ⟨⟨hg, hs, hd⟩, i3, n3, i8, i9, i10, _⟩
   exact hgo11 _ _ _ (Option.some.inj hr).symm ⟨⟨hg, hs, hd⟩, i3, n3, i8, i9, i10, trivial⟩
  rw [if_neg (by rw [hc45]; decide)] at hr
  refine wp_exit ?_
  exact hex12 _ _ _ _ (Option.some.inj hr).symm ⟨rfl, ⟨hg, hs, hd⟩, i3, n3, trivial⟩
 ·rintro r2 a k rfl hR
  dsimp only at hr
  obtain rfl := Option.some.inj hr
  exact hR
 ·rintro _ _ _ rfl _
  simp at hr
 clear hf1
 rintro _ s4 a k rfl ⟨rfl, ⟨hg, hs, hd⟩, i3, n3, _⟩
 dsimp only at hr
 refine wp_seq ?_
 obtain ⟨x6, hx6, hr⟩ := bind_some hr
 refine cut (fun a' k' => Bs noF k0 33 a' k' ∧ IsOwn 0 3 x6 (a'.get 3) k' ∧ Lo k0 (obF (a'.get 3)) ∧ True) ?_ hQ ?_
 ·intro Q13 W13 w11
  refine gS 1 (⟨some (OwnAt (a.get 3) 0 3 s4.1), [(3, none)]⟩ :: []) hs (by kernel_rfl) ⟨ob1 rfl fun _ _ h n => ok_moveOA (.inl rfl) (ownAt n.1 (up i3 h n.1)), trivial⟩ W13 fun b q p => ?_
  have hgq := hg.then p.grow
  have hsb := p.size.trans hs
  have hdb := p.defers.trans hd
  have j3 := p.ke 3 rfl i3
  have y3 : Lo k0 (obF (b.get 3)) := by rw [p.old 3 rfl]; exact n3
  have e29 : b.get 29 = a.get 3 := (p.ou 0 29 rfl).1
  have j29 : IsOwn 0 3 s4.1 (b.get 29) q := (p.ou 0 29 rfl).2
  have y29 : Lo k0 (obF (b.get 29)) := by rw [e29]; exact n3
  have hns := j29.nshF
  have eS : b.get 3 = b.get 29 := (p.old 3 rfl).trans e29.symm
  refine tail_call (F := obF (b.get 29)) (i := 1) (d := 30) rfl rfl rfl rfl (by rw [hsb]; decide) Tryd.call38 W13 (sortInts_ok j29 hx6) fun b2 q2 hsz hdf hoth hch hres => ?_
  have hle := hch.le hns
  replace hgq := hgq.step hch y29.wr
  replace j3 : IsOwn 0 3 x6 (b.get 3) q2 := by rw [eS]; exact hres
  clear hres eS
  rw [← hoth 3 (by decide)] at j3
  rw [← hoth 3 (by decide)] at y3
  replace hsb := hsz.trans hsb
  replace hdb := hdf.trans hdb
  clear hle hch hns hsz hdf hoth
  obtain ⟨b, hbb⟩ : ∃ b, b = b2 := ⟨b2, rfl⟩
  subst hbb
  obtain ⟨q, hqq⟩ : ∃ q, q = q2 := ⟨q2, rfl⟩
  subst hqq
  exact tail_done (k := q) (w11 _ _ ⟨⟨hgq, hsb, hdb⟩, j3, y3, trivial⟩)
 rintro a k ⟨⟨hg, hs, hd⟩, i3, n3, _⟩
 refine wp_seq ?_
 obtain ⟨x8, hx8, hr⟩ := bind_some hr
 refine cut (fun a' k' => Bs noF k0 33 a' k' ∧ IsOwn 0 3 x8 (a'.get 2) k' ∧ Lo k0 (obF (a'.get 2)) ∧ True) ?_ hQ ?_
 ·intro Q14 W14 w12
  refine gS 1 (⟨some (OwnAt (a.get 3) 0 3 x6), [(3, none)]⟩ :: []) hs (by kernel_rfl) ⟨ob1 rfl fun _ _ h n => ok_moveOA (.inl rfl) (ownAt n.1 (up i3 h n.1)), trivial⟩ W14 fun b q p => ?_
  have hgq := hg.then p.grow
  have hsb := p.size.trans hs
  have hdb := p.defers.trans hd
  have e31 : b.get 31 = a.get 3 := (p.ou 0 31 rfl).1
  have j31 : IsOwn 0 3 x6 (b.get 31) q := (p.ou 0 31 rfl).2
  have y31 : Lo k0 (obF (b.get 31)) := by rw [e31]; exact n3
  have hns := j31.nshF
  refine tail_call (F := obF (b.get 31)) (i := 1) (d := 32) rfl rfl rfl rfl (by rw [hsb]; decide) Tryd.call39 W14 (compactInts_ok j31 hx8) fun b2 q2 hsz hdf hoth hch hres => ?_
  have hle := hch.le hns
  obtain ⟨hown, hob⟩ := hres
  have yn : Lo k0 (obF (b2.get 32)) := y31.app hgq hob
  replace hgq := hgq.step hch y31.wr
  have j32 := hown
  have y32 := yn
  have hres := True.intro
  clear hown hob yn
  replace hsb := hsz.trans hsb
  replace hdb := hdf.trans hdb
  clear hle hch hres hns hsz hdf hoth
  obtain ⟨b, hbb⟩ : ∃ b, b = b2 := ⟨b2, rfl⟩
  subst hbb
  obtain ⟨q, hqq⟩ : ∃ q, q = q2 := ⟨q2, rfl⟩
  subst hqq
  refine tail_assign (i := 2) (d := 2) rfl rfl (.inl rfl) rfl (by rw [hsb]; decide) fun b2 hsz hdf hnew hoth => ?_
  have jn : (IsOwn 0 3 x8) (b2.get 2) q := by rw [hnew]; exact j32
  have yn : Lo k0 (obF (b2.get 2)) := by rw [hnew]; exact y32
  have j2 := jn
  have y2 := yn
  replace hsb := hsz.trans hsb
  replace hdb := hdf.trans hdb
  clear hsz hdf hoth
  obtain ⟨b, hbb⟩ : ∃ b, b = b2 := ⟨b2, rfl⟩
  subst hbb
  exact tail_done (k := q) (w12 _ _ ⟨⟨hgq, hsb, hdb⟩, j2, y2, trivial⟩)
 rintro a k ⟨⟨hg, hs, hd⟩, i2, n2, _⟩
 refine wp_ret ?_
 obtain ⟨kk, sh52, ii2⟩ := i2.give
 replace i2 := ii2
 replace hg := hg.hand sh52 n2.wr
 rw [← sh52.w]
 clear sh52
 obtain ⟨k, hkk⟩ : ∃ k, k = kk := ⟨kk, rfl⟩
 subst hkk
 obtain rfl := Option.some.inj hr
 exact retC1 rfl hd hg i2
section
open Go.Proofs Go.RowKit Go.Lib Go.Sort Go.Shelf
def Tryd.growL73_ren : Go.Shelf.Ren := ⟨fun | 4 => 73 | n => n, fun | 22 => 45 | 25 => 23 | 3 => 3 | 4 => 4 | 9 => 9 | 20 => 20 | 0 => 0 | n => n, fun | n => n⟩
theorem Tryd.growL73 : Go.Proofs.Lays8.n4 Tryd.prog Tryd.growL73_ren := {
 mixed := by kernel_rfl,
 f4 := ⟨Tryd.f73.name, by decide, Tryd.func73.trans (congrArg some (by kernel_rfl))⟩,
 t0 := Tryd.underlying0,
 a0 := Tryd.isAgg0,
 z0 := Tryd.sizeOf0,
 v0 := Tryd.zeroValue0,
 t3 := Tryd.underlying3,
 a3 := Tryd.isAgg3,
 z3 := Tryd.sizeOf3,
 v3 := Tryd.zeroValue3,
 t4 := Tryd.underlying4,
 a4 := Tryd.isAgg4,
 z4 := Tryd.sizeOf4,
 v4 := Tryd.zeroValue4,
 t9 := Tryd.underlying9,
 a9 := Tryd.isAgg9,
 z9 := Tryd.sizeOf9,
 v9 := Tryd.zeroValue9,
 t20 := Tryd.underlying20,
 a20 := Tryd.isAgg20,
 z20 := Tryd.sizeOf20,
 v20 := Tryd.zeroValue20,
 t22 := Tryd.underlying45,
 a22 := Tryd.isAgg45,
 z22 := Tryd.sizeOf45,
 v22 := Tryd.zeroValue45 }
theorem slices_Grow_Rect_okO {k0 : K} {v0 v1 : Value} {n : Int} {r : List Rect} (i0 : v0 = .slice none 0 0) (i1 : IsV n v1 k0) (hr : growI Rect n = some r) : Calls Tryd.prog 73 #[v0, v1] k0.w (Ret k0 (IsOwn k0.w.heap.size 23 r)) := by
 refine grow_own eo23 i0 i1 hr ?_ fun m i z h0 hm hi hz hs hb => ?_
 ·have hcon := Any8.slices_Grow_room Tryd.growL73 none 0 0 0 k0.w (by omega) (by omega) (by omega) (by omega)
  change Calls Tryd.prog 73 _ _ _ at hcon
  exact hcon
 ·have hcon := Any8.slices_Grow_grow Tryd.growL73 i z hi hz hs none 0 0 m [] k0.w (by omega) (by omega) (by
   have : (0 + m) * i.bytes ≤ 1073741824 * 65536 := Nat.mul_le_mul (by omega) hb
   omega) (by omega) (by simp) (fun _ => rfl) (fun a h => by simp at h)
  change Calls Tryd.prog 73 _ _ _ at hcon
  exact hcon
end
def slices_Concat_Rect_L0 (slices_ : (List (List Rect))) (s1 : Int × Int) : Option (Flow (Int × Int) ((List Rect))) :=
 if (decide (s1.2 < (slices_.length : Int))) then
  (getI slices_ s1.2).bind fun x1 =>
  (addI s1.1 (x1.length : Int)).bind fun x2 =>
  if (decide (x2 < 0)) then
   none
  else
   (addI s1.2 1).bind fun x3 =>
   some (.go (x2, x3))
 else
  some (.ex 0 (s1.1, s1.2))
def slices_Concat_Rect_L1 (slices_ : (List (List Rect))) (s1 : (List Rect) × Int) : Option (Flow ((List Rect) × Int) ((List Rect))) :=
 if (decide (s1.2 < (slices_.length : Int))) then
  (getI slices_ s1.2).bind fun x1 =>
  (appI s1.1 x1).bind fun x2 =>
  (addI s1.2 1).bind fun x3 =>
  some (.go (x2, x3))
 else
  some (.ex 2 (s1.1, s1.2))
def slices_Concat_Rect (slices_ : (List (List Rect))) : Option ((List Rect)) :=
 (iterL (slices_Concat_Rect_L0 slices_) (slices_.length + 1) (0, 0)).bind fun f1 => match f1 with
  | .go _ => none
  | .ex _ s1 =>
   (growI Rect s1.1).bind fun x1 =>
   (iterL (slices_Concat_Rect_L1 slices_) (slices_.length + 1) (x1, 0)).bind fun f2 => match f2 with
    | .go _ => none
    | .ex _ s2 =>
     some s2.1
    | .ret r1 => some r1
  | .ret r2 => some r2
theorem slices_Concat_Rect_okO {k0 : K} {v0 : Value} {slices_ : (List (List Rect))} {r : (List Rect)} (i0 : (IsV slices_) v0 k0) (hr : slices_Concat_Rect slices_ = some r) :
  Calls Tryd.prog 55 #[v0] k0.w (Ret k0 (IsOwn k0.w.heap.size 23 r)) := by
 unfold slices_Concat_Rect at hr
 refine Ret.ofC ?_
 refine enterK Tryd.func55 rfl Tryd.ntmps55 (show 1 ≤ 36 by decide) fun a k hk0 hs hd ha => ?_
 obtain ⟨e0, _⟩ := ha
 replace i0 : (IsV slices_) (a.get 0) k := by rw [e0, hk0]; exact i0
 have hQ : Gb.LetsOut (bodyPost Tryd.prog Tryd.f55 (RetC noF k0 (IsOwn k0.w.heap.size 23 r))) := letsOutC
 have hg : Chg noF k0 k := by rw [hk0]; exact Chg.refl _ k0
 refine stepL 1 (⟨some IsE0, []⟩ :: []) rfl ⟨hg, hs, hd⟩ (by kernel_rfl) ⟨ob1 rfl fun b q h n => ok_assign rfl isE0_nil, trivial⟩ [⟨_, _⟩] (fun b q p => ⟨p.ke 0 rfl i0, trivial⟩) ?_
 rintro a k ⟨⟨hg, hs, hd⟩, i0, _⟩
 refine stepL 1 (⟨some (IsI 0), []⟩ :: []) rfl ⟨hg, hs, hd⟩ (by kernel_rfl) ⟨aI rfl rfl, trivial⟩ [⟨_, _⟩, ⟨_, _⟩] (fun b q p => ⟨p.ke 0 rfl i0, p.ou 0 3 rfl, trivial⟩) ?_
 rintro a k ⟨⟨hg, hs, hd⟩, i0, i3, _⟩
 refine wp_seq ?_
 refine stepL 3 (_ :: _ :: ⟨some (IsI 0), []⟩ :: []) rfl ⟨hg, hs, hd⟩ (by kernel_rfl) ⟨mu rfl i0, o1 [(9, some 0)] rfl fun _ _ h n => ok_len rfl rfl Tryd.underlying97 (IsV.rd n.1), ob1 rfl fun _ _ h n => ok_move rfl (cI rfl), trivial⟩ [⟨_, _⟩, ⟨_, _⟩, ⟨_, _⟩, ⟨_, _⟩, ⟨_, _⟩] (fun b q p => ⟨p.ke 0 rfl i0, p.ke 3 rfl i3, p.ou 0 9 rfl, p.ou 1 10 rfl, p.ou 2 11 rfl, trivial⟩) ?_
 rintro a k ⟨⟨hg, hs, hd⟩, i0, i3, i9, i10, i11, _⟩
 refine wp_block ?_
 obtain ⟨f1, hf1, hr⟩ := bind_some hr
 refine cutFe f1 (fun s' c l => Bs noF k0 36 c l ∧ IsV slices_ (c.get 0) l ∧ IsV s'.1 (c.get 3) l ∧ IsV slices_ (c.get 9) l ∧ IsL slices_ (c.get 10) l ∧ IsV s'.2 (c.get 11) l ∧ True) (fun i' s' c l => (i' = 0 ∧ Bs noF k0 36 c l ∧ IsV slices_ (c.get 0) l ∧ IsV s'.1 (c.get 3) l ∧ True)) (fun r' c l => bodyPost Tryd.prog Tryd.f55 (RetC noF k0 (IsOwn k0.w.heap.size 23 r')) .ret c l.w) ?_ hQ ?_ ?_ ?_
 ·intro Q1 W1 hgo hex hret
  refine sim_loop ?_ _ _ _ _ _ hf1 ⟨⟨hg, hs, hd⟩, i0, i3, i9, i10, i11, trivial⟩ Q1 W1 hgo hex hret
  clear hr hf1 hgo hex hret W1 hQ hg hs hd i0 i10 i11 i3 i9
  intro s1 fl_ a k hr hS Q hQ hgo69 hex70 hret71
  obtain ⟨⟨hg, hs, hd⟩, i0, i3, i9, i10, i11, _⟩ := hS
  unfold slices_Concat_Rect_L0 at hr
  refine stepL 1 (_ :: []) rfl ⟨hg, hs, hd⟩ (by kernel_rfl) ⟨o1 [(11, none), (10, none)] rfl fun _ _ h n => ok_lss rfl (up i11 h n.1) (up i10 h n.2.1), trivial⟩ [⟨_, _⟩, ⟨_, _⟩, ⟨_, _⟩, ⟨_, _⟩, ⟨_, _⟩, ⟨_, _⟩] (fun b q p => ⟨p.ke 0 rfl i0, p.ke 3 rfl i3, p.ke 9 rfl i9, p.ke 10 rfl i10, p.ke 11 rfl i11, p.ou 0 12 rfl, trivial⟩) ?_
  rintro a k ⟨⟨hg, hs, hd⟩, i0, i3, i9, i10, i11, i12, _⟩
  refine wp_seq ?_
  refine wp_cond_split (isBool i12) (fun hc86 => ?_) (fun hc86 => ?_)
  ·rw [if_pos hc86] at hr
   refine wp_skip ?_
   refine wp_seq ?_
   refine wp_block ?_
   refine wp_seq ?_
   obtain ⟨x1, hx1, hr⟩ := bind_some hr
   refine cut (fun a' k' => Bs noF k0 36 a' k' ∧ (IsV slices_) (a'.get 0) k' ∧ (IsV s1.1) (a'.get 3) k' ∧ (IsV x1) (a'.get 5) k' ∧ (IsV slices_) (a'.get 9) k' ∧ (IsL slices_) (a'.get 10) k' ∧ (IsV s1.2) (a'.get 11) k' ∧ True) ?_ hQ ?_
   ·intro Q2 W2 w1
    refine gS 3 (_ :: _ :: _ :: []) hs (by kernel_rfl) ⟨o1 [(9, none), (11, none)] rfl fun _ _ h n => ok_indexAddr rfl Tryd.underlying97 ty45 (IsV.rd (up i9 h n.1)) (up i11 h n.2.1) hx1, o1 [(13, some 0)] rfl fun _ _ h n => ok_load rfl ty45 n.1, cp 1 rfl rfl, trivial⟩ W2 fun b q p => ?_
    exact tail_done (k := q) (w1 _ _ ⟨Bs.post ⟨hg, hs, hd⟩ p, p.ke 0 rfl i0, p.ke 3 rfl i3, p.ou 2 5 rfl, p.ke 9 rfl i9, p.ke 10 rfl i10, p.ke 11 rfl i11, trivial⟩)
   rintro a k ⟨⟨hg, hs, hd⟩, i0, i3, i5, i9, i10, i11, _⟩
   refine wp_seq ?_
   obtain ⟨x2, hx2, hr⟩ := bind_some hr
   refine cut (fun a' k' => Bs noF k0 36 a' k' ∧ (IsV slices_) (a'.get 0) k' ∧ (IsV x2) (a'.get 3) k' ∧ (IsV slices_) (a'.get 9) k' ∧ (IsL slices_) (a'.get 10) k' ∧ (IsV s1.2) (a'.get 11) k' ∧ True) ?_ hQ ?_
   ·intro Q3 W3 w2
    refine gS 5 (_ :: _ :: _ :: _ :: _ :: []) hs (by kernel_rfl) ⟨mu rfl i3, mu rfl i5, o1 [(16, some 1)] rfl fun _ _ h n => ok_len rfl rfl Tryd.underlying45 (IsV.rd n.1), o1 [(15, some 0), (17, some 2)] rfl fun _ _ h n => ok_add rfl n.1 n.2.1 hx2, cp 3 rfl rfl, trivial⟩ W3 fun b q p => ?_
    exact tail_done (k := q) (w2 _ _ ⟨Bs.post ⟨hg, hs, hd⟩ p, p.ke 0 rfl i0, p.ou 4 3 rfl, p.ke 9 rfl i9, p.ke 10 rfl i10, p.ke 11 rfl i11, trivial⟩)
   rintro a k ⟨⟨hg, hs, hd⟩, i0, i3, i9, i10, i11, _⟩
   refine stepL 2 (_ :: _ :: []) rfl ⟨hg, hs, hd⟩ (by kernel_rfl) ⟨mu rfl i3, o1 [(19, some 0)] rfl fun _ _ h n => ok_lss rfl n.1 (cI rfl), trivial⟩ [⟨_, _⟩, ⟨_, _⟩, ⟨_, _⟩, ⟨_, _⟩, ⟨_, _⟩, ⟨_, _⟩] (fun b q p => ⟨p.ke 0 rfl i0, p.ke 3 rfl i3, p.ke 9 rfl i9, p.ke 10 rfl i10, p.ke 11 rfl i11, p.ou 1 20 rfl, trivial⟩) ?_
   rintro a k ⟨⟨hg, hs, hd⟩, i0, i3, i9, i10, i11, i20, _⟩
   refine wp_cond_split (isBool i20) (fun hc79 => ?_) (fun hc79 => ?_)
   ·rw [if_pos hc79] at hr
    simp at hr
   rw [if_neg (by rw [hc79]; decide)] at hr
   refine wp_skip ?_
   obtain ⟨x3, hx3, hr⟩ := bind_some hr
   refine cut (fun a' k' => Bs noF k0 36 a' k' ∧ (IsV slices_) (a'.get 0) k' ∧ (IsV x2) (a'.get 3) k' ∧ (IsV slices_) (a'.get 9) k' ∧ (IsL slices_) (a'.get 10) k' ∧ (IsV x3) (a'.get 11) k' ∧ True) ?_ hQ ?_
   ·intro Q4 W4 w3
    refine gS 2 (_ :: _ :: []) hs (by kernel_rfl) ⟨o1 [(11, none)] rfl fun _ _ h n => ok_add rfl (up i11 h n.1) (cI rfl) hx3, cm 0 rfl rfl, trivial⟩ W4 fun b q p => ?_
    exact tail_done (k := q) (w3 _ _ ⟨Bs.post ⟨hg, hs, hd⟩ p, p.ke 0 rfl i0, p.ke 3 rfl i3, p.ke 9 rfl i9, p.ke 10 rfl i10, p.ou 1 11 rfl, trivial⟩)
   rintro a k ⟨⟨hg, hs, hd⟩, i0, i3, i9, i10, i11, _⟩
   exact hgo69 _ _ _ (Option.some.inj hr).symm ⟨⟨hg, hs, hd⟩, i0, i3, i9, i10, i11, trivial⟩
  rw [if_neg (by rw [hc86]; decide)] at hr
  refine wp_exit ?_
  exact hex70 _ _ _ _ (Option.some.inj hr).symm ⟨rfl, ⟨hg, hs, hd⟩, i0, i3, trivial⟩
 ·rintro r1 a k rfl hR
  dsimp only at hr
  obtain rfl := Option.some.inj hr
  exact hR
 ·rintro _ _ _ rfl _
  simp at hr
 clear hf1
 rintro _ s2 a k rfl ⟨rfl, ⟨hg, hs, hd⟩, i0, i3, _⟩
 dsimp only at hr
 refine wp_seq ?_
 obtain ⟨x4, hx4, hr⟩ := bind_some hr
 refine cut (fun a' k' => Bs noF k0 36 a' k' ∧ (IsV slices_) (a'.get 0) k' ∧ IsOwn 0 23 x4 (a'.get 6) k' ∧ Lo k0 (obF (a'.get 6)) ∧ True) ?_ hQ ?_
 ·intro Q5 W5 w4
  refine gS 3 (_ :: _ :: _ :: []) hs (by kernel_rfl) ⟨mu rfl i3, o1 [(23, some 0)] rfl fun _ _ h n => ok_call rfl Tryd.call73 (ret_weaken h.size (slices_Grow_Rect_okO rfl n.1 hx4)), cp 1 rfl rfl, trivial⟩ W5 fun b q p => ?_
  have hgq := hg.then p.grow
  have hsb := p.size.trans hs
  have hdb := p.defers.trans hd
  have j0 := p.ke 0 rfl i0
  have j6 : (IsOwn k.w.heap.size 23 x4) (b.get 6) q := p.ou 2 6 rfl
  have x6 : Lo k (obF (b.get 6)) := j6.loF
  have y6 := x6.chg hg
  replace j6 := j6.weaken (Nat.zero_le _)
  exact tail_done (k := q) (w4 _ _ ⟨⟨hgq, hsb, hdb⟩, j0, j6, y6, trivial⟩)
 rintro a k ⟨⟨hg, hs, hd⟩, i0, i6, n6, _⟩
 refine wp_seq ?_
 refine cutS (fun c l => Bs noF k0 36 c l ∧ IsOwn 0 23 x4 (c.get 6) l ∧ Lo k0 (obF (c.get 6)) ∧ IsV slices_ (c.get 25) l ∧ IsL slices_ (c.get 26) l ∧ IsI 0 (c.get 27) l ∧ True) ?_ ?_
 ·intro Q6 W6 w5
  refine gS 3 (_ :: _ :: ⟨some (IsI 0), []⟩ :: []) hs (by kernel_rfl) ⟨mu rfl i0, o1 [(25, some 0)] rfl fun _ _ h n => ok_len rfl rfl Tryd.underlying97 (IsV.rd n.1), ob1 rfl fun _ _ h n => ok_move rfl (cI rfl), trivial⟩ W6 fun b q p => ?_
  exact tail_done (k := q) (w5 _ _ ⟨Bs.post ⟨hg, hs, hd⟩ p, p.ke 6 rfl i6, (by rw [p.old 6 rfl]; exact n6), p.ou 0 25 rfl, p.ou 1 26 rfl, p.ou 2 27 rfl, trivial⟩)
 rintro a k ⟨⟨hg, hs, hd⟩, i6, n6, i25, i26, i27, _⟩
 refine wp_block ?_
 obtain ⟨f2, hf2, hr⟩ := bind_some hr
 refine cutFe f2 (fun s' c l => Bs noF k0 36 c l ∧ IsOwn 0 23 s'.1 (c.get 6) l ∧ Lo k0 (obF (c.get 6)) ∧ IsV slices_ (c.get 25) l ∧ IsL slices_ (c.get 26) l ∧ IsV s'.2 (c.get 27) l ∧ True) (fun i' s' c l => (i' = 2 ∧ Bs noF k0 36 c l ∧ IsOwn 0 23 s'.1 (c.get 6) l ∧ Lo k0 (obF (c.get 6)) ∧ True)) (fun r' c l => bodyPost Tryd.prog Tryd.f55 (RetC noF k0 (IsOwn k0.w.heap.size 23 r')) .ret c l.w) ?_ hQ ?_ ?_ ?_
 ·intro Q7 W7 hgo hex hret
  refine sim_loop ?_ _ _ _ _ _ hf2 ⟨⟨hg, hs, hd⟩, i6, n6, i25, i26, i27, trivial⟩ Q7 W7 hgo hex hret
  clear hr hf2 hgo hex hret W7 hQ hg hs hd i25 i26 i27 i6 n6
  intro s3 fl_ a k hr hS Q hQ hgo94 hex95 hret96
  obtain ⟨⟨hg, hs, hd⟩, i6, n6, i25, i26, i27, _⟩ := hS
  unfold slices_Concat_Rect_L1 at hr
  refine cutS (fun c l => Bs noF k0 36 c l ∧ IsOwn 0 23 s3.1 (c.get 6) l ∧ Lo k0 (obF (c.get 6)) ∧ IsV slices_ (c.get 25) l ∧ IsL slices_ (c.get 26) l ∧ IsV s3.2 (c.get 27) l ∧ (IsV (decide (s3.2 < (slices_.length : Int)))) (c.get 28) l ∧ True) ?_ ?_
  ·intro Q8 W8 w6
   refine gS 1 (_ :: []) hs (by kernel_rfl) ⟨o1 [(27, none), (26, none)] rfl fun _ _ h n => ok_lss rfl (up i27 h n.1) (up i26 h n.2.1), trivial⟩ W8 fun b q p => ?_
   exact tail_done (k := q) (w6 _ _ ⟨Bs.post ⟨hg, hs, hd⟩ p, p.ke 6 rfl i6, (by rw [p.old 6 rfl]; exact n6), p.ke 25 rfl i25, p.ke 26 rfl i26, p.ke 27 rfl i27, p.ou 0 28 rfl, trivial⟩)
  rintro a k ⟨⟨hg, hs, hd⟩, i6, n6, i25, i26, i27, i28, _⟩
  refine wp_seq ?_
  refine wp_cond_split (isBool i28) (fun hc107 => ?_) (fun hc107 => ?_)
  ·rw [if_pos hc107] at hr
   refine wp_skip ?_
   refine wp_seq ?_
   refine wp_block ?_
   refine wp_seq ?_
   obtain ⟨x5, hx5, hr⟩ := bind_some hr
   refine cut (fun a' k' => Bs noF k0 36 a' k' ∧ IsOwn 0 23 s3.1 (a'.get 6) k' ∧ Lo k0 (obF (a'.get 6)) ∧ (IsV x5) (a'.get 8) k' ∧ (IsV slices_) (a'.get 25) k' ∧ (IsL slices_) (a'.get 26) k' ∧ (IsV s3.2) (a'.get 27) k' ∧ True) ?_ hQ ?_
   ·intro Q9 W9 w7
    refine gS 3 (_ :: _ :: _ :: []) hs (by kernel_rfl) ⟨o1 [(25, none), (27, none)] rfl fun _ _ h n => ok_indexAddr rfl Tryd.underlying97 ty45 (IsV.rd (up i25 h n.1)) (up i27 h n.2.1) hx5, o1 [(29, some 0)] rfl fun _ _ h n => ok_load rfl ty45 n.1, cp 1 rfl rfl, trivial⟩ W9 fun b q p => ?_
    exact tail_done (k := q) (w7 _ _ ⟨Bs.post ⟨hg, hs, hd⟩ p, p.ke 6 rfl i6, (by rw [p.old 6 rfl]; exact n6), p.ou 2 8 rfl, p.ke 25 rfl i25, p.ke 26 rfl i26, p.ke 27 rfl i27, trivial⟩)
   rintro a k ⟨⟨hg, hs, hd⟩, i6, n6, i8, i25, i26, i27, _⟩
   obtain ⟨x7, hx7, hr⟩ := bind_some hr
   refine cut (fun a' k' => Bs noF k0 36 a' k' ∧ IsOwn 0 23 x7 (a'.get 6) k' ∧ Lo k0 (obF (a'.get 6)) ∧ (IsV slices_) (a'.get 25) k' ∧ (IsL slices_) (a'.get 26) k' ∧ (IsV s3.2) (a'.get 27) k' ∧ True) ?_ hQ ?_
   ·intro Q10 W10 w8
    refine gS 2 (⟨some (OwnAt (a.get 6) 0 23 s3.1), [(6, none)]⟩ :: _ :: []) hs (by kernel_rfl) ⟨ob1 rfl fun _ _ h n => ok_moveOA (.inl rfl) (ownAt n.1 (up i6 h n.1)), mu rfl i8, trivial⟩ W10 fun b q p => ?_
    have hgq := hg.then p.grow
    have hsb := p.size.trans hs
    have hdb := p.defers.trans hd
    have j25 := p.ke 25 rfl i25
    have j26 := p.ke 26 rfl i26
    have j27 := p.ke 27 rfl i27
    have e31 : b.get 31 = a.get 6 := (p.ou 0 31 rfl).1
    have j31 : IsOwn 0 23 s3.1 (b.get 31) q := (p.ou 0 31 rfl).2
    have y31 : Lo k0 (obF (b.get 31)) := by rw [e31]; exact n6
    have j32 : (IsV x5) (b.get 32) q := p.ou 1 32 rfl
    have hns := j31.nshF
    refine tail_appendS (i := 2) (d := 33) rfl rfl rfl rfl (by rw [hsb]; decide) (e := 23) Tryd.underlying45 eo23 j31 (IsV.rd j32) hx7 fun b2 q2 hsz hdf hoth hch hown hob => ?_
    have hle := hch.le hns
    have yn : Lo k0 (obF (b2.get 33)) := y31.app hgq hob
    replace j25 := Pers.pers hle j25
    replace j26 := Pers.pers hle j26
    replace j27 := Pers.pers hle j27
    replace j32 := Pers.pers hle j32
    replace hgq := hgq.step hch y31.wr
    rw [← hoth 25 (by decide)] at j25
    rw [← hoth 26 (by decide)] at j26
    rw [← hoth 27 (by decide)] at j27
    rw [← hoth 32 (by decide)] at j32
    have j33 := hown
    have y33 := yn
    replace hsb := hsz.trans hsb
    replace hdb := hdf.trans hdb
    clear hle hch hown hob hns yn hsz hdf hoth
    obtain ⟨b, hbb⟩ : ∃ b, b = b2 := ⟨b2, rfl⟩
    subst hbb
    obtain ⟨q, hqq⟩ : ∃ q, q = q2 := ⟨q2, rfl⟩
    subst hqq
    refine tail_assign (i := 3) (d := 6) rfl rfl (.inl rfl) rfl (by rw [hsb]; decide) fun b2 hsz hdf hnew hoth => ?_
    have jn : (IsOwn 0 23 x7) (b2.get 6) q := by rw [hnew]; exact j33
    have yn : Lo k0 (obF (b2.get 6)) := by rw [hnew]; exact y33
    rw [← hoth 25 (by decide)] at j25
    rw [← hoth 26 (by decide)] at j26
    rw [← hoth 27 (by decide)] at j27
    rw [← hoth 32 (by decide)] at j32
    have j6 := jn
    have y6 := yn
    replace hsb := hsz.trans hsb
    replace hdb := hdf.trans hdb
    clear hsz hdf hoth
    obtain ⟨b, hbb⟩ : ∃ b, b = b2 := ⟨b2, rfl⟩
    subst hbb
    exact tail_done (k := q) (w8 _ _ ⟨⟨hgq, hsb, hdb⟩, j6, y6, j25, j26, j27, trivial⟩)
   rintro a k ⟨⟨hg, hs, hd⟩, i6, n6, i25, i26, i27, _⟩
   obtain ⟨x8, hx8, hr⟩ := bind_some hr
   refine cut (fun a' k' => Bs noF k0 36 a' k' ∧ IsOwn 0 23 x7 (a'.get 6) k' ∧ Lo k0 (obF (a'.get 6)) ∧ (IsV slices_) (a'.get 25) k' ∧ (IsL slices_) (a'.get 26) k' ∧ (IsV x8) (a'.get 27) k' ∧ True) ?_ hQ ?_
   ·intro Q11 W11 w9
    refine gS 2 (_ :: _ :: []) hs (by kernel_rfl) ⟨o1 [(27, none)] rfl fun _ _ h n => ok_add rfl (up i27 h n.1) (cI rfl) hx8, cm 0 rfl rfl, trivial⟩ W11 fun b q p => ?_
    exact tail_done (k := q) (w9 _ _ ⟨Bs.post ⟨hg, hs, hd⟩ p, p.ke 6 rfl i6, (by rw [p.old 6 rfl]; exact n6), p.ke 25 rfl i25, p.ke 26 rfl i26, p.ou 1 27 rfl, trivial⟩)
   rintro a k ⟨⟨hg, hs, hd⟩, i6, n6, i25, i26, i27, _⟩
   exact hgo94 _ _ _ (Option.some.inj hr).symm ⟨⟨hg, hs, hd⟩, i6, n6, i25, i26, i27, trivial⟩
  rw [if_neg (by rw [hc107]; decide)] at hr
  refine wp_exit ?_
  exact hex95 _ _ _ _ (Option.some.inj hr).symm ⟨rfl, ⟨hg, hs, hd⟩, i6, n6, trivial⟩
 ·rintro r2 a k rfl hR
  dsimp only at hr
  obtain rfl := Option.some.inj hr
  exact hR
 ·rintro _ _ _ rfl _
  simp at hr
 clear hf2
 rintro _ s4 a k rfl ⟨rfl, ⟨hg, hs, hd⟩, i6, n6, _⟩
 dsimp only at hr
 refine cutS (fun c l => Bs noF k0 36 c l ∧ IsOwn 0 23 s4.1 (c.get 2) l ∧ Lo k0 (obF (c.get 2)) ∧ True) ?_ ?_
 ·intro Q12 W12 w10
  refine gS 2 (⟨some (OwnAt (a.get 6) 0 23 s4.1), [(6, none)]⟩ :: ⟨some (OwnAt (a.get 6) 0 23 s4.1), [(35, some 0)]⟩ :: []) hs (by kernel_rfl) ⟨ob1 rfl fun _ _ h n => ok_moveOA (.inl rfl) (ownAt n.1 (up i6 h n.1)), ob1 rfl fun _ _ h n => ok_moveOA (.inr rfl) n.1, trivial⟩ W12 fun b q p => ?_
  have hgq := hg.then p.grow
  have hsb := p.size.trans hs
  have hdb := p.defers.trans hd
  have e2 : b.get 2 = a.get 6 := (p.ou 1 2 rfl).1
  have j2 : IsOwn 0 23 s4.1 (b.get 2) q := (p.ou 1 2 rfl).2
  have y2 : Lo k0 (obF (b.get 2)) := by rw [e2]; exact n6
  exact tail_done (k := q) (w10 _ _ ⟨⟨hgq, hsb, hdb⟩, j2, y2, trivial⟩)
 rintro a k ⟨⟨hg, hs, hd⟩, i2, n2, _⟩
 refine wp_ret ?_
 obtain rfl := Option.some.inj hr
 exact retC1 rfl hd hg (show ResOk _ _ _ (.tmp 2) _ from IsOwn.raise (k0 := k0) i2 n2)
theorem slices_Concat_Rect_ok {k0 : K} {v0 : Value} {slices_ : (List (List Rect))} {r : (List Rect)} (i0 : (IsV slices_) v0 k0) (hr : slices_Concat_Rect slices_ = some r) :
  Calls Tryd.prog 55 #[v0] k0.w (Ret k0 (IsV r)) :=
 ret_give (slices_Concat_Rect_okO i0 hr)
def cmp_isNaN_int (x_ : Int) : Option (Bool) :=
 some (x_ != x_)
noncomputable def k85 := mk 85 [.int] [.bool] (fun x => cmp_isNaN_int x) [] [] Tryd.f85 (.n) Tryd.func85 Tryd.call85 rfl rfl fun x => by kernel_rfl
def cmp_Compare_int (x_ : Int) (y_ : Int) : Option (Int) :=
 (cmp_isNaN_int x_).bind fun x1 =>
 (cmp_isNaN_int y_).bind fun x2 =>
 if x1 then
  if x2 then
   some 0
  else
   some (-1)
 else
  if x2 then
   some 1
  else
   if (decide (x_ < y_)) then
    some (-1)
   else
    if (decide (y_ < x_)) then
     some 1
    else
     some 0
noncomputable def k76 := mk 76 [.int, .int] [.int] (fun x => cmp_Compare_int x.1 x.2) [k85] [] Tryd.f76 (.n) Tryd.func76 Tryd.call76 rfl rfl fun x => by kernel_rfl
def region_column_1 (a_ : RegionSpan) (b_ : RegionSpan) : Option (Int) :=
 (cmp_Compare_int a_.from_ b_.from_).bind fun x1 =>
 some x1
noncomputable def k75 := mk 75 [.st 1, .st 1] [.int] (fun x => region_column_1 x.1 x.2) [k76] [] Tryd.f75 (.n) Tryd.func75 Tryd.call75 rfl rfl fun x => by kernel_rfl
theorem region_column_1_ok {k0 : K} {v0 v1 : Value} {x0 : RegionSpan} {x1 : RegionSpan} {r : Int} (i0 : IsV x0 v0 k0) (i1 : IsV x1 v1 k0) (hr : region_column_1 x0 x1 = some r) : Calls Tryd.prog 75 #[v0, v1] k0.w (Ret k0 (IsV r)) := (k75.ok.ok k0 [v0, v1] (x0, x1) r (GOk.none fun _ => rfl) ⟨i0, i1⟩ hr)
section
open Go.Proofs Go.RowKit Go.Lib Go.Sort Go.Shelf
def Tryd.sortSpansL_ren : Go.Shelf.Ren := ⟨fun | 6 => 74 | 15 => 53 | 14 => 86 | 28 => 71 | 29 => 72 | 20 => 88 | 21 => 89 | 22 => 90 | 23 => 91 | 24 => 92 | 25 => 93 | 26 => 94 | 27 => 95 | 46 => 96 | 47 => 81 | 48 => 82 | 49 => 97 | 50 => 98 | 57 => 99 | n => n, fun | 22 => 85 | 24 => 96 | 25 => 120 | 3 => 3 | 39 => 93 | 0 => 0 | 53 => 115 | 55 => 117 | 4 => 4 | 46 => 108 | 45 => 107 | 50 => 103 | 5 => 5 | 9 => 9 | 66 => 125 | 70 => 129 | 76 => 133 | 77 => 134 | n => n, fun | n => n⟩
theorem Tryd.sortSpansL : Go.Proofs.SlLaysF0.n6 Tryd.prog Tryd.sortSpansL_ren := {
 mixed := by kernel_rfl,
 f6 := ⟨Tryd.f74.name, by decide, Tryd.func74.trans (congrArg some (by kernel_rfl))⟩,
 f14 := ⟨Tryd.f86.name, by decide, Tryd.func86.trans (congrArg some (by kernel_rfl))⟩,
 f15 := Tryd.func53.trans (congrArg some (by kernel_rfl)),
 f20 := ⟨Tryd.f88.name, by decide, Tryd.func88.trans (congrArg some (by kernel_rfl))⟩,
 f21 := ⟨Tryd.f89.name, by decide, Tryd.func89.trans (congrArg some (by kernel_rfl))⟩,
 f22 := ⟨Tryd.f90.name, by decide, Tryd.func90.trans (congrArg some (by kernel_rfl))⟩,
 f23 := ⟨Tryd.f91.name, by decide, Tryd.func91.trans (congrArg some (by kernel_rfl))⟩,
 f24 := ⟨Tryd.f92.name, by decide, Tryd.func92.trans (congrArg some (by kernel_rfl))⟩,
 f25 := ⟨Tryd.f93.name, by decide, Tryd.func93.trans (congrArg some (by kernel_rfl))⟩,
 f26 := ⟨Tryd.f94.name, by decide, Tryd.func94.trans (congrArg some (by kernel_rfl))⟩,
 f27 := ⟨Tryd.f95.name, by decide, Tryd.func95.trans (congrArg some (by kernel_rfl))⟩,
 f28 := Tryd.func71.trans (congrArg some (by kernel_rfl)),
 f29 := Tryd.func72.trans (congrArg some (by kernel_rfl)),
 f46 := ⟨Tryd.f96.name, by decide, Tryd.func96.trans (congrArg some (by kernel_rfl))⟩,
 f47 := Tryd.func81.trans (congrArg some (by kernel_rfl)),
 f48 := Tryd.func82.trans (congrArg some (by kernel_rfl)),
 f49 := ⟨Tryd.f97.name, by decide, Tryd.func97.trans (congrArg some (by kernel_rfl))⟩,
 f50 := ⟨Tryd.f98.name, by decide, Tryd.func98.trans (congrArg some (by kernel_rfl))⟩,
 f57 := ⟨Tryd.f99.name, by decide, Tryd.func99.trans (congrArg some (by kernel_rfl))⟩,
 t0 := Tryd.underlying0,
 a0 := Tryd.isAgg0,
 z0 := Tryd.sizeOf0,
 v0 := Tryd.zeroValue0,
 t3 := Tryd.underlying3,
 a3 := Tryd.isAgg3,
 z3 := Tryd.sizeOf3,
 v3 := Tryd.zeroValue3,
 t4 := Tryd.underlying4,
 a4 := Tryd.isAgg4,
 z4 := Tryd.sizeOf4,
 v4 := Tryd.zeroValue4,
 t5 := Tryd.underlying5,
 a5 := Tryd.isAgg5,
 z5 := Tryd.sizeOf5,
 v5 := Tryd.zeroValue5,
 t9 := Tryd.underlying9,
 a9 := Tryd.isAgg9,
 z9 := Tryd.sizeOf9,
 v9 := Tryd.zeroValue9,
 t22 := Tryd.underlying85,
 a22 := Tryd.isAgg85,
 z22 := Tryd.sizeOf85,
 v22 := Tryd.zeroValue85,
 t25 := Tryd.underlying120,
 a25 := Tryd.isAgg120,
 z25 := Tryd.sizeOf120,
 v25 := Tryd.zeroValue120,
 t39 := Tryd.underlying93,
 a39 := Tryd.isAgg93,
 z39 := Tryd.sizeOf93,
 v39 := Tryd.zeroValue93,
 t45 := Tryd.underlying107,
 a45 := Tryd.isAgg107,
 z45 := Tryd.sizeOf107,
 v45 := Tryd.zeroValue107,
 t46 := Tryd.underlying108,
 a46 := Tryd.isAgg108,
 z46 := Tryd.sizeOf108,
 v46 := Tryd.zeroValue108,
 t50 := Tryd.underlying103,
 a50 := Tryd.isAgg103,
 z50 := Tryd.sizeOf103,
 v50 := Tryd.zeroValue103,
 t53 := Tryd.underlying115,
 a53 := Tryd.isAgg115,
 z53 := Tryd.sizeOf115,
 v53 := Tryd.zeroValue115,
 t55 := Tryd.underlying117,
 a55 := Tryd.isAgg117,
 z55 := Tryd.sizeOf117,
 v55 := Tryd.zeroValue117,
 t66 := Tryd.underlying125,
 a66 := Tryd.isAgg125,
 z66 := Tryd.sizeOf125,
 v66 := Tryd.zeroValue125,
 t70 := Tryd.underlying129,
 a70 := Tryd.isAgg129,
 z70 := Tryd.sizeOf129,
 v70 := Tryd.zeroValue129,
 t76 := Tryd.underlying133,
 a76 := Tryd.isAgg133,
 z76 := Tryd.sizeOf133,
 v76 := Tryd.zeroValue133,
 t77 := Tryd.underlying134,
 a77 := Tryd.isAgg134,
 z77 := Tryd.sizeOf134,
 v77 := Tryd.zeroValue134 }
instance : FlatE RegionSpan := FlatE.ofMap fun x : RegionSpan => (x.from_, x.to_)
/-- What the comparison of two spans hands back. -/
def spanCmp (x y : RegionSpan) : Int := if x.from_ < y.from_ then -1 else if y.from_ < x.from_ then 1 else 0
theorem column_1_val (x y : RegionSpan) : region_column_1 x y = some (spanCmp x y) := by
 unfold region_column_1 cmp_Compare_int cmp_isNaN_int spanCmp
 by_cases h : x.from_ < y.from_
 ·simp [h]
 ·by_cases h2 : y.from_ < x.from_ <;> simp [h, h2]
theorem ltOf_span (x y : RegionSpan) : ltOf spanCmp x y = decide (x.from_ < y.from_) := by
 unfold ltOf spanCmp
 congr 1
 rw [eq_iff_iff]
 split
 ·simp [*]
 ·split <;> simp [*]
theorem spanCmp_swo : SWO (ltOf spanCmp) := by
 constructor <;> simp only [ltOf_span, decide_eq_true_eq, decide_eq_false_iff_not] <;> intros <;> omega
def sortSpans (l : List RegionSpan) : Option (List RegionSpan) := if l.length ≤ 1073741824 then some (pdq (ltOf spanCmp) l.toArray 0 l.toArray.size (Lib.bitLen l.toArray.size) true true).toList else none
theorem sortSpans_spec {l : List RegionSpan} (h : l.length ≤ 1000000) : ∃ r, sortSpans l = some r ∧ r.Perm l ∧ r.Pairwise fun a b => a.from_ ≤ b.from_ := by
 obtain ⟨⟨h1, _, h2⟩, h3⟩ := pdq_sorts (ltOf spanCmp) spanCmp_swo l.toArray 0 l.toArray.size (Lib.bitLen l.toArray.size) true true (Nat.zero_le _) (Nat.le_refl _) (Or.inl rfl)
 refine ⟨_, if_pos (by omega), ?_, ?_⟩
 ·generalize pdq (ltOf spanCmp) l.toArray 0 l.toArray.size (Lib.bitLen l.toArray.size) true true = r at h1 h2
  have e : r.extract 0 l.toArray.size = r := by rw [← h1]; simp
  rw [e] at h2
  simpa using h2
 ·rw [List.pairwise_iff_getElem]
  intro i j hi hj hij
  have := h3 i j (Nat.zero_le _) hij (by rw [← h1]; simpa using hj)
  rw [getElem!_pos _ j (by simpa using hj), getElem!_pos _ i (by simpa using hi)] at this
  rw [ltOf_span, decide_eq_false_iff_not] at this
  simp only [Array.getElem_toList]
  omega
theorem pdq_size (d : Array RegionSpan) : (pdq (ltOf spanCmp) d 0 d.size (Lib.bitLen d.size) true true).size = d.size :=
 (pdq_sorts (ltOf spanCmp) spanCmp_swo d 0 d.size (Lib.bitLen d.size) true true (Nat.zero_le _) (Nat.le_refl _) (Or.inl rfl)).1.1
set_option maxHeartbeats 2000000 in
theorem sortSpans_ok {k0 : K} {v0 : Value} {l r : List RegionSpan} (i0 : IsOwn 0 96 l v0 k0) (hr : sortSpans l = some r) :
  Calls Tryd.prog 74 #[v0, .func (.func 75) #[] #[]] k0.w (RetC (obF v0) k0 fun _ k' => IsOwn 0 96 r v0 k') := by
 unfold sortSpans at hr
 split at hr
 ·rename_i h12
  obtain rfl := Option.some.inj hr
  refine sort_own (S := fun d => pdq (ltOf spanCmp) d 0 d.size (Lib.bitLen d.size) true true) pdq_size (fun p cap w => ?_) (fun blk off cap w hH hblk => ?_) i0
  ·have hcon := AnyF.slices_SortFunc_none { Tryd.sortSpansL with } p cap (.func (.func 75) #[] #[]) w
   change Calls Tryd.prog 74 _ _ _ at hcon
   exact hcon
  ·have hcon := AnyQ.slices_SortFunc_eq Tryd.sortSpansL 2 Tryd.isAgg96 Tryd.sizeOf96 (FlatE.enc (α := RegionSpan)) (fun _ => rfl) (fun x v hv => flat_one k0 x v hv) spanCmp spanCmp_swo 75 #[] blk off cap l.toArray w (enters_of Tryd.func75 (by kernel_rfl) rfl)
    (fun _ _ _ _ x y => ret_cmp (k := kFree _) (region_column_1_ok (isV_flat rfl x _) (isV_flat rfl y _) (column_1_val x y))) hH hblk (by simp; omega)
   change Calls Tryd.prog 74 _ _ _ at hcon
   exact hcon
 ·simp at hr
end
def region_column_L0 (l_ : (List Rect)) (x_ : Int) (s1 : (List RegionSpan) × Int) : Option (Flow ((List RegionSpan) × Int) ((List RegionSpan))) :=
 if (decide (s1.2 < (l_.length : Int))) then
  (getI l_ s1.2).bind fun x1 =>
  (if ((decide (x1.X0 ≤ x_)) && (decide (x_ < x1.X1))) then
   (appI s1.1 ([(⟨x1.Y0, x1.Y1⟩ : RegionSpan)])).bind fun x2 =>
   some x2
  else
   some s1.1).bind fun s2 =>
  (addI s1.2 1).bind fun x3 =>
  some (.go (s2, x3))
 else
  some (.ex 0 (s1.1, s1.2))
def region_column_L1 (x1 : (List RegionSpan)) (s1 : (List RegionSpan) × Int) : Option (Flow ((List RegionSpan) × Int) ((List RegionSpan))) :=
 if (decide (s1.2 < (x1.length : Int))) then
  (getI x1 s1.2).bind fun x2 =>
  (if (decide (0 < (s1.1.length : Int))) then
   (subI (s1.1.length : Int) 1).bind fun x3 =>
   (getI s1.1 x3).bind fun x4 =>
   some (decide (x2.from_ ≤ x4.to_))
  else
   some false).bind fun x5 =>
  (if x5 then
   (subI (s1.1.length : Int) 1).bind fun x6 =>
   (subI (s1.1.length : Int) 1).bind fun x7 =>
   (getI s1.1 x7).bind fun x8 =>
   (getI s1.1 x6).bind fun x9 =>
   (some (s1.1.set (x6).toNat ({ x9 with to_ := (max x8.to_ x2.to_) }))).bind fun x10 =>
   some x10
  else
   (appI s1.1 ([x2])).bind fun x11 =>
   some x11).bind fun s2 =>
  (addI s1.2 1).bind fun x12 =>
  some (.go (s2, x12))
 else
  some (.ex 2 (s1.1, s1.2))
def region_column (l_ : (List Rect)) (x_ : Int) : Option ((List RegionSpan)) :=
 (iterL (region_column_L0 l_ x_) (l_.length + 1) (([] : List RegionSpan), 0)).bind fun f1 => match f1 with
  | .go _ => none
  | .ex _ s1 =>
   (sortSpans s1.1).bind fun x1 =>
   (iterL (region_column_L1 x1) (x1.length + 1) (([] : List RegionSpan), 0)).bind fun f2 => match f2 with
    | .go _ => none
    | .ex _ s2 =>
     some s2.1
    | .ret r1 => some r1
  | .ret r2 => some r2
theorem region_column_ok {k0 : K} {v0 v1 : Value} {l_ : (List Rect)} {x_ : Int} {r : (List RegionSpan)} (i0 : (IsV l_) v0 k0) (i1 : (IsV x_) v1 k0) (hr : region_column l_ x_ = some r) :
  Calls Tryd.prog 56 #[v0, v1] k0.w (Ret k0 (IsV r)) := by
 unfold region_column at hr
 refine Ret.ofC ?_
 refine enterK Tryd.func56 rfl Tryd.ntmps56 (show 2 ≤ 80 by decide) fun a k hk0 hs hd ha => ?_
 obtain ⟨e0, e1, _⟩ := ha
 replace i0 : (IsV l_) (a.get 0) k := by rw [e0, hk0]; exact i0
 replace i1 : (IsV x_) (a.get 1) k := by rw [e1, hk0]; exact i1
 have hQ : Gb.LetsOut (bodyPost Tryd.prog Tryd.f56 (RetC noF k0 (IsV r))) := letsOutC
 have hg : Chg noF k0 k := by rw [hk0]; exact Chg.refl _ k0
 refine stepL 1 (⟨some IsE0, []⟩ :: []) rfl ⟨hg, hs, hd⟩ (by kernel_rfl) ⟨ob1 rfl fun b q h n => ok_assign rfl isE0_nil, trivial⟩ [⟨_, _⟩, ⟨_, _⟩] (fun b q p => ⟨p.ke 0 rfl i0, p.ke 1 rfl i1, trivial⟩) ?_
 rintro a k ⟨⟨hg, hs, hd⟩, i0, i1, _⟩
 refine cutS (fun c l => Bs noF k0 80 c l ∧ IsV l_ (c.get 0) l ∧ IsV x_ (c.get 1) l ∧ IsOwn 0 96 ([] : List RegionSpan) (c.get 5) l ∧ Lo k0 (obF (c.get 5)) ∧ True) ?_ ?_
 ·intro Q1 W1 w1
  refine gS 1 (⟨some IsE0, []⟩ :: []) hs (by kernel_rfl) ⟨ob1 rfl fun b q h n => ok_assign rfl isE0_nil, trivial⟩ W1 fun b q p => ?_
  have hgq := hg.then p.grow
  have hsb := p.size.trans hs
  have hdb := p.defers.trans hd
  have j0 := p.ke 0 rfl i0
  have j1 := p.ke 1 rfl i1
  have j5 : IsE0 (b.get 5) q := p.ou 0 5 rfl
  have y5 : Lo k0 (obF (b.get 5)) := j5.lo
  replace j5 : IsOwn 0 96 ([] : List RegionSpan) (b.get 5) q := j5.own0
  exact tail_done (k := q) (w1 _ _ ⟨⟨hgq, hsb, hdb⟩, j0, j1, j5, y5, trivial⟩)
 rintro a k ⟨⟨hg, hs, hd⟩, i0, i1, i5, n5, _⟩
 refine wp_seq ?_
 refine cutS (fun c l => Bs noF k0 80 c l ∧ IsV x_ (c.get 1) l ∧ IsOwn 0 96 ([] : List RegionSpan) (c.get 5) l ∧ Lo k0 (obF (c.get 5)) ∧ IsV l_ (c.get 12) l ∧ IsL l_ (c.get 13) l ∧ IsI 0 (c.get 14) l ∧ True) ?_ ?_
 ·intro Q2 W2 w2
  refine gS 3 (_ :: _ :: ⟨some (IsI 0), []⟩ :: []) hs (by kernel_rfl) ⟨mu rfl i0, o1 [(12, some 0)] rfl fun _ _ h n => ok_len rfl rfl Tryd.underlying45 (IsV.rd n.1), ob1 rfl fun _ _ h n => ok_move rfl (cI rfl), trivial⟩ W2 fun b q p => ?_
  exact tail_done (k := q) (w2 _ _ ⟨Bs.post ⟨hg, hs, hd⟩ p, p.ke 1 rfl i1, p.ke 5 rfl i5, (by rw [p.old 5 rfl]; exact n5), p.ou 0 12 rfl, p.ou 1 13 rfl, p.ou 2 14 rfl, trivial⟩)
 rintro a k ⟨⟨hg, hs, hd⟩, i1, i5, n5, i12, i13, i14, _⟩
 refine wp_block ?_
 obtain ⟨f1, hf1, hr⟩ := bind_some hr
 refine cutFe f1 (fun s' c l => Bs noF k0 80 c l ∧ IsV x_ (c.get 1) l ∧ IsOwn 0 96 s'.1 (c.get 5) l ∧ Lo k0 (obF (c.get 5)) ∧ IsV l_ (c.get 12) l ∧ IsL l_ (c.get 13) l ∧ IsV s'.2 (c.get 14) l ∧ True) (fun i' s' c l => (i' = 0 ∧ Bs noF k0 80 c l ∧ IsOwn 0 96 s'.1 (c.get 5) l ∧ Lo k0 (obF (c.get 5)) ∧ True)) (fun r' c l => bodyPost Tryd.prog Tryd.f56 (RetC noF k0 (IsV r')) .ret c l.w) ?_ hQ ?_ ?_ ?_
 ·intro Q3 W3 hgo hex hret
  refine sim_loop ?_ _ _ _ _ _ hf1 ⟨⟨hg, hs, hd⟩, i1, i5, n5, i12, i13, i14, trivial⟩ Q3 W3 hgo hex hret
  clear hr hf1 hgo hex hret W3 hQ hg hs hd i1 i12 i13 i14 i5 n5
  intro s1 fl_ a k hr hS Q hQ hgo192 hex193 hret194
  obtain ⟨⟨hg, hs, hd⟩, i1, i5, n5, i12, i13, i14, _⟩ := hS
  unfold region_column_L0 at hr
  refine cutS (fun c l => Bs noF k0 80 c l ∧ IsV x_ (c.get 1) l ∧ IsOwn 0 96 s1.1 (c.get 5) l ∧ Lo k0 (obF (c.get 5)) ∧ IsV l_ (c.get 12) l ∧ IsL l_ (c.get 13) l ∧ IsV s1.2 (c.get 14) l ∧ (IsV (decide (s1.2 < (l_.length : Int)))) (c.get 15) l ∧ True) ?_ ?_
  ·intro Q4 W4 w3
   refine gS 1 (_ :: []) hs (by kernel_rfl) ⟨o1 [(14, none), (13, none)] rfl fun _ _ h n => ok_lss rfl (up i14 h n.1) (up i13 h n.2.1), trivial⟩ W4 fun b q p => ?_
   exact tail_done (k := q) (w3 _ _ ⟨Bs.post ⟨hg, hs, hd⟩ p, p.ke 1 rfl i1, p.ke 5 rfl i5, (by rw [p.old 5 rfl]; exact n5), p.ke 12 rfl i12, p.ke 13 rfl i13, p.ke 14 rfl i14, p.ou 0 15 rfl, trivial⟩)
  rintro a k ⟨⟨hg, hs, hd⟩, i1, i5, n5, i12, i13, i14, i15, _⟩
  refine wp_seq ?_
  refine wp_cond_split (isBool i15) (fun hc212 => ?_) (fun hc212 => ?_)
  ·rw [if_pos hc212] at hr
   refine wp_skip ?_
   refine wp_seq ?_
   refine wp_block ?_
   refine wp_seq ?_
   obtain ⟨x1, hx1, hr⟩ := bind_some hr
   refine cut (fun a' k' => Bs noF k0 80 a' k' ∧ (IsV x_) (a'.get 1) k' ∧ IsOwn 0 96 s1.1 (a'.get 5) k' ∧ Lo k0 (obF (a'.get 5)) ∧ (IsRef x1) (a'.get 7) k' ∧ (IsV l_) (a'.get 12) k' ∧ (IsL l_) (a'.get 13) k' ∧ (IsV s1.2) (a'.get 14) k' ∧ True) ?_ hQ ?_
   ·intro Q5 W5 w4
    refine gS 3 (_ :: _ :: ⟨some (IsBox k.w.heap.size (⟨0, 0, 0, 0⟩ : Rect)), []⟩ :: []) hs (by kernel_rfl) ⟨o1 [(12, none), (14, none)] rfl fun _ _ h n => ok_indexAddr rfl Tryd.underlying45 ty23 (IsV.rd (up i12 h n.1)) (up i14 h n.2.1) hx1, o1 [(16, some 0)] rfl fun _ _ h n => ok_load rfl ty23 n.1, ob1 rfl fun _ _ h n => ok_alloc _ h.size rfl z23, trivial⟩ W5 fun b q p => ?_
    have hgq := hg.then p.grow
    have hsb := p.size.trans hs
    have hdb := p.defers.trans hd
    have j1 := p.ke 1 rfl i1
    have j5 := p.ke 5 rfl i5
    have y5 : Lo k0 (obF (b.get 5)) := by rw [p.old 5 rfl]; exact n5
    obtain ⟨b7, j7, x7, z7⟩ : (IsBox k.w.heap.size (⟨0, 0, 0, 0⟩ : Rect)) (b.get 7) q := p.ou 2 7 rfl
    replace x7 : Lo k (Eq b7) := Lo.eq x7
    have y7 : Lo k0 (Eq b7) := x7.chg hg
    have j12 := p.ke 12 rfl i12
    have j13 := p.ke 13 rfl i13
    have j14 := p.ke 14 rfl i14
    have j17 : (IsV x1) (b.get 17) q := p.ou 1 17 rfl
    have w5_7 : Apart (obF (b.get 5)) (Eq b7) := Apart.new (by rw [p.old 5 rfl]; exact i5.ltF) x7
    have hns := z7.nshF
    refine tail_storeB (i := 3) rfl rfl rfl rfl szf23 (Upd.self (α := Rect)) j7 z7 j17 fun q2 hch hz => ?_
    replace hgq := hgq.step hch y7.wr
    have hle := hch.le hns
    replace j1 := Pers.pers hle j1
    replace j5 := j5.keep hch w5_7 hns
    replace j12 := Pers.pers hle j12
    replace j13 := Pers.pers hle j13
    replace j14 := Pers.pers hle j14
    replace j17 := Pers.pers hle j17
    replace z7 := hz
    clear hns hle hch
    obtain ⟨q, hqq⟩ : ∃ q, q = q2 := ⟨q2, rfl⟩
    subst hqq
    obtain ⟨q2, hsh, jn⟩ := z7.give
    replace j1 := Pers.pers hsh.le j1
    replace j5 := j5.handed hsh w5_7
    replace j12 := Pers.pers hsh.le j12
    replace j13 := Pers.pers hsh.le j13
    replace j14 := Pers.pers hsh.le j14
    rw [← j7] at jn
    replace j7 := jn
    replace hgq := hgq.hand hsh y7.wr
    rw [← hsh.w]
    clear hsh
    obtain ⟨q, hqq⟩ : ∃ q, q = q2 := ⟨q2, rfl⟩
    subst hqq
    exact tail_done (k := q) (w4 _ _ ⟨⟨hgq, hsb, hdb⟩, j1, j5, y5, j7, j12, j13, j14, trivial⟩)
   rintro a k ⟨⟨hg, hs, hd⟩, i1, i5, n5, i7, i12, i13, i14, _⟩
   refine cutS (fun c l => Bs noF k0 80 c l ∧ IsV x_ (c.get 1) l ∧ IsOwn 0 96 s1.1 (c.get 5) l ∧ Lo k0 (obF (c.get 5)) ∧ IsRef x1 (c.get 7) l ∧ IsV l_ (c.get 12) l ∧ IsL l_ (c.get 13) l ∧ IsV s1.2 (c.get 14) l ∧ (IsV ((decide (x1.X0 ≤ x_)) && (decide (x_ < x1.X1)))) (c.get 27) l ∧ True) ?_ ?_
   ·intro Q6 W6 w5
    refine gS 10 (_ :: _ :: _ :: _ :: _ :: _ :: _ :: _ :: _ :: _ :: []) hs (by kernel_rfl) ⟨o1 [(7, none)] rfl fun _ _ h n => ok_fieldAddr rfl fo23_0 (at_Rect_0 _) ((up i7 h n.1)).ptr, o1 [(18, some 0)] rfl fun _ _ h n => ok_load rfl ty3 n.1, mu rfl i1, o1 [(19, some 1), (20, some 2)] rfl fun _ _ h n => ok_leq rfl n.1 n.2.1, cm 3 rfl rfl, mT rfl rfl i1, gT [(7, none)] rfl rfl fun hp _ _ h n => ok_fieldAddr rfl fo23_2 (at_Rect_2 _) ((up i7 h n.1)).ptr, gT [(24, some 6)] rfl rfl fun hp _ _ h n => ok_load rfl ty3 (Gd.get n.1 hp), gT [(23, some 5), (25, some 7)] rfl rfl fun hp _ _ h n => ok_lss rfl (Gd.get n.1 hp) (Gd.get n.2.1 hp), o1 [(22, some 4), (26, some 8)] rfl fun _ _ h n => ok_pickAnd rfl n.1 (Gd.get n.2.1) (cB rfl), trivial⟩ W6 fun b q p => ?_
    exact tail_done (k := q) (w5 _ _ ⟨Bs.post ⟨hg, hs, hd⟩ p, p.ke 1 rfl i1, p.ke 5 rfl i5, (by rw [p.old 5 rfl]; exact n5), p.ke 7 rfl i7, p.ke 12 rfl i12, p.ke 13 rfl i13, p.ke 14 rfl i14, p.ou 9 27 rfl, trivial⟩)
   rintro a k ⟨⟨hg, hs, hd⟩, i1, i5, n5, i7, i12, i13, i14, i27, _⟩
   obtain ⟨s2, hs2, hr⟩ := bind_some hr
   refine cut (fun a' k' => Bs noF k0 80 a' k' ∧ (IsV x_) (a'.get 1) k' ∧ IsOwn 0 96 s2 (a'.get 5) k' ∧ Lo k0 (obF (a'.get 5)) ∧ (IsV l_) (a'.get 12) k' ∧ (IsL l_) (a'.get 13) k' ∧ (IsV s1.2) (a'.get 14) k' ∧ True) ?_ hQ ?_
   ·intro Q7 W7 w6
    replace hr := hs2
    clear hQ
    have hQ := W7
    refine wp_cond_split (isBool i27) (fun hc203 => ?_) (fun hc203 => ?_)
    ·rw [if_pos hc203] at hr
     obtain ⟨x2, hx2, hr⟩ := bind_some hr
     refine cut (fun a' k' => Bs noF k0 80 a' k' ∧ (IsV x_) (a'.get 1) k' ∧ IsOwn 0 96 x2 (a'.get 5) k' ∧ Lo k0 (obF (a'.get 5)) ∧ (IsV l_) (a'.get 12) k' ∧ (IsL l_) (a'.get 13) k' ∧ (IsV s1.2) (a'.get 14) k' ∧ True) ?_ hQ ?_
     ·intro Q8 W8 w7
      refine gS 7 (⟨some (OwnAt (a.get 5) 0 96 s1.1), [(5, none)]⟩ :: _ :: _ :: _ :: _ :: ⟨some (IsV (⟨x1.Y0, x1.Y1⟩ : RegionSpan)), [(30, some 2), (32, some 4)]⟩ :: ⟨some (IsV (α := (List RegionSpan)) ([(⟨x1.Y0, x1.Y1⟩ : RegionSpan)])), [(33, some 5)]⟩ :: []) hs (by kernel_rfl) ⟨ob1 rfl fun _ _ h n => ok_moveOA (.inl rfl) (ownAt n.1 (up i5 h n.1)), o1 [(7, none)] rfl fun _ _ h n => ok_fieldAddr rfl fo23_1 (at_Rect_1 _) ((up i7 h n.1)).ptr, o1 [(29, some 1)] rfl fun _ _ h n => ok_load rfl ty3 n.1, o1 [(7, none)] rfl fun _ _ h n => ok_fieldAddr rfl fo23_3 (at_Rect_3 _) ((up i7 h n.1)).ptr, o1 [(31, some 3)] rfl fun _ _ h n => ok_load rfl ty3 n.1, ob1 rfl fun _ _ h n => ok_build rfl (bld96_0_1 n.1 n.2.1), ob1 rfl fun _ _ h n => ok_buildSlice rfl Tryd.underlying85 eo96 rfl (by decide) (by decide) ⟨rfl, n.1, trivial⟩, trivial⟩ W8 fun b q p => ?_
      have hgq := hg.then p.grow
      have hsb := p.size.trans hs
      have hdb := p.defers.trans hd
      have j1 := p.ke 1 rfl i1
      have j12 := p.ke 12 rfl i12
      have j13 := p.ke 13 rfl i13
      have j14 := p.ke 14 rfl i14
      have e28 : b.get 28 = a.get 5 := (p.ou 0 28 rfl).1
      have j28 : IsOwn 0 96 s1.1 (b.get 28) q := (p.ou 0 28 rfl).2
      have y28 : Lo k0 (obF (b.get 28)) := by rw [e28]; exact n5
      have j34 : (IsV (α := (List RegionSpan)) ([(⟨x1.Y0, x1.Y1⟩ : RegionSpan)])) (b.get 34) q := p.ou 6 34 rfl
      have hns := j28.nshF
      refine tail_appendS (i := 7) (d := 35) rfl rfl rfl rfl (by rw [hsb]; decide) (e := 96) Tryd.underlying85 eo96 j28 (IsV.rd j34) hx2 fun b2 q2 hsz hdf hoth hch hown hob => ?_
      have hle := hch.le hns
      have yn : Lo k0 (obF (b2.get 35)) := y28.app hgq hob
      replace j1 := Pers.pers hle j1
      replace j12 := Pers.pers hle j12
      replace j13 := Pers.pers hle j13
      replace j14 := Pers.pers hle j14
      replace j34 := Pers.pers hle j34
      replace hgq := hgq.step hch y28.wr
      rw [← hoth 1 (by decide)] at j1
      rw [← hoth 12 (by decide)] at j12
      rw [← hoth 13 (by decide)] at j13
      rw [← hoth 14 (by decide)] at j14
      rw [← hoth 34 (by decide)] at j34
      have j35 := hown
      have y35 := yn
      replace hsb := hsz.trans hsb
      replace hdb := hdf.trans hdb
      clear hle hch hown hob hns yn hsz hdf hoth
      obtain ⟨b, hbb⟩ : ∃ b, b = b2 := ⟨b2, rfl⟩
      subst hbb
      obtain ⟨q, hqq⟩ : ∃ q, q = q2 := ⟨q2, rfl⟩
      subst hqq
      refine tail_assign (i := 8) (d := 5) rfl rfl (.inl rfl) rfl (by rw [hsb]; decide) fun b2 hsz hdf hnew hoth => ?_
      have jn : (IsOwn 0 96 x2) (b2.get 5) q := by rw [hnew]; exact j35
      have yn : Lo k0 (obF (b2.get 5)) := by rw [hnew]; exact y35
      rw [← hoth 1 (by decide)] at j1
      rw [← hoth 12 (by decide)] at j12
      rw [← hoth 13 (by decide)] at j13
      rw [← hoth 14 (by decide)] at j14
      rw [← hoth 34 (by decide)] at j34
      have j5 := jn
      have y5 := yn
      replace hsb := hsz.trans hsb
      replace hdb := hdf.trans hdb
      clear hsz hdf hoth
      obtain ⟨b, hbb⟩ : ∃ b, b = b2 := ⟨b2, rfl⟩
      subst hbb
      exact tail_done (k := q) (w7 _ _ ⟨⟨hgq, hsb, hdb⟩, j1, j5, y5, j12, j13, j14, trivial⟩)
     rintro a k ⟨⟨hg, hs, hd⟩, i1, i5, n5, i12, i13, i14, _⟩
     obtain rfl := Option.some.inj hr
     exact w6 _ _ ⟨⟨hg, hs, hd⟩, i1, i5, n5, i12, i13, i14, trivial⟩
    rw [if_neg (by rw [hc203]; decide)] at hr
    refine wp_skip ?_
    obtain rfl := Option.some.inj hr
    exact w6 _ _ ⟨⟨hg, hs, hd⟩, i1, i5, n5, i12, i13, i14, trivial⟩
   clear hs2
   rintro a k ⟨⟨hg, hs, hd⟩, i1, i5, n5, i12, i13, i14, _⟩
   obtain ⟨x3, hx3, hr⟩ := bind_some hr
   refine cut (fun a' k' => Bs noF k0 80 a' k' ∧ (IsV x_) (a'.get 1) k' ∧ IsOwn 0 96 s2 (a'.get 5) k' ∧ Lo k0 (obF (a'.get 5)) ∧ (IsV l_) (a'.get 12) k' ∧ (IsL l_) (a'.get 13) k' ∧ (IsV x3) (a'.get 14) k' ∧ True) ?_ hQ ?_
   ·intro Q9 W9 w8
    refine gS 2 (_ :: _ :: []) hs (by kernel_rfl) ⟨o1 [(14, none)] rfl fun _ _ h n => ok_add rfl (up i14 h n.1) (cI rfl) hx3, cm 0 rfl rfl, trivial⟩ W9 fun b q p => ?_
    exact tail_done (k := q) (w8 _ _ ⟨Bs.post ⟨hg, hs, hd⟩ p, p.ke 1 rfl i1, p.ke 5 rfl i5, (by rw [p.old 5 rfl]; exact n5), p.ke 12 rfl i12, p.ke 13 rfl i13, p.ou 1 14 rfl, trivial⟩)
   rintro a k ⟨⟨hg, hs, hd⟩, i1, i5, n5, i12, i13, i14, _⟩
   exact hgo192 _ _ _ (Option.some.inj hr).symm ⟨⟨hg, hs, hd⟩, i1, i5, n5, i12, i13, i14, trivial⟩
  rw [if_neg (by rw [hc212]; decide)] at hr
  refine wp_exit ?_
  exact hex193 _ _ _ _ (Option.some.inj hr).symm ⟨rfl, ⟨hg, hs, hd⟩, i5, n5, trivial⟩
 ·rintro r1 a k rfl hR
  dsimp only at hr
  obtain rfl := Option.some.inj hr
  exact hR
 ·rintro _ _ _ rfl _
  simp at hr
 clear hf1
 rintro _ s3 a k rfl ⟨rfl, ⟨hg, hs, hd⟩, i5, n5, _⟩
 dsimp only at hr
 refine wp_seq ?_
 obtain ⟨x4, hx4, hr⟩ := bind_some hr
 refine cut (fun a' k' => Bs noF k0 80 a' k' ∧ IsOwn 0 96 x4 (a'.get 5) k' ∧ Lo k0 (obF (a'.get 5)) ∧ True) ?_ hQ ?_
 ·intro Q10 W10 w9
  refine gS 1 (⟨some (OwnAt (a.get 5) 0 96 s3.1), [(5, none)]⟩ :: []) hs (by kernel_rfl) ⟨ob1 rfl fun _ _ h n => ok_moveOA (.inl rfl) (ownAt n.1 (up i5 h n.1)), trivial⟩ W10 fun b q p => ?_
  have hgq := hg.then p.grow
  have hsb := p.size.trans hs
  have hdb := p.defers.trans hd
  have j5 := p.ke 5 rfl i5
  have y5 : Lo k0 (obF (b.get 5)) := by rw [p.old 5 rfl]; exact n5
  have e37 : b.get 37 = a.get 5 := (p.ou 0 37 rfl).1
  have j37 : IsOwn 0 96 s3.1 (b.get 37) q := (p.ou 0 37 rfl).2
  have y37 : Lo k0 (obF (b.get 37)) := by rw [e37]; exact n5
  have hns := j37.nshF
  have eS : b.get 5 = b.get 37 := (p.old 5 rfl).trans e37.symm
  refine tail_call (F := obF (b.get 37)) (i := 1) (d := 38) rfl rfl rfl rfl (by rw [hsb]; decide) Tryd.call74 W10 (sortSpans_ok j37 hx4) fun b2 q2 hsz hdf hoth hch hres => ?_
  have hle := hch.le hns
  replace hgq := hgq.step hch y37.wr
  replace j5 : IsOwn 0 96 x4 (b.get 5) q2 := by rw [eS]; exact hres
  clear hres eS
  rw [← hoth 5 (by decide)] at j5
  rw [← hoth 5 (by decide)] at y5
  replace hsb := hsz.trans hsb
  replace hdb := hdf.trans hdb
  clear hle hch hns hsz hdf hoth
  obtain ⟨b, hbb⟩ : ∃ b, b = b2 := ⟨b2, rfl⟩
  subst hbb
  obtain ⟨q, hqq⟩ : ∃ q, q = q2 := ⟨q2, rfl⟩
  subst hqq
  exact tail_done (k := q) (w9 _ _ ⟨⟨hgq, hsb, hdb⟩, j5, y5, trivial⟩)
 rintro a k ⟨⟨hg, hs, hd⟩, i5, n5, _⟩
 refine wp_seq ?_
 obtain ⟨kk, sh218, ii5⟩ := i5.give
 replace i5 := ii5
 replace hg := hg.hand sh218 n5.wr
 rw [← sh218.w]
 clear sh218
 obtain ⟨k, hkk⟩ : ∃ k, k = kk := ⟨kk, rfl⟩
 subst hkk
 refine cut (fun a' k' => Bs noF k0 80 a' k' ∧ (IsV x4) (a'.get 5) k' ∧ IsOwn 0 96 ([] : List RegionSpan) (a'.get 8) k' ∧ Lo k0 (obF (a'.get 8)) ∧ True) ?_ hQ ?_
 ·intro Q11 W11 w10
  refine gS 1 (⟨some IsE0, []⟩ :: []) hs (by kernel_rfl) ⟨ob1 rfl fun b q h n => ok_assign rfl isE0_nil, trivial⟩ W11 fun b q p => ?_
  have hgq := hg.then p.grow
  have hsb := p.size.trans hs
  have hdb := p.defers.trans hd
  have j5 := p.ke 5 rfl i5
  have j8 : IsE0 (b.get 8) q := p.ou 0 8 rfl
  have y8 : Lo k0 (obF (b.get 8)) := j8.lo
  replace j8 : IsOwn 0 96 ([] : List RegionSpan) (b.get 8) q := j8.own0
  exact tail_done (k := q) (w10 _ _ ⟨⟨hgq, hsb, hdb⟩, j5, j8, y8, trivial⟩)
 rintro a k ⟨⟨hg, hs, hd⟩, i5, i8, n8, _⟩
 refine wp_seq ?_
 refine cutS (fun c l => Bs noF k0 80 c l ∧ IsOwn 0 96 ([] : List RegionSpan) (c.get 8) l ∧ Lo k0 (obF (c.get 8)) ∧ IsV x4 (c.get 39) l ∧ IsL x4 (c.get 40) l ∧ IsI 0 (c.get 41) l ∧ True) ?_ ?_
 ·intro Q12 W12 w11
  refine gS 3 (_ :: _ :: ⟨some (IsI 0), []⟩ :: []) hs (by kernel_rfl) ⟨mu rfl i5, o1 [(39, some 0)] rfl fun _ _ h n => ok_len rfl rfl Tryd.underlying85 (IsV.rd n.1), ob1 rfl fun _ _ h n => ok_move rfl (cI rfl), trivial⟩ W12 fun b q p => ?_
  exact tail_done (k := q) (w11 _ _ ⟨Bs.post ⟨hg, hs, hd⟩ p, p.ke 8 rfl i8, (by rw [p.old 8 rfl]; exact n8), p.ou 0 39 rfl, p.ou 1 40 rfl, p.ou 2 41 rfl, trivial⟩)
 rintro a k ⟨⟨hg, hs, hd⟩, i8, n8, i39, i40, i41, _⟩
 refine wp_block ?_
 obtain ⟨f2, hf2, hr⟩ := bind_some hr
 refine cutFe f2 (fun s' c l => Bs noF k0 80 c l ∧ IsOwn 0 96 s'.1 (c.get 8) l ∧ Lo k0 (obF (c.get 8)) ∧ IsV x4 (c.get 39) l ∧ IsL x4 (c.get 40) l ∧ IsV s'.2 (c.get 41) l ∧ True) (fun i' s' c l => (i' = 2 ∧ Bs noF k0 80 c l ∧ IsV s'.1 (c.get 8) l ∧ True)) (fun r' c l => bodyPost Tryd.prog Tryd.f56 (RetC noF k0 (IsV r')) .ret c l.w) ?_ hQ ?_ ?_ ?_
 ·intro Q13 W13 hgo hex hret
  refine sim_loop ?_ _ _ _ _ _ hf2 ⟨⟨hg, hs, hd⟩, i8, n8, i39, i40, i41, trivial⟩ Q13 W13 hgo hex hret
  clear hr hf2 hgo hex hret W13 hQ hg hs hd i39 i40 i41 i8 n8
  intro s4 fl_ a k hr hS Q hQ hgo222 hex223 hret224
  obtain ⟨⟨hg, hs, hd⟩, i8, n8, i39, i40, i41, _⟩ := hS
  unfold region_column_L1 at hr
  refine cutS (fun c l => Bs noF k0 80 c l ∧ IsOwn 0 96 s4.1 (c.get 8) l ∧ Lo k0 (obF (c.get 8)) ∧ IsV x4 (c.get 39) l ∧ IsL x4 (c.get 40) l ∧ IsV s4.2 (c.get 41) l ∧ (IsV (decide (s4.2 < (x4.length : Int)))) (c.get 42) l ∧ True) ?_ ?_
  ·intro Q14 W14 w12
   refine gS 1 (_ :: []) hs (by kernel_rfl) ⟨o1 [(41, none), (40, none)] rfl fun _ _ h n => ok_lss rfl (up i41 h n.1) (up i40 h n.2.1), trivial⟩ W14 fun b q p => ?_
   exact tail_done (k := q) (w12 _ _ ⟨Bs.post ⟨hg, hs, hd⟩ p, p.ke 8 rfl i8, (by rw [p.old 8 rfl]; exact n8), p.ke 39 rfl i39, p.ke 40 rfl i40, p.ke 41 rfl i41, p.ou 0 42 rfl, trivial⟩)
  rintro a k ⟨⟨hg, hs, hd⟩, i8, n8, i39, i40, i41, i42, _⟩
  refine wp_seq ?_
  refine wp_cond_split (isBool i42) (fun hc249 => ?_) (fun hc249 => ?_)
  ·rw [if_pos hc249] at hr
   refine wp_skip ?_
   refine wp_seq ?_
   refine wp_block ?_
   refine wp_seq ?_
   obtain ⟨x5, hx5, hr⟩ := bind_some hr
   refine cut (fun a' k' => Bs noF k0 80 a' k' ∧ IsOwn 0 96 s4.1 (a'.get 8) k' ∧ Lo k0 (obF (a'.get 8)) ∧ (IsRef x5) (a'.get 10) k' ∧ (IsV x4) (a'.get 39) k' ∧ (IsL x4) (a'.get 40) k' ∧ (IsV s4.2) (a'.get 41) k' ∧ True) ?_ hQ ?_
   ·intro Q15 W15 w13
    refine gS 3 (_ :: _ :: ⟨some (IsBox k.w.heap.size (⟨0, 0⟩ : RegionSpan)), []⟩ :: []) hs (by kernel_rfl) ⟨o1 [(39, none), (41, none)] rfl fun _ _ h n => ok_indexAddr rfl Tryd.underlying85 ty96 (IsV.rd (up i39 h n.1)) (up i41 h n.2.1) hx5, o1 [(43, some 0)] rfl fun _ _ h n => ok_load rfl ty96 n.1, ob1 rfl fun _ _ h n => ok_alloc _ h.size rfl z96, trivial⟩ W15 fun b q p => ?_
    have hgq := hg.then p.grow
    have hsb := p.size.trans hs
    have hdb := p.defers.trans hd
    have j8 := p.ke 8 rfl i8
    have y8 : Lo k0 (obF (b.get 8)) := by rw [p.old 8 rfl]; exact n8
    obtain ⟨b10, j10, x10, z10⟩ : (IsBox k.w.heap.size (⟨0, 0⟩ : RegionSpan)) (b.get 10) q := p.ou 2 10 rfl
    replace x10 : Lo k (Eq b10) := Lo.eq x10
    have y10 : Lo k0 (Eq b10) := x10.chg hg
    have j39 := p.ke 39 rfl i39
    have j40 := p.ke 40 rfl i40
    have j41 := p.ke 41 rfl i41
    have j44 : (IsV x5) (b.get 44) q := p.ou 1 44 rfl
    have w8_10 : Apart (obF (b.get 8)) (Eq b10) := Apart.new (by rw [p.old 8 rfl]; exact i8.ltF) x10
    have hns := z10.nshF
    refine tail_storeB (i := 3) rfl rfl rfl rfl szf96 (Upd.self (α := RegionSpan)) j10 z10 j44 fun q2 hch hz => ?_
    replace hgq := hgq.step hch y10.wr
    have hle := hch.le hns
    replace j8 := j8.keep hch w8_10 hns
    replace j39 := Pers.pers hle j39
    replace j40 := Pers.pers hle j40
    replace j41 := Pers.pers hle j41
    replace j44 := Pers.pers hle j44
    replace z10 := hz
    clear hns hle hch
    obtain ⟨q, hqq⟩ : ∃ q, q = q2 := ⟨q2, rfl⟩
    subst hqq
    obtain ⟨q2, hsh, jn⟩ := z10.give
    replace j8 := j8.handed hsh w8_10
    replace j39 := Pers.pers hsh.le j39
    replace j40 := Pers.pers hsh.le j40
    replace j41 := Pers.pers hsh.le j41
    rw [← j10] at jn
    replace j10 := jn
    replace hgq := hgq.hand hsh y10.wr
    rw [← hsh.w]
    clear hsh
    obtain ⟨q, hqq⟩ : ∃ q, q = q2 := ⟨q2, rfl⟩
    subst hqq
    exact tail_done (k := q) (w13 _ _ ⟨⟨hgq, hsb, hdb⟩, j8, y8, j10, j39, j40, j41, trivial⟩)
   rintro a k ⟨⟨hg, hs, hd⟩, i8, n8, i10, i39, i40, i41, _⟩
   refine cutS (fun c l => Bs noF k0 80 c l ∧ IsOwn 0 96 s4.1 (c.get 8) l ∧ Lo k0 (obF (c.get 8)) ∧ IsRef x5 (c.get 10) l ∧ IsI (s4.1.length : Int) (c.get 11) l ∧ IsV x4 (c.get 39) l ∧ IsL x4 (c.get 40) l ∧ IsV s4.2 (c.get 41) l ∧ True) ?_ ?_
   ·intro Q16 W16 w14
    refine gS 3 (⟨some (OwnAt (a.get 8) 0 96 s4.1), [(8, none)]⟩ :: _ :: _ :: []) hs (by kernel_rfl) ⟨ob1 rfl fun _ _ h n => ok_moveOA (.inl rfl) (ownAt n.1 (up i8 h n.1)), o1 [(45, some 0)] rfl fun _ _ h n => ok_len rfl rfl Tryd.underlying85 (IsOwn.rd (n.1).2), cp 1 rfl rfl, trivial⟩ W16 fun b q p => ?_
    exact tail_done (k := q) (w14 _ _ ⟨Bs.post ⟨hg, hs, hd⟩ p, p.ke 8 rfl i8, (by rw [p.old 8 rfl]; exact n8), p.ke 10 rfl i10, p.ou 2 11 rfl, p.ke 39 rfl i39, p.ke 40 rfl i40, p.ke 41 rfl i41, trivial⟩)
   rintro a k ⟨⟨hg, hs, hd⟩, i8, n8, i10, i11, i39, i40, i41, _⟩
   refine wp_seq ?_
   obtain ⟨x6, hx6, hr⟩ := bind_some hr
   obtain ⟨x8, hx8, hx6⟩ := ite_bind hx6
   obtain ⟨x9, hx9, hx6⟩ := ite_bind hx6
   refine cut (fun a' k' => Bs noF k0 80 a' k' ∧ IsOwn 0 96 s4.1 (a'.get 8) k' ∧ Lo k0 (obF (a'.get 8)) ∧ (IsRef x5) (a'.get 10) k' ∧ (IsI (s4.1.length : Int)) (a'.get 11) k' ∧ (IsV x4) (a'.get 39) k' ∧ (IsL x4) (a'.get 40) k' ∧ (IsV s4.2) (a'.get 41) k' ∧ (IsV x6) (a'.get 59) k' ∧ True) ?_ hQ ?_
   ·intro Q17 W17 w15
    refine region (m := 13) (_ :: _ :: _ :: _ :: _ :: ⟨some (Gd ((decide (0 < (s4.1.length : Int))) = true) (OwnAt (a.get 8) 0 96 s4.1)), [(8, none)]⟩ :: _ :: _ :: _ :: _ :: _ :: _ :: _ :: []) hmix hs (by kernel_rfl) ⟨mu rfl i11, o1 [(47, some 0)] rfl fun _ _ h n => ok_gtr rfl n.1 (cI rfl), cm 1 rfl rfl, gT [(10, none)] rfl rfl fun hp _ _ h n => ok_fieldAddr rfl fo96_0 (at_RegionSpan_0 _) ((up i10 h n.1)).ptr, gT [(50, some 3)] rfl rfl fun hp _ _ h n => ok_load rfl ty3 (Gd.get n.1 hp), gdT rfl rfl fun hp _ _ h n => ok_moveOA (.inl rfl) (ownAt n.1 (up i8 h n.1)), mT rfl rfl i11, gT [(53, some 6)] rfl rfl fun hp _ _ h n => ok_sub rfl (Gd.get n.1 hp) (cI rfl) (hx8 hp), gT [(52, some 5), (54, some 7)] rfl rfl fun hp _ _ h n => ok_indexAddr rfl Tryd.underlying85 ty96 (IsOwn.rd ((Gd.get n.1 hp)).2) (Gd.get n.2.1 hp) (hx9 hp), gT [(55, some 8)] rfl rfl fun hp _ _ h n => ok_fieldAddr rfl fo96_1 (at_RegionSpan_1 _) (Gd.get n.1 hp), gT [(56, some 9)] rfl rfl fun hp _ _ h n => ok_load rfl ty3 (Gd.get n.1 hp), gT [(51, some 4), (57, some 10)] rfl rfl fun hp _ _ h n => ok_leq rfl (Gd.get n.1 hp) (Gd.get n.2.1 hp), o1 [(49, some 2), (58, some 11)] rfl fun _ _ h n => ok_pickM rfl n.1 hx6 (Gd.get n.2.1) (cB rfl), trivial⟩ W17 fun b q p => ?_
    exact tail_done (k := q) (w15 _ _ ⟨Bs.post ⟨hg, hs, hd⟩ p, p.ke 8 rfl i8, (by rw [p.old 8 rfl]; exact n8), p.ke 10 rfl i10, p.ke 11 rfl i11, p.ke 39 rfl i39, p.ke 40 rfl i40, p.ke 41 rfl i41, p.ou 12 59 rfl, trivial⟩)
   rintro a k ⟨⟨hg, hs, hd⟩, i8, n8, i10, i11, i39, i40, i41, i59, _⟩
   obtain ⟨s5, hs5, hr⟩ := bind_some hr
   refine cut (fun a' k' => Bs noF k0 80 a' k' ∧ IsOwn 0 96 s5 (a'.get 8) k' ∧ Lo k0 (obF (a'.get 8)) ∧ (IsV x4) (a'.get 39) k' ∧ (IsL x4) (a'.get 40) k' ∧ (IsV s4.2) (a'.get 41) k' ∧ True) ?_ hQ ?_
   ·intro Q18 W18 w16
    replace hr := hs5
    clear hQ
    have hQ := W18
    refine wp_cond_split (isBool i59) (fun hc237 => ?_) (fun hc237 => ?_)
    ·rw [if_pos hc237] at hr
     obtain ⟨x11, hx11, hr⟩ := bind_some hr
     obtain ⟨x12, hx12, hr⟩ := bind_some hr
     obtain ⟨x13, hx13, hr⟩ := bind_some hr
     obtain ⟨x14, hx14, hr⟩ := bind_some hr
     obtain ⟨x15, hx15, hr⟩ := bind_some hr
     refine cut (fun a' k' => Bs noF k0 80 a' k' ∧ IsOwn 0 96 x15 (a'.get 8) k' ∧ Lo k0 (obF (a'.get 8)) ∧ (IsV x4) (a'.get 39) k' ∧ (IsL x4) (a'.get 40) k' ∧ (IsV s4.2) (a'.get 41) k' ∧ True) ?_ hQ ?_
     ·intro Q19 W19 w17
      refine region (m := 14) (⟨some (OwnAt (a.get 8) 0 96 s4.1), [(8, none)]⟩ :: _ :: _ :: ⟨some (OwnAt (a.get 8) 0 96 s4.1), [(8, none)]⟩ :: _ :: _ :: _ :: _ :: _ :: _ :: _ :: _ :: ⟨some (IsAdrO (a.get 8) ((x11).toNat * Enc.sz RegionSpan)), [(60, some 0), (62, some 2)]⟩ :: _ :: []) hmix hs (by kernel_rfl) ⟨ob1 rfl fun _ _ h n => ok_moveOA (.inl rfl) (ownAt n.1 (up i8 h n.1)), mu rfl i11, o1 [(61, some 1)] rfl fun _ _ h n => ok_sub rfl n.1 (cI rfl) hx11, ob1 rfl fun _ _ h n => ok_moveOA (.inl rfl) (ownAt n.1 (up i8 h n.1)), mu rfl i11, o1 [(64, some 4)] rfl fun _ _ h n => ok_sub rfl n.1 (cI rfl) hx12, o1 [(63, some 3), (65, some 5)] rfl fun _ _ h n => ok_indexAddr rfl Tryd.underlying85 ty96 (IsOwn.rd (n.1).2) n.2.1 hx13, o1 [(66, some 6)] rfl fun _ _ h n => ok_fieldAddr rfl fo96_1 (at_RegionSpan_1 _) n.1, o1 [(67, some 7)] rfl fun _ _ h n => ok_load rfl ty3 n.1, o1 [(10, none)] rfl fun _ _ h n => ok_fieldAddr rfl fo96_1 (at_RegionSpan_1 _) ((up i10 h n.1)).ptr, o1 [(69, some 9)] rfl fun _ _ h n => ok_load rfl ty3 n.1, o1 [(68, some 8), (70, some 10)] rfl fun _ _ h n => ok_max2 rfl n.1 n.2.1, ob1 rfl fun _ _ h n => ok_indexO rfl Tryd.underlying85 ty96 n.1 n.2.1 hx14, o1 [(72, some 12)] rfl fun _ _ h n => ok_fieldAdrO rfl fo96_1 n.1, trivial⟩ W19 fun b q p => ?_
      have hgq := hg.then p.grow
      have hsb := p.size.trans hs
      have hdb := p.defers.trans hd
      have j8 := p.ke 8 rfl i8
      have y8 : Lo k0 (obF (b.get 8)) := by rw [p.old 8 rfl]; exact n8
      have j39 := p.ke 39 rfl i39
      have j40 := p.ke 40 rfl i40
      have j41 := p.ke 41 rfl i41
      have j71 : (IsI (max x13.to_ x5.to_)) (b.get 71) q := p.ou 11 71 rfl
      have j73 : IsAdrO (a.get 8) ((x11).toNat * Enc.sz RegionSpan + 1) (b.get 73) q := p.ou 13 73 rfl
      have eo : b.get 8 = a.get 8 := p.old 8 rfl
      have hns := j8.nshF
      refine tail_storeS (i := 14) (u := b.get 8) (m := (x11).toNat) (off := 0 + 1) rfl rfl rfl rfl szf3 upd_F96_1 (by rw [eo]; exact j73) j8 (getI_spec hx14).2.1 j71 fun q2 hch hz => ?_
      replace hgq := hgq.step hch y8.wr
      have hle := hch.le hns
      replace j39 := Pers.pers hle j39
      replace j40 := Pers.pers hle j40
      replace j41 := Pers.pers hle j41
      replace j71 := Pers.pers hle j71
      replace j73 := Pers.pers hle j73
      replace j8 := hz
      rw [Option.some.inj hx15] at j8
      clear hns hle hch eo hz
      obtain ⟨q, hqq⟩ : ∃ q, q = q2 := ⟨q2, rfl⟩
      subst hqq
      exact tail_done (k := q) (w17 _ _ ⟨⟨hgq, hsb, hdb⟩, j8, y8, j39, j40, j41, trivial⟩)
     rintro a k ⟨⟨hg, hs, hd⟩, i8, n8, i39, i40, i41, _⟩
     obtain rfl := Option.some.inj hr
     exact w16 _ _ ⟨⟨hg, hs, hd⟩, i8, n8, i39, i40, i41, trivial⟩
    rw [if_neg (by rw [hc237]; decide)] at hr
    obtain ⟨x16, hx16, hr⟩ := bind_some hr
    refine cut (fun a' k' => Bs noF k0 80 a' k' ∧ IsOwn 0 96 x16 (a'.get 8) k' ∧ Lo k0 (obF (a'.get 8)) ∧ (IsV x4) (a'.get 39) k' ∧ (IsL x4) (a'.get 40) k' ∧ (IsV s4.2) (a'.get 41) k' ∧ True) ?_ hQ ?_
    ·intro Q20 W20 w18
     refine gS 3 (⟨some (OwnAt (a.get 8) 0 96 s4.1), [(8, none)]⟩ :: _ :: ⟨some (IsV (α := (List RegionSpan)) ([x5])), [(75, some 1)]⟩ :: []) hs (by kernel_rfl) ⟨ob1 rfl fun _ _ h n => ok_moveOA (.inl rfl) (ownAt n.1 (up i8 h n.1)), o1 [(10, none)] rfl fun _ _ h n => ok_load rfl ty96 ((up i10 h n.1)).ptr, ob1 rfl fun _ _ h n => ok_buildSlice rfl Tryd.underlying85 eo96 rfl (by decide) (by decide) ⟨rfl, n.1, trivial⟩, trivial⟩ W20 fun b q p => ?_
     have hgq := hg.then p.grow
     have hsb := p.size.trans hs
     have hdb := p.defers.trans hd
     have j39 := p.ke 39 rfl i39
     have j40 := p.ke 40 rfl i40
     have j41 := p.ke 41 rfl i41
     have e74 : b.get 74 = a.get 8 := (p.ou 0 74 rfl).1
     have j74 : IsOwn 0 96 s4.1 (b.get 74) q := (p.ou 0 74 rfl).2
     have y74 : Lo k0 (obF (b.get 74)) := by rw [e74]; exact n8
     have j76 : (IsV (α := (List RegionSpan)) ([x5])) (b.get 76) q := p.ou 2 76 rfl
     have hns := j74.nshF
     refine tail_appendS (i := 3) (d := 77) rfl rfl rfl rfl (by rw [hsb]; decide) (e := 96) Tryd.underlying85 eo96 j74 (IsV.rd j76) hx16 fun b2 q2 hsz hdf hoth hch hown hob => ?_
     have hle := hch.le hns
     have yn : Lo k0 (obF (b2.get 77)) := y74.app hgq hob
     replace j39 := Pers.pers hle j39
     replace j40 := Pers.pers hle j40
     replace j41 := Pers.pers hle j41
     replace j76 := Pers.pers hle j76
     replace hgq := hgq.step hch y74.wr
     rw [← hoth 39 (by decide)] at j39
     rw [← hoth 40 (by decide)] at j40
     rw [← hoth 41 (by decide)] at j41
     rw [← hoth 76 (by decide)] at j76
     have j77 := hown
     have y77 := yn
     replace hsb := hsz.trans hsb
     replace hdb := hdf.trans hdb
     clear hle hch hown hob hns yn hsz hdf hoth
     obtain ⟨b, hbb⟩ : ∃ b, b = b2 := ⟨b2, rfl⟩
     subst hbb
     obtain ⟨q, hqq⟩ : ∃ q, q = q2 := ⟨q2, rfl⟩
     subst hqq
     refine tail_assign (i := 4) (d := 8) rfl rfl (.inl rfl) rfl (by rw [hsb]; decide) fun b2 hsz hdf hnew hoth => ?_
     have jn : (IsOwn 0 96 x16) (b2.get 8) q := by rw [hnew]; exact j77
     have yn : Lo k0 (obF (b2.get 8)) := by rw [hnew]; exact y77
     rw [← hoth 39 (by decide)] at j39
     rw [← hoth 40 (by decide)] at j40
     rw [← hoth 41 (by decide)] at j41
     rw [← hoth 76 (by decide)] at j76
     have j8 := jn
     have y8 := yn
     replace hsb := hsz.trans hsb
     replace hdb := hdf.trans hdb
     clear hsz hdf hoth
     obtain ⟨b, hbb⟩ : ∃ b, b = b2 := ⟨b2, rfl⟩
     subst hbb
     exact tail_done (k := q) (w18 _ _ ⟨⟨hgq, hsb, hdb⟩, j8, y8, j39, j40, j41, trivial⟩)
    rintro a k ⟨⟨hg, hs, hd⟩, i8, n8, i39, i40, i41, _⟩
    obtain rfl := Option.some.inj hr
    exact w16 _ _ ⟨⟨hg, hs, hd⟩, i8, n8, i39, i40, i41, trivial⟩
   clear hs5
   rintro a k ⟨⟨hg, hs, hd⟩, i8, n8, i39, i40, i41, _⟩
   obtain ⟨x17, hx17, hr⟩ := bind_some hr
   refine cut (fun a' k' => Bs noF k0 80 a' k' ∧ IsOwn 0 96 s5 (a'.get 8) k' ∧ Lo k0 (obF (a'.get 8)) ∧ (IsV x4) (a'.get 39) k' ∧ (IsL x4) (a'.get 40) k' ∧ (IsV x17) (a'.get 41) k' ∧ True) ?_ hQ ?_
   ·intro Q21 W21 w19
    refine gS 2 (_ :: _ :: []) hs (by kernel_rfl) ⟨o1 [(41, none)] rfl fun _ _ h n => ok_add rfl (up i41 h n.1) (cI rfl) hx17, cm 0 rfl rfl, trivial⟩ W21 fun b q p => ?_
    exact tail_done (k := q) (w19 _ _ ⟨Bs.post ⟨hg, hs, hd⟩ p, p.ke 8 rfl i8, (by rw [p.old 8 rfl]; exact n8), p.ke 39 rfl i39, p.ke 40 rfl i40, p.ou 1 41 rfl, trivial⟩)
   rintro a k ⟨⟨hg, hs, hd⟩, i8, n8, i39, i40, i41, _⟩
   exact hgo222 _ _ _ (Option.some.inj hr).symm ⟨⟨hg, hs, hd⟩, i8, n8, i39, i40, i41, trivial⟩
  rw [if_neg (by rw [hc249]; decide)] at hr
  refine wp_exit ?_
  obtain ⟨kk, sh248, ii8⟩ := i8.give
  replace i8 := ii8
  replace hg := hg.hand sh248 n8.wr
  rw [← sh248.w]
  clear sh248
  obtain ⟨k, hkk⟩ : ∃ k, k = kk := ⟨kk, rfl⟩
  subst hkk
  exact hex223 _ _ _ _ (Option.some.inj hr).symm ⟨rfl, ⟨hg, hs, hd⟩, i8, trivial⟩
 ·rintro r2 a k rfl hR
  dsimp only at hr
  obtain rfl := Option.some.inj hr
  exact hR
 ·rintro _ _ _ rfl _
  simp at hr
 clear hf2
 rintro _ s6 a k rfl ⟨rfl, ⟨hg, hs, hd⟩, i8, _⟩
 dsimp only at hr
 refine stepL 2 (_ :: _ :: []) rfl ⟨hg, hs, hd⟩ (by kernel_rfl) ⟨mu rfl i8, cp 0 rfl rfl, trivial⟩ [⟨_, _⟩] (fun b q p => ⟨p.ou 1 4 rfl, trivial⟩) ?_
 rintro a k ⟨⟨hg, hs, hd⟩, i4, _⟩
 refine wp_ret ?_
 obtain rfl := Option.some.inj hr
 exact retC1 rfl hd hg i4
def region_strips_L0 (x1 : (List Rect)) (s1 : (List Int) × Int) : Option (Flow ((List Int) × Int) ((List RegionStrip))) :=
 if (decide (s1.2 < (x1.length : Int))) then
  (getI x1 s1.2).bind fun x2 =>
  (appI s1.1 ([x2.X0, x2.X1])).bind fun x3 =>
  (addI s1.2 1).bind fun x4 =>
  some (.go (x3, x4))
 else
  some (.ex 0 (s1.1, s1.2))
def region_strips_L1 (x1 : (List Rect)) (x2 : (List Int)) (s1 : (List RegionStrip) × Int) : Option (Flow ((List RegionStrip) × Int) ((List RegionStrip))) :=
 if (decide (s1.2 < (x2.length : Int))) then
  (subI s1.2 1).bind fun x3 =>
  (getI x2 x3).bind fun x4 =>
  (getI x2 s1.2).bind fun x5 =>
  (subI s1.2 1).bind fun x6 =>
  (getI x2 x6).bind fun x7 =>
  (region_column x1 x7).bind fun x8 =>
  (appI s1.1 ([(⟨x4, x5, x8⟩ : RegionStrip)])).bind fun x9 =>
  (addI s1.2 1).bind fun x10 =>
  some (.go (x9, x10))
 else
  some (.ex 2 (s1.1, s1.2))
def region_strips (lists_ : (List (List Rect))) : Option ((List RegionStrip)) :=
 (slices_Concat_Rect lists_).bind fun x1 =>
 (iterL (region_strips_L0 x1) (x1.length + 1) (([] : List Int), 0)).bind fun f1 => match f1 with
  | .go _ => none
  | .ex _ s1 =>
   (sortInts s1.1).bind fun x2 =>
   (compactInts x2).bind fun x3 =>
   (iterL (region_strips_L1 x1 x3) (x1.length + x3.length + ([] : List RegionStrip).length + 1) (([] : List RegionStrip), 1)).bind fun f2 => match f2 with
    | .go _ => none
    | .ex _ s2 =>
     some s2.1
    | .ret r1 => some r1
  | .ret r2 => some r2
theorem region_strips_okO {k0 : K} {v0 : Value} {lists_ : (List (List Rect))} {r : (List RegionStrip)} (i0 : (IsV lists_) v0 k0) (hr : region_strips lists_ = some r) :
  Calls Tryd.prog 42 #[v0] k0.w (Ret k0 (IsOwn k0.w.heap.size 87 r)) := by
 unfold region_strips at hr
 refine Ret.ofC ?_
 refine enterK Tryd.func42 rfl Tryd.ntmps42 (show 1 ≤ 56 by decide) fun a k hk0 hs hd ha => ?_
 obtain ⟨e0, _⟩ := ha
 replace i0 : (IsV lists_) (a.get 0) k := by rw [e0, hk0]; exact i0
 have hQ : Gb.LetsOut (bodyPost Tryd.prog Tryd.f42 (RetC noF k0 (IsOwn k0.w.heap.size 87 r))) := letsOutC
 have hg : Chg noF k0 k := by rw [hk0]; exact Chg.refl _ k0
 refine stepL 1 (⟨some IsE0, []⟩ :: []) rfl ⟨hg, hs, hd⟩ (by kernel_rfl) ⟨ob1 rfl fun b q h n => ok_assign rfl isE0_nil, trivial⟩ [⟨_, _⟩] (fun b q p => ⟨p.ke 0 rfl i0, trivial⟩) ?_
 rintro a k ⟨⟨hg, hs, hd⟩, i0, _⟩
 refine wp_seq ?_
 obtain ⟨x1, hx1, hr⟩ := bind_some hr
 refine cut (fun a' k' => Bs noF k0 56 a' k' ∧ (IsV x1) (a'.get 3) k' ∧ True) ?_ hQ ?_
 ·intro Q1 W1 w1
  refine gS 3 (_ :: _ :: _ :: []) hs (by kernel_rfl) ⟨mu rfl i0, o1 [(9, some 0)] rfl fun _ _ h n => ok_call rfl Tryd.call55 (slices_Concat_Rect_ok n.1 hx1), cp 1 rfl rfl, trivial⟩ W1 fun b q p => ?_
  exact tail_done (k := q) (w1 _ _ ⟨Bs.post ⟨hg, hs, hd⟩ p, p.ou 2 3 rfl, trivial⟩)
 rintro a k ⟨⟨hg, hs, hd⟩, i3, _⟩
 refine cutS (fun c l => Bs noF k0 56 c l ∧ IsV x1 (c.get 3) l ∧ IsOwn 0 3 ([] : List Int) (c.get 4) l ∧ Lo k0 (obF (c.get 4)) ∧ True) ?_ ?_
 ·intro Q2 W2 w2
  refine gS 1 (⟨some IsE0, []⟩ :: []) hs (by kernel_rfl) ⟨ob1 rfl fun b q h n => ok_assign rfl isE0_nil, trivial⟩ W2 fun b q p => ?_
  have hgq := hg.then p.grow
  have hsb := p.size.trans hs
  have hdb := p.defers.trans hd
  have j3 := p.ke 3 rfl i3
  have j4 : IsE0 (b.get 4) q := p.ou 0 4 rfl
  have y4 : Lo k0 (obF (b.get 4)) := j4.lo
  replace j4 : IsOwn 0 3 ([] : List Int) (b.get 4) q := j4.own0
  exact tail_done (k := q) (w2 _ _ ⟨⟨hgq, hsb, hdb⟩, j3, j4, y4, trivial⟩)
 rintro a k ⟨⟨hg, hs, hd⟩, i3, i4, n4, _⟩
 refine wp_seq ?_
 refine cutS (fun c l => Bs noF k0 56 c l ∧ IsV x1 (c.get 3) l ∧ IsOwn 0 3 ([] : List Int) (c.get 4) l ∧ Lo k0 (obF (c.get 4)) ∧ IsV x1 (c.get 11) l ∧ IsL x1 (c.get 12) l ∧ IsI 0 (c.get 13) l ∧ True) ?_ ?_
 ·intro Q3 W3 w3
  refine gS 3 (_ :: _ :: ⟨some (IsI 0), []⟩ :: []) hs (by kernel_rfl) ⟨mu rfl i3, o1 [(11, some 0)] rfl fun _ _ h n => ok_len rfl rfl Tryd.underlying45 (IsV.rd n.1), ob1 rfl fun _ _ h n => ok_move rfl (cI rfl), trivial⟩ W3 fun b q p => ?_
  exact tail_done (k := q) (w3 _ _ ⟨Bs.post ⟨hg, hs, hd⟩ p, p.ke 3 rfl i3, p.ke 4 rfl i4, (by rw [p.old 4 rfl]; exact n4), p.ou 0 11 rfl, p.ou 1 12 rfl, p.ou 2 13 rfl, trivial⟩)
 rintro a k ⟨⟨hg, hs, hd⟩, i3, i4, n4, i11, i12, i13, _⟩
 refine wp_block ?_
 obtain ⟨f1, hf1, hr⟩ := bind_some hr
 refine cutFe f1 (fun s' c l => Bs noF k0 56 c l ∧ IsV x1 (c.get 3) l ∧ IsOwn 0 3 s'.1 (c.get 4) l ∧ Lo k0 (obF (c.get 4)) ∧ IsV x1 (c.get 11) l ∧ IsL x1 (c.get 12) l ∧ IsV s'.2 (c.get 13) l ∧ True) (fun i' s' c l => (i' = 0 ∧ Bs noF k0 56 c l ∧ IsV x1 (c.get 3) l ∧ IsOwn 0 3 s'.1 (c.get 4) l ∧ Lo k0 (obF (c.get 4)) ∧ True)) (fun r' c l => bodyPost Tryd.prog Tryd.f42 (RetC noF k0 (IsOwn k0.w.heap.size 87 r')) .ret c l.w) ?_ hQ ?_ ?_ ?_
 ·intro Q4 W4 hgo hex hret
  refine sim_loop ?_ _ _ _ _ _ hf1 ⟨⟨hg, hs, hd⟩, i3, i4, n4, i11, i12, i13, trivial⟩ Q4 W4 hgo hex hret
  clear hr hf1 hgo hex hret W4 hQ hg hs hd i11 i12 i13 i3 i4 n4
  intro s1 fl_ a k hr hS Q hQ hgo278 hex279 hret280
  obtain ⟨⟨hg, hs, hd⟩, i3, i4, n4, i11, i12, i13, _⟩ := hS
  unfold region_strips_L0 at hr
  refine cutS (fun c l => Bs noF k0 56 c l ∧ IsV x1 (c.get 3) l ∧ IsOwn 0 3 s1.1 (c.get 4) l ∧ Lo k0 (obF (c.get 4)) ∧ IsV x1 (c.get 11) l ∧ IsL x1 (c.get 12) l ∧ IsV s1.2 (c.get 13) l ∧ (IsV (decide (s1.2 < (x1.length : Int)))) (c.get 14) l ∧ True) ?_ ?_
  ·intro Q5 W5 w4
   refine gS 1 (_ :: []) hs (by kernel_rfl) ⟨o1 [(13, none), (12, none)] rfl fun _ _ h n => ok_lss rfl (up i13 h n.1) (up i12 h n.2.1), trivial⟩ W5 fun b q p => ?_
   exact tail_done (k := q) (w4 _ _ ⟨Bs.post ⟨hg, hs, hd⟩ p, p.ke 3 rfl i3, p.ke 4 rfl i4, (by rw [p.old 4 rfl]; exact n4), p.ke 11 rfl i11, p.ke 12 rfl i12, p.ke 13 rfl i13, p.ou 0 14 rfl, trivial⟩)
  rintro a k ⟨⟨hg, hs, hd⟩, i3, i4, n4, i11, i12, i13, i14, _⟩
  refine wp_seq ?_
  refine wp_cond_split (isBool i14) (fun hc291 => ?_) (fun hc291 => ?_)
  ·rw [if_pos hc291] at hr
   refine wp_skip ?_
   refine wp_seq ?_
   refine wp_block ?_
   refine wp_seq ?_
   obtain ⟨x2, hx2, hr⟩ := bind_some hr
   refine cut (fun a' k' => Bs noF k0 56 a' k' ∧ (IsV x1) (a'.get 3) k' ∧ IsOwn 0 3 s1.1 (a'.get 4) k' ∧ Lo k0 (obF (a'.get 4)) ∧ (IsRef x2) (a'.get 6) k' ∧ (IsV x1) (a'.get 11) k' ∧ (IsL x1) (a'.get 12) k' ∧ (IsV s1.2) (a'.get 13) k' ∧ True) ?_ hQ ?_
   ·intro Q6 W6 w5
    refine gS 3 (_ :: _ :: ⟨some (IsBox k.w.heap.size (⟨0, 0, 0, 0⟩ : Rect)), []⟩ :: []) hs (by kernel_rfl) ⟨o1 [(11, none), (13, none)] rfl fun _ _ h n => ok_indexAddr rfl Tryd.underlying45 ty23 (IsV.rd (up i11 h n.1)) (up i13 h n.2.1) hx2, o1 [(15, some 0)] rfl fun _ _ h n => ok_load rfl ty23 n.1, ob1 rfl fun _ _ h n => ok_alloc _ h.size rfl z23, trivial⟩ W6 fun b q p => ?_
    have hgq := hg.then p.grow
    have hsb := p.size.trans hs
    have hdb := p.defers.trans hd
    have j3 := p.ke 3 rfl i3
    have j4 := p.ke 4 rfl i4
    have y4 : Lo k0 (obF (b.get 4)) := by rw [p.old 4 rfl]; exact n4
    obtain ⟨b6, j6, x6, z6⟩ : (IsBox k.w.heap.size (⟨0, 0, 0, 0⟩ : Rect)) (b.get 6) q := p.ou 2 6 rfl
    replace x6 : Lo k (Eq b6) := Lo.eq x6
    have y6 : Lo k0 (Eq b6) := x6.chg hg
    have j11 := p.ke 11 rfl i11
    have j12 := p.ke 12 rfl i12
    have j13 := p.ke 13 rfl i13
    have j16 : (IsV x2) (b.get 16) q := p.ou 1 16 rfl
    have w4_6 : Apart (obF (b.get 4)) (Eq b6) := Apart.new (by rw [p.old 4 rfl]; exact i4.ltF) x6
    have hns := z6.nshF
    refine tail_storeB (i := 3) rfl rfl rfl rfl szf23 (Upd.self (α := Rect)) j6 z6 j16 fun q2 hch hz => ?_
    replace hgq := hgq.step hch y6.wr
    have hle := hch.le hns
    replace j3 := Pers.pers hle j3
    replace j4 := j4.keep hch w4_6 hns
    replace j11 := Pers.pers hle j11
    replace j12 := Pers.pers hle j12
    replace j13 := Pers.pers hle j13
    replace j16 := Pers.pers hle j16
    replace z6 := hz
    clear hns hle hch
    obtain ⟨q, hqq⟩ : ∃ q, q = q2 := ⟨q2, rfl⟩
    subst hqq
    obtain ⟨q2, hsh, jn⟩ := z6.give
    replace j3 := Pers.pers hsh.le j3
    replace j4 := j4.handed hsh w4_6
    replace j11 := Pers.pers hsh.le j11
    replace j12 := Pers.pers hsh.le j12
    replace j13 := Pers.pers hsh.le j13
    rw [← j6] at jn
    replace j6 := jn
    replace hgq := hgq.hand hsh y6.wr
    rw [← hsh.w]
    clear hsh
    obtain ⟨q, hqq⟩ : ∃ q, q = q2 := ⟨q2, rfl⟩
    subst hqq
    exact tail_done (k := q) (w5 _ _ ⟨⟨hgq, hsb, hdb⟩, j3, j4, y4, j6, j11, j12, j13, trivial⟩)
   rintro a k ⟨⟨hg, hs, hd⟩, i3, i4, n4, i6, i11, i12, i13, _⟩
   obtain ⟨x3, hx3, hr⟩ := bind_some hr
   refine cut (fun a' k' => Bs noF k0 56 a' k' ∧ (IsV x1) (a'.get 3) k' ∧ IsOwn 0 3 x3 (a'.get 4) k' ∧ Lo k0 (obF (a'.get 4)) ∧ (IsV x1) (a'.get 11) k' ∧ (IsL x1) (a'.get 12) k' ∧ (IsV s1.2) (a'.get 13) k' ∧ True) ?_ hQ ?_
   ·intro Q7 W7 w6
    refine gS 6 (⟨some (OwnAt (a.get 4) 0 3 s1.1), [(4, none)]⟩ :: _ :: _ :: _ :: _ :: ⟨some (IsV (α := (List Int)) ([x2.X0, x2.X1])), [(19, some 2), (21, some 4)]⟩ :: []) hs (by kernel_rfl) ⟨ob1 rfl fun _ _ h n => ok_moveOA (.inl rfl) (ownAt n.1 (up i4 h n.1)), o1 [(6, none)] rfl fun _ _ h n => ok_fieldAddr rfl fo23_0 (at_Rect_0 _) ((up i6 h n.1)).ptr, o1 [(18, some 1)] rfl fun _ _ h n => ok_load rfl ty3 n.1, o1 [(6, none)] rfl fun _ _ h n => ok_fieldAddr rfl fo23_2 (at_Rect_2 _) ((up i6 h n.1)).ptr, o1 [(20, some 3)] rfl fun _ _ h n => ok_load rfl ty3 n.1, ob1 rfl fun _ _ h n => ok_buildSlice rfl Tryd.underlying40 eo3 rfl (by decide) (by decide) ⟨rfl, n.1, rfl, n.2.1, trivial⟩, trivial⟩ W7 fun b q p => ?_
    have hgq := hg.then p.grow
    have hsb := p.size.trans hs
    have hdb := p.defers.trans hd
    have j3 := p.ke 3 rfl i3
    have j11 := p.ke 11 rfl i11
    have j12 := p.ke 12 rfl i12
    have j13 := p.ke 13 rfl i13
    have e17 : b.get 17 = a.get 4 := (p.ou 0 17 rfl).1
    have j17 : IsOwn 0 3 s1.1 (b.get 17) q := (p.ou 0 17 rfl).2
    have y17 : Lo k0 (obF (b.get 17)) := by rw [e17]; exact n4
    have j22 : (IsV (α := (List Int)) ([x2.X0, x2.X1])) (b.get 22) q := p.ou 5 22 rfl
    have hns := j17.nshF
    refine tail_appendS (i := 6) (d := 23) rfl rfl rfl rfl (by rw [hsb]; decide) (e := 3) Tryd.underlying40 eo3 j17 (IsV.rd j22) hx3 fun b2 q2 hsz hdf hoth hch hown hob => ?_
    have hle := hch.le hns
    have yn : Lo k0 (obF (b2.get 23)) := y17.app hgq hob
    replace j3 := Pers.pers hle j3
    replace j11 := Pers.pers hle j11
    replace j12 := Pers.pers hle j12
    replace j13 := Pers.pers hle j13
    replace j22 := Pers.pers hle j22
    replace hgq := hgq.step hch y17.wr
    rw [← hoth 3 (by decide)] at j3
    rw [← hoth 11 (by decide)] at j11
    rw [← hoth 12 (by decide)] at j12
    rw [← hoth 13 (by decide)] at j13
    rw [← hoth 22 (by decide)] at j22
    have j23 := hown
    have y23 := yn
    replace hsb := hsz.trans hsb
    replace hdb := hdf.trans hdb
    clear hle hch hown hob hns yn hsz hdf hoth
    obtain ⟨b, hbb⟩ : ∃ b, b = b2 := ⟨b2, rfl⟩
    subst hbb
    obtain ⟨q, hqq⟩ : ∃ q, q = q2 := ⟨q2, rfl⟩
    subst hqq
    refine tail_assign (i := 7) (d := 4) rfl rfl (.inl rfl) rfl (by rw [hsb]; decide) fun b2 hsz hdf hnew hoth => ?_
    have jn : (IsOwn 0 3 x3) (b2.get 4) q := by rw [hnew]; exact j23
    have yn : Lo k0 (obF (b2.get 4)) := by rw [hnew]; exact y23
    rw [← hoth 3 (by decide)] at j3
    rw [← hoth 11 (by decide)] at j11
    rw [← hoth 12 (by decide)] at j12
    rw [← hoth 13 (by decide)] at j13
    rw [← hoth 22 (by decide)] at j22
    have j4 := jn
    have y4 := yn
    replace hsb := hsz.trans hsb
    replace hdb := hdf.trans hdb
    clear hsz hdf hoth
    obtain ⟨b, hbb⟩ : ∃ b, b = b2 := ⟨b2, rfl⟩
    subst hbb
    exact tail_done (k := q) (w6 _ _ ⟨⟨hgq, hsb, hdb⟩, j3, j4, y4, j11, j12, j13, trivial⟩)
   rintro a k ⟨⟨hg, hs, hd⟩, i3, i4, n4, i11, i12, i13, _⟩
   obtain ⟨x4, hx4, hr⟩ := bind_some hr
   refine cut (fun a' k' => Bs noF k0 56 a' k' ∧ (IsV x1) (a'.get 3) k' ∧ IsOwn 0 3 x3 (a'.get 4) k' ∧ Lo k0 (obF (a'.get 4)) ∧ (IsV x1) (a'.get 11) k' ∧ (IsL x1) (a'.get 12) k' ∧ (IsV x4) (a'.get 13) k' ∧ True) ?_ hQ ?_
   ·intro Q8 W8 w7
    refine gS 2 (_ :: _ :: []) hs (by kernel_rfl) ⟨o1 [(13, none)] rfl fun _ _ h n => ok_add rfl (up i13 h n.1) (cI rfl) hx4, cm 0 rfl rfl, trivial⟩ W8 fun b q p => ?_
    exact tail_done (k := q) (w7 _ _ ⟨Bs.post ⟨hg, hs, hd⟩ p, p.ke 3 rfl i3, p.ke 4 rfl i4, (by rw [p.old 4 rfl]; exact n4), p.ke 11 rfl i11, p.ke 12 rfl i12, p.ou 1 13 rfl, trivial⟩)
   rintro a k ⟨⟨hg, hs, hd⟩, i3, i4, n4, i11, i12, i13, _⟩
   exact hgo278 _ _ _ (Option.some.inj hr).symm ⟨⟨hg, hs, hd⟩, i3, i4, n4, i11, i12, i13, trivial⟩
  rw [if_neg (by rw [hc291]; decide)] at hr
  refine wp_exit ?_
  exact hex279 _ _ _ _ (Option.some.inj hr).symm ⟨rfl, ⟨hg, hs, hd⟩, i3, i4, n4, trivial⟩
 ·rintro r1 a k rfl hR
  dsimp only at hr
  obtain rfl := Option.some.inj hr
  exact hR
 ·rintro _ _ _ rfl _
  simp at hr
 clear hf1
 rintro _ s2 a k rfl ⟨rfl, ⟨hg, hs, hd⟩, i3, i4, n4, _⟩
 dsimp only at hr
 refine wp_seq ?_
 obtain ⟨x5, hx5, hr⟩ := bind_some hr
 refine cut (fun a' k' => Bs noF k0 56 a' k' ∧ (IsV x1) (a'.get 3) k' ∧ IsOwn 0 3 x5 (a'.get 4) k' ∧ Lo k0 (obF (a'.get 4)) ∧ True) ?_ hQ ?_
 ·intro Q9 W9 w8
  refine gS 1 (⟨some (OwnAt (a.get 4) 0 3 s2.1), [(4, none)]⟩ :: []) hs (by kernel_rfl) ⟨ob1 rfl fun _ _ h n => ok_moveOA (.inl rfl) (ownAt n.1 (up i4 h n.1)), trivial⟩ W9 fun b q p => ?_
  have hgq := hg.then p.grow
  have hsb := p.size.trans hs
  have hdb := p.defers.trans hd
  have j3 := p.ke 3 rfl i3
  have j4 := p.ke 4 rfl i4
  have y4 : Lo k0 (obF (b.get 4)) := by rw [p.old 4 rfl]; exact n4
  have e25 : b.get 25 = a.get 4 := (p.ou 0 25 rfl).1
  have j25 : IsOwn 0 3 s2.1 (b.get 25) q := (p.ou 0 25 rfl).2
  have y25 : Lo k0 (obF (b.get 25)) := by rw [e25]; exact n4
  have hns := j25.nshF
  have eS : b.get 4 = b.get 25 := (p.old 4 rfl).trans e25.symm
  refine tail_call (F := obF (b.get 25)) (i := 1) (d := 26) rfl rfl rfl rfl (by rw [hsb]; decide) Tryd.call38 W9 (sortInts_ok j25 hx5) fun b2 q2 hsz hdf hoth hch hres => ?_
  have hle := hch.le hns
  replace j3 := Pers.pers hle j3
  replace hgq := hgq.step hch y25.wr
  replace j4 : IsOwn 0 3 x5 (b.get 4) q2 := by rw [eS]; exact hres
  clear hres eS
  rw [← hoth 3 (by decide)] at j3
  rw [← hoth 4 (by decide)] at j4
  rw [← hoth 4 (by decide)] at y4
  replace hsb := hsz.trans hsb
  replace hdb := hdf.trans hdb
  clear hle hch hns hsz hdf hoth
  obtain ⟨b, hbb⟩ : ∃ b, b = b2 := ⟨b2, rfl⟩
  subst hbb
  obtain ⟨q, hqq⟩ : ∃ q, q = q2 := ⟨q2, rfl⟩
  subst hqq
  exact tail_done (k := q) (w8 _ _ ⟨⟨hgq, hsb, hdb⟩, j3, j4, y4, trivial⟩)
 rintro a k ⟨⟨hg, hs, hd⟩, i3, i4, n4, _⟩
 refine wp_seq ?_
 obtain ⟨x7, hx7, hr⟩ := bind_some hr
 refine cut (fun a' k' => Bs noF k0 56 a' k' ∧ (IsV x1) (a'.get 3) k' ∧ IsOwn 0 3 x7 (a'.get 4) k' ∧ Lo k0 (obF (a'.get 4)) ∧ True) ?_ hQ ?_
 ·intro Q10 W10 w9
  refine gS 1 (⟨some (OwnAt (a.get 4) 0 3 x5), [(4, none)]⟩ :: []) hs (by kernel_rfl) ⟨ob1 rfl fun _ _ h n => ok_moveOA (.inl rfl) (ownAt n.1 (up i4 h n.1)), trivial⟩ W10 fun b q p => ?_
  have hgq := hg.then p.grow
  have hsb := p.size.trans hs
  have hdb := p.defers.trans hd
  have j3 := p.ke 3 rfl i3
  have e27 : b.get 27 = a.get 4 := (p.ou 0 27 rfl).1
  have j27 : IsOwn 0 3 x5 (b.get 27) q := (p.ou 0 27 rfl).2
  have y27 : Lo k0 (obF (b.get 27)) := by rw [e27]; exact n4
  have hns := j27.nshF
  refine tail_call (F := obF (b.get 27)) (i := 1) (d := 28) rfl rfl rfl rfl (by rw [hsb]; decide) Tryd.call39 W10 (compactInts_ok j27 hx7) fun b2 q2 hsz hdf hoth hch hres => ?_
  have hle := hch.le hns
  obtain ⟨hown, hob⟩ := hres
  have yn : Lo k0 (obF (b2.get 28)) := y27.app hgq hob
  replace j3 := Pers.pers hle j3
  replace hgq := hgq.step hch y27.wr
  rw [← hoth 3 (by decide)] at j3
  have j28 := hown
  have y28 := yn
  have hres := True.intro
  clear hown hob yn
  replace hsb := hsz.trans hsb
  replace hdb := hdf.trans hdb
  clear hle hch hres hns hsz hdf hoth
  obtain ⟨b, hbb⟩ : ∃ b, b = b2 := ⟨b2, rfl⟩
  subst hbb
  obtain ⟨q, hqq⟩ : ∃ q, q = q2 := ⟨q2, rfl⟩
  subst hqq
  refine tail_assign (i := 2) (d := 4) rfl rfl (.inl rfl) rfl (by rw [hsb]; decide) fun b2 hsz hdf hnew hoth => ?_
  have jn : (IsOwn 0 3 x7) (b2.get 4) q := by rw [hnew]; exact j28
  have yn : Lo k0 (obF (b2.get 4)) := by rw [hnew]; exact y28
  rw [← hoth 3 (by decide)] at j3
  have j4 := jn
  have y4 := yn
  replace hsb := hsz.trans hsb
  replace hdb := hdf.trans hdb
  clear hsz hdf hoth
  obtain ⟨b, hbb⟩ : ∃ b, b = b2 := ⟨b2, rfl⟩
  subst hbb
  exact tail_done (k := q) (w9 _ _ ⟨⟨hgq, hsb, hdb⟩, j3, j4, y4, trivial⟩)
 rintro a k ⟨⟨hg, hs, hd⟩, i3, i4, n4, _⟩
 refine wp_seq ?_
 obtain ⟨kk, sh298, ii4⟩ := i4.give
 replace i3 := Pers.pers sh298.le i3
 replace i4 := ii4
 replace hg := hg.hand sh298 n4.wr
 rw [← sh298.w]
 clear sh298
 obtain ⟨k, hkk⟩ : ∃ k, k = kk := ⟨kk, rfl⟩
 subst hkk
 refine cut (fun a' k' => Bs noF k0 56 a' k' ∧ (IsV x1) (a'.get 3) k' ∧ (IsV x7) (a'.get 4) k' ∧ IsOwn 0 87 ([] : List RegionStrip) (a'.get 7) k' ∧ Lo k0 (obF (a'.get 7)) ∧ True) ?_ hQ ?_
 ·intro Q11 W11 w10
  refine gS 1 (⟨some IsE0, []⟩ :: []) hs (by kernel_rfl) ⟨ob1 rfl fun b q h n => ok_assign rfl isE0_nil, trivial⟩ W11 fun b q p => ?_
  have hgq := hg.then p.grow
  have hsb := p.size.trans hs
  have hdb := p.defers.trans hd
  have j3 := p.ke 3 rfl i3
  have j4 := p.ke 4 rfl i4
  have j7 : IsE0 (b.get 7) q := p.ou 0 7 rfl
  have y7 : Lo k0 (obF (b.get 7)) := j7.lo
  replace j7 : IsOwn 0 87 ([] : List RegionStrip) (b.get 7) q := j7.own0
  exact tail_done (k := q) (w10 _ _ ⟨⟨hgq, hsb, hdb⟩, j3, j4, j7, y7, trivial⟩)
 rintro a k ⟨⟨hg, hs, hd⟩, i3, i4, i7, n7, _⟩
 refine wp_seq ?_
 refine cutS (fun c l => Bs noF k0 56 c l ∧ IsV x1 (c.get 3) l ∧ IsV x7 (c.get 4) l ∧ IsOwn 0 87 ([] : List RegionStrip) (c.get 7) l ∧ Lo k0 (obF (c.get 7)) ∧ IsI 1 (c.get 8) l ∧ True) ?_ ?_
 ·intro Q12 W12 w11
  refine gS 1 (⟨some (IsI 1), []⟩ :: []) hs (by kernel_rfl) ⟨aI rfl rfl, trivial⟩ W12 fun b q p => ?_
  exact tail_done (k := q) (w11 _ _ ⟨Bs.post ⟨hg, hs, hd⟩ p, p.ke 3 rfl i3, p.ke 4 rfl i4, p.ke 7 rfl i7, (by rw [p.old 7 rfl]; exact n7), p.ou 0 8 rfl, trivial⟩)
 rintro a k ⟨⟨hg, hs, hd⟩, i3, i4, i7, n7, i8, _⟩
 refine wp_block ?_
 obtain ⟨f2, hf2, hr⟩ := bind_some hr
 refine cutFe f2 (fun s' c l => Bs noF k0 56 c l ∧ IsV x1 (c.get 3) l ∧ IsV x7 (c.get 4) l ∧ IsOwn 0 87 s'.1 (c.get 7) l ∧ Lo k0 (obF (c.get 7)) ∧ IsV s'.2 (c.get 8) l ∧ True) (fun i' s' c l => (i' = 2 ∧ Bs noF k0 56 c l ∧ IsOwn 0 87 s'.1 (c.get 7) l ∧ Lo k0 (obF (c.get 7)) ∧ True)) (fun r' c l => bodyPost Tryd.prog Tryd.f42 (RetC noF k0 (IsOwn k0.w.heap.size 87 r')) .ret c l.w) ?_ hQ ?_ ?_ ?_
 ·intro Q13 W13 hgo hex hret
  refine sim_loop ?_ _ _ _ _ _ hf2 ⟨⟨hg, hs, hd⟩, i3, i4, i7, n7, i8, trivial⟩ Q13 W13 hgo hex hret
  clear hr hf2 hgo hex hret W13 hQ hg hs hd i3 i4 i7 i8 n7
  intro s3 fl_ a k hr hS Q hQ hgo302 hex303 hret304
  obtain ⟨⟨hg, hs, hd⟩, i3, i4, i7, n7, i8, _⟩ := hS
  unfold region_strips_L1 at hr
  refine wp_seq ?_
  refine cutS (fun c l => Bs noF k0 56 c l ∧ IsV x1 (c.get 3) l ∧ IsV x7 (c.get 4) l ∧ IsOwn 0 87 s3.1 (c.get 7) l ∧ Lo k0 (obF (c.get 7)) ∧ IsV s3.2 (c.get 8) l ∧ (IsV (decide (s3.2 < (x7.length : Int)))) (c.get 32) l ∧ True) ?_ ?_
  ·intro Q14 W14 w12
   refine gS 4 (_ :: _ :: _ :: _ :: []) hs (by kernel_rfl) ⟨mu rfl i8, mu rfl i4, o1 [(30, some 1)] rfl fun _ _ h n => ok_len rfl rfl Tryd.underlying40 (IsV.rd n.1), o1 [(29, some 0), (31, some 2)] rfl fun _ _ h n => ok_lss rfl n.1 n.2.1, trivial⟩ W14 fun b q p => ?_
   exact tail_done (k := q) (w12 _ _ ⟨Bs.post ⟨hg, hs, hd⟩ p, p.ke 3 rfl i3, p.ke 4 rfl i4, p.ke 7 rfl i7, (by rw [p.old 7 rfl]; exact n7), p.ke 8 rfl i8, p.ou 3 32 rfl, trivial⟩)
  rintro a k ⟨⟨hg, hs, hd⟩, i3, i4, i7, n7, i8, i32, _⟩
  refine wp_cond_split (isBool i32) (fun hc312 => ?_) (fun hc312 => ?_)
  ·rw [if_pos hc312] at hr
   refine wp_skip ?_
   refine wp_seq ?_
   refine wp_block ?_
   obtain ⟨x8, hx8, hr⟩ := bind_some hr
   obtain ⟨x9, hx9, hr⟩ := bind_some hr
   obtain ⟨x10, hx10, hr⟩ := bind_some hr
   obtain ⟨x11, hx11, hr⟩ := bind_some hr
   obtain ⟨x12, hx12, hr⟩ := bind_some hr
   obtain ⟨x13, hx13, hr⟩ := bind_some hr
   obtain ⟨x14, hx14, hr⟩ := bind_some hr
   refine cut (fun a' k' => Bs noF k0 56 a' k' ∧ (IsV x1) (a'.get 3) k' ∧ (IsV x7) (a'.get 4) k' ∧ IsOwn 0 87 x14 (a'.get 7) k' ∧ Lo k0 (obF (a'.get 7)) ∧ (IsV s3.2) (a'.get 8) k' ∧ True) ?_ hQ ?_
   ·intro Q15 W15 w13
    refine region (m := 19) (⟨some (OwnAt (a.get 7) 0 87 s3.1), [(7, none)]⟩ :: _ :: _ :: _ :: _ :: _ :: _ :: _ :: _ :: _ :: _ :: _ :: _ :: _ :: _ :: _ :: _ :: ⟨some (IsV (⟨x9, x10, x13⟩ : RegionStrip)), [(40, some 5), (44, some 9), (51, some 16)]⟩ :: ⟨some (IsV (α := (List RegionStrip)) ([(⟨x9, x10, x13⟩ : RegionStrip)])), [(52, some 17)]⟩ :: []) hmix hs (by kernel_rfl) ⟨ob1 rfl fun _ _ h n => ok_moveOA (.inl rfl) (ownAt n.1 (up i7 h n.1)), mu rfl i4, mu rfl i8, o1 [(37, some 2)] rfl fun _ _ h n => ok_sub rfl n.1 (cI rfl) hx8, o1 [(36, some 1), (38, some 3)] rfl fun _ _ h n => ok_indexAddr rfl Tryd.underlying40 ty3 (IsV.rd n.1) n.2.1 hx9, o1 [(39, some 4)] rfl fun _ _ h n => ok_load rfl ty3 n.1, mu rfl i4, mu rfl i8, o1 [(41, some 6), (42, some 7)] rfl fun _ _ h n => ok_indexAddr rfl Tryd.underlying40 ty3 (IsV.rd n.1) n.2.1 hx10, o1 [(43, some 8)] rfl fun _ _ h n => ok_load rfl ty3 n.1, mu rfl i3, mu rfl i4, mu rfl i8, o1 [(47, some 12)] rfl fun _ _ h n => ok_sub rfl n.1 (cI rfl) hx11, o1 [(46, some 11), (48, some 13)] rfl fun _ _ h n => ok_indexAddr rfl Tryd.underlying40 ty3 (IsV.rd n.1) n.2.1 hx12, o1 [(49, some 14)] rfl fun _ _ h n => ok_load rfl ty3 n.1, o1 [(45, some 10), (50, some 15)] rfl fun _ _ h n => ok_call rfl Tryd.call56 (region_column_ok n.1 n.2.1 hx13), ob1 rfl fun _ _ h n => ok_build rfl (bld87_0_1_2 n.1 n.2.1 n.2.2.1), ob1 rfl fun _ _ h n => ok_buildSlice rfl Tryd.underlying79 eo87 rfl (by decide) (by decide) ⟨rfl, n.1, trivial⟩, trivial⟩ W15 fun b q p => ?_
    have hgq := hg.then p.grow
    have hsb := p.size.trans hs
    have hdb := p.defers.trans hd
    have j3 := p.ke 3 rfl i3
    have j4 := p.ke 4 rfl i4
    have j8 := p.ke 8 rfl i8
    have e35 : b.get 35 = a.get 7 := (p.ou 0 35 rfl).1
    have j35 : IsOwn 0 87 s3.1 (b.get 35) q := (p.ou 0 35 rfl).2
    have y35 : Lo k0 (obF (b.get 35)) := by rw [e35]; exact n7
    have j53 : (IsV (α := (List RegionStrip)) ([(⟨x9, x10, x13⟩ : RegionStrip)])) (b.get 53) q := p.ou 18 53 rfl
    have hns := j35.nshF
    refine tail_appendS (i := 19) (d := 54) rfl rfl rfl rfl (by rw [hsb]; decide) (e := 87) Tryd.underlying79 eo87 j35 (IsV.rd j53) hx14 fun b2 q2 hsz hdf hoth hch hown hob => ?_
    have hle := hch.le hns
    have yn : Lo k0 (obF (b2.get 54)) := y35.app hgq hob
    replace j3 := Pers.pers hle j3
    replace j4 := Pers.pers hle j4
    replace j8 := Pers.pers hle j8
    replace j53 := Pers.pers hle j53
    replace hgq := hgq.step hch y35.wr
    rw [← hoth 3 (by decide)] at j3
    rw [← hoth 4 (by decide)] at j4
    rw [← hoth 8 (by decide)] at j8
    rw [← hoth 53 (by decide)] at j53
    have j54 := hown
    have y54 := yn
    replace hsb := hsz.trans hsb
    replace hdb := hdf.trans hdb
    clear hle hch hown hob hns yn hsz hdf hoth
    obtain ⟨b, hbb⟩ : ∃ b, b = b2 := ⟨b2, rfl⟩
    subst hbb
    obtain ⟨q, hqq⟩ : ∃ q, q = q2 := ⟨q2, rfl⟩
    subst hqq
    refine tail_assign (i := 20) (d := 7) rfl rfl (.inl rfl) rfl (by rw [hsb]; decide) fun b2 hsz hdf hnew hoth => ?_
    have jn : (IsOwn 0 87 x14) (b2.get 7) q := by rw [hnew]; exact j54
    have yn : Lo k0 (obF (b2.get 7)) := by rw [hnew]; exact y54
    rw [← hoth 3 (by decide)] at j3
    rw [← hoth 4 (by decide)] at j4
    rw [← hoth 8 (by decide)] at j8
    rw [← hoth 53 (by decide)] at j53
    have j7 := jn
    have y7 := yn
    replace hsb := hsz.trans hsb
    replace hdb := hdf.trans hdb
    clear hsz hdf hoth
    obtain ⟨b, hbb⟩ : ∃ b, b = b2 := ⟨b2, rfl⟩
    subst hbb
    exact tail_done (k := q) (w13 _ _ ⟨⟨hgq, hsb, hdb⟩, j3, j4, j7, y7, j8, trivial⟩)
   rintro a k ⟨⟨hg, hs, hd⟩, i3, i4, i7, n7, i8, _⟩
   obtain ⟨x15, hx15, hr⟩ := bind_some hr
   refine cut (fun a' k' => Bs noF k0 56 a' k' ∧ (IsV x1) (a'.get 3) k' ∧ (IsV x7) (a'.get 4) k' ∧ IsOwn 0 87 x14 (a'.get 7) k' ∧ Lo k0 (obF (a'.get 7)) ∧ (IsV x15) (a'.get 8) k' ∧ True) ?_ hQ ?_
   ·intro Q16 W16 w14
    refine gS 3 (_ :: _ :: _ :: []) hs (by kernel_rfl) ⟨mu rfl i8, o1 [(33, some 0)] rfl fun _ _ h n => ok_add rfl n.1 (cI rfl) hx15, cp 1 rfl rfl, trivial⟩ W16 fun b q p => ?_
    exact tail_done (k := q) (w14 _ _ ⟨Bs.post ⟨hg, hs, hd⟩ p, p.ke 3 rfl i3, p.ke 4 rfl i4, p.ke 7 rfl i7, (by rw [p.old 7 rfl]; exact n7), p.ou 2 8 rfl, trivial⟩)
   rintro a k ⟨⟨hg, hs, hd⟩, i3, i4, i7, n7, i8, _⟩
   exact hgo302 _ _ _ (Option.some.inj hr).symm ⟨⟨hg, hs, hd⟩, i3, i4, i7, n7, i8, trivial⟩
  rw [if_neg (by rw [hc312]; decide)] at hr
  refine wp_exit ?_
  exact hex303 _ _ _ _ (Option.some.inj hr).symm ⟨rfl, ⟨hg, hs, hd⟩, i7, n7, trivial⟩
 ·rintro r2 a k rfl hR
  dsimp only at hr
  obtain rfl := Option.some.inj hr
  exact hR
 ·rintro _ _ _ rfl _
  simp at hr
 clear hf2
 rintro _ s4 a k rfl ⟨rfl, ⟨hg, hs, hd⟩, i7, n7, _⟩
 dsimp only at hr
 refine cutS (fun c l => Bs noF k0 56 c l ∧ IsOwn 0 87 s4.1 (c.get 2) l ∧ Lo k0 (obF (c.get 2)) ∧ True) ?_ ?_
 ·intro Q17 W17 w15
  refine gS 2 (⟨some (OwnAt (a.get 7) 0 87 s4.1), [(7, none)]⟩ :: ⟨some (OwnAt (a.get 7) 0 87 s4.1), [(55, some 0)]⟩ :: []) hs (by kernel_rfl) ⟨ob1 rfl fun _ _ h n => ok_moveOA (.inl rfl) (ownAt n.1 (up i7 h n.1)), ob1 rfl fun _ _ h n => ok_moveOA (.inr rfl) n.1, trivial⟩ W17 fun b q p => ?_
  have hgq := hg.then p.grow
  have hsb := p.size.trans hs
  have hdb := p.defers.trans hd
  have e2 : b.get 2 = a.get 7 := (p.ou 1 2 rfl).1
  have j2 : IsOwn 0 87 s4.1 (b.get 2) q := (p.ou 1 2 rfl).2
  have y2 : Lo k0 (obF (b.get 2)) := by rw [e2]; exact n7
  exact tail_done (k := q) (w15 _ _ ⟨⟨hgq, hsb, hdb⟩, j2, y2, trivial⟩)
 rintro a k ⟨⟨hg, hs, hd⟩, i2, n2, _⟩
 refine wp_ret ?_
 obtain rfl := Option.some.inj hr
 exact retC1 rfl hd hg (show ResOk _ _ _ (.tmp 2) _ from IsOwn.raise (k0 := k0) i2 n2)
theorem region_strips_ok {k0 : K} {v0 : Value} {lists_ : (List (List Rect))} {r : (List RegionStrip)} (i0 : (IsV lists_) v0 k0) (hr : region_strips lists_ = some r) :
  Calls Tryd.prog 42 #[v0] k0.w (Ret k0 (IsV r)) :=
 ret_give (region_strips_okO i0 hr)
noncomputable def k42 := mkO 42 [.list (.list (.st 0))] [.list (.st 2)] (fun x => region_strips x) Tryd.call42 fun k0 vs x r _ h hr => by obtain ⟨v0, rfl, i0⟩ := h.one; exact region_strips_ok i0 hr
def slices_Equal_span_L0 (s1_ : (List RegionSpan)) (s2_ : (List RegionSpan)) (s1 : Int) : Option (Flow (Int) (Bool)) :=
 if (decide (s1 < (s1_.length : Int))) then
  (getI s1_ s1).bind fun x1 =>
  (getI s2_ s1).bind fun x2 =>
  if (!decide (x1 = x2)) then
   some (.ret false)
  else
   (addI s1 1).bind fun x3 =>
   some (.go x3)
 else
  some (.ex 0 s1)
def slices_Equal_span (s1_ : (List RegionSpan)) (s2_ : (List RegionSpan)) : Option (Bool) :=
 if ((s1_.length : Int) != (s2_.length : Int)) then
  some false
 else
  (iterL (slices_Equal_span_L0 s1_ s2_) (s1_.length + 1) 0).bind fun f1 => match f1 with
   | .go _ => none
   | .ex _ _ =>
    some true
   | .ret r1 => some r1
noncomputable def k54 := mk 54 [.list (.st 1), .list (.st 1)] [.bool] (fun x => slices_Equal_span x.1 x.2) [] [] Tryd.f54 (.s .n (.s .n (.s (.s .n (.l [] [(13, .v .int)] [(0, [13], [])] (fI 12) .n)) .n))) Tryd.func54 Tryd.call54 rfl rfl fun x => by kernel_rfl
def region_write_L1 (l_ : (List RegionStrip)) (s1 : (List Rect) × Int) (s2 : Int) : Option (Flow (Int) ((List Rect))) :=
 (if (decide (s2 < (l_.length : Int))) then
  (getI l_ s2).bind fun x1 =>
  (getI l_ s1.2).bind fun x2 =>
  (slices_Equal_span x1.column x2.column).bind fun x3 =>
  some x3
 else
  some false).bind fun x4 =>
 if x4 then
  (addI s2 1).bind fun x5 =>
  some (.go x5)
 else
  some (.ex 2 s2)
def region_write_L2 (l_ : (List RegionStrip)) (s1 : (List Rect) × Int) (s2 : Int) (x2 : RegionStrip) (s3 : (List Rect) × Int) : Option (Flow ((List Rect) × Int) ((List Rect))) :=
 if (decide (s3.2 < (x2.column.length : Int))) then
  (getI x2.column s3.2).bind fun x3 =>
  (getI l_ s1.2).bind fun x4 =>
  (subI s2 1).bind fun x5 =>
  (getI l_ x5).bind fun x6 =>
  (appI s3.1 ([(⟨x4.x0, x3.from_, x6.x1, x3.to_⟩ : Rect)])).bind fun x7 =>
  (addI s3.2 1).bind fun x8 =>
  some (.go (x7, x8))
 else
  some (.ex 4 (s3.1, s3.2))
def region_write_L0 (l_ : (List RegionStrip)) (s1 : (List Rect) × Int) : Option (Flow ((List Rect) × Int) ((List Rect))) :=
 if (decide (s1.2 < (l_.length : Int))) then
  (addI s1.2 1).bind fun x1 =>
  (iterL (region_write_L1 l_ s1) (l_.length + s1.1.length + 1) x1).bind fun f1 => match f1 with
   | .go _ => none
   | .ex _ s2 =>
    (getI l_ s1.2).bind fun x2 =>
    (iterL (region_write_L2 l_ s1 s2 x2) (x2.column.length + 1) (s1.1, 0)).bind fun f2 => match f2 with
     | .go _ => none
     | .ex _ s3 =>
      some (.go (s3.1, s2))
     | .ret r1 => some (.ret r1)
   | .ret r2 => some (.ret r2)
 else
  some (.ex 0 (s1.1, s1.2))
def region_write (l_ : (List RegionStrip)) : Option ((List Rect)) :=
 (iterL (region_write_L0 l_) (l_.length + ([] : List Rect).length + 1) (([] : List Rect), 0)).bind fun f1 => match f1 with
  | .go _ => none
  | .ex _ s1 =>
   some s1.1
  | .ret r1 => some r1
noncomputable def k41 := mk 41 [.list (.st 2)] [.list (.st 0)] (fun x => region_write x) [k54] [3, 43, 61] Tryd.f41 (.s .n (.s .n (.s (.s .n (.l [] [(3, .o 23 (.st 0)), (4, .v .int)] [(0, [4], [])] (fL [0, 3]) (.s .n (.s .n (.s (.l [] [(5, .v .int)] [(2, [], [])] (fL [0, 3]) .n) (.s (.s .n (.l [] [(3, .o 23 (.st 0)), (39, .v .int)] [(4, [39], [])] (fI 38) .n)) .n)))))) (.s (.f [3] .n) .n)))) Tryd.func41 Tryd.call41 rfl rfl fun x => by kernel_rfl
theorem region_write_ok {k0 : K} {v0 : Value} {x0 : (List RegionStrip)} {r : (List Rect)} (i0 : IsV x0 v0 k0) (hr : region_write x0 = some r) : Calls Tryd.prog 41 #[v0] k0.w (Ret k0 (IsV r)) := (k41.ok.ok k0 [v0] x0 r (GOk.none fun _ => rfl) i0 hr)
def region_limited (l_ : (List Rect)) : Option ((List Rect) × Int) :=
 if (decide (200 < (l_.length : Int))) then
  some (([] : List Rect), 6)
 else
  some (l_, 0)
noncomputable def k40 := mk 40 [.list (.st 0)] [.list (.st 0), .int] (fun x => region_limited x) [] [] Tryd.f40 (.n) Tryd.func40 Tryd.call40 rfl rfl fun x => by kernel_rfl
theorem region_limited_ok {k0 : K} {v0 : Value} {x0 : (List Rect)} {r : (List Rect) × Int} (i0 : IsV x0 v0 k0) (hr : region_limited x0 = some r) : Calls Tryd.prog 40 #[v0] k0.w (Ret k0 (IsTup2 (IsV r.1) (IsV r.2))) := ret2T (T := tb) (k40.ok.ok k0 [v0] x0 r (GOk.none fun _ => rfl) i0 hr)
def region_Of_L0 (l_ : (List Rect)) (s1 : Int) : Option (Flow (Int) ((List Rect) × Int)) :=
 if (decide (s1 < (l_.length : Int))) then
  (getI l_ s1).bind fun x1 =>
  (rect_Right x1).bind fun x2 =>
  if (!x2) then
   some (.ret (([] : List Rect), 1))
  else
   (addI s1 1).bind fun x3 =>
   some (.go x3)
 else
  some (.ex 0 s1)
def region_Of (l_ : (List Rect)) : Option ((List Rect) × Int) :=
 (iterL (region_Of_L0 l_) (l_.length + 1) 0).bind fun f1 => match f1 with
  | .go _ => none
  | .ex _ _ =>
   if (decide (400 < (l_.length : Int))) then
    some (([] : List Rect), 6)
   else
    (region_strips ([l_])).bind fun x1 =>
    (region_write x1).bind fun x2 =>
    (region_limited x2).bind fun x3 =>
    some (x3.1, x3.2)
  | .ret r1 => some r1
noncomputable def k18 := mk 18 [.list (.st 0)] [.list (.st 0), .int] (fun x => region_Of x) [k16, k42, k41, k40] [] Tryd.f18 (.s .n (.s (.s .n (.l [] [(8, .v .int)] [(0, [8], [])] (fI 7) .n)) .n)) Tryd.func18 Tryd.call18 rfl rfl fun x => by kernel_rfl
theorem region_Of_ok {k0 : K} {v0 : Value} {x0 : (List Rect)} {r : (List Rect) × Int} (i0 : IsV x0 v0 k0) (hr : region_Of x0 = some r) : Calls Tryd.prog 18 #[v0] k0.w (Ret k0 (IsTup2 (IsV r.1) (IsV r.2))) := ret2T (T := tb) (k18.ok.ok k0 [v0] x0 r (GOk.none fun _ => rfl) i0 hr)
def slices_Equal_Rect_L0 (s1_ : (List Rect)) (s2_ : (List Rect)) (s1 : Int) : Option (Flow (Int) (Bool)) :=
 if (decide (s1 < (s1_.length : Int))) then
  (getI s1_ s1).bind fun x1 =>
  (getI s2_ s1).bind fun x2 =>
  if (!decide (x1 = x2)) then
   some (.ret false)
  else
   (addI s1 1).bind fun x3 =>
   some (.go x3)
 else
  some (.ex 0 s1)
def slices_Equal_Rect (s1_ : (List Rect)) (s2_ : (List Rect)) : Option (Bool) :=
 if ((s1_.length : Int) != (s2_.length : Int)) then
  some false
 else
  (iterL (slices_Equal_Rect_L0 s1_ s2_) (s1_.length + 1) 0).bind fun f1 => match f1 with
   | .go _ => none
   | .ex _ _ =>
    some true
   | .ret r1 => some r1
noncomputable def k33 := mk 33 [.list (.st 0), .list (.st 0)] [.bool] (fun x => slices_Equal_Rect x.1 x.2) [] [] Tryd.f33 (.s .n (.s .n (.s (.s .n (.l [] [(13, .v .int)] [(0, [13], [])] (fI 12) .n)) .n))) Tryd.func33 Tryd.call33 rfl rfl fun x => by kernel_rfl
def region_Same (a_ : (List Rect)) (b_ : (List Rect)) : Option (Bool) :=
 (slices_Equal_Rect a_ b_).bind fun x1 =>
 some x1
noncomputable def k43 := mk 43 [.list (.st 0), .list (.st 0)] [.bool] (fun x => region_Same x.1 x.2) [k33] [] Tryd.f43 (.n) Tryd.func43 Tryd.call43 rfl rfl fun x => by kernel_rfl
theorem region_Same_ok {k0 : K} {v0 v1 : Value} {x0 : (List Rect)} {x1 : (List Rect)} {r : Bool} (i0 : IsV x0 v0 k0) (i1 : IsV x1 v1 k0) (hr : region_Same x0 x1 = some r) : Calls Tryd.prog 43 #[v0, v1] k0.w (Ret k0 (IsV r)) := (k43.ok.ok k0 [v0, v1] (x0, x1) r (GOk.none fun _ => rfl) ⟨i0, i1⟩ hr)
def solid_put (out_ : (List Slab)) (x_ : Slab) : Option ((List Slab)) :=
 if ((x_.Area.length : Int) == 0) then
  some out_
 else
  (subI (out_.length : Int) 1).bind fun x1 =>
  (if (decide (0 ≤ x1)) then
   (getI out_ x1).bind fun x2 =>
   some (x2.Z1 == x_.Z0)
  else
   some false).bind fun x3 =>
  (if x3 then
   (getI out_ x1).bind fun x4 =>
   (region_Same x4.Area x_.Area).bind fun x5 =>
   some x5
  else
   some false).bind fun x6 =>
  if x6 then
   (getI out_ x1).bind fun x7 =>
   (some (out_.set (x1).toNat ({ x7 with Z1 := x_.Z1 }))).bind fun x8 =>
   some x8
  else
   (appI out_ ([x_])).bind fun x9 =>
   some x9
theorem solid_put_ok {k0 : K} {v0 v1 : Value} {out_ : (List Slab)} {x_ : Slab} {r : (List Slab)} (i0 : (IsOwn 0 54 out_) v0 k0) (i1 : (IsV x_) v1 k0) (hr : solid_put out_ x_ = some r) :
  Calls Tryd.prog 19 #[v0, v1] k0.w (RetC (obF v0) k0 (IsOwnW v0 k0 54 r)) := by
 unfold solid_put at hr
 refine enterK Tryd.func19 rfl Tryd.ntmps19 (show 2 ≤ 47 by decide) fun a k hk0 hs hd ha => ?_
 obtain ⟨e0, e1, _⟩ := ha
 replace i0 : (IsOwn 0 54 out_) (a.get 0) k := by rw [e0, hk0]; exact i0
 replace i1 : (IsV x_) (a.get 1) k := by rw [e1, hk0]; exact i1
 have n0 : Wr (obF v0) k0 (obF (a.get 0)) := fun b h => .inl (by rwa [e0] at h)
 have hQ : Gb.LetsOut (bodyPost Tryd.prog Tryd.f19 (RetC (obF v0) k0 (IsOwnW v0 k0 54 r))) := letsOutC
 have hg : Chg (obF v0) k0 k := by rw [hk0]; exact Chg.refl _ k0
 refine cutS (fun c l => Bs (obF v0) k0 47 c l ∧ IsOwn 0 54 out_ (c.get 0) l ∧ Wr (obF v0) k0 (obF (c.get 0)) ∧ IsRef x_ (c.get 3) l ∧ True) ?_ ?_
 ·intro Q1 W1 w1
  refine gS 2 (⟨some (IsRef x_), [(1, none)]⟩ :: ⟨some IsE0, []⟩ :: []) hs (by kernel_rfl) ⟨ob1 rfl fun _ _ h n => ok_boxR rfl (up i1 h n.1), ob1 rfl fun b q h n => ok_assign rfl isE0_nil, trivial⟩ W1 fun b q p => ?_
  exact tail_done (k := q) (w1 _ _ ⟨Bs.post ⟨hg, hs, hd⟩ p, p.ke 0 rfl i0, (by rw [p.old 0 rfl]; exact n0), p.ou 0 3 rfl, trivial⟩)
 rintro a k ⟨⟨hg, hs, hd⟩, i0, n0, i3, _⟩
 refine wp_seq ?_
 refine cutS (fun c l => Bs (obF v0) k0 47 c l ∧ IsOwn 0 54 out_ (c.get 0) l ∧ Wr (obF v0) k0 (obF (c.get 0)) ∧ IsRef x_ (c.get 3) l ∧ IsV ((x_.Area.length : Int) == 0) (c.get 9) l ∧ True) ?_ ?_
 ·intro Q2 W2 w2
  refine gS 4 (_ :: _ :: _ :: _ :: []) hs (by kernel_rfl) ⟨o1 [(3, none)] rfl fun _ _ h n => ok_fieldAddr rfl fo54_2 (at_Slab_2 _) ((up i3 h n.1)).ptr, o1 [(6, some 0)] rfl fun _ _ h n => ok_load rfl ty45 n.1, o1 [(7, some 1)] rfl fun _ _ h n => ok_len rfl rfl Tryd.underlying45 (IsV.rd n.1), o1 [(8, some 2)] rfl fun _ _ h n => ok_eqI rfl n.1 (cI rfl), trivial⟩ W2 fun b q p => ?_
  exact tail_done (k := q) (w2 _ _ ⟨Bs.post ⟨hg, hs, hd⟩ p, p.ke 0 rfl i0, (by rw [p.old 0 rfl]; exact n0), p.ke 3 rfl i3, p.ou 3 9 rfl, trivial⟩)
 rintro a k ⟨⟨hg, hs, hd⟩, i0, n0, i3, i9, _⟩
 refine wp_cond_split (isBool i9) (fun hc573 => ?_) (fun hc573 => ?_)
 ·rw [if_pos hc573] at hr
  refine cutS (fun c l => Bs (obF v0) k0 47 c l ∧ IsOwn 0 54 out_ (c.get 4) l ∧ Wr (obF v0) k0 (obF (c.get 4)) ∧ True) ?_ ?_
  ·intro Q3 W3 w3
   refine gS 2 (⟨some (OwnAt (a.get 0) 0 54 out_), [(0, none)]⟩ :: ⟨some (OwnAt (a.get 0) 0 54 out_), [(10, some 0)]⟩ :: []) hs (by kernel_rfl) ⟨ob1 rfl fun _ _ h n => ok_moveOA (.inl rfl) (ownAt n.1 (up i0 h n.1)), ob1 rfl fun _ _ h n => ok_moveOA (.inr rfl) n.1, trivial⟩ W3 fun b q p => ?_
   have hgq := hg.then p.grow
   have hsb := p.size.trans hs
   have hdb := p.defers.trans hd
   have e4 : b.get 4 = a.get 0 := (p.ou 1 4 rfl).1
   have j4 : IsOwn 0 54 out_ (b.get 4) q := (p.ou 1 4 rfl).2
   have y4 : Wr (obF v0) k0 (obF (b.get 4)) := by rw [e4]; exact n0
   exact tail_done (k := q) (w3 _ _ ⟨⟨hgq, hsb, hdb⟩, j4, y4, trivial⟩)
  rintro a k ⟨⟨hg, hs, hd⟩, i4, n4, _⟩
  refine wp_ret ?_
  obtain rfl := Option.some.inj hr
  exact retC1 rfl hd hg (show ResOk _ _ _ (.tmp 4) (IsOwnW _ _ _ _) from ⟨i4, n4⟩)
 rw [if_neg (by rw [hc573]; decide)] at hr
 refine wp_skip ?_
 refine wp_seq ?_
 refine wp_seq ?_
 obtain ⟨x1, hx1, hr⟩ := bind_some hr
 refine cut (fun a' k' => Bs (obF v0) k0 47 a' k' ∧ IsOwn 0 54 out_ (a'.get 0) k' ∧ Wr (obF v0) k0 (obF (a'.get 0)) ∧ (IsRef x_) (a'.get 3) k' ∧ (IsV x1) (a'.get 5) k' ∧ True) ?_ hQ ?_
 ·intro Q4 W4 w4
  refine gS 4 (⟨some (OwnAt (a.get 0) 0 54 out_), [(0, none)]⟩ :: _ :: _ :: _ :: []) hs (by kernel_rfl) ⟨ob1 rfl fun _ _ h n => ok_moveOA (.inl rfl) (ownAt n.1 (up i0 h n.1)), o1 [(11, some 0)] rfl fun _ _ h n => ok_len rfl rfl Tryd.underlying26 (IsOwn.rd (n.1).2), o1 [(12, some 1)] rfl fun _ _ h n => ok_sub rfl n.1 (cI rfl) hx1, cp 2 rfl rfl, trivial⟩ W4 fun b q p => ?_
  exact tail_done (k := q) (w4 _ _ ⟨Bs.post ⟨hg, hs, hd⟩ p, p.ke 0 rfl i0, (by rw [p.old 0 rfl]; exact n0), p.ke 3 rfl i3, p.ou 3 5 rfl, trivial⟩)
 rintro a k ⟨⟨hg, hs, hd⟩, i0, n0, i3, i5, _⟩
 refine wp_seq ?_
 obtain ⟨x2, hx2, hr⟩ := bind_some hr
 obtain ⟨x3, hx3, hx2⟩ := ite_bind hx2
 obtain ⟨x4, hx4, hr⟩ := bind_some hr
 obtain ⟨x5, hx5, hx4⟩ := ite_bind hx4
 obtain ⟨x6, hx6, hx4⟩ := ite_bind hx4
 refine cut (fun a' k' => Bs (obF v0) k0 47 a' k' ∧ IsOwn 0 54 out_ (a'.get 0) k' ∧ Wr (obF v0) k0 (obF (a'.get 0)) ∧ (IsRef x_) (a'.get 3) k' ∧ (IsV x1) (a'.get 5) k' ∧ (IsV x4) (a'.get 35) k' ∧ True) ?_ hQ ?_
 ·intro Q5 W5 w5
  refine region (m := 22) (_ :: _ :: _ :: ⟨some (Gd ((decide (0 ≤ x1)) = true) (OwnAt (a.get 0) 0 54 out_)), [(0, none)]⟩ :: _ :: _ :: _ :: _ :: _ :: _ :: _ :: _ :: _ :: ⟨some (Gd (x2 = true) (OwnAt (a.get 0) 0 54 out_)), [(0, none)]⟩ :: _ :: _ :: _ :: _ :: _ :: _ :: _ :: _ :: []) hmix hs (by kernel_rfl) ⟨mu rfl i5, o1 [(14, some 0)] rfl fun _ _ h n => ok_geq rfl n.1 (cI rfl), cm 1 rfl rfl, gdT rfl rfl fun hp _ _ h n => ok_moveOA (.inl rfl) (ownAt n.1 (up i0 h n.1)), mT rfl rfl i5, gT [(17, some 3), (18, some 4)] rfl rfl fun hp _ _ h n => ok_indexAddr rfl Tryd.underlying26 ty54 (IsOwn.rd ((Gd.get n.1 hp)).2) (Gd.get n.2.1 hp) (hx3 hp), gT [(19, some 5)] rfl rfl fun hp _ _ h n => ok_fieldAddr rfl fo54_1 (at_Slab_1 _) (Gd.get n.1 hp), gT [(20, some 6)] rfl rfl fun hp _ _ h n => ok_load rfl ty3 (Gd.get n.1 hp), gT [(3, none)] rfl rfl fun hp _ _ h n => ok_fieldAddr rfl fo54_0 (at_Slab_0 _) ((up i3 h n.1)).ptr, gT [(22, some 8)] rfl rfl fun hp _ _ h n => ok_load rfl ty3 (Gd.get n.1 hp), gT [(21, some 7), (23, some 9)] rfl rfl fun hp _ _ h n => ok_eqI rfl (Gd.get n.1 hp) (Gd.get n.2.1 hp), o1 [(16, some 2), (24, some 10)] rfl fun _ _ h n => ok_pickM rfl n.1 hx2 (Gd.get n.2.1) (cB rfl), cm 11 rfl rfl, gdT rfl rfl fun hp _ _ h n => ok_moveOA (.inl rfl) (ownAt n.1 (up i0 h n.1)), mT rfl rfl i5, gT [(27, some 13), (28, some 14)] rfl rfl fun hp _ _ h n => ok_indexAddr rfl Tryd.underlying26 ty54 (IsOwn.rd ((Gd.get n.1 hp)).2) (Gd.get n.2.1 hp) (hx5 hp), gT [(29, some 15)] rfl rfl fun hp _ _ h n => ok_fieldAddr rfl fo54_2 (at_Slab_2 _) (Gd.get n.1 hp), gT [(30, some 16)] rfl rfl fun hp _ _ h n => ok_load rfl ty45 (Gd.get n.1 hp), gT [(3, none)] rfl rfl fun hp _ _ h n => ok_fieldAddr rfl fo54_2 (at_Slab_2 _) ((up i3 h n.1)).ptr, gT [(32, some 18)] rfl rfl fun hp _ _ h n => ok_load rfl ty45 (Gd.get n.1 hp), gT [(31, some 17), (33, some 19)] rfl rfl fun hp _ _ h n => ok_call rfl Tryd.call43 (region_Same_ok (Gd.get n.1 hp) (Gd.get n.2.1 hp) (hx6 hp)), o1 [(26, some 12), (34, some 20)] rfl fun _ _ h n => ok_pickM rfl n.1 hx4 (Gd.get n.2.1) (cB rfl), trivial⟩ W5 fun b q p => ?_
  exact tail_done (k := q) (w5 _ _ ⟨Bs.post ⟨hg, hs, hd⟩ p, p.ke 0 rfl i0, (by rw [p.old 0 rfl]; exact n0), p.ke 3 rfl i3, p.ke 5 rfl i5, p.ou 21 35 rfl, trivial⟩)
 rintro a k ⟨⟨hg, hs, hd⟩, i0, n0, i3, i5, i35, _⟩
 refine wp_cond_split (isBool i35) (fun hc568 => ?_) (fun hc568 => ?_)
 ·rw [if_pos hc568] at hr
  refine wp_seq ?_
  obtain ⟨x7, hx7, hr⟩ := bind_some hr
  obtain ⟨x8, hx8, hr⟩ := bind_some hr
  refine cut (fun a' k' => Bs (obF v0) k0 47 a' k' ∧ IsOwn 0 54 x8 (a'.get 0) k' ∧ Wr (obF v0) k0 (obF (a'.get 0)) ∧ True) ?_ hQ ?_
  ·intro Q6 W6 w6
   refine gS 6 (⟨some (OwnAt (a.get 0) 0 54 out_), [(0, none)]⟩ :: _ :: _ :: _ :: ⟨some (IsAdrO (a.get 0) ((x1).toNat * Enc.sz Slab)), [(36, some 0), (37, some 1)]⟩ :: _ :: []) hs (by kernel_rfl) ⟨ob1 rfl fun _ _ h n => ok_moveOA (.inl rfl) (ownAt n.1 (up i0 h n.1)), mu rfl i5, o1 [(3, none)] rfl fun _ _ h n => ok_fieldAddr rfl fo54_1 (at_Slab_1 _) ((up i3 h n.1)).ptr, o1 [(38, some 2)] rfl fun _ _ h n => ok_load rfl ty3 n.1, ob1 rfl fun _ _ h n => ok_indexO rfl Tryd.underlying26 ty54 n.1 n.2.1 hx7, o1 [(40, some 4)] rfl fun _ _ h n => ok_fieldAdrO rfl fo54_1 n.1, trivial⟩ W6 fun b q p => ?_
   have hgq := hg.then p.grow
   have hsb := p.size.trans hs
   have hdb := p.defers.trans hd
   have j0 := p.ke 0 rfl i0
   have y0 : Wr (obF v0) k0 (obF (b.get 0)) := by rw [p.old 0 rfl]; exact n0
   have j39 : (IsV x_.Z1) (b.get 39) q := p.ou 3 39 rfl
   have j41 : IsAdrO (a.get 0) ((x1).toNat * Enc.sz Slab + 1) (b.get 41) q := p.ou 5 41 rfl
   have eo : b.get 0 = a.get 0 := p.old 0 rfl
   have hns := j0.nshF
   refine tail_storeS (i := 6) (u := b.get 0) (m := (x1).toNat) (off := 0 + 1) rfl rfl rfl rfl szf3 upd_F54_1 (by rw [eo]; exact j41) j0 (getI_spec hx7).2.1 j39 fun q2 hch hz => ?_
   replace hgq := hgq.step hch y0
   have hle := hch.le hns
   replace j39 := Pers.pers hle j39
   replace j41 := Pers.pers hle j41
   replace j0 := hz
   rw [Option.some.inj hx8] at j0
   clear hns hle hch eo hz
   obtain ⟨q, hqq⟩ : ∃ q, q = q2 := ⟨q2, rfl⟩
   subst hqq
   exact tail_done (k := q) (w6 _ _ ⟨⟨hgq, hsb, hdb⟩, j0, y0, trivial⟩)
  rintro a k ⟨⟨hg, hs, hd⟩, i0, n0, _⟩
  refine cutS (fun c l => Bs (obF v0) k0 47 c l ∧ IsOwn 0 54 x8 (c.get 4) l ∧ Wr (obF v0) k0 (obF (c.get 4)) ∧ True) ?_ ?_
  ·intro Q7 W7 w7
   refine gS 2 (⟨some (OwnAt (a.get 0) 0 54 x8), [(0, none)]⟩ :: ⟨some (OwnAt (a.get 0) 0 54 x8), [(42, some 0)]⟩ :: []) hs (by kernel_rfl) ⟨ob1 rfl fun _ _ h n => ok_moveOA (.inl rfl) (ownAt n.1 (up i0 h n.1)), ob1 rfl fun _ _ h n => ok_moveOA (.inr rfl) n.1, trivial⟩ W7 fun b q p => ?_
   have hgq := hg.then p.grow
   have hsb := p.size.trans hs
   have hdb := p.defers.trans hd
   have e4 : b.get 4 = a.get 0 := (p.ou 1 4 rfl).1
   have j4 : IsOwn 0 54 x8 (b.get 4) q := (p.ou 1 4 rfl).2
   have y4 : Wr (obF v0) k0 (obF (b.get 4)) := by rw [e4]; exact n0
   exact tail_done (k := q) (w7 _ _ ⟨⟨hgq, hsb, hdb⟩, j4, y4, trivial⟩)
  rintro a k ⟨⟨hg, hs, hd⟩, i4, n4, _⟩
  refine wp_ret ?_
  obtain rfl := Option.some.inj hr
  exact retC1 rfl hd hg (show ResOk _ _ _ (.tmp 4) (IsOwnW _ _ _ _) from ⟨i4, n4⟩)
 rw [if_neg (by rw [hc568]; decide)] at hr
 refine wp_skip ?_
 refine wp_seq ?_
 obtain ⟨x9, hx9, hr⟩ := bind_some hr
 refine cut (fun a' k' => Bs (obF v0) k0 47 a' k' ∧ IsOwn 0 54 x9 (a'.get 4) k' ∧ Wr (obF v0) k0 (obF (a'.get 4)) ∧ True) ?_ hQ ?_
 ·intro Q8 W8 w8
  refine gS 3 (⟨some (OwnAt (a.get 0) 0 54 out_), [(0, none)]⟩ :: _ :: ⟨some (IsV (α := (List Slab)) ([x_])), [(44, some 1)]⟩ :: []) hs (by kernel_rfl) ⟨ob1 rfl fun _ _ h n => ok_moveOA (.inl rfl) (ownAt n.1 (up i0 h n.1)), o1 [(3, none)] rfl fun _ _ h n => ok_load rfl ty54 ((up i3 h n.1)).ptr, ob1 rfl fun _ _ h n => ok_buildSlice rfl Tryd.underlying26 eo54 rfl (by decide) (by decide) ⟨rfl, n.1, trivial⟩, trivial⟩ W8 fun b q p => ?_
  have hgq := hg.then p.grow
  have hsb := p.size.trans hs
  have hdb := p.defers.trans hd
  have e43 : b.get 43 = a.get 0 := (p.ou 0 43 rfl).1
  have j43 : IsOwn 0 54 out_ (b.get 43) q := (p.ou 0 43 rfl).2
  have y43 : Wr (obF v0) k0 (obF (b.get 43)) := by rw [e43]; exact n0
  have j45 : (IsV (α := (List Slab)) ([x_])) (b.get 45) q := p.ou 2 45 rfl
  have hns := j43.nshF
  refine tail_appendS (i := 3) (d := 46) rfl rfl rfl rfl (by rw [hsb]; decide) (e := 54) Tryd.underlying26 eo54 j43 (IsV.rd j45) hx9 fun b2 q2 hsz hdf hoth hch hown hob => ?_
  have hle := hch.le hns
  have yn : Wr (obF v0) k0 (obF (b2.get 46)) := y43.app hgq hob
  replace j45 := Pers.pers hle j45
  replace hgq := hgq.step hch y43
  rw [← hoth 45 (by decide)] at j45
  have j46 := hown
  have y46 := yn
  replace hsb := hsz.trans hsb
  replace hdb := hdf.trans hdb
  clear hle hch hown hob hns yn hsz hdf hoth
  obtain ⟨b, hbb⟩ : ∃ b, b = b2 := ⟨b2, rfl⟩
  subst hbb
  obtain ⟨q, hqq⟩ : ∃ q, q = q2 := ⟨q2, rfl⟩
  subst hqq
  refine tail_assign (i := 4) (d := 4) rfl rfl (.inl rfl) rfl (by rw [hsb]; decide) fun b2 hsz hdf hnew hoth => ?_
  have jn : (IsOwn 0 54 x9) (b2.get 4) q := by rw [hnew]; exact j46
  have yn : Wr (obF v0) k0 (obF (b2.get 4)) := by rw [hnew]; exact y46
  rw [← hoth 45 (by decide)] at j45
  have j4 := jn
  have y4 := yn
  replace hsb := hsz.trans hsb
  replace hdb := hdf.trans hdb
  clear hsz hdf hoth
  obtain ⟨b, hbb⟩ : ∃ b, b = b2 := ⟨b2, rfl⟩
  subst hbb
  exact tail_done (k := q) (w8 _ _ ⟨⟨hgq, hsb, hdb⟩, j4, y4, trivial⟩)
 rintro a k ⟨⟨hg, hs, hd⟩, i4, n4, _⟩
 refine wp_ret ?_
 obtain rfl := Option.some.inj hr
 exact retC1 rfl hd hg (show ResOk _ _ _ (.tmp 4) (IsOwnW _ _ _ _) from ⟨i4, n4⟩)
def solid_fits (out_ : (List Slab)) : Option ((List Slab) × Int) :=
 if (decide (80 < (out_.length : Int))) then
  some (([] : List Slab), 6)
 else
  some (out_, 0)
noncomputable def k20 := mk 20 [.list (.st 3)] [.list (.st 3), .int] (fun x => solid_fits x) [] [] Tryd.f20 (.n) Tryd.func20 Tryd.call20 rfl rfl fun x => by kernel_rfl
theorem solid_fits_ok {k0 : K} {v0 : Value} {x0 : (List Slab)} {r : (List Slab) × Int} (i0 : IsV x0 v0 k0) (hr : solid_fits x0 = some r) : Calls Tryd.prog 20 #[v0] k0.w (Ret k0 (IsTup2 (IsV r.1) (IsV r.2))) := ret2T (T := tb) (k20.ok.ok k0 [v0] x0 r (GOk.none fun _ => rfl) i0 hr)
def solid_Of_L0 (l_ : (List Box)) (s1 : (List Slab) × Int) : Option (Flow ((List Slab) × Int) ((List Slab) × Int)) :=
 if (decide (s1.2 < (l_.length : Int))) then
  (getI l_ s1.2).bind fun x1 =>
  (rect_Right x1.Base).bind fun x2 =>
  if ((((!x2) || (decide (x1.Z0 < 0))) || (decide (x1.Z1 ≤ x1.Z0))) || (decide (4096 < x1.Z1))) then
   some (.ret (([] : List Slab), 1))
  else
   (appI s1.1 ([(⟨x1.Z0, x1.Z1, []⟩ : Slab)])).bind fun x3 =>
   (addI s1.2 1).bind fun x4 =>
   some (.go (x3, x4))
 else
  some (.ex 0 (s1.1, s1.2))
def solid_Of_L2 (l_ : (List Box)) (x1 : (List Int)) (s1 : (List Slab) × Int) (s2 : (List Rect) × Int) : Option (Flow ((List Rect) × Int) ((List Slab) × Int)) :=
 if (decide (s2.2 < (l_.length : Int))) then
  (getI l_ s2.2).bind fun x2 =>
  (getI x1 s1.2).bind fun x3 =>
  (if (decide (x2.Z0 < x3)) then
   (subI s1.2 1).bind fun x4 =>
   (getI x1 x4).bind fun x5 =>
   some (decide (x5 < x2.Z1))
  else
   some false).bind fun x6 =>
  (if x6 then
   (appI s2.1 ([x2.Base])).bind fun x7 =>
   some x7
  else
   some s2.1).bind fun s3 =>
  (addI s2.2 1).bind fun x8 =>
  some (.go (s3, x8))
 else
  some (.ex 4 (s2.1, s2.2))
def solid_Of_L1 (l_ : (List Box)) (x1 : (List Int)) (s1 : (List Slab) × Int) : Option (Flow ((List Slab) × Int) ((List Slab) × Int)) :=
 if (decide (s1.2 < (x1.length : Int))) then
  (iterL (solid_Of_L2 l_ x1 s1) (l_.length + 1) (([] : List Rect), 0)).bind fun f1 => match f1 with
   | .go _ => none
   | .ex _ s2 =>
    (region_Of s2.1).bind fun x2 =>
    if (x2.2 != 0) then
     some (.ret (([] : List Slab), x2.2))
    else
     (subI s1.2 1).bind fun x3 =>
     (getI x1 x3).bind fun x4 =>
     (getI x1 s1.2).bind fun x5 =>
     (solid_put s1.1 (⟨x4, x5, x2.1⟩ : Slab)).bind fun x6 =>
     (addI s1.2 1).bind fun x7 =>
     some (.go (x6, x7))
   | .ret r1 => some (.ret r1)
 else
  some (.ex 2 (s1.1, s1.2))
def solid_Of (l_ : (List Box)) : Option ((List Slab) × Int) :=
 (iterL (solid_Of_L0 l_) (l_.length + 1) (([] : List Slab), 0)).bind fun f1 => match f1 with
  | .go _ => none
  | .ex _ s1 =>
   if (decide (200 < (l_.length : Int))) then
    some (([] : List Slab), 6)
   else
    (solid_heights ([s1.1])).bind fun x1 =>
    (iterL (solid_Of_L1 l_ x1) (l_.length + x1.length + ([] : List Slab).length + 1) (([] : List Slab), 1)).bind fun f2 => match f2 with
     | .go _ => none
     | .ex _ s2 =>
      (solid_fits s2.1).bind fun x2 =>
      some (x2.1, x2.2)
     | .ret r1 => some r1
  | .ret r2 => some r2
theorem solid_Of_ok {k0 : K} {v0 : Value} {l_ : (List Box)} {r : (List Slab) × Int} (i0 : (IsV l_) v0 k0) (hr : solid_Of l_ = some r) :
  Calls Tryd.prog 6 #[v0] k0.w (Ret k0 (IsTup2 (IsV r.1) (IsV r.2))) := by
 unfold solid_Of at hr
 refine Ret.ofC ?_
 refine enterK Tryd.func6 rfl Tryd.ntmps6 (show 1 ≤ 117 by decide) fun a k hk0 hs hd ha => ?_
 obtain ⟨e0, _⟩ := ha
 replace i0 : (IsV l_) (a.get 0) k := by rw [e0, hk0]; exact i0
 have hQ : Gb.LetsOut (bodyPost Tryd.prog Tryd.f6 (RetC noF k0 (IsTup2 (IsV r.1) (IsV r.2)))) := letsOutC
 have hg : Chg noF k0 k := by rw [hk0]; exact Chg.refl _ k0
 refine stepL 2 (⟨some IsE0, []⟩ :: ⟨some (IsI 0), []⟩ :: []) rfl ⟨hg, hs, hd⟩ (by kernel_rfl) ⟨ob1 rfl fun b q h n => ok_assign rfl isE0_nil, aI rfl rfl, trivial⟩ [⟨_, _⟩] (fun b q p => ⟨p.ke 0 rfl i0, trivial⟩) ?_
 rintro a k ⟨⟨hg, hs, hd⟩, i0, _⟩
 refine cutS (fun c l => Bs noF k0 117 c l ∧ IsV l_ (c.get 0) l ∧ IsOwn 0 54 ([] : List Slab) (c.get 4) l ∧ Lo k0 (obF (c.get 4)) ∧ True) ?_ ?_
 ·intro Q1 W1 w1
  refine gS 1 (⟨some IsE0, []⟩ :: []) hs (by kernel_rfl) ⟨ob1 rfl fun b q h n => ok_assign rfl isE0_nil, trivial⟩ W1 fun b q p => ?_
  have hgq := hg.then p.grow
  have hsb := p.size.trans hs
  have hdb := p.defers.trans hd
  have j0 := p.ke 0 rfl i0
  have j4 : IsE0 (b.get 4) q := p.ou 0 4 rfl
  have y4 : Lo k0 (obF (b.get 4)) := j4.lo
  replace j4 : IsOwn 0 54 ([] : List Slab) (b.get 4) q := j4.own0
  exact tail_done (k := q) (w1 _ _ ⟨⟨hgq, hsb, hdb⟩, j0, j4, y4, trivial⟩)
 rintro a k ⟨⟨hg, hs, hd⟩, i0, i4, n4, _⟩
 refine wp_seq ?_
 refine cutS (fun c l => Bs noF k0 117 c l ∧ IsV l_ (c.get 0) l ∧ IsOwn 0 54 ([] : List Slab) (c.get 4) l ∧ Lo k0 (obF (c.get 4)) ∧ IsV l_ (c.get 15) l ∧ IsL l_ (c.get 16) l ∧ IsI 0 (c.get 17) l ∧ True) ?_ ?_
 ·intro Q2 W2 w2
  refine gS 3 (_ :: _ :: ⟨some (IsI 0), []⟩ :: []) hs (by kernel_rfl) ⟨mu rfl i0, o1 [(15, some 0)] rfl fun _ _ h n => ok_len rfl rfl Tryd.underlying32 (IsV.rd n.1), ob1 rfl fun _ _ h n => ok_move rfl (cI rfl), trivial⟩ W2 fun b q p => ?_
  exact tail_done (k := q) (w2 _ _ ⟨Bs.post ⟨hg, hs, hd⟩ p, p.ke 0 rfl i0, p.ke 4 rfl i4, (by rw [p.old 4 rfl]; exact n4), p.ou 0 15 rfl, p.ou 1 16 rfl, p.ou 2 17 rfl, trivial⟩)
 rintro a k ⟨⟨hg, hs, hd⟩, i0, i4, n4, i15, i16, i17, _⟩
 refine wp_block ?_
 obtain ⟨f1, hf1, hr⟩ := bind_some hr
 refine cutFe f1 (fun s' c l => Bs noF k0 117 c l ∧ IsV l_ (c.get 0) l ∧ IsOwn 0 54 s'.1 (c.get 4) l ∧ Lo k0 (obF (c.get 4)) ∧ IsV l_ (c.get 15) l ∧ IsL l_ (c.get 16) l ∧ IsV s'.2 (c.get 17) l ∧ True) (fun i' s' c l => (i' = 0 ∧ Bs noF k0 117 c l ∧ IsV l_ (c.get 0) l ∧ IsV s'.1 (c.get 4) l ∧ True)) (fun r' c l => bodyPost Tryd.prog Tryd.f6 (RetC noF k0 (IsTup2 (IsV r'.1) (IsV r'.2))) .ret c l.w) ?_ hQ ?_ ?_ ?_
 ·intro Q3 W3 hgo hex hret
  refine sim_loop ?_ _ _ _ _ _ hf1 ⟨⟨hg, hs, hd⟩, i0, i4, n4, i15, i16, i17, trivial⟩ Q3 W3 hgo hex hret
  clear hr hf1 hgo hex hret W3 hQ hg hs hd i0 i15 i16 i17 i4 n4
  intro s1 fl_ a k hr hS Q hQ hgo595 hex596 hret597
  obtain ⟨⟨hg, hs, hd⟩, i0, i4, n4, i15, i16, i17, _⟩ := hS
  unfold solid_Of_L0 at hr
  refine cutS (fun c l => Bs noF k0 117 c l ∧ IsV l_ (c.get 0) l ∧ IsOwn 0 54 s1.1 (c.get 4) l ∧ Lo k0 (obF (c.get 4)) ∧ IsV l_ (c.get 15) l ∧ IsL l_ (c.get 16) l ∧ IsV s1.2 (c.get 17) l ∧ (IsV (decide (s1.2 < (l_.length : Int)))) (c.get 18) l ∧ True) ?_ ?_
  ·intro Q4 W4 w3
   refine gS 1 (_ :: []) hs (by kernel_rfl) ⟨o1 [(17, none), (16, none)] rfl fun _ _ h n => ok_lss rfl (up i17 h n.1) (up i16 h n.2.1), trivial⟩ W4 fun b q p => ?_
   exact tail_done (k := q) (w3 _ _ ⟨Bs.post ⟨hg, hs, hd⟩ p, p.ke 0 rfl i0, p.ke 4 rfl i4, (by rw [p.old 4 rfl]; exact n4), p.ke 15 rfl i15, p.ke 16 rfl i16, p.ke 17 rfl i17, p.ou 0 18 rfl, trivial⟩)
  rintro a k ⟨⟨hg, hs, hd⟩, i0, i4, n4, i15, i16, i17, i18, _⟩
  refine wp_seq ?_
  refine wp_cond_split (isBool i18) (fun hc616 => ?_) (fun hc616 => ?_)
  ·rw [if_pos hc616] at hr
   refine wp_skip ?_
   refine wp_seq ?_
   refine wp_block ?_
   refine wp_seq ?_
   obtain ⟨x1, hx1, hr⟩ := bind_some hr
   refine cut (fun a' k' => Bs noF k0 117 a' k' ∧ (IsV l_) (a'.get 0) k' ∧ IsOwn 0 54 s1.1 (a'.get 4) k' ∧ Lo k0 (obF (a'.get 4)) ∧ (IsRef x1) (a'.get 6) k' ∧ (IsV l_) (a'.get 15) k' ∧ (IsL l_) (a'.get 16) k' ∧ (IsV s1.2) (a'.get 17) k' ∧ True) ?_ hQ ?_
   ·intro Q5 W5 w4
    refine gS 3 (_ :: _ :: ⟨some (IsBox k.w.heap.size (⟨(⟨0, 0, 0, 0⟩ : Rect), 0, 0⟩ : Box)), []⟩ :: []) hs (by kernel_rfl) ⟨o1 [(15, none), (17, none)] rfl fun _ _ h n => ok_indexAddr rfl Tryd.underlying32 ty31 (IsV.rd (up i15 h n.1)) (up i17 h n.2.1) hx1, o1 [(19, some 0)] rfl fun _ _ h n => ok_load rfl ty31 n.1, ob1 rfl fun _ _ h n => ok_alloc _ h.size rfl z31, trivial⟩ W5 fun b q p => ?_
    have hgq := hg.then p.grow
    have hsb := p.size.trans hs
    have hdb := p.defers.trans hd
    have j0 := p.ke 0 rfl i0
    have j4 := p.ke 4 rfl i4
    have y4 : Lo k0 (obF (b.get 4)) := by rw [p.old 4 rfl]; exact n4
    obtain ⟨b6, j6, x6, z6⟩ : (IsBox k.w.heap.size (⟨(⟨0, 0, 0, 0⟩ : Rect), 0, 0⟩ : Box)) (b.get 6) q := p.ou 2 6 rfl
    replace x6 : Lo k (Eq b6) := Lo.eq x6
    have y6 : Lo k0 (Eq b6) := x6.chg hg
    have j15 := p.ke 15 rfl i15
    have j16 := p.ke 16 rfl i16
    have j17 := p.ke 17 rfl i17
    have j20 : (IsV x1) (b.get 20) q := p.ou 1 20 rfl
    have w4_6 : Apart (obF (b.get 4)) (Eq b6) := Apart.new (by rw [p.old 4 rfl]; exact i4.ltF) x6
    have hns := z6.nshF
    refine tail_storeB (i := 3) rfl rfl rfl rfl szf31 (Upd.self (α := Box)) j6 z6 j20 fun q2 hch hz => ?_
    replace hgq := hgq.step hch y6.wr
    have hle := hch.le hns
    replace j0 := Pers.pers hle j0
    replace j4 := j4.keep hch w4_6 hns
    replace j15 := Pers.pers hle j15
    replace j16 := Pers.pers hle j16
    replace j17 := Pers.pers hle j17
    replace j20 := Pers.pers hle j20
    replace z6 := hz
    clear hns hle hch
    obtain ⟨q, hqq⟩ : ∃ q, q = q2 := ⟨q2, rfl⟩
    subst hqq
    obtain ⟨q2, hsh, jn⟩ := z6.give
    replace j0 := Pers.pers hsh.le j0
    replace j4 := j4.handed hsh w4_6
    replace j15 := Pers.pers hsh.le j15
    replace j16 := Pers.pers hsh.le j16
    replace j17 := Pers.pers hsh.le j17
    rw [← j6] at jn
    replace j6 := jn
    replace hgq := hgq.hand hsh y6.wr
    rw [← hsh.w]
    clear hsh
    obtain ⟨q, hqq⟩ : ∃ q, q = q2 := ⟨q2, rfl⟩
    subst hqq
    exact tail_done (k := q) (w4 _ _ ⟨⟨hgq, hsb, hdb⟩, j0, j4, y4, j6, j15, j16, j17, trivial⟩)
   rintro a k ⟨⟨hg, hs, hd⟩, i0, i4, n4, i6, i15, i16, i17, _⟩
   refine wp_seq ?_
   refine wp_seq ?_
   obtain ⟨x2, hx2, hr⟩ := bind_some hr
   refine cut (fun a' k' => Bs noF k0 117 a' k' ∧ (IsV l_) (a'.get 0) k' ∧ IsOwn 0 54 s1.1 (a'.get 4) k' ∧ Lo k0 (obF (a'.get 4)) ∧ (IsRef x1) (a'.get 6) k' ∧ (IsV l_) (a'.get 15) k' ∧ (IsL l_) (a'.get 16) k' ∧ (IsV s1.2) (a'.get 17) k' ∧ (IsV ((((!x2) || (decide (x1.Z0 < 0))) || (decide (x1.Z1 ≤ x1.Z0))) || (decide (4096 < x1.Z1)))) (a'.get 41) k' ∧ True) ?_ hQ ?_
   ·intro Q6 W6 w5
    refine gS 21 (_ :: _ :: _ :: _ :: _ :: _ :: _ :: _ :: _ :: _ :: _ :: _ :: _ :: _ :: _ :: _ :: _ :: _ :: _ :: _ :: _ :: []) hs (by kernel_rfl) ⟨o1 [(6, none)] rfl fun _ _ h n => ok_fieldAddr rfl fo31_0 (at_Box_0 _) ((up i6 h n.1)).ptr, o1 [(21, some 0)] rfl fun _ _ h n => ok_load rfl ty23 n.1, o1 [(22, some 1)] rfl fun _ _ h n => ok_call rfl Tryd.call16 (rect_Right_ok n.1 hx2), o1 [(23, some 2)] rfl fun _ _ h n => ok_not rfl n.1, cm 3 rfl rfl, gF [(6, none)] rfl rfl fun hp _ _ h n => ok_fieldAddr rfl fo31_1 (at_Box_1 _) ((up i6 h n.1)).ptr, gF [(26, some 5)] rfl rfl fun hp _ _ h n => ok_load rfl ty3 (Gd.get n.1 hp), gF [(27, some 6)] rfl rfl fun hp _ _ h n => ok_lss rfl (Gd.get n.1 hp) (cI rfl), o1 [(25, some 4), (28, some 7)] rfl fun _ _ h n => ok_pickOr rfl n.1 (cB rfl) (Gd.get n.2.1), cm 8 rfl rfl, gF [(6, none)] rfl rfl fun hp _ _ h n => ok_fieldAddr rfl fo31_1 (at_Box_1 _) ((up i6 h n.1)).ptr, gF [(31, some 10)] rfl rfl fun hp _ _ h n => ok_load rfl ty3 (Gd.get n.1 hp), gF [(6, none)] rfl rfl fun hp _ _ h n => ok_fieldAddr rfl fo31_2 (at_Box_2 _) ((up i6 h n.1)).ptr, gF [(33, some 12)] rfl rfl fun hp _ _ h n => ok_load rfl ty3 (Gd.get n.1 hp), gF [(32, some 11), (34, some 13)] rfl rfl fun hp _ _ h n => ok_geq rfl (Gd.get n.1 hp) (Gd.get n.2.1 hp), o1 [(30, some 9), (35, some 14)] rfl fun _ _ h n => ok_pickOr rfl n.1 (cB rfl) (Gd.get n.2.1), cm 15 rfl rfl, gF [(6, none)] rfl rfl fun hp _ _ h n => ok_fieldAddr rfl fo31_2 (at_Box_2 _) ((up i6 h n.1)).ptr, gF [(38, some 17)] rfl rfl fun hp _ _ h n => ok_load rfl ty3 (Gd.get n.1 hp), gF [(39, some 18)] rfl rfl fun hp _ _ h n => ok_gtr rfl (Gd.get n.1 hp) (cI rfl), o1 [(37, some 16), (40, some 19)] rfl fun _ _ h n => ok_pickOr rfl n.1 (cB rfl) (Gd.get n.2.1), trivial⟩ W6 fun b q p => ?_
    exact tail_done (k := q) (w5 _ _ ⟨Bs.post ⟨hg, hs, hd⟩ p, p.ke 0 rfl i0, p.ke 4 rfl i4, (by rw [p.old 4 rfl]; exact n4), p.ke 6 rfl i6, p.ke 15 rfl i15, p.ke 16 rfl i16, p.ke 17 rfl i17, p.ou 20 41 rfl, trivial⟩)
   rintro a k ⟨⟨hg, hs, hd⟩, i0, i4, n4, i6, i15, i16, i17, i41, _⟩
   refine wp_cond_split (isBool i41) (fun hc610 => ?_) (fun hc610 => ?_)
   ·rw [if_pos hc610] at hr
    refine cutL noF k0 117 [⟨2, IsV ([] : List Slab)⟩, ⟨3, IsI 1⟩] ?_ ?_
    ·intro Q7 W7 w6
     refine gS 2 (⟨some IsE0, []⟩ :: ⟨some (IsI 1), []⟩ :: []) hs (by kernel_rfl) ⟨ob1 rfl fun b q h n => ok_assign rfl isE0_nil, aI rfl rfl, trivial⟩ W7 fun b q p => ?_
     have hgq := hg.then p.grow
     have hsb := p.size.trans hs
     have hdb := p.defers.trans hd
     have j2 : IsE0 (b.get 2) q := p.ou 0 2 rfl
     have j3 : (IsI 1) (b.get 3) q := p.ou 1 3 rfl
     replace j2 : IsV ([] : List Slab) (b.get 2) q := j2.isV
     exact tail_done (k := q) (w6 _ _ ⟨⟨hgq, hsb, hdb⟩, j2, j3, trivial⟩)
    rintro a k ⟨⟨hg, hs, hd⟩, i2, i3, _⟩
    refine wp_ret ?_
    exact hret597 _ _ _ (Option.some.inj hr).symm (retC2 rfl hd hg i2 i3)
   rw [if_neg (by rw [hc610]; decide)] at hr
   refine wp_skip ?_
   obtain ⟨x3, hx3, hr⟩ := bind_some hr
   refine cut (fun a' k' => Bs noF k0 117 a' k' ∧ (IsV l_) (a'.get 0) k' ∧ IsOwn 0 54 x3 (a'.get 4) k' ∧ Lo k0 (obF (a'.get 4)) ∧ (IsV l_) (a'.get 15) k' ∧ (IsL l_) (a'.get 16) k' ∧ (IsV s1.2) (a'.get 17) k' ∧ True) ?_ hQ ?_
   ·intro Q8 W8 w7
    refine gS 7 (⟨some (OwnAt (a.get 4) 0 54 s1.1), [(4, none)]⟩ :: _ :: _ :: _ :: _ :: ⟨some (IsV (⟨x1.Z0, x1.Z1, []⟩ : Slab)), [(44, some 2), (46, some 4)]⟩ :: ⟨some (IsV (α := (List Slab)) ([(⟨x1.Z0, x1.Z1, []⟩ : Slab)])), [(47, some 5)]⟩ :: []) hs (by kernel_rfl) ⟨ob1 rfl fun _ _ h n => ok_moveOA (.inl rfl) (ownAt n.1 (up i4 h n.1)), o1 [(6, none)] rfl fun _ _ h n => ok_fieldAddr rfl fo31_1 (at_Box_1 _) ((up i6 h n.1)).ptr, o1 [(43, some 1)] rfl fun _ _ h n => ok_load rfl ty3 n.1, o1 [(6, none)] rfl fun _ _ h n => ok_fieldAddr rfl fo31_2 (at_Box_2 _) ((up i6 h n.1)).ptr, o1 [(45, some 3)] rfl fun _ _ h n => ok_load rfl ty3 n.1, ob1 rfl fun _ _ h n => ok_build rfl (bld54_0_1 n.1 n.2.1), ob1 rfl fun _ _ h n => ok_buildSlice rfl Tryd.underlying26 eo54 rfl (by decide) (by decide) ⟨rfl, n.1, trivial⟩, trivial⟩ W8 fun b q p => ?_
    have hgq := hg.then p.grow
    have hsb := p.size.trans hs
    have hdb := p.defers.trans hd
    have j0 := p.ke 0 rfl i0
    have j15 := p.ke 15 rfl i15
    have j16 := p.ke 16 rfl i16
    have j17 := p.ke 17 rfl i17
    have e42 : b.get 42 = a.get 4 := (p.ou 0 42 rfl).1
    have j42 : IsOwn 0 54 s1.1 (b.get 42) q := (p.ou 0 42 rfl).2
    have y42 : Lo k0 (obF (b.get 42)) := by rw [e42]; exact n4
    have j48 : (IsV (α := (List Slab)) ([(⟨x1.Z0, x1.Z1, []⟩ : Slab)])) (b.get 48) q := p.ou 6 48 rfl
    have hns := j42.nshF
    refine tail_appendS (i := 7) (d := 49) rfl rfl rfl rfl (by rw [hsb]; decide) (e := 54) Tryd.underlying26 eo54 j42 (IsV.rd j48) hx3 fun b2 q2 hsz hdf hoth hch hown hob => ?_
    have hle := hch.le hns
    have yn : Lo k0 (obF (b2.get 49)) := y42.app hgq hob
    replace j0 := Pers.pers hle j0
    replace j15 := Pers.pers hle j15
    replace j16 := Pers.pers hle j16
    replace j17 := Pers.pers hle j17
    replace j48 := Pers.pers hle j48
    replace hgq := hgq.step hch y42.wr
    rw [← hoth 0 (by decide)] at j0
    rw [← hoth 15 (by decide)] at j15
    rw [← hoth 16 (by decide)] at j16
    rw [← hoth 17 (by decide)] at j17
    rw [← hoth 48 (by decide)] at j48
    have j49 := hown
    have y49 := yn
    replace hsb := hsz.trans hsb
    replace hdb := hdf.trans hdb
    clear hle hch hown hob hns yn hsz hdf hoth
    obtain ⟨b, hbb⟩ : ∃ b, b = b2 := ⟨b2, rfl⟩
    subst hbb
    obtain ⟨q, hqq⟩ : ∃ q, q = q2 := ⟨q2, rfl⟩
    subst hqq
    refine tail_assign (i := 8) (d := 4) rfl rfl (.inl rfl) rfl (by rw [hsb]; decide) fun b2 hsz hdf hnew hoth => ?_
    have jn : (IsOwn 0 54 x3) (b2.get 4) q := by rw [hnew]; exact j49
    have yn : Lo k0 (obF (b2.get 4)) := by rw [hnew]; exact y49
    rw [← hoth 0 (by decide)] at j0
    rw [← hoth 15 (by decide)] at j15
    rw [← hoth 16 (by decide)] at j16
    rw [← hoth 17 (by decide)] at j17
    rw [← hoth 48 (by decide)] at j48
    have j4 := jn
    have y4 := yn
    replace hsb := hsz.trans hsb
    replace hdb := hdf.trans hdb
    clear hsz hdf hoth
    obtain ⟨b, hbb⟩ : ∃ b, b = b2 := ⟨b2, rfl⟩
    subst hbb
    exact tail_done (k := q) (w7 _ _ ⟨⟨hgq, hsb, hdb⟩, j0, j4, y4, j15, j16, j17, trivial⟩)
   rintro a k ⟨⟨hg, hs, hd⟩, i0, i4, n4, i15, i16, i17, _⟩
   obtain ⟨x4, hx4, hr⟩ := bind_some hr
   refine cut (fun a' k' => Bs noF k0 117 a' k' ∧ (IsV l_) (a'.get 0) k' ∧ IsOwn 0 54 x3 (a'.get 4) k' ∧ Lo k0 (obF (a'.get 4)) ∧ (IsV l_) (a'.get 15) k' ∧ (IsL l_) (a'.get 16) k' ∧ (IsV x4) (a'.get 17) k' ∧ True) ?_ hQ ?_
   ·intro Q9 W9 w8
    refine gS 2 (_ :: _ :: []) hs (by kernel_rfl) ⟨o1 [(17, none)] rfl fun _ _ h n => ok_add rfl (up i17 h n.1) (cI rfl) hx4, cm 0 rfl rfl, trivial⟩ W9 fun b q p => ?_
    exact tail_done (k := q) (w8 _ _ ⟨Bs.post ⟨hg, hs, hd⟩ p, p.ke 0 rfl i0, p.ke 4 rfl i4, (by rw [p.old 4 rfl]; exact n4), p.ke 15 rfl i15, p.ke 16 rfl i16, p.ou 1 17 rfl, trivial⟩)
   rintro a k ⟨⟨hg, hs, hd⟩, i0, i4, n4, i15, i16, i17, _⟩
   exact hgo595 _ _ _ (Option.some.inj hr).symm ⟨⟨hg, hs, hd⟩, i0, i4, n4, i15, i16, i17, trivial⟩
  rw [if_neg (by rw [hc616]; decide)] at hr
  refine wp_exit ?_
  obtain ⟨kk, sh615, ii4⟩ := i4.give
  replace i0 := Pers.pers sh615.le i0
  replace i4 := ii4
  replace hg := hg.hand sh615 n4.wr
  rw [← sh615.w]
  clear sh615
  obtain ⟨k, hkk⟩ : ∃ k, k = kk := ⟨kk, rfl⟩
  subst hkk
  exact hex596 _ _ _ _ (Option.some.inj hr).symm ⟨rfl, ⟨hg, hs, hd⟩, i0, i4, trivial⟩
 ·rintro r1 a k rfl hR
  dsimp only at hr
  obtain rfl := Option.some.inj hr
  exact hR
 ·rintro _ _ _ rfl _
  simp at hr
 clear hf1
 rintro _ s2 a k rfl ⟨rfl, ⟨hg, hs, hd⟩, i0, i4, _⟩
 dsimp only at hr
 refine wp_seq ?_
 refine stepL 3 (_ :: _ :: _ :: []) rfl ⟨hg, hs, hd⟩ (by kernel_rfl) ⟨mu rfl i0, o1 [(51, some 0)] rfl fun _ _ h n => ok_len rfl rfl Tryd.underlying32 (IsV.rd n.1), o1 [(52, some 1)] rfl fun _ _ h n => ok_gtr rfl n.1 (cI rfl), trivial⟩ [⟨_, _⟩, ⟨_, _⟩, ⟨_, _⟩] (fun b q p => ⟨p.ke 0 rfl i0, p.ke 4 rfl i4, p.ou 2 53 rfl, trivial⟩) ?_
 rintro a k ⟨⟨hg, hs, hd⟩, i0, i4, i53, _⟩
 refine wp_cond_split (isBool i53) (fun hc701 => ?_) (fun hc701 => ?_)
 ·rw [if_pos hc701] at hr
  refine cutL noF k0 117 [⟨2, IsV ([] : List Slab)⟩, ⟨3, IsI 6⟩] ?_ ?_
  ·intro Q10 W10 w9
   refine gS 2 (⟨some IsE0, []⟩ :: ⟨some (IsI 6), []⟩ :: []) hs (by kernel_rfl) ⟨ob1 rfl fun b q h n => ok_assign rfl isE0_nil, aI rfl rfl, trivial⟩ W10 fun b q p => ?_
   have hgq := hg.then p.grow
   have hsb := p.size.trans hs
   have hdb := p.defers.trans hd
   have j2 : IsE0 (b.get 2) q := p.ou 0 2 rfl
   have j3 : (IsI 6) (b.get 3) q := p.ou 1 3 rfl
   replace j2 : IsV ([] : List Slab) (b.get 2) q := j2.isV
   exact tail_done (k := q) (w9 _ _ ⟨⟨hgq, hsb, hdb⟩, j2, j3, trivial⟩)
  rintro a k ⟨⟨hg, hs, hd⟩, i2, i3, _⟩
  refine wp_ret ?_
  obtain rfl := Option.some.inj hr
  exact retC2 rfl hd hg i2 i3
 rw [if_neg (by rw [hc701]; decide)] at hr
 refine wp_skip ?_
 refine wp_seq ?_
 obtain ⟨x5, hx5, hr⟩ := bind_some hr
 refine cut (fun a' k' => Bs noF k0 117 a' k' ∧ (IsV l_) (a'.get 0) k' ∧ (IsV x5) (a'.get 7) k' ∧ True) ?_ hQ ?_
 ·intro Q11 W11 w10
  refine gS 4 (_ :: ⟨some (IsV (α := (List (List Slab))) ([s2.1])), [(54, some 0)]⟩ :: _ :: _ :: []) hs (by kernel_rfl) ⟨mu rfl i4, ob1 rfl fun _ _ h n => ok_buildSlice rfl Tryd.underlying75 eo26 rfl (by decide) (by decide) ⟨rfl, n.1, trivial⟩, o1 [(55, some 1)] rfl fun _ _ h n => ok_call rfl Tryd.call17 (solid_heights_ok n.1 hx5), cp 2 rfl rfl, trivial⟩ W11 fun b q p => ?_
  exact tail_done (k := q) (w10 _ _ ⟨Bs.post ⟨hg, hs, hd⟩ p, p.ke 0 rfl i0, p.ou 3 7 rfl, trivial⟩)
 rintro a k ⟨⟨hg, hs, hd⟩, i0, i7, _⟩
 refine cutS (fun c l => Bs noF k0 117 c l ∧ IsV l_ (c.get 0) l ∧ IsV x5 (c.get 7) l ∧ IsOwn 0 54 ([] : List Slab) (c.get 8) l ∧ Lo k0 (obF (c.get 8)) ∧ True) ?_ ?_
 ·intro Q12 W12 w11
  refine gS 1 (⟨some IsE0, []⟩ :: []) hs (by kernel_rfl) ⟨ob1 rfl fun b q h n => ok_assign rfl isE0_nil, trivial⟩ W12 fun b q p => ?_
  have hgq := hg.then p.grow
  have hsb := p.size.trans hs
  have hdb := p.defers.trans hd
  have j0 := p.ke 0 rfl i0
  have j7 := p.ke 7 rfl i7
  have j8 : IsE0 (b.get 8) q := p.ou 0 8 rfl
  have y8 : Lo k0 (obF (b.get 8)) := j8.lo
  replace j8 : IsOwn 0 54 ([] : List Slab) (b.get 8) q := j8.own0
  exact tail_done (k := q) (w11 _ _ ⟨⟨hgq, hsb, hdb⟩, j0, j7, j8, y8, trivial⟩)
 rintro a k ⟨⟨hg, hs, hd⟩, i0, i7, i8, n8, _⟩
 refine wp_seq ?_
 refine cutS (fun c l => Bs noF k0 117 c l ∧ IsV l_ (c.get 0) l ∧ IsV x5 (c.get 7) l ∧ IsOwn 0 54 ([] : List Slab) (c.get 8) l ∧ Lo k0 (obF (c.get 8)) ∧ IsI 1 (c.get 9) l ∧ True) ?_ ?_
 ·intro Q13 W13 w12
  refine gS 1 (⟨some (IsI 1), []⟩ :: []) hs (by kernel_rfl) ⟨aI rfl rfl, trivial⟩ W13 fun b q p => ?_
  exact tail_done (k := q) (w12 _ _ ⟨Bs.post ⟨hg, hs, hd⟩ p, p.ke 0 rfl i0, p.ke 7 rfl i7, p.ke 8 rfl i8, (by rw [p.old 8 rfl]; exact n8), p.ou 0 9 rfl, trivial⟩)
 rintro a k ⟨⟨hg, hs, hd⟩, i0, i7, i8, n8, i9, _⟩
 refine wp_block ?_
 obtain ⟨f2, hf2, hr⟩ := bind_some hr
 refine cutFe f2 (fun s' c l => Bs noF k0 117 c l ∧ IsV l_ (c.get 0) l ∧ IsV x5 (c.get 7) l ∧ IsOwn 0 54 s'.1 (c.get 8) l ∧ Lo k0 (obF (c.get 8)) ∧ IsV s'.2 (c.get 9) l ∧ True) (fun i' s' c l => (i' = 2 ∧ Bs noF k0 117 c l ∧ IsV s'.1 (c.get 8) l ∧ True)) (fun r' c l => bodyPost Tryd.prog Tryd.f6 (RetC noF k0 (IsTup2 (IsV r'.1) (IsV r'.2))) .ret c l.w) ?_ hQ ?_ ?_ ?_
 ·intro Q14 W14 hgo hex hret
  refine sim_loop ?_ _ _ _ _ _ hf2 ⟨⟨hg, hs, hd⟩, i0, i7, i8, n8, i9, trivial⟩ Q14 W14 hgo hex hret
  clear hr hf2 hgo hex hret W14 hQ hg hs hd i0 i7 i8 i9 n8
  intro s3 fl_ a k hr hS Q hQ hgo629 hex630 hret631
  obtain ⟨⟨hg, hs, hd⟩, i0, i7, i8, n8, i9, _⟩ := hS
  unfold solid_Of_L1 at hr
  refine wp_seq ?_
  refine cutS (fun c l => Bs noF k0 117 c l ∧ IsV l_ (c.get 0) l ∧ IsV x5 (c.get 7) l ∧ IsOwn 0 54 s3.1 (c.get 8) l ∧ Lo k0 (obF (c.get 8)) ∧ IsV s3.2 (c.get 9) l ∧ (IsV (decide (s3.2 < (x5.length : Int)))) (c.get 60) l ∧ True) ?_ ?_
  ·intro Q15 W15 w13
   refine gS 4 (_ :: _ :: _ :: _ :: []) hs (by kernel_rfl) ⟨mu rfl i9, mu rfl i7, o1 [(58, some 1)] rfl fun _ _ h n => ok_len rfl rfl Tryd.underlying40 (IsV.rd n.1), o1 [(57, some 0), (59, some 2)] rfl fun _ _ h n => ok_lss rfl n.1 n.2.1, trivial⟩ W15 fun b q p => ?_
   exact tail_done (k := q) (w13 _ _ ⟨Bs.post ⟨hg, hs, hd⟩ p, p.ke 0 rfl i0, p.ke 7 rfl i7, p.ke 8 rfl i8, (by rw [p.old 8 rfl]; exact n8), p.ke 9 rfl i9, p.ou 3 60 rfl, trivial⟩)
  rintro a k ⟨⟨hg, hs, hd⟩, i0, i7, i8, n8, i9, i60, _⟩
  refine wp_cond_split (isBool i60) (fun hc685 => ?_) (fun hc685 => ?_)
  ·rw [if_pos hc685] at hr
   refine wp_skip ?_
   refine wp_seq ?_
   refine wp_block ?_
   refine cutS (fun c l => Bs noF k0 117 c l ∧ IsV l_ (c.get 0) l ∧ IsV x5 (c.get 7) l ∧ IsOwn 0 54 s3.1 (c.get 8) l ∧ Lo k0 (obF (c.get 8)) ∧ IsV s3.2 (c.get 9) l ∧ IsOwn 0 23 ([] : List Rect) (c.get 10) l ∧ Lo k0 (obF (c.get 10)) ∧ Apart (obF (c.get 8)) (obF (c.get 10)) ∧ True) ?_ ?_
   ·intro Q16 W16 w14
    refine gS 1 (⟨some IsE0, []⟩ :: []) hs (by kernel_rfl) ⟨ob1 rfl fun b q h n => ok_assign rfl isE0_nil, trivial⟩ W16 fun b q p => ?_
    have hgq := hg.then p.grow
    have hsb := p.size.trans hs
    have hdb := p.defers.trans hd
    have j0 := p.ke 0 rfl i0
    have j7 := p.ke 7 rfl i7
    have j8 := p.ke 8 rfl i8
    have y8 : Lo k0 (obF (b.get 8)) := by rw [p.old 8 rfl]; exact n8
    have j9 := p.ke 9 rfl i9
    have j10 : IsE0 (b.get 10) q := p.ou 0 10 rfl
    have y10 : Lo k0 (obF (b.get 10)) := j10.lo
    have w8_10 : Apart (obF (b.get 8)) (obF (b.get 10)) := j10.apart.symm
    replace j10 : IsOwn 0 23 ([] : List Rect) (b.get 10) q := j10.own0
    exact tail_done (k := q) (w14 _ _ ⟨⟨hgq, hsb, hdb⟩, j0, j7, j8, y8, j9, j10, y10, w8_10, trivial⟩)
   rintro a k ⟨⟨hg, hs, hd⟩, i0, i7, i8, n8, i9, i10, n10, d8_10, _⟩
   refine wp_seq ?_
   refine cutS (fun c l => Bs noF k0 117 c l ∧ IsV l_ (c.get 0) l ∧ IsV x5 (c.get 7) l ∧ IsOwn 0 54 s3.1 (c.get 8) l ∧ Lo k0 (obF (c.get 8)) ∧ IsV s3.2 (c.get 9) l ∧ IsOwn 0 23 ([] : List Rect) (c.get 10) l ∧ Lo k0 (obF (c.get 10)) ∧ IsV l_ (c.get 63) l ∧ IsL l_ (c.get 64) l ∧ IsI 0 (c.get 65) l ∧ Apart (obF (c.get 8)) (obF (c.get 10)) ∧ True) ?_ ?_
   ·intro Q17 W17 w15
    refine gS 3 (_ :: _ :: ⟨some (IsI 0), []⟩ :: []) hs (by kernel_rfl) ⟨mu rfl i0, o1 [(63, some 0)] rfl fun _ _ h n => ok_len rfl rfl Tryd.underlying32 (IsV.rd n.1), ob1 rfl fun _ _ h n => ok_move rfl (cI rfl), trivial⟩ W17 fun b q p => ?_
    exact tail_done (k := q) (w15 _ _ ⟨Bs.post ⟨hg, hs, hd⟩ p, p.ke 0 rfl i0, p.ke 7 rfl i7, p.ke 8 rfl i8, (by rw [p.old 8 rfl]; exact n8), p.ke 9 rfl i9, p.ke 10 rfl i10, (by rw [p.old 10 rfl]; exact n10), p.ou 0 63 rfl, p.ou 1 64 rfl, p.ou 2 65 rfl, (by rw [p.old 8 rfl, p.old 10 rfl]; exact d8_10), trivial⟩)
   rintro a k ⟨⟨hg, hs, hd⟩, i0, i7, i8, n8, i9, i10, n10, i63, i64, i65, d8_10, _⟩
   refine wp_block ?_
   obtain ⟨f3, hf3, hr⟩ := bind_some hr
   refine cutFe f3 (fun s' c l => Bs noF k0 117 c l ∧ IsV l_ (c.get 0) l ∧ IsV x5 (c.get 7) l ∧ IsOwn 0 54 s3.1 (c.get 8) l ∧ Lo k0 (obF (c.get 8)) ∧ IsV s3.2 (c.get 9) l ∧ IsOwn 0 23 s'.1 (c.get 10) l ∧ Lo k0 (obF (c.get 10)) ∧ IsV l_ (c.get 63) l ∧ IsL l_ (c.get 64) l ∧ IsV s'.2 (c.get 65) l ∧ Apart (obF (c.get 8)) (obF (c.get 10)) ∧ True) (fun i' s' c l => (i' = 4 ∧ Bs noF k0 117 c l ∧ IsV l_ (c.get 0) l ∧ IsV x5 (c.get 7) l ∧ IsOwn 0 54 s3.1 (c.get 8) l ∧ Lo k0 (obF (c.get 8)) ∧ IsV s3.2 (c.get 9) l ∧ IsV s'.1 (c.get 10) l ∧ True)) (fun r' c l => bodyPost Tryd.prog Tryd.f6 (RetC noF k0 (IsTup2 (IsV r'.1) (IsV r'.2))) .ret c l.w) ?_ hQ ?_ ?_ ?_
   ·intro Q18 W18 hgo hex hret
    refine sim_loop ?_ _ _ _ _ _ hf3 ⟨⟨hg, hs, hd⟩, i0, i7, i8, n8, i9, i10, n10, i63, i64, i65, d8_10, trivial⟩ Q18 W18 hgo hex hret
    clear hr hf3 hgo hex hret W18 hQ hg hs hd d8_10 i0 i10 i63 i64 i65 i7 i8 i9 n10 n8
    intro s4 fl_ a k hr hS Q hQ hgo636 hex637 hret638
    obtain ⟨⟨hg, hs, hd⟩, i0, i7, i8, n8, i9, i10, n10, i63, i64, i65, d8_10, _⟩ := hS
    unfold solid_Of_L2 at hr
    refine cutS (fun c l => Bs noF k0 117 c l ∧ IsV l_ (c.get 0) l ∧ IsV x5 (c.get 7) l ∧ IsOwn 0 54 s3.1 (c.get 8) l ∧ Lo k0 (obF (c.get 8)) ∧ IsV s3.2 (c.get 9) l ∧ IsOwn 0 23 s4.1 (c.get 10) l ∧ Lo k0 (obF (c.get 10)) ∧ IsV l_ (c.get 63) l ∧ IsL l_ (c.get 64) l ∧ IsV s4.2 (c.get 65) l ∧ (IsV (decide (s4.2 < (l_.length : Int)))) (c.get 66) l ∧ Apart (obF (c.get 8)) (obF (c.get 10)) ∧ True) ?_ ?_
    ·intro Q19 W19 w16
     refine gS 1 (_ :: []) hs (by kernel_rfl) ⟨o1 [(65, none), (64, none)] rfl fun _ _ h n => ok_lss rfl (up i65 h n.1) (up i64 h n.2.1), trivial⟩ W19 fun b q p => ?_
     exact tail_done (k := q) (w16 _ _ ⟨Bs.post ⟨hg, hs, hd⟩ p, p.ke 0 rfl i0, p.ke 7 rfl i7, p.ke 8 rfl i8, (by rw [p.old 8 rfl]; exact n8), p.ke 9 rfl i9, p.ke 10 rfl i10, (by rw [p.old 10 rfl]; exact n10), p.ke 63 rfl i63, p.ke 64 rfl i64, p.ke 65 rfl i65, p.ou 0 66 rfl, (by rw [p.old 8 rfl, p.old 10 rfl]; exact d8_10), trivial⟩)
    rintro a k ⟨⟨hg, hs, hd⟩, i0, i7, i8, n8, i9, i10, n10, i63, i64, i65, i66, d8_10, _⟩
    refine wp_seq ?_
    refine wp_cond_split (isBool i66) (fun hc657 => ?_) (fun hc657 => ?_)
    ·rw [if_pos hc657] at hr
     refine wp_skip ?_
     refine wp_seq ?_
     refine wp_block ?_
     refine wp_seq ?_
     obtain ⟨x7, hx7, hr⟩ := bind_some hr
     refine cut (fun a' k' => Bs noF k0 117 a' k' ∧ (IsV l_) (a'.get 0) k' ∧ (IsV x5) (a'.get 7) k' ∧ IsOwn 0 54 s3.1 (a'.get 8) k' ∧ Lo k0 (obF (a'.get 8)) ∧ (IsV s3.2) (a'.get 9) k' ∧ IsOwn 0 23 s4.1 (a'.get 10) k' ∧ Lo k0 (obF (a'.get 10)) ∧ (IsRef x7) (a'.get 12) k' ∧ (IsV l_) (a'.get 63) k' ∧ (IsL l_) (a'.get 64) k' ∧ (IsV s4.2) (a'.get 65) k' ∧ Apart (obF (a'.get 8)) (obF (a'.get 10)) ∧ True) ?_ hQ ?_
     ·intro Q20 W20 w17
      refine gS 3 (_ :: _ :: ⟨some (IsBox k.w.heap.size (⟨(⟨0, 0, 0, 0⟩ : Rect), 0, 0⟩ : Box)), []⟩ :: []) hs (by kernel_rfl) ⟨o1 [(63, none), (65, none)] rfl fun _ _ h n => ok_indexAddr rfl Tryd.underlying32 ty31 (IsV.rd (up i63 h n.1)) (up i65 h n.2.1) hx7, o1 [(67, some 0)] rfl fun _ _ h n => ok_load rfl ty31 n.1, ob1 rfl fun _ _ h n => ok_alloc _ h.size rfl z31, trivial⟩ W20 fun b q p => ?_
      have hgq := hg.then p.grow
      have hsb := p.size.trans hs
      have hdb := p.defers.trans hd
      have j0 := p.ke 0 rfl i0
      have j7 := p.ke 7 rfl i7
      have j8 := p.ke 8 rfl i8
      have y8 : Lo k0 (obF (b.get 8)) := by rw [p.old 8 rfl]; exact n8
      have j9 := p.ke 9 rfl i9
      have j10 := p.ke 10 rfl i10
      have y10 : Lo k0 (obF (b.get 10)) := by rw [p.old 10 rfl]; exact n10
      obtain ⟨b12, j12, x12, z12⟩ : (IsBox k.w.heap.size (⟨(⟨0, 0, 0, 0⟩ : Rect), 0, 0⟩ : Box)) (b.get 12) q := p.ou 2 12 rfl
      replace x12 : Lo k (Eq b12) := Lo.eq x12
      have y12 : Lo k0 (Eq b12) := x12.chg hg
      have j63 := p.ke 63 rfl i63
      have j64 := p.ke 64 rfl i64
      have j65 := p.ke 65 rfl i65
      have j68 : (IsV x7) (b.get 68) q := p.ou 1 68 rfl
      have w8_10 : Apart (obF (b.get 8)) (obF (b.get 10)) := by rw [p.old 8 rfl, p.old 10 rfl]; exact d8_10
      have w8_12 : Apart (obF (b.get 8)) (Eq b12) := Apart.new (by rw [p.old 8 rfl]; exact i8.ltF) x12
      have w10_12 : Apart (obF (b.get 10)) (Eq b12) := Apart.new (by rw [p.old 10 rfl]; exact i10.ltF) x12
      have hns := z12.nshF
      refine tail_storeB (i := 3) rfl rfl rfl rfl szf31 (Upd.self (α := Box)) j12 z12 j68 fun q2 hch hz => ?_
      replace hgq := hgq.step hch y12.wr
      have hle := hch.le hns
      replace j0 := Pers.pers hle j0
      replace j7 := Pers.pers hle j7
      replace j8 := j8.keep hch w8_12 hns
      replace j9 := Pers.pers hle j9
      replace j10 := j10.keep hch w10_12 hns
      replace j63 := Pers.pers hle j63
      replace j64 := Pers.pers hle j64
      replace j65 := Pers.pers hle j65
      replace j68 := Pers.pers hle j68
      replace z12 := hz
      clear hns hle hch
      obtain ⟨q, hqq⟩ : ∃ q, q = q2 := ⟨q2, rfl⟩
      subst hqq
      obtain ⟨q2, hsh, jn⟩ := z12.give
      replace j0 := Pers.pers hsh.le j0
      replace j7 := Pers.pers hsh.le j7
      replace j8 := j8.handed hsh w8_12
      replace j9 := Pers.pers hsh.le j9
      replace j10 := j10.handed hsh w10_12
      replace j63 := Pers.pers hsh.le j63
      replace j64 := Pers.pers hsh.le j64
      replace j65 := Pers.pers hsh.le j65
      rw [← j12] at jn
      replace j12 := jn
      replace hgq := hgq.hand hsh y12.wr
      rw [← hsh.w]
      clear hsh
      obtain ⟨q, hqq⟩ : ∃ q, q = q2 := ⟨q2, rfl⟩
      subst hqq
      exact tail_done (k := q) (w17 _ _ ⟨⟨hgq, hsb, hdb⟩, j0, j7, j8, y8, j9, j10, y10, j12, j63, j64, j65, w8_10, trivial⟩)
     rintro a k ⟨⟨hg, hs, hd⟩, i0, i7, i8, n8, i9, i10, n10, i12, i63, i64, i65, d8_10, _⟩
     refine wp_seq ?_
     obtain ⟨x8, hx8, hr⟩ := bind_some hr
     obtain ⟨x9, hx9, hr⟩ := bind_some hr
     obtain ⟨x10, hx10, hx9⟩ := ite_bind hx9
     obtain ⟨x11, hx11, hx9⟩ := ite_bind hx9
     refine cut (fun a' k' => Bs noF k0 117 a' k' ∧ (IsV l_) (a'.get 0) k' ∧ (IsV x5) (a'.get 7) k' ∧ IsOwn 0 54 s3.1 (a'.get 8) k' ∧ Lo k0 (obF (a'.get 8)) ∧ (IsV s3.2) (a'.get 9) k' ∧ IsOwn 0 23 s4.1 (a'.get 10) k' ∧ Lo k0 (obF (a'.get 10)) ∧ (IsRef x7) (a'.get 12) k' ∧ (IsV l_) (a'.get 63) k' ∧ (IsL l_) (a'.get 64) k' ∧ (IsV s4.2) (a'.get 65) k' ∧ (IsV x9) (a'.get 85) k' ∧ Apart (obF (a'.get 8)) (obF (a'.get 10)) ∧ True) ?_ hQ ?_
     ·intro Q21 W21 w18
      refine region (m := 17) (_ :: _ :: _ :: _ :: _ :: _ :: _ :: _ :: _ :: _ :: _ :: _ :: _ :: _ :: _ :: _ :: _ :: []) hmix hs (by kernel_rfl) ⟨o1 [(12, none)] rfl fun _ _ h n => ok_fieldAddr rfl fo31_1 (at_Box_1 _) ((up i12 h n.1)).ptr, o1 [(69, some 0)] rfl fun _ _ h n => ok_load rfl ty3 n.1, mu rfl i7, mu rfl i9, o1 [(71, some 2), (72, some 3)] rfl fun _ _ h n => ok_indexAddr rfl Tryd.underlying40 ty3 (IsV.rd n.1) n.2.1 hx8, o1 [(73, some 4)] rfl fun _ _ h n => ok_load rfl ty3 n.1, o1 [(70, some 1), (74, some 5)] rfl fun _ _ h n => ok_lss rfl n.1 n.2.1, cm 6 rfl rfl, mT rfl rfl i7, mT rfl rfl i9, gT [(78, some 9)] rfl rfl fun hp _ _ h n => ok_sub rfl (Gd.get n.1 hp) (cI rfl) (hx10 hp), gT [(77, some 8), (79, some 10)] rfl rfl fun hp _ _ h n => ok_indexAddr rfl Tryd.underlying40 ty3 (IsV.rd (Gd.get n.1 hp)) (Gd.get n.2.1 hp) (hx11 hp), gT [(80, some 11)] rfl rfl fun hp _ _ h n => ok_load rfl ty3 (Gd.get n.1 hp), gT [(12, none)] rfl rfl fun hp _ _ h n => ok_fieldAddr rfl fo31_2 (at_Box_2 _) ((up i12 h n.1)).ptr, gT [(82, some 13)] rfl rfl fun hp _ _ h n => ok_load rfl ty3 (Gd.get n.1 hp), gT [(81, some 12), (83, some 14)] rfl rfl fun hp _ _ h n => ok_lss rfl (Gd.get n.1 hp) (Gd.get n.2.1 hp), o1 [(76, some 7), (84, some 15)] rfl fun _ _ h n => ok_pickM rfl n.1 hx9 (Gd.get n.2.1) (cB rfl), trivial⟩ W21 fun b q p => ?_
      exact tail_done (k := q) (w18 _ _ ⟨Bs.post ⟨hg, hs, hd⟩ p, p.ke 0 rfl i0, p.ke 7 rfl i7, p.ke 8 rfl i8, (by rw [p.old 8 rfl]; exact n8), p.ke 9 rfl i9, p.ke 10 rfl i10, (by rw [p.old 10 rfl]; exact n10), p.ke 12 rfl i12, p.ke 63 rfl i63, p.ke 64 rfl i64, p.ke 65 rfl i65, p.ou 16 85 rfl, (by rw [p.old 8 rfl, p.old 10 rfl]; exact d8_10), trivial⟩)
     rintro a k ⟨⟨hg, hs, hd⟩, i0, i7, i8, n8, i9, i10, n10, i12, i63, i64, i65, i85, d8_10, _⟩
     obtain ⟨s5, hs5, hr⟩ := bind_some hr
     refine cut (fun a' k' => Bs noF k0 117 a' k' ∧ (IsV l_) (a'.get 0) k' ∧ (IsV x5) (a'.get 7) k' ∧ IsOwn 0 54 s3.1 (a'.get 8) k' ∧ Lo k0 (obF (a'.get 8)) ∧ (IsV s3.2) (a'.get 9) k' ∧ IsOwn 0 23 s5 (a'.get 10) k' ∧ Lo k0 (obF (a'.get 10)) ∧ (IsV l_) (a'.get 63) k' ∧ (IsL l_) (a'.get 64) k' ∧ (IsV s4.2) (a'.get 65) k' ∧ Apart (obF (a'.get 8)) (obF (a'.get 10)) ∧ True) ?_ hQ ?_
     ·intro Q22 W22 w19
      replace hr := hs5
      clear hQ
      have hQ := W22
      refine wp_cond_split (isBool i85) (fun hc647 => ?_) (fun hc647 => ?_)
      ·rw [if_pos hc647] at hr
       obtain ⟨x13, hx13, hr⟩ := bind_some hr
       refine cut (fun a' k' => Bs noF k0 117 a' k' ∧ (IsV l_) (a'.get 0) k' ∧ (IsV x5) (a'.get 7) k' ∧ IsOwn 0 54 s3.1 (a'.get 8) k' ∧ Lo k0 (obF (a'.get 8)) ∧ (IsV s3.2) (a'.get 9) k' ∧ IsOwn 0 23 x13 (a'.get 10) k' ∧ Lo k0 (obF (a'.get 10)) ∧ (IsV l_) (a'.get 63) k' ∧ (IsL l_) (a'.get 64) k' ∧ (IsV s4.2) (a'.get 65) k' ∧ Apart (obF (a'.get 8)) (obF (a'.get 10)) ∧ True) ?_ hQ ?_
       ·intro Q23 W23 w20
        refine gS 4 (⟨some (OwnAt (a.get 10) 0 23 s4.1), [(10, none)]⟩ :: _ :: _ :: ⟨some (IsV (α := (List Rect)) ([x7.Base])), [(88, some 2)]⟩ :: []) hs (by kernel_rfl) ⟨ob1 rfl fun _ _ h n => ok_moveOA (.inl rfl) (ownAt n.1 (up i10 h n.1)), o1 [(12, none)] rfl fun _ _ h n => ok_fieldAddr rfl fo31_0 (at_Box_0 _) ((up i12 h n.1)).ptr, o1 [(87, some 1)] rfl fun _ _ h n => ok_load rfl ty23 n.1, ob1 rfl fun _ _ h n => ok_buildSlice rfl Tryd.underlying45 eo23 rfl (by decide) (by decide) ⟨rfl, n.1, trivial⟩, trivial⟩ W23 fun b q p => ?_
        have hgq := hg.then p.grow
        have hsb := p.size.trans hs
        have hdb := p.defers.trans hd
        have j0 := p.ke 0 rfl i0
        have j7 := p.ke 7 rfl i7
        have j8 := p.ke 8 rfl i8
        have y8 : Lo k0 (obF (b.get 8)) := by rw [p.old 8 rfl]; exact n8
        have j9 := p.ke 9 rfl i9
        have j63 := p.ke 63 rfl i63
        have j64 := p.ke 64 rfl i64
        have j65 := p.ke 65 rfl i65
        have e86 : b.get 86 = a.get 10 := (p.ou 0 86 rfl).1
        have j86 : IsOwn 0 23 s4.1 (b.get 86) q := (p.ou 0 86 rfl).2
        have y86 : Lo k0 (obF (b.get 86)) := by rw [e86]; exact n10
        have j89 : (IsV (α := (List Rect)) ([x7.Base])) (b.get 89) q := p.ou 3 89 rfl
        have w8_86 : Apart (obF (b.get 8)) (obF (b.get 86)) := by rw [p.old 8 rfl, e86]; exact d8_10
        have hns := j86.nshF
        refine tail_appendS (i := 4) (d := 90) rfl rfl rfl rfl (by rw [hsb]; decide) (e := 23) Tryd.underlying45 eo23 j86 (IsV.rd j89) hx13 fun b2 q2 hsz hdf hoth hch hown hob => ?_
        have hle := hch.le hns
        have yn : Lo k0 (obF (b2.get 90)) := y86.app hgq hob
        have v8 : Apart (obF (b.get 8)) (obF (b2.get 90)) := Apart.app w8_86 j8.ltF hob
        replace j0 := Pers.pers hle j0
        replace j7 := Pers.pers hle j7
        replace j8 := j8.keep hch w8_86 hns
        replace j9 := Pers.pers hle j9
        replace j63 := Pers.pers hle j63
        replace j64 := Pers.pers hle j64
        replace j65 := Pers.pers hle j65
        replace j89 := Pers.pers hle j89
        replace hgq := hgq.step hch y86.wr
        rw [← hoth 0 (by decide)] at j0
        rw [← hoth 7 (by decide)] at j7
        rw [← hoth 8 (by decide)] at j8
        rw [← hoth 8 (by decide)] at y8
        rw [← hoth 9 (by decide)] at j9
        rw [← hoth 63 (by decide)] at j63
        rw [← hoth 64 (by decide)] at j64
        rw [← hoth 65 (by decide)] at j65
        rw [← hoth 89 (by decide)] at j89
        rw [← hoth 8 (by decide)] at v8
        have w8_90 := v8
        have j90 := hown
        have y90 := yn
        replace hsb := hsz.trans hsb
        replace hdb := hdf.trans hdb
        clear hle hch hown hob hns yn hsz hdf hoth
        obtain ⟨b, hbb⟩ : ∃ b, b = b2 := ⟨b2, rfl⟩
        subst hbb
        obtain ⟨q, hqq⟩ : ∃ q, q = q2 := ⟨q2, rfl⟩
        subst hqq
        refine tail_assign (i := 5) (d := 10) rfl rfl (.inl rfl) rfl (by rw [hsb]; decide) fun b2 hsz hdf hnew hoth => ?_
        have jn : (IsOwn 0 23 x13) (b2.get 10) q := by rw [hnew]; exact j90
        have yn : Lo k0 (obF (b2.get 10)) := by rw [hnew]; exact y90
        have v8 : Apart (obF (b.get 8)) (obF (b2.get 10)) := by rw [hnew]; exact w8_90
        rw [← hoth 0 (by decide)] at j0
        rw [← hoth 7 (by decide)] at j7
        rw [← hoth 8 (by decide)] at j8
        rw [← hoth 8 (by decide)] at y8
        rw [← hoth 9 (by decide)] at j9
        rw [← hoth 63 (by decide)] at j63
        rw [← hoth 64 (by decide)] at j64
        rw [← hoth 65 (by decide)] at j65
        rw [← hoth 89 (by decide)] at j89
        rw [← hoth 8 (by decide)] at v8
        have w8_10 := v8
        have j10 := jn
        have y10 := yn
        replace hsb := hsz.trans hsb
        replace hdb := hdf.trans hdb
        clear hsz hdf hoth
        obtain ⟨b, hbb⟩ : ∃ b, b = b2 := ⟨b2, rfl⟩
        subst hbb
        exact tail_done (k := q) (w20 _ _ ⟨⟨hgq, hsb, hdb⟩, j0, j7, j8, y8, j9, j10, y10, j63, j64, j65, w8_10, trivial⟩)
       rintro a k ⟨⟨hg, hs, hd⟩, i0, i7, i8, n8, i9, i10, n10, i63, i64, i65, d8_10, _⟩
       obtain rfl := Option.some.inj hr
       exact w19 _ _ ⟨⟨hg, hs, hd⟩, i0, i7, i8, n8, i9, i10, n10, i63, i64, i65, d8_10, trivial⟩
      rw [if_neg (by rw [hc647]; decide)] at hr
      refine wp_skip ?_
      obtain rfl := Option.some.inj hr
      exact w19 _ _ ⟨⟨hg, hs, hd⟩, i0, i7, i8, n8, i9, i10, n10, i63, i64, i65, d8_10, trivial⟩
     clear hs5
     rintro a k ⟨⟨hg, hs, hd⟩, i0, i7, i8, n8, i9, i10, n10, i63, i64, i65, d8_10, _⟩
     obtain ⟨x14, hx14, hr⟩ := bind_some hr
     refine cut (fun a' k' => Bs noF k0 117 a' k' ∧ (IsV l_) (a'.get 0) k' ∧ (IsV x5) (a'.get 7) k' ∧ IsOwn 0 54 s3.1 (a'.get 8) k' ∧ Lo k0 (obF (a'.get 8)) ∧ (IsV s3.2) (a'.get 9) k' ∧ IsOwn 0 23 s5 (a'.get 10) k' ∧ Lo k0 (obF (a'.get 10)) ∧ (IsV l_) (a'.get 63) k' ∧ (IsL l_) (a'.get 64) k' ∧ (IsV x14) (a'.get 65) k' ∧ Apart (obF (a'.get 8)) (obF (a'.get 10)) ∧ True) ?_ hQ ?_
     ·intro Q24 W24 w21
      refine gS 2 (_ :: _ :: []) hs (by kernel_rfl) ⟨o1 [(65, none)] rfl fun _ _ h n => ok_add rfl (up i65 h n.1) (cI rfl) hx14, cm 0 rfl rfl, trivial⟩ W24 fun b q p => ?_
      exact tail_done (k := q) (w21 _ _ ⟨Bs.post ⟨hg, hs, hd⟩ p, p.ke 0 rfl i0, p.ke 7 rfl i7, p.ke 8 rfl i8, (by rw [p.old 8 rfl]; exact n8), p.ke 9 rfl i9, p.ke 10 rfl i10, (by rw [p.old 10 rfl]; exact n10), p.ke 63 rfl i63, p.ke 64 rfl i64, p.ou 1 65 rfl, (by rw [p.old 8 rfl, p.old 10 rfl]; exact d8_10), trivial⟩)
     rintro a k ⟨⟨hg, hs, hd⟩, i0, i7, i8, n8, i9, i10, n10, i63, i64, i65, d8_10, _⟩
     exact hgo636 _ _ _ (Option.some.inj hr).symm ⟨⟨hg, hs, hd⟩, i0, i7, i8, n8, i9, i10, n10, i63, i64, i65, d8_10, trivial⟩
    rw [if_neg (by rw [hc657]; decide)] at hr
    refine wp_exit ?_
    obtain ⟨kk, sh656, ii10⟩ := i10.give
    replace i0 := Pers.pers sh656.le i0
    replace i7 := Pers.pers sh656.le i7
    replace i8 := i8.handed sh656 d8_10
    replace i9 := Pers.pers sh656.le i9
    replace i10 := ii10
    replace hg := hg.hand sh656 n10.wr
    rw [← sh656.w]
    clear sh656
    obtain ⟨k, hkk⟩ : ∃ k, k = kk := ⟨kk, rfl⟩
    subst hkk
    exact hex637 _ _ _ _ (Option.some.inj hr).symm ⟨rfl, ⟨hg, hs, hd⟩, i0, i7, i8, n8, i9, i10, trivial⟩
   ·rintro r2 a k rfl hR
    dsimp only at hr
    exact hret631 _ _ _ (Option.some.inj hr).symm hR
   ·rintro _ _ _ rfl _
    simp at hr
   clear hf3
   rintro _ s6 a k rfl ⟨rfl, ⟨hg, hs, hd⟩, i0, i7, i8, n8, i9, i10, _⟩
   dsimp only at hr
   refine wp_seq ?_
   obtain ⟨x15, hx15, hr⟩ := bind_some hr
   refine cut (fun a' k' => Bs noF k0 117 a' k' ∧ (IsV l_) (a'.get 0) k' ∧ (IsV x5) (a'.get 7) k' ∧ IsOwn 0 54 s3.1 (a'.get 8) k' ∧ Lo k0 (obF (a'.get 8)) ∧ (IsV s3.2) (a'.get 9) k' ∧ (IsV x15.1) (a'.get 13) k' ∧ (IsV x15.2) (a'.get 14) k' ∧ True) ?_ hQ ?_
   ·intro Q25 W25 w22
    refine gS 7 (_ :: _ :: _ :: _ :: _ :: _ :: _ :: []) hs (by kernel_rfl) ⟨mu rfl i10, o1 [(93, some 0)] rfl fun _ _ h n => ok_call rfl Tryd.call18 (region_Of_ok n.1 hx15), cm 1 rfl rfl, o1 [(92, some 2)] rfl fun _ _ h n => ok_ext2_0 rfl n.1, o1 [(92, some 2)] rfl fun _ _ h n => ok_ext2_1 rfl n.1, cp 3 rfl rfl, cp 4 rfl rfl, trivial⟩ W25 fun b q p => ?_
    exact tail_done (k := q) (w22 _ _ ⟨Bs.post ⟨hg, hs, hd⟩ p, p.ke 0 rfl i0, p.ke 7 rfl i7, p.ke 8 rfl i8, (by rw [p.old 8 rfl]; exact n8), p.ke 9 rfl i9, p.ou 5 13 rfl, p.ou 6 14 rfl, trivial⟩)
   rintro a k ⟨⟨hg, hs, hd⟩, i0, i7, i8, n8, i9, i13, i14, _⟩
   refine wp_seq ?_
   refine cutS (fun c l => Bs noF k0 117 c l ∧ IsV l_ (c.get 0) l ∧ IsV x5 (c.get 7) l ∧ IsOwn 0 54 s3.1 (c.get 8) l ∧ Lo k0 (obF (c.get 8)) ∧ IsV s3.2 (c.get 9) l ∧ IsV x15.1 (c.get 13) l ∧ IsV x15.2 (c.get 14) l ∧ IsV (x15.2 != 0) (c.get 98) l ∧ True) ?_ ?_
   ·intro Q26 W26 w23
    refine gS 2 (_ :: ⟨some (IsV (x15.2 != 0)), [(97, some 0)]⟩ :: []) hs (by kernel_rfl) ⟨mu rfl i14, ob1 rfl fun _ _ h n => ok_neI rfl n.1 (cI rfl), trivial⟩ W26 fun b q p => ?_
    exact tail_done (k := q) (w23 _ _ ⟨Bs.post ⟨hg, hs, hd⟩ p, p.ke 0 rfl i0, p.ke 7 rfl i7, p.ke 8 rfl i8, (by rw [p.old 8 rfl]; exact n8), p.ke 9 rfl i9, p.ke 13 rfl i13, p.ke 14 rfl i14, p.ou 1 98 rfl, trivial⟩)
   rintro a k ⟨⟨hg, hs, hd⟩, i0, i7, i8, n8, i9, i13, i14, i98, _⟩
   refine wp_cond_split (isBool i98) (fun hc673 => ?_) (fun hc673 => ?_)
   ·rw [if_pos hc673] at hr
    refine cutL noF k0 117 [⟨2, IsV ([] : List Slab)⟩, ⟨3, IsV x15.2⟩] ?_ ?_
    ·intro Q27 W27 w24
     refine gS 3 (_ :: ⟨some IsE0, []⟩ :: _ :: []) hs (by kernel_rfl) ⟨mu rfl i14, ob1 rfl fun b q h n => ok_assign rfl isE0_nil, cp 0 rfl rfl, trivial⟩ W27 fun b q p => ?_
     have hgq := hg.then p.grow
     have hsb := p.size.trans hs
     have hdb := p.defers.trans hd
     have j2 : IsE0 (b.get 2) q := p.ou 1 2 rfl
     have j3 : (IsV x15.2) (b.get 3) q := p.ou 2 3 rfl
     replace j2 : IsV ([] : List Slab) (b.get 2) q := j2.isV
     exact tail_done (k := q) (w24 _ _ ⟨⟨hgq, hsb, hdb⟩, j2, j3, trivial⟩)
    rintro a k ⟨⟨hg, hs, hd⟩, i2, i3, _⟩
    refine wp_ret ?_
    exact hret631 _ _ _ (Option.some.inj hr).symm (retC2 rfl hd hg i2 i3)
   rw [if_neg (by rw [hc673]; decide)] at hr
   refine wp_skip ?_
   obtain ⟨x16, hx16, hr⟩ := bind_some hr
   obtain ⟨x17, hx17, hr⟩ := bind_some hr
   obtain ⟨x18, hx18, hr⟩ := bind_some hr
   obtain ⟨x19, hx19, hr⟩ := bind_some hr
   refine cut (fun a' k' => Bs noF k0 117 a' k' ∧ (IsV l_) (a'.get 0) k' ∧ (IsV x5) (a'.get 7) k' ∧ IsOwn 0 54 x19 (a'.get 8) k' ∧ Lo k0 (obF (a'.get 8)) ∧ (IsV s3.2) (a'.get 9) k' ∧ True) ?_ hQ ?_
   ·intro Q28 W28 w25
    refine region (m := 12) (⟨some (OwnAt (a.get 8) 0 54 s3.1), [(8, none)]⟩ :: _ :: _ :: _ :: _ :: _ :: _ :: _ :: _ :: _ :: _ :: ⟨some (IsV (⟨x17, x18, x15.1⟩ : Slab)), [(105, some 5), (109, some 9), (110, some 10)]⟩ :: []) hmix hs (by kernel_rfl) ⟨ob1 rfl fun _ _ h n => ok_moveOA (.inl rfl) (ownAt n.1 (up i8 h n.1)), mu rfl i7, mu rfl i9, o1 [(102, some 2)] rfl fun _ _ h n => ok_sub rfl n.1 (cI rfl) hx16, o1 [(101, some 1), (103, some 3)] rfl fun _ _ h n => ok_indexAddr rfl Tryd.underlying40 ty3 (IsV.rd n.1) n.2.1 hx17, o1 [(104, some 4)] rfl fun _ _ h n => ok_load rfl ty3 n.1, mu rfl i7, mu rfl i9, o1 [(106, some 6), (107, some 7)] rfl fun _ _ h n => ok_indexAddr rfl Tryd.underlying40 ty3 (IsV.rd n.1) n.2.1 hx18, o1 [(108, some 8)] rfl fun _ _ h n => ok_load rfl ty3 n.1, mu rfl i13, ob1 rfl fun _ _ h n => ok_build rfl (bld54_0_1_2 n.1 n.2.1 n.2.2.1), trivial⟩ W28 fun b q p => ?_
    have hgq := hg.then p.grow
    have hsb := p.size.trans hs
    have hdb := p.defers.trans hd
    have j0 := p.ke 0 rfl i0
    have j7 := p.ke 7 rfl i7
    have j9 := p.ke 9 rfl i9
    have e100 : b.get 100 = a.get 8 := (p.ou 0 100 rfl).1
    have j100 : IsOwn 0 54 s3.1 (b.get 100) q := (p.ou 0 100 rfl).2
    have y100 : Lo k0 (obF (b.get 100)) := by rw [e100]; exact n8
    have j111 : (IsV (⟨x17, x18, x15.1⟩ : Slab)) (b.get 111) q := p.ou 11 111 rfl
    have hns := j100.nshF
    refine tail_call (F := obF (b.get 100)) (i := 12) (d := 112) rfl rfl rfl rfl (by rw [hsb]; decide) Tryd.call19 W28 (solid_put_ok j100 j111 hx19) fun b2 q2 hsz hdf hoth hch hres => ?_
    have hle := hch.le hns
    obtain ⟨hown, hob⟩ := hres
    have yn : Lo k0 (obF (b2.get 112)) := y100.app hgq hob
    replace j0 := Pers.pers hle j0
    replace j7 := Pers.pers hle j7
    replace j9 := Pers.pers hle j9
    replace j111 := Pers.pers hle j111
    replace hgq := hgq.step hch y100.wr
    rw [← hoth 0 (by decide)] at j0
    rw [← hoth 7 (by decide)] at j7
    rw [← hoth 9 (by decide)] at j9
    rw [← hoth 111 (by decide)] at j111
    have j112 := hown
    have y112 := yn
    have hres := True.intro
    clear hown hob yn
    replace hsb := hsz.trans hsb
    replace hdb := hdf.trans hdb
    clear hle hch hres hns hsz hdf hoth
    obtain ⟨b, hbb⟩ : ∃ b, b = b2 := ⟨b2, rfl⟩
    subst hbb
    obtain ⟨q, hqq⟩ : ∃ q, q = q2 := ⟨q2, rfl⟩
    subst hqq
    refine tail_assign (i := 13) (d := 8) rfl rfl (.inl rfl) rfl (by rw [hsb]; decide) fun b2 hsz hdf hnew hoth => ?_
    have jn : (IsOwn 0 54 x19) (b2.get 8) q := by rw [hnew]; exact j112
    have yn : Lo k0 (obF (b2.get 8)) := by rw [hnew]; exact y112
    rw [← hoth 0 (by decide)] at j0
    rw [← hoth 7 (by decide)] at j7
    rw [← hoth 9 (by decide)] at j9
    rw [← hoth 111 (by decide)] at j111
    have j8 := jn
    have y8 := yn
    replace hsb := hsz.trans hsb
    replace hdb := hdf.trans hdb
    clear hsz hdf hoth
    obtain ⟨b, hbb⟩ : ∃ b, b = b2 := ⟨b2, rfl⟩
    subst hbb
    exact tail_done (k := q) (w25 _ _ ⟨⟨hgq, hsb, hdb⟩, j0, j7, j8, y8, j9, trivial⟩)
   rintro a k ⟨⟨hg, hs, hd⟩, i0, i7, i8, n8, i9, _⟩
   obtain ⟨x20, hx20, hr⟩ := bind_some hr
   refine cut (fun a' k' => Bs noF k0 117 a' k' ∧ (IsV l_) (a'.get 0) k' ∧ (IsV x5) (a'.get 7) k' ∧ IsOwn 0 54 x19 (a'.get 8) k' ∧ Lo k0 (obF (a'.get 8)) ∧ (IsV x20) (a'.get 9) k' ∧ True) ?_ hQ ?_
   ·intro Q29 W29 w26
    refine gS 3 (_ :: _ :: _ :: []) hs (by kernel_rfl) ⟨mu rfl i9, o1 [(61, some 0)] rfl fun _ _ h n => ok_add rfl n.1 (cI rfl) hx20, cp 1 rfl rfl, trivial⟩ W29 fun b q p => ?_
    exact tail_done (k := q) (w26 _ _ ⟨Bs.post ⟨hg, hs, hd⟩ p, p.ke 0 rfl i0, p.ke 7 rfl i7, p.ke 8 rfl i8, (by rw [p.old 8 rfl]; exact n8), p.ou 2 9 rfl, trivial⟩)
   rintro a k ⟨⟨hg, hs, hd⟩, i0, i7, i8, n8, i9, _⟩
   exact hgo629 _ _ _ (Option.some.inj hr).symm ⟨⟨hg, hs, hd⟩, i0, i7, i8, n8, i9, trivial⟩
  rw [if_neg (by rw [hc685]; decide)] at hr
  refine wp_exit ?_
  obtain ⟨kk, sh684, ii8⟩ := i8.give
  replace i8 := ii8
  replace hg := hg.hand sh684 n8.wr
  rw [← sh684.w]
  clear sh684
  obtain ⟨k, hkk⟩ : ∃ k, k = kk := ⟨kk, rfl⟩
  subst hkk
  exact hex630 _ _ _ _ (Option.some.inj hr).symm ⟨rfl, ⟨hg, hs, hd⟩, i8, trivial⟩
 ·rintro r3 a k rfl hR
  dsimp only at hr
  obtain rfl := Option.some.inj hr
  exact hR
 ·rintro _ _ _ rfl _
  simp at hr
 clear hf2
 rintro _ s7 a k rfl ⟨rfl, ⟨hg, hs, hd⟩, i8, _⟩
 dsimp only at hr
 refine wp_seq ?_
 obtain ⟨x21, hx21, hr⟩ := bind_some hr
 refine cut (fun a' k' => Bs noF k0 117 a' k' ∧ (IsV x21.1) (a'.get 2) k' ∧ (IsV x21.2) (a'.get 3) k' ∧ True) ?_ hQ ?_
 ·intro Q30 W30 w27
  refine gS 6 (_ :: _ :: _ :: _ :: _ :: _ :: []) hs (by kernel_rfl) ⟨mu rfl i8, o1 [(113, some 0)] rfl fun _ _ h n => ok_call rfl Tryd.call20 (solid_fits_ok n.1 hx21), o1 [(114, some 1)] rfl fun _ _ h n => ok_ext2_0 rfl n.1, o1 [(114, some 1)] rfl fun _ _ h n => ok_ext2_1 rfl n.1, cp 2 rfl rfl, cp 3 rfl rfl, trivial⟩ W30 fun b q p => ?_
  exact tail_done (k := q) (w27 _ _ ⟨Bs.post ⟨hg, hs, hd⟩ p, p.ou 4 2 rfl, p.ou 5 3 rfl, trivial⟩)
 rintro a k ⟨⟨hg, hs, hd⟩, i2, i3, _⟩
 refine wp_ret ?_
 obtain rfl := Option.some.inj hr
 exact retC2 rfl hd hg i2 i3
noncomputable def k6 := mkO 6 [.list (.st 5)] [.list (.st 3), .int] (fun x => solid_Of x) Tryd.call6 fun k0 vs x r _ h hr => by obtain ⟨v0, rfl, i0⟩ := h.one; exact ret2F (T := tb) (solid_Of_ok i0 hr)
def slices_IndexFunc_Plane_L0 (s_ : (List Plane)) (f_ : (Plane → Option (Bool))) (s1 : Int) : Option (Flow (Int) (Int)) :=
 if (decide (s1 < (s_.length : Int))) then
  (getI s_ s1).bind fun x1 =>
  (f_ x1).bind fun x2 =>
  if x2 then
   some (.ret s1)
  else
   (addI s1 1).bind fun x3 =>
   some (.go x3)
 else
  some (.ex 0 s1)
def slices_IndexFunc_Plane (s_ : (List Plane)) (f_ : (Plane → Option (Bool))) : Option (Int) :=
 (iterL (slices_IndexFunc_Plane_L0 s_ f_) (s_.length + 1) 0).bind fun f1 => match f1 with
  | .go _ => none
  | .ex _ _ =>
   some (-1)
  | .ret r1 => some r1
theorem slices_IndexFunc_Plane_ok {k0 : K} {v0 v1 : Value} {s_ : (List Plane)} {f_ : (Plane → Option (Bool))} {r : Int} (i0 : (IsV s_) v0 k0) (i1 : (IsFn1 Tryd.prog f_) v1 k0) (hr : slices_IndexFunc_Plane s_ f_ = some r) :
  Calls Tryd.prog 57 #[v0, v1] k0.w (Ret k0 (IsV r)) := by
 unfold slices_IndexFunc_Plane at hr
 refine Ret.ofC ?_
 refine enterK Tryd.func57 rfl Tryd.ntmps57 (show 2 ≤ 19 by decide) fun a k hk0 hs hd ha => ?_
 obtain ⟨e0, e1, _⟩ := ha
 replace i0 : (IsV s_) (a.get 0) k := by rw [e0, hk0]; exact i0
 replace i1 : (IsFn1 Tryd.prog f_) (a.get 1) k := by rw [e1, hk0]; exact i1
 have hQ : Gb.LetsOut (bodyPost Tryd.prog Tryd.f57 (RetC noF k0 (IsV r))) := letsOutC
 have hg : Chg noF k0 k := by rw [hk0]; exact Chg.refl _ k0
 refine stepL 1 (⟨some (IsI 0), []⟩ :: []) rfl ⟨hg, hs, hd⟩ (by kernel_rfl) ⟨aI rfl rfl, trivial⟩ [⟨_, _⟩, ⟨_, _⟩] (fun b q p => ⟨p.ke 0 rfl i0, p.ke 1 rfl i1, trivial⟩) ?_
 rintro a k ⟨⟨hg, hs, hd⟩, i0, i1, _⟩
 refine wp_seq ?_
 refine stepL 3 (_ :: _ :: ⟨some (IsI 0), []⟩ :: []) rfl ⟨hg, hs, hd⟩ (by kernel_rfl) ⟨mu rfl i0, o1 [(6, some 0)] rfl fun _ _ h n => ok_len rfl rfl Tryd.underlying24 (IsV.rd n.1), ob1 rfl fun _ _ h n => ok_move rfl (cI rfl), trivial⟩ [⟨_, _⟩, ⟨_, _⟩, ⟨_, _⟩, ⟨_, _⟩] (fun b q p => ⟨p.ke 0 rfl i0, p.ke 1 rfl i1, p.ou 1 7 rfl, p.ou 2 8 rfl, trivial⟩) ?_
 rintro a k ⟨⟨hg, hs, hd⟩, i0, i1, i7, i8, _⟩
 refine wp_block ?_
 obtain ⟨f1, hf1, hr⟩ := bind_some hr
 refine cutFe f1 (fun s' c l => Bs noF k0 19 c l ∧ IsV s_ (c.get 0) l ∧ IsFn1 Tryd.prog f_ (c.get 1) l ∧ IsL s_ (c.get 7) l ∧ IsV s' (c.get 8) l ∧ True) (fun i' s' c l => (i' = 0 ∧ Bs noF k0 19 c l ∧ True)) (fun r' c l => bodyPost Tryd.prog Tryd.f57 (RetC noF k0 (IsV r')) .ret c l.w) ?_ hQ ?_ ?_ ?_
 ·intro Q1 W1 hgo hex hret
  refine sim_loop ?_ _ _ _ _ _ hf1 ⟨⟨hg, hs, hd⟩, i0, i1, i7, i8, trivial⟩ Q1 W1 hgo hex hret
  clear hr hf1 hgo hex hret W1 hQ hg hs hd i0 i1 i7 i8
  intro s1 fl_ a k hr hS Q hQ hgo715 hex716 hret717
  obtain ⟨⟨hg, hs, hd⟩, i0, i1, i7, i8, _⟩ := hS
  unfold slices_IndexFunc_Plane_L0 at hr
  refine stepL 1 (_ :: []) rfl ⟨hg, hs, hd⟩ (by kernel_rfl) ⟨o1 [(8, none), (7, none)] rfl fun _ _ h n => ok_lss rfl (up i8 h n.1) (up i7 h n.2.1), trivial⟩ [⟨_, _⟩, ⟨_, _⟩, ⟨_, _⟩, ⟨_, _⟩, ⟨_, _⟩] (fun b q p => ⟨p.ke 0 rfl i0, p.ke 1 rfl i1, p.ke 7 rfl i7, p.ke 8 rfl i8, p.ou 0 9 rfl, trivial⟩) ?_
  rintro a k ⟨⟨hg, hs, hd⟩, i0, i1, i7, i8, i9, _⟩
  refine wp_seq ?_
  refine wp_cond_split (isBool i9) (fun hc732 => ?_) (fun hc732 => ?_)
  ·rw [if_pos hc732] at hr
   refine wp_skip ?_
   refine wp_seq ?_
   refine wp_block ?_
   refine stepL 2 (_ :: _ :: []) rfl ⟨hg, hs, hd⟩ (by kernel_rfl) ⟨mu rfl i8, cp 0 rfl rfl, trivial⟩ [⟨_, _⟩, ⟨_, _⟩, ⟨_, _⟩, ⟨_, _⟩, ⟨_, _⟩] (fun b q p => ⟨p.ke 0 rfl i0, p.ke 1 rfl i1, p.ou 1 5 rfl, p.ke 7 rfl i7, p.ke 8 rfl i8, trivial⟩) ?_
   rintro a k ⟨⟨hg, hs, hd⟩, i0, i1, i5, i7, i8, _⟩
   refine wp_seq ?_
   obtain ⟨x1, hx1, hr⟩ := bind_some hr
   obtain ⟨x2, hx2, hr⟩ := bind_some hr
   refine cut (fun a' k' => Bs noF k0 19 a' k' ∧ (IsV s_) (a'.get 0) k' ∧ (IsFn1 Tryd.prog f_) (a'.get 1) k' ∧ (IsV s1) (a'.get 5) k' ∧ (IsL s_) (a'.get 7) k' ∧ (IsV s1) (a'.get 8) k' ∧ (IsV x2) (a'.get 16) k' ∧ True) ?_ hQ ?_
   ·intro Q2 W2 w1
    refine gS 6 (_ :: _ :: _ :: _ :: _ :: ⟨some (IsV x2), [(11, some 0), (15, some 4)]⟩ :: []) hs (by kernel_rfl) ⟨mu rfl i1, mu rfl i0, mu rfl i5, o1 [(12, some 1), (13, some 2)] rfl fun _ _ h n => ok_indexAddr rfl Tryd.underlying24 ty42 (IsV.rd n.1) n.2.1 hx1, o1 [(14, some 3)] rfl fun _ _ h n => ok_load rfl ty42 n.1, ob1 rfl fun _ _ h n => ok_callF1 rfl n.1 n.2.1 hx2, trivial⟩ W2 fun b q p => ?_
    exact tail_done (k := q) (w1 _ _ ⟨Bs.post ⟨hg, hs, hd⟩ p, p.ke 0 rfl i0, p.ke 1 rfl i1, p.ke 5 rfl i5, p.ke 7 rfl i7, p.ke 8 rfl i8, p.ou 5 16 rfl, trivial⟩)
   rintro a k ⟨⟨hg, hs, hd⟩, i0, i1, i5, i7, i8, i16, _⟩
   refine wp_cond_split (isBool i16) (fun hc727 => ?_) (fun hc727 => ?_)
   ·rw [if_pos hc727] at hr
    refine stepL 2 (_ :: _ :: []) rfl ⟨hg, hs, hd⟩ (by kernel_rfl) ⟨mu rfl i5, cp 0 rfl rfl, trivial⟩ [⟨_, _⟩] (fun b q p => ⟨p.ou 1 4 rfl, trivial⟩) ?_
    rintro a k ⟨⟨hg, hs, hd⟩, i4, _⟩
    refine wp_ret ?_
    exact hret717 _ _ _ (Option.some.inj hr).symm (retC1 rfl hd hg i4)
   rw [if_neg (by rw [hc727]; decide)] at hr
   refine wp_skip ?_
   obtain ⟨x3, hx3, hr⟩ := bind_some hr
   refine cut (fun a' k' => Bs noF k0 19 a' k' ∧ (IsV s_) (a'.get 0) k' ∧ (IsFn1 Tryd.prog f_) (a'.get 1) k' ∧ (IsL s_) (a'.get 7) k' ∧ (IsV x3) (a'.get 8) k' ∧ True) ?_ hQ ?_
   ·intro Q3 W3 w2
    refine gS 2 (_ :: _ :: []) hs (by kernel_rfl) ⟨o1 [(8, none)] rfl fun _ _ h n => ok_add rfl (up i8 h n.1) (cI rfl) hx3, cm 0 rfl rfl, trivial⟩ W3 fun b q p => ?_
    exact tail_done (k := q) (w2 _ _ ⟨Bs.post ⟨hg, hs, hd⟩ p, p.ke 0 rfl i0, p.ke 1 rfl i1, p.ke 7 rfl i7, p.ou 1 8 rfl, trivial⟩)
   rintro a k ⟨⟨hg, hs, hd⟩, i0, i1, i7, i8, _⟩
   exact hgo715 _ _ _ (Option.some.inj hr).symm ⟨⟨hg, hs, hd⟩, i0, i1, i7, i8, trivial⟩
  rw [if_neg (by rw [hc732]; decide)] at hr
  refine wp_exit ?_
  exact hex716 _ _ _ _ (Option.some.inj hr).symm ⟨rfl, ⟨hg, hs, hd⟩, trivial⟩
 ·rintro r1 a k rfl hR
  dsimp only at hr
  obtain rfl := Option.some.inj hr
  exact hR
 ·rintro _ _ _ rfl _
  simp at hr
 clear hf1
 rintro _ s2 a k rfl ⟨rfl, ⟨hg, hs, hd⟩, _⟩
 dsimp only at hr
 refine stepL 1 (⟨some (IsI (-1)), []⟩ :: []) rfl ⟨hg, hs, hd⟩ (by kernel_rfl) ⟨aI rfl rfl, trivial⟩ [⟨_, _⟩] (fun b q p => ⟨p.ou 0 4 rfl, trivial⟩) ?_
 rintro a k ⟨⟨hg, hs, hd⟩, i4, _⟩
 refine wp_ret ?_
 obtain rfl := Option.some.inj hr
 exact retC1 rfl hd hg i4
def slices_ContainsFunc_Plane (s_ : (List Plane)) (f_ : (Plane → Option (Bool))) : Option (Bool) :=
 (slices_IndexFunc_Plane s_ f_).bind fun x1 =>
 some (decide (0 ≤ x1))
theorem slices_ContainsFunc_Plane_ok {k0 : K} {v0 v1 : Value} {s_ : (List Plane)} {f_ : (Plane → Option (Bool))} {r : Bool} (i0 : (IsV s_) v0 k0) (i1 : (IsFn1 Tryd.prog f_) v1 k0) (hr : slices_ContainsFunc_Plane s_ f_ = some r) :
  Calls Tryd.prog 44 #[v0, v1] k0.w (Ret k0 (IsV r)) := by
 unfold slices_ContainsFunc_Plane at hr
 refine Ret.ofC ?_
 refine enterK Tryd.func44 rfl Tryd.ntmps44 (show 2 ≤ 9 by decide) fun a k hk0 hs hd ha => ?_
 obtain ⟨e0, e1, _⟩ := ha
 replace i0 : (IsV s_) (a.get 0) k := by rw [e0, hk0]; exact i0
 replace i1 : (IsFn1 Tryd.prog f_) (a.get 1) k := by rw [e1, hk0]; exact i1
 have hQ : Gb.LetsOut (bodyPost Tryd.prog Tryd.f44 (RetC noF k0 (IsV r))) := letsOutC
 have hg : Chg noF k0 k := by rw [hk0]; exact Chg.refl _ k0
 refine stepL 1 (⟨some (IsV false), []⟩ :: []) rfl ⟨hg, hs, hd⟩ (by kernel_rfl) ⟨ob1 rfl fun _ _ h n => ok_assign rfl (isV_bool.2 rfl), trivial⟩ [⟨_, _⟩, ⟨_, _⟩] (fun b q p => ⟨p.ke 0 rfl i0, p.ke 1 rfl i1, trivial⟩) ?_
 rintro a k ⟨⟨hg, hs, hd⟩, i0, i1, _⟩
 refine wp_seq ?_
 obtain ⟨x1, hx1, hr⟩ := bind_some hr
 refine cut (fun a' k' => Bs noF k0 9 a' k' ∧ (IsV (decide (0 ≤ x1))) (a'.get 4) k' ∧ True) ?_ hQ ?_
 ·intro Q1 W1 w1
  refine gS 5 (_ :: _ :: _ :: _ :: _ :: []) hs (by kernel_rfl) ⟨mu rfl i0, mu rfl i1, o1 [(5, some 0), (6, some 1)] rfl fun _ _ h n => ok_call rfl Tryd.call57 (slices_IndexFunc_Plane_ok n.1 n.2.1 hx1), o1 [(7, some 2)] rfl fun _ _ h n => ok_geq rfl n.1 (cI rfl), cp 3 rfl rfl, trivial⟩ W1 fun b q p => ?_
  exact tail_done (k := q) (w1 _ _ ⟨Bs.post ⟨hg, hs, hd⟩ p, p.ou 4 4 rfl, trivial⟩)
 rintro a k ⟨⟨hg, hs, hd⟩, i4, _⟩
 refine wp_ret ?_
 obtain rfl := Option.some.inj hr
 exact retC1 rfl hd hg i4
def plane_within (n_ : Int) (lo_ : Int) (hi_ : Int) : Option (Bool) :=
 some ((decide (lo_ ≤ n_)) && (decide (n_ ≤ hi_)))
noncomputable def k31 := mk 31 [.int, .int, .int] [.bool] (fun x => plane_within x.1 x.2.1 x.2.2) [] [] Tryd.f31 (.n) Tryd.func31 Tryd.call31 rfl rfl fun x => by kernel_rfl
def plane_Right (p_ : Plane) : Option (Bool) :=
 (plane_within p_.Side 0 3).bind fun x1 =>
 (if x1 then
  (plane_within p_.Base 0 4096).bind fun x2 =>
  some x2
 else
  some false).bind fun x3 =>
 (if x3 then
  (plane_within p_.Num 0 4096).bind fun x4 =>
  some x4
 else
  some false).bind fun x5 =>
 (if x5 then
  (plane_within p_.Den 1 4096).bind fun x6 =>
  some x6
 else
  some false).bind fun x7 =>
 some x7
noncomputable def k30 := mk 30 [.st 6] [.bool] (fun x => plane_Right x) [k31] [] Tryd.f30 (.n) Tryd.func30 Tryd.call30 rfl rfl fun x => by kernel_rfl
def plane_valid_1 (p_ : Plane) : Option (Bool) :=
 (plane_Right p_).bind fun x1 =>
 some (!x1)
noncomputable def k45 := mk 45 [.st 6] [.bool] (fun x => plane_valid_1 x) [k30] [] Tryd.f45 (.n) Tryd.func45 Tryd.call45 rfl rfl fun x => by kernel_rfl
theorem plane_valid_1_ok {k0 : K} {v0 : Value} {x0 : Plane} {r : Bool} (i0 : IsV x0 v0 k0) (hr : plane_valid_1 x0 = some r) : Calls Tryd.prog 45 #[v0] k0.w (Ret k0 (IsV r)) := (k45.ok.ok k0 [v0] x0 r (GOk.none fun _ => rfl) i0 hr)
end Go.Proofs.YtpbeebhapbibfaaDoor
