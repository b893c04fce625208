/- What the functions compute that the law reaches, part 2 -/
import Derived.Test.YtmniloampanhfaaT1
namespace Go.Proofs.Ytmniloampanhfaa
open Go.Gb
set_option linter.unusedVariables false
set_option linter.unusedSimpArgs false
set_option maxRecDepth 100000
def rect_Right (r_ : Rect) : Option (Bool) :=
 some ((((((decide (0 ≤ r_.X0)) && (decide (r_.X0 < r_.X1))) && (decide (r_.X1 ≤ 1048576))) && (decide (0 ≤ r_.Y0))) && (decide (r_.Y0 < r_.Y1))) && (decide (r_.Y1 ≤ 1048576)))
theorem rect_Right_ok {k0 : K} {v0 : Value} {r_ : Rect} {r : Bool} (i0 : (IsV r_) v0 k0) (hr : rect_Right r_ = some r) :
  Calls Try.prog 29 #[v0] k0.w (Ret k0 (IsV r)) := by
 unfold rect_Right at hr
 refine Ret.ofC ?_
 refine enterK Try.func29 rfl Try.ntmps29 (show 1 ≤ 35 by decide) fun a k hk0 hs hd ha => ?_
 obtain ⟨e0, _⟩ := ha
 replace i0 : (IsV r_) (a.get 0) k := by rw [e0, hk0]; exact i0
 have hQ : Gb.LetsOut (bodyPost Try.prog Try.f29 (RetC noF k0 (IsV r))) := letsOutC
 have hg : Chg noF k0 k := by rw [hk0]; exact Chg.refl _ k0
 refine stepL 2 (⟨some (IsRef r_), [(0, none)]⟩ :: ⟨some (IsV false), []⟩ :: []) rfl ⟨hg, hs, hd⟩ (by kernel_rfl) ⟨ob1 rfl fun _ _ h n => ok_boxR rfl (up i0 h n.1), ob1 rfl fun _ _ h n => ok_assign rfl (isV_bool.2 rfl), trivial⟩ [⟨_, _⟩] (fun b q p => ⟨p.ou 0 1 rfl, trivial⟩) ?_
 rintro a k ⟨⟨hg, hs, hd⟩, i1, _⟩
 refine stepL 33 (_ :: _ :: _ :: _ :: _ :: _ :: _ :: _ :: _ :: _ :: _ :: _ :: _ :: _ :: _ :: _ :: _ :: _ :: _ :: _ :: _ :: _ :: _ :: _ :: _ :: _ :: _ :: _ :: _ :: _ :: _ :: _ :: _ :: []) rfl ⟨hg, hs, hd⟩ (by kernel_rfl) ⟨o1 [(1, none)] rfl fun _ _ h n => ok_fieldAddr rfl fo30_0 (at_Rect_0 _) ((up i1 h n.1)).ptr, o1 [(3, some 0)] rfl fun _ _ h n => ok_load rfl ty3 n.1, o1 [(4, some 1)] rfl fun _ _ h n => ok_leq rfl (cI rfl) n.1, cm 2 rfl rfl, gT [(1, none)] rfl rfl fun hp _ _ h n => ok_fieldAddr rfl fo30_0 (at_Rect_0 _) ((up i1 h n.1)).ptr, gT [(7, some 4)] rfl rfl fun hp _ _ h n => ok_load rfl ty3 (Gd.get n.1 hp), gT [(1, none)] rfl rfl fun hp _ _ h n => ok_fieldAddr rfl fo30_2 (at_Rect_2 _) ((up i1 h n.1)).ptr, gT [(9, some 6)] rfl rfl fun hp _ _ h n => ok_load rfl ty3 (Gd.get n.1 hp), gT [(8, some 5), (10, some 7)] rfl rfl fun hp _ _ h n => ok_lss rfl (Gd.get n.1 hp) (Gd.get n.2.1 hp), o1 [(6, some 3), (11, some 8)] rfl fun _ _ h n => ok_pickAnd rfl n.1 (Gd.get n.2.1) (cB rfl), cm 9 rfl rfl, gT [(1, none)] rfl rfl fun hp _ _ h n => ok_fieldAddr rfl fo30_2 (at_Rect_2 _) ((up i1 h n.1)).ptr, gT [(14, some 11)] rfl rfl fun hp _ _ h n => ok_load rfl ty3 (Gd.get n.1 hp), gT [(15, some 12)] rfl rfl fun hp _ _ h n => ok_leq rfl (Gd.get n.1 hp) (cI rfl), o1 [(13, some 10), (16, some 13)] rfl fun _ _ h n => ok_pickAnd rfl n.1 (Gd.get n.2.1) (cB rfl), cm 14 rfl rfl, gT [(1, none)] rfl rfl fun hp _ _ h n => ok_fieldAddr rfl fo30_1 (at_Rect_1 _) ((up i1 h n.1)).ptr, gT [(19, some 16)] rfl rfl fun hp _ _ h n => ok_load rfl ty3 (Gd.get n.1 hp), gT [(20, some 17)] rfl rfl fun hp _ _ h n => ok_leq rfl (cI rfl) (Gd.get n.1 hp), o1 [(18, some 15), (21, some 18)] rfl fun _ _ h n => ok_pickAnd rfl n.1 (Gd.get n.2.1) (cB rfl), cm 19 rfl rfl, gT [(1, none)] rfl rfl fun hp _ _ h n => ok_fieldAddr rfl fo30_1 (at_Rect_1 _) ((up i1 h n.1)).ptr, gT [(24, some 21)] rfl rfl fun hp _ _ h n => ok_load rfl ty3 (Gd.get n.1 hp), gT [(1, none)] rfl rfl fun hp _ _ h n => ok_fieldAddr rfl fo30_3 (at_Rect_3 _) ((up i1 h n.1)).ptr, gT [(26, some 23)] rfl rfl fun hp _ _ h n => ok_load rfl ty3 (Gd.get n.1 hp), gT [(25, some 22), (27, some 24)] rfl rfl fun hp _ _ h n => ok_lss rfl (Gd.get n.1 hp) (Gd.get n.2.1 hp), o1 [(23, some 20), (28, some 25)] rfl fun _ _ h n => ok_pickAnd rfl n.1 (Gd.get n.2.1) (cB rfl), cm 26 rfl rfl, gT [(1, none)] rfl rfl fun hp _ _ h n => ok_fieldAddr rfl fo30_3 (at_Rect_3 _) ((up i1 h n.1)).ptr, gT [(31, some 28)] rfl rfl fun hp _ _ h n => ok_load rfl ty3 (Gd.get n.1 hp), gT [(32, some 29)] rfl rfl fun hp _ _ h n => ok_leq rfl (Gd.get n.1 hp) (cI rfl), o1 [(30, some 27), (33, some 30)] rfl fun _ _ h n => ok_pickAnd rfl n.1 (Gd.get n.2.1) (cB rfl), cp 31 rfl rfl, trivial⟩ [⟨_, _⟩] (fun b q p => ⟨p.ou 32 2 rfl, trivial⟩) ?_
 rintro a k ⟨⟨hg, hs, hd⟩, i2, _⟩
 refine wp_ret ?_
 obtain rfl := Option.some.inj hr
 exact retC1 rfl hd hg i2
section
open Go.Proofs Go.RowKit Go.Lib Go.Sort Go.Shelf
def Try.sortIntsL_ren : Go.Shelf.Ren := ⟨fun | 189 => 51 | 125 => 64 | 257 => 63 | 128 => 80 | 129 => 81 | 294 => 71 | 295 => 72 | 296 => 73 | 297 => 74 | 298 => 75 | 299 => 76 | 216 => 77 | 300 => 78 | 301 => 79 | 328 => 88 | 329 => 89 | 330 => 90 | 331 => 91 | 332 => 92 | 215 => 87 | 343 => 104 | n => n, fun | 28 => 57 | 3 => 3 | 46 => 92 | 0 => 0 | 51 => 109 | 53 => 111 | 4 => 4 | 183 => 101 | 182 => 100 | 131 => 106 | 5 => 5 | 9 => 9 | 218 => 118 | 222 => 122 | 228 => 133 | 229 => 134 | n => n, fun | n => n⟩
theorem Try.sortIntsL : Go.Proofs.Lays.n189 Try.prog Try.sortIntsL_ren := {
 mixed := by kernel_rfl,
 f125 := Try.func64.trans (congrArg some (by kernel_rfl)),
 f128 := Try.func80.trans (congrArg some (by kernel_rfl)),
 f129 := Try.func81.trans (congrArg some (by kernel_rfl)),
 f189 := Try.func51.trans (congrArg some (by kernel_rfl)),
 f215 := Try.func87.trans (congrArg some (by kernel_rfl)),
 f216 := Try.func77.trans (congrArg some (by kernel_rfl)),
 f257 := Try.func63.trans (congrArg some (by kernel_rfl)),
 f294 := Try.func71.trans (congrArg some (by kernel_rfl)),
 f295 := Try.func72.trans (congrArg some (by kernel_rfl)),
 f296 := Try.func73.trans (congrArg some (by kernel_rfl)),
 f297 := Try.func74.trans (congrArg some (by kernel_rfl)),
 f298 := Try.func75.trans (congrArg some (by kernel_rfl)),
 f299 := Try.func76.trans (congrArg some (by kernel_rfl)),
 f300 := Try.func78.trans (congrArg some (by kernel_rfl)),
 f301 := Try.func79.trans (congrArg some (by kernel_rfl)),
 f328 := Try.func88.trans (congrArg some (by kernel_rfl)),
 f329 := Try.func89.trans (congrArg some (by kernel_rfl)),
 f330 := Try.func90.trans (congrArg some (by kernel_rfl)),
 f331 := Try.func91.trans (congrArg some (by kernel_rfl)),
 f332 := Try.func92.trans (congrArg some (by kernel_rfl)),
 f343 := Try.func104.trans (congrArg some (by kernel_rfl)),
 t0 := Try.underlying0,
 a0 := Try.isAgg0,
 z0 := Try.sizeOf0,
 v0 := Try.zeroValue0,
 t3 := Try.underlying3,
 a3 := Try.isAgg3,
 z3 := Try.sizeOf3,
 v3 := Try.zeroValue3,
 t4 := Try.underlying4,
 a4 := Try.isAgg4,
 z4 := Try.sizeOf4,
 v4 := Try.zeroValue4,
 t5 := Try.underlying5,
 a5 := Try.isAgg5,
 z5 := Try.sizeOf5,
 v5 := Try.zeroValue5,
 t9 := Try.underlying9,
 a9 := Try.isAgg9,
 z9 := Try.sizeOf9,
 v9 := Try.zeroValue9,
 t28 := Try.underlying57,
 a28 := Try.isAgg57,
 z28 := Try.sizeOf57,
 v28 := Try.zeroValue57,
 t46 := Try.underlying92,
 a46 := Try.isAgg92,
 z46 := Try.sizeOf92,
 v46 := Try.zeroValue92,
 t51 := Try.underlying109,
 a51 := Try.isAgg109,
 z51 := Try.sizeOf109,
 v51 := Try.zeroValue109,
 t53 := Try.underlying111,
 a53 := Try.isAgg111,
 z53 := Try.sizeOf111,
 v53 := Try.zeroValue111,
 t131 := Try.underlying106,
 a131 := Try.isAgg106,
 z131 := Try.sizeOf106,
 v131 := Try.zeroValue106,
 t182 := Try.underlying100,
 a182 := Try.isAgg100,
 z182 := Try.sizeOf100,
 v182 := Try.zeroValue100,
 t183 := Try.underlying101,
 a183 := Try.isAgg101,
 z183 := Try.sizeOf101,
 v183 := Try.zeroValue101,
 t218 := Try.underlying118,
 a218 := Try.isAgg118,
 z218 := Try.sizeOf118,
 v218 := Try.zeroValue118,
 t222 := Try.underlying122,
 a222 := Try.isAgg122,
 z222 := Try.sizeOf122,
 v222 := Try.zeroValue122,
 t228 := Try.underlying133,
 a228 := Try.isAgg133,
 z228 := Try.sizeOf133,
 v228 := Try.zeroValue133,
 t229 := Try.underlying134,
 a229 := Try.isAgg134,
 z229 := Try.sizeOf134,
 v229 := Try.zeroValue134 }
theorem sortInts_ok {k0 : K} {v0 : Value} {l r : List Int} (i0 : IsOwn 0 3 l v0 k0) (hr : sortInts l = some r) : Calls Try.prog 51 #[v0] k0.w (RetC (obF v0) k0 fun _ k' => IsOwn 0 3 r v0 k') := by
 unfold sortInts at hr
 split at hr
 ·rename_i hl
  obtain rfl := Option.some.inj hr
  refine sortI_own (S := fun l => l.mergeSort fun x y => decide (x ≤ y)) (List.length_mergeSort _) (fun p cap w => ?_) (fun blk off cap w hH hblk => ?_) i0
  ·have hcon := Any.slices_Sort_int_none Try.sortIntsL p cap w
   change Calls Try.prog 51 _ _ _ at hcon
   exact hcon
  ·have hcon := Any.slices_Sort_int Try.sortIntsL blk off cap l w hH hblk (by omega)
   change Calls Try.prog 51 _ _ _ at hcon
   exact hcon
 ·simp at hr
end
section
open Go.Proofs Go.RowKit Go.Lib Go.Sort Go.Shelf
def Try.compactL_ren : Go.Shelf.Ren := ⟨fun | 20 => 52 | n => n, fun | 22 => 57 | 3 => 3 | 4 => 4 | 0 => 0 | n => n, fun | n => n⟩
theorem Try.compactL : Go.Proofs.Lays2.n20 Try.prog Try.compactL_ren := {
 mixed := by kernel_rfl,
 f20 := Try.func52.trans (congrArg some (by kernel_rfl)),
 t0 := Try.underlying0,
 a0 := Try.isAgg0,
 z0 := Try.sizeOf0,
 v0 := Try.zeroValue0,
 t3 := Try.underlying3,
 a3 := Try.isAgg3,
 z3 := Try.sizeOf3,
 v3 := Try.zeroValue3,
 t4 := Try.underlying4,
 a4 := Try.isAgg4,
 z4 := Try.sizeOf4,
 v4 := Try.zeroValue4,
 t22 := Try.underlying57,
 a22 := Try.isAgg57,
 z22 := Try.sizeOf57,
 v22 := Try.zeroValue57,
 i3 := by kernel_rfl }
theorem compactInts_ok {k0 : K} {v0 : Value} {l r : List Int} (i0 : IsOwn 0 3 l v0 k0) (hr : compactInts l = some r) : Calls Try.prog 52 #[v0] k0.w (RetC (obF v0) k0 (IsOwnW v0 k0 3 r)) := by
 unfold compactInts at hr
 split at hr
 ·rename_i hl
  obtain rfl := Option.some.inj hr
  refine compactI_own compact_length hl (fun p cap w => ?_) (fun blk off cap w hH hc => ?_) i0
  ·have hcon := Any.slices_Compact_int_empty Try.compactL p cap w
   change Calls Try.prog 52 _ _ _ at hcon
   exact hcon
  ·have hcon := Any.slices_Compact_int Try.compactL blk off cap l w hH (by omega) hc
   change Calls Try.prog 52 _ _ _ at hcon
   exact hcon
 ·simp at hr
end
def solid_heights_L1 (x15_0 : (List Slab)) (s17 : (List Int) × Int) : Option (Flow ((List Int) × Int) ((List Int))) :=
 if (decide (s17.2 < (x15_0.length : Int))) then
  (getI x15_0 s17.2).bind fun x22_0 =>
  (appI s17.1 ([x22_0.Z0, x22_0.Z1])).bind fun x23_6 =>
  (addI s17.2 1).bind fun x24_0 =>
  some (.go (x23_6, x24_0))
 else
  some (.ex 2 (s17.1, s17.2))
def solid_heights_L0 (lists_ : (List (List Slab))) (s10 : (List Int) × Int) : Option (Flow ((List Int) × Int) ((List Int))) :=
 if (decide (s10.2 < (lists_.length : Int))) then
  (getI lists_ s10.2).bind fun x15_0 =>
  (iterL (solid_heights_L1 x15_0) (x15_0.length + 1) (s10.1, 0)).bind fun f34 => match f34 with
   | .go _ => none
   | .ex _ s35 =>
    (addI s10.2 1).bind fun x36_0 =>
    some (.go (s35.1, x36_0))
   | .ret r39 => some (.ret r39)
 else
  some (.ex 0 (s10.1, s10.2))
def solid_heights (lists_ : (List (List Slab))) : Option ((List Int)) :=
 (iterL (solid_heights_L0 lists_) (lists_.length + 1) (([] : List Int), 0)).bind fun f48 => match f48 with
  | .go _ => none
  | .ex _ s49 =>
   (sortInts s49.1).bind fun x50_1 =>
   (compactInts x50_1).bind fun x51_1 =>
   some x51_1
  | .ret r57 => some r57
theorem solid_heights_ok {k0 : K} {v0 : Value} {lists_ : (List (List Slab))} {r : (List Int)} (i0 : (IsV lists_) v0 k0) (hr : solid_heights lists_ = some r) :
  Calls Try.prog 30 #[v0] k0.w (Ret k0 (IsV r)) := by
 unfold solid_heights at hr
 refine Ret.ofC ?_
 refine enterK Try.func30 rfl Try.ntmps30 (show 1 ≤ 33 by decide) fun a k hk0 hs hd ha => ?_
 obtain ⟨e0, _⟩ := ha
 replace i0 : (IsV lists_) (a.get 0) k := by rw [e0, hk0]; exact i0
 have hQ : Gb.LetsOut (bodyPost Try.prog Try.f30 (RetC noF k0 (IsV r))) := letsOutC
 have hg : Chg noF k0 k := by rw [hk0]; exact Chg.refl _ k0
 refine stepL 1 (⟨some IsE0, []⟩ :: []) rfl ⟨hg, hs, hd⟩ (by kernel_rfl) ⟨ob1 rfl fun b q h n => ok_assign rfl isE0_nil, trivial⟩ [⟨_, _⟩] (fun b q p => ⟨p.ke 0 rfl i0, trivial⟩) ?_
 rintro a k ⟨⟨hg, hs, hd⟩, i0, _⟩
 refine cutS (fun a' k' => Bs noF k0 33 a' k' ∧ (IsV lists_) (a'.get 0) k' ∧ IsOwn 0 3 ([] : List Int) (a'.get 3) k' ∧ Lo k0 (obF (a'.get 3)) ∧ True) ?_ ?_
 ·intro Q61 hQQ61 hp62
  refine gS 1 (⟨some IsE0, []⟩ :: []) hs (by kernel_rfl) ⟨ob1 rfl fun b q h n => ok_assign rfl isE0_nil, trivial⟩ hQQ61 fun b q p => ?_
  have hgq := hg.then p.grow
  have hsb := p.size.trans hs
  have hdb := p.defers.trans hd
  have j0 := p.ke 0 rfl i0
  have j3 : IsE0 (b.get 3) q := p.ou 0 3 rfl
  have y3 : Lo k0 (obF (b.get 3)) := j3.lo
  replace j3 : IsOwn 0 3 ([] : List Int) (b.get 3) q := j3.own0
  exact tail_done (k := q) (hp62 _ _ ⟨⟨hgq, hsb, hdb⟩, j0, j3, y3, trivial⟩)
 rintro a k ⟨⟨hg, hs, hd⟩, i0, i3, n3, _⟩
 refine wp_seq ?_
 refine cutS (fun a' k' => Bs noF k0 33 a' k' ∧ IsOwn 0 3 ([] : List Int) (a'.get 3) k' ∧ Lo k0 (obF (a'.get 3)) ∧ (IsV lists_) (a'.get 8) k' ∧ (IsL lists_) (a'.get 9) k' ∧ (IsI 0) (a'.get 10) k' ∧ True) ?_ ?_
 ·intro Q59 hQQ59 hp60
  refine gS 3 (_ :: _ :: ⟨some (IsI 0), []⟩ :: []) hs (by kernel_rfl) ⟨mu rfl i0, o1 [(8, some 0)] rfl fun _ _ h n => ok_len rfl rfl Try.underlying73 (IsV.rd n.1), ob1 rfl fun _ _ h n => ok_move rfl (cI rfl), trivial⟩ hQQ59 fun b q p => ?_
  exact tail_done (k := q) (hp60 _ _ ⟨Bs.post ⟨hg, hs, hd⟩ p, p.ke 3 rfl i3, (by rw [p.old 3 rfl]; exact n3), p.ou 0 8 rfl, p.ou 1 9 rfl, p.ou 2 10 rfl, trivial⟩)
 rintro a k ⟨⟨hg, hs, hd⟩, i3, n3, i8, i9, i10, _⟩
 refine wp_block ?_
 obtain ⟨f48, hf48, hr⟩ := bind_some hr
 refine cutFe f48 (fun s' a' k' => Bs noF k0 33 a' k' ∧ IsOwn 0 3 s'.1 (a'.get 3) k' ∧ Lo k0 (obF (a'.get 3)) ∧ (IsV lists_) (a'.get 8) k' ∧ (IsL lists_) (a'.get 9) k' ∧ (IsV s'.2) (a'.get 10) k' ∧ True) (fun i' s' a' k' => (i' = 0 ∧ Bs noF k0 33 a' k' ∧ IsOwn 0 3 s'.1 (a'.get 3) k' ∧ Lo k0 (obF (a'.get 3)) ∧ True)) (fun r' a' k' => bodyPost Try.prog Try.f30 (RetC noF k0 (IsV r')) .ret a' k'.w) ?_ hQ ?_ ?_ ?_
 ·intro Q58 hQQ58 hgo hex hret
  refine sim_loop ?_ _ _ _ _ _ hf48 ⟨⟨hg, hs, hd⟩, i3, n3, i8, i9, i10, trivial⟩ Q58 hQQ58 hgo hex hret
  clear hr hf48 hgo hex hret hQQ58 hQ hg hs hd i10 i3 i8 i9 n3
  intro s10 fl_ a k hr hS Q hQ hgo11 hex12 hret13
  obtain ⟨⟨hg, hs, hd⟩, i3, n3, i8, i9, i10, _⟩ := hS
  unfold solid_heights_L0 at hr
  refine cutS (fun a' k' => Bs noF k0 33 a' k' ∧ IsOwn 0 3 s10.1 (a'.get 3) k' ∧ Lo k0 (obF (a'.get 3)) ∧ (IsV lists_) (a'.get 8) k' ∧ (IsL lists_) (a'.get 9) k' ∧ (IsV s10.2) (a'.get 10) k' ∧ (IsV (decide (s10.2 < (lists_.length : Int)))) (a'.get 11) k' ∧ True) ?_ ?_
  ·intro Q46 hQQ46 hp47
   refine gS 1 (_ :: []) hs (by kernel_rfl) ⟨o1 [(10, none), (9, none)] rfl fun _ _ h n => ok_lss rfl (up i10 h n.1) (up i9 h n.2.1), trivial⟩ hQQ46 fun b q p => ?_
   exact tail_done (k := q) (hp47 _ _ ⟨Bs.post ⟨hg, hs, hd⟩ p, p.ke 3 rfl i3, (by rw [p.old 3 rfl]; exact n3), p.ke 8 rfl i8, p.ke 9 rfl i9, p.ke 10 rfl i10, p.ou 0 11 rfl, trivial⟩)
  rintro a k ⟨⟨hg, hs, hd⟩, i3, n3, i8, i9, i10, i11, _⟩
  refine wp_seq ?_
  refine wp_cond_split (isBool i11) (fun hc45 => ?_) (fun hc45 => ?_)
  ·rw [if_pos hc45] at hr
   refine wp_skip ?_
   refine wp_seq ?_
   refine wp_block ?_
   refine wp_seq ?_
   obtain ⟨x15_0, hx15_0, hr⟩ := bind_some hr
   refine cut (fun a' k' => Bs noF k0 33 a' k' ∧ IsOwn 0 3 s10.1 (a'.get 3) k' ∧ Lo k0 (obF (a'.get 3)) ∧ (IsV x15_0) (a'.get 5) k' ∧ (IsV lists_) (a'.get 8) k' ∧ (IsL lists_) (a'.get 9) k' ∧ (IsV s10.2) (a'.get 10) k' ∧ True) ?_ hQ ?_
   ·intro Q43 hQQ43 hp44
    refine gS 3 (_ :: _ :: _ :: []) hs (by kernel_rfl) ⟨o1 [(8, none), (10, none)] rfl fun _ _ h n => ok_indexAddr rfl Try.underlying73 ty24 (IsV.rd (up i8 h n.1)) (up i10 h n.2.1) hx15_0, o1 [(12, some 0)] rfl fun _ _ h n => ok_load rfl ty24 n.1, cp 1 rfl rfl, trivial⟩ hQQ43 fun b q p => ?_
    exact tail_done (k := q) (hp44 _ _ ⟨Bs.post ⟨hg, hs, hd⟩ p, p.ke 3 rfl i3, (by rw [p.old 3 rfl]; exact n3), p.ou 2 5 rfl, p.ke 8 rfl i8, p.ke 9 rfl i9, p.ke 10 rfl i10, trivial⟩)
   rintro a k ⟨⟨hg, hs, hd⟩, i3, n3, i5, i8, i9, i10, _⟩
   refine cutS (fun a' k' => Bs noF k0 33 a' k' ∧ IsOwn 0 3 s10.1 (a'.get 3) k' ∧ Lo k0 (obF (a'.get 3)) ∧ (IsV lists_) (a'.get 8) k' ∧ (IsL lists_) (a'.get 9) k' ∧ (IsV s10.2) (a'.get 10) k' ∧ (IsV x15_0) (a'.get 14) k' ∧ (IsL x15_0) (a'.get 15) k' ∧ (IsI 0) (a'.get 16) k' ∧ True) ?_ ?_
   ·intro Q41 hQQ41 hp42
    refine gS 3 (_ :: _ :: ⟨some (IsI 0), []⟩ :: []) hs (by kernel_rfl) ⟨mu rfl i5, o1 [(14, some 0)] rfl fun _ _ h n => ok_len rfl rfl Try.underlying24 (IsV.rd n.1), ob1 rfl fun _ _ h n => ok_move rfl (cI rfl), trivial⟩ hQQ41 fun b q p => ?_
    exact tail_done (k := q) (hp42 _ _ ⟨Bs.post ⟨hg, hs, hd⟩ p, p.ke 3 rfl i3, (by rw [p.old 3 rfl]; exact n3), p.ke 8 rfl i8, p.ke 9 rfl i9, p.ke 10 rfl i10, p.ou 0 14 rfl, p.ou 1 15 rfl, p.ou 2 16 rfl, trivial⟩)
   rintro a k ⟨⟨hg, hs, hd⟩, i3, n3, i8, i9, i10, i14, i15, i16, _⟩
   refine wp_block ?_
   obtain ⟨f34, hf34, hr⟩ := bind_some hr
   refine cutFe f34 (fun s' a' k' => Bs noF k0 33 a' k' ∧ IsOwn 0 3 s'.1 (a'.get 3) k' ∧ Lo k0 (obF (a'.get 3)) ∧ (IsV lists_) (a'.get 8) k' ∧ (IsL lists_) (a'.get 9) k' ∧ (IsV s10.2) (a'.get 10) k' ∧ (IsV x15_0) (a'.get 14) k' ∧ (IsL x15_0) (a'.get 15) k' ∧ (IsV s'.2) (a'.get 16) k' ∧ True) (fun i' s' a' k' => (i' = 2 ∧ Bs noF k0 33 a' k' ∧ IsOwn 0 3 s'.1 (a'.get 3) k' ∧ Lo k0 (obF (a'.get 3)) ∧ (IsV lists_) (a'.get 8) k' ∧ (IsL lists_) (a'.get 9) k' ∧ (IsV s10.2) (a'.get 10) k' ∧ True)) (fun r' a' k' => bodyPost Try.prog Try.f30 (RetC noF k0 (IsV r')) .ret a' k'.w) ?_ hQ ?_ ?_ ?_
   ·intro Q40 hQQ40 hgo hex hret
    refine sim_loop ?_ _ _ _ _ _ hf34 ⟨⟨hg, hs, hd⟩, i3, n3, i8, i9, i10, i14, i15, i16, trivial⟩ Q40 hQQ40 hgo hex hret
    clear hr hf34 hgo hex hret hQQ40 hQ hg hs hd i10 i14 i15 i16 i3 i8 i9 n3
    intro s17 fl_ a k hr hS Q hQ hgo18 hex19 hret20
    obtain ⟨⟨hg, hs, hd⟩, i3, n3, i8, i9, i10, i14, i15, i16, _⟩ := hS
    unfold solid_heights_L1 at hr
    refine cutS (fun a' k' => Bs noF k0 33 a' k' ∧ IsOwn 0 3 s17.1 (a'.get 3) k' ∧ Lo k0 (obF (a'.get 3)) ∧ (IsV lists_) (a'.get 8) k' ∧ (IsL lists_) (a'.get 9) k' ∧ (IsV s10.2) (a'.get 10) k' ∧ (IsV x15_0) (a'.get 14) k' ∧ (IsL x15_0) (a'.get 15) k' ∧ (IsV s17.2) (a'.get 16) k' ∧ (IsV (decide (s17.2 < (x15_0.length : Int)))) (a'.get 17) k' ∧ True) ?_ ?_
    ·intro Q32 hQQ32 hp33
     refine gS 1 (_ :: []) hs (by kernel_rfl) ⟨o1 [(16, none), (15, none)] rfl fun _ _ h n => ok_lss rfl (up i16 h n.1) (up i15 h n.2.1), trivial⟩ hQQ32 fun b q p => ?_
     exact tail_done (k := q) (hp33 _ _ ⟨Bs.post ⟨hg, hs, hd⟩ p, p.ke 3 rfl i3, (by rw [p.old 3 rfl]; exact n3), p.ke 8 rfl i8, p.ke 9 rfl i9, p.ke 10 rfl i10, p.ke 14 rfl i14, p.ke 15 rfl i15, p.ke 16 rfl i16, p.ou 0 17 rfl, trivial⟩)
    rintro a k ⟨⟨hg, hs, hd⟩, i3, n3, i8, i9, i10, i14, i15, i16, i17, _⟩
    refine wp_seq ?_
    refine wp_cond_split (isBool i17) (fun hc31 => ?_) (fun hc31 => ?_)
    ·rw [if_pos hc31] at hr
     refine wp_skip ?_
     refine wp_seq ?_
     refine wp_block ?_
     refine wp_seq ?_
     obtain ⟨x22_0, hx22_0, hr⟩ := bind_some hr
     refine cut (fun a' k' => Bs noF k0 33 a' k' ∧ IsOwn 0 3 s17.1 (a'.get 3) k' ∧ Lo k0 (obF (a'.get 3)) ∧ (IsRef x22_0) (a'.get 7) k' ∧ (IsV lists_) (a'.get 8) k' ∧ (IsL lists_) (a'.get 9) k' ∧ (IsV s10.2) (a'.get 10) k' ∧ (IsV x15_0) (a'.get 14) k' ∧ (IsL x15_0) (a'.get 15) k' ∧ (IsV s17.2) (a'.get 16) k' ∧ True) ?_ hQ ?_
     ·intro Q29 hQQ29 hp30
      refine gS 3 (_ :: _ :: ⟨some (IsBox k.w.heap.size (⟨0, 0, []⟩ : Slab)), []⟩ :: []) hs (by kernel_rfl) ⟨o1 [(14, none), (16, none)] rfl fun _ _ h n => ok_indexAddr rfl Try.underlying24 ty47 (IsV.rd (up i14 h n.1)) (up i16 h n.2.1) hx22_0, o1 [(18, some 0)] rfl fun _ _ h n => ok_load rfl ty47 n.1, ob1 rfl fun _ _ h n => ok_alloc _ h.size rfl z47, trivial⟩ hQQ29 fun b q p => ?_
      have hgq := hg.then p.grow
      have hsb := p.size.trans hs
      have hdb := p.defers.trans hd
      have j3 := p.ke 3 rfl i3
      have y3 : Lo k0 (obF (b.get 3)) := by rw [p.old 3 rfl]; exact n3
      obtain ⟨b7, j7, x7, z7⟩ : (IsBox k.w.heap.size (⟨0, 0, []⟩ : Slab)) (b.get 7) q := p.ou 2 7 rfl
      replace x7 : Lo k (Eq b7) := Lo.eq x7
      have y7 : Lo k0 (Eq b7) := x7.chg hg
      have j8 := p.ke 8 rfl i8
      have j9 := p.ke 9 rfl i9
      have j10 := p.ke 10 rfl i10
      have j14 := p.ke 14 rfl i14
      have j15 := p.ke 15 rfl i15
      have j16 := p.ke 16 rfl i16
      have j19 : (IsV x22_0) (b.get 19) q := p.ou 1 19 rfl
      have w3_7 : Apart (obF (b.get 3)) (Eq b7) := Apart.new (by rw [p.old 3 rfl]; exact i3.ltF) x7
      have hns := z7.nshF
      refine tail_storeB (i := 3) rfl rfl rfl rfl szf47 (Upd.self (α := Slab)) j7 z7 j19 fun q2 hch hz => ?_
      replace hgq := hgq.step hch y7.wr
      have hle := hch.le hns
      replace j3 := j3.keep hch w3_7 hns
      replace j8 := Pers.pers hle j8
      replace j9 := Pers.pers hle j9
      replace j10 := Pers.pers hle j10
      replace j14 := Pers.pers hle j14
      replace j15 := Pers.pers hle j15
      replace j16 := Pers.pers hle j16
      replace j19 := Pers.pers hle j19
      replace z7 := hz
      clear hns hle hch
      obtain ⟨q, hqq⟩ : ∃ q, q = q2 := ⟨q2, rfl⟩
      subst hqq
      obtain ⟨q2, hsh, jn⟩ := z7.give
      replace j3 := j3.handed hsh w3_7
      replace j8 := Pers.pers hsh.le j8
      replace j9 := Pers.pers hsh.le j9
      replace j10 := Pers.pers hsh.le j10
      replace j14 := Pers.pers hsh.le j14
      replace j15 := Pers.pers hsh.le j15
      replace j16 := Pers.pers hsh.le j16
      rw [← j7] at jn
      replace j7 := jn
      replace hgq := hgq.hand hsh y7.wr
      rw [← hsh.w]
      clear hsh
      obtain ⟨q, hqq⟩ : ∃ q, q = q2 := ⟨q2, rfl⟩
      subst hqq
      exact tail_done (k := q) (hp30 _ _ ⟨⟨hgq, hsb, hdb⟩, j3, y3, j7, j8, j9, j10, j14, j15, j16, trivial⟩)
     rintro a k ⟨⟨hg, hs, hd⟩, i3, n3, i7, i8, i9, i10, i14, i15, i16, _⟩
     obtain ⟨x23_6, hx23_6, hr⟩ := bind_some hr
     refine cut (fun a' k' => Bs noF k0 33 a' k' ∧ IsOwn 0 3 x23_6 (a'.get 3) k' ∧ Lo k0 (obF (a'.get 3)) ∧ (IsV lists_) (a'.get 8) k' ∧ (IsL lists_) (a'.get 9) k' ∧ (IsV s10.2) (a'.get 10) k' ∧ (IsV x15_0) (a'.get 14) k' ∧ (IsL x15_0) (a'.get 15) k' ∧ (IsV s17.2) (a'.get 16) k' ∧ True) ?_ hQ ?_
     ·intro Q27 hQQ27 hp28
      refine gS 6 (⟨some (OwnAt (a.get 3) 0 3 s17.1), [(3, none)]⟩ :: _ :: _ :: _ :: _ :: ⟨some (IsV (α := (List Int)) ([x22_0.Z0, x22_0.Z1])), [(22, some 2), (24, some 4)]⟩ :: []) hs (by kernel_rfl) ⟨ob1 rfl fun _ _ h n => ok_moveOA (.inl rfl) (ownAt n.1 (up i3 h n.1)), o1 [(7, none)] rfl fun _ _ h n => ok_fieldAddr rfl fo47_0 (at_Slab_0 _) ((up i7 h n.1)).ptr, o1 [(21, some 1)] rfl fun _ _ h n => ok_load rfl ty3 n.1, o1 [(7, none)] rfl fun _ _ h n => ok_fieldAddr rfl fo47_1 (at_Slab_1 _) ((up i7 h n.1)).ptr, o1 [(23, some 3)] rfl fun _ _ h n => ok_load rfl ty3 n.1, ob1 rfl fun _ _ h n => ok_buildSlice rfl Try.underlying57 eo3 rfl (by decide) (by decide) ⟨rfl, n.1, rfl, n.2.1, trivial⟩, trivial⟩ hQQ27 fun b q p => ?_
      have hgq := hg.then p.grow
      have hsb := p.size.trans hs
      have hdb := p.defers.trans hd
      have j8 := p.ke 8 rfl i8
      have j9 := p.ke 9 rfl i9
      have j10 := p.ke 10 rfl i10
      have j14 := p.ke 14 rfl i14
      have j15 := p.ke 15 rfl i15
      have j16 := p.ke 16 rfl i16
      have e20 : b.get 20 = a.get 3 := (p.ou 0 20 rfl).1
      have j20 : IsOwn 0 3 s17.1 (b.get 20) q := (p.ou 0 20 rfl).2
      have y20 : Lo k0 (obF (b.get 20)) := by rw [e20]; exact n3
      have j25 : (IsV (α := (List Int)) ([x22_0.Z0, x22_0.Z1])) (b.get 25) q := p.ou 5 25 rfl
      have hns := j20.nshF
      refine tail_appendS (i := 6) (d := 26) rfl rfl rfl rfl (by rw [hsb]; decide) (e := 3) Try.underlying57 eo3 j20 (IsV.rd j25) hx23_6 fun b2 q2 hsz hdf hoth hch hown hob => ?_
      have hle := hch.le hns
      have yn : Lo k0 (obF (b2.get 26)) := y20.app hgq hob
      replace j8 := Pers.pers hle j8
      replace j9 := Pers.pers hle j9
      replace j10 := Pers.pers hle j10
      replace j14 := Pers.pers hle j14
      replace j15 := Pers.pers hle j15
      replace j16 := Pers.pers hle j16
      replace j25 := Pers.pers hle j25
      replace hgq := hgq.step hch y20.wr
      rw [← hoth 8 (by decide)] at j8
      rw [← hoth 9 (by decide)] at j9
      rw [← hoth 10 (by decide)] at j10
      rw [← hoth 14 (by decide)] at j14
      rw [← hoth 15 (by decide)] at j15
      rw [← hoth 16 (by decide)] at j16
      rw [← hoth 25 (by decide)] at j25
      have j26 := hown
      have y26 := yn
      replace hsb := hsz.trans hsb
      replace hdb := hdf.trans hdb
      clear hle hch hown hob hns yn hsz hdf hoth
      obtain ⟨b, hbb⟩ : ∃ b, b = b2 := ⟨b2, rfl⟩
      subst hbb
      obtain ⟨q, hqq⟩ : ∃ q, q = q2 := ⟨q2, rfl⟩
      subst hqq
      refine tail_assign (i := 7) (d := 3) rfl rfl (.inl rfl) rfl (by rw [hsb]; decide) fun b2 hsz hdf hnew hoth => ?_
      have jn : (IsOwn 0 3 x23_6) (b2.get 3) q := by rw [hnew]; exact j26
      have yn : Lo k0 (obF (b2.get 3)) := by rw [hnew]; exact y26
      rw [← hoth 8 (by decide)] at j8
      rw [← hoth 9 (by decide)] at j9
      rw [← hoth 10 (by decide)] at j10
      rw [← hoth 14 (by decide)] at j14
      rw [← hoth 15 (by decide)] at j15
      rw [← hoth 16 (by decide)] at j16
      rw [← hoth 25 (by decide)] at j25
      have j3 := jn
      have y3 := yn
      replace hsb := hsz.trans hsb
      replace hdb := hdf.trans hdb
      clear hsz hdf hoth
      obtain ⟨b, hbb⟩ : ∃ b, b = b2 := ⟨b2, rfl⟩
      subst hbb
      exact tail_done (k := q) (hp28 _ _ ⟨⟨hgq, hsb, hdb⟩, j3, y3, j8, j9, j10, j14, j15, j16, trivial⟩)
     rintro a k ⟨⟨hg, hs, hd⟩, i3, n3, i8, i9, i10, i14, i15, i16, _⟩
     obtain ⟨x24_0, hx24_0, hr⟩ := bind_some hr
     refine cut (fun a' k' => Bs noF k0 33 a' k' ∧ IsOwn 0 3 x23_6 (a'.get 3) k' ∧ Lo k0 (obF (a'.get 3)) ∧ (IsV lists_) (a'.get 8) k' ∧ (IsL lists_) (a'.get 9) k' ∧ (IsV s10.2) (a'.get 10) k' ∧ (IsV x15_0) (a'.get 14) k' ∧ (IsL x15_0) (a'.get 15) k' ∧ (IsV x24_0) (a'.get 16) k' ∧ True) ?_ hQ ?_
     ·intro Q25 hQQ25 hp26
      refine gS 2 (_ :: _ :: []) hs (by kernel_rfl) ⟨o1 [(16, none)] rfl fun _ _ h n => ok_add rfl (up i16 h n.1) (cI rfl) hx24_0, cm 0 rfl rfl, trivial⟩ hQQ25 fun b q p => ?_
      exact tail_done (k := q) (hp26 _ _ ⟨Bs.post ⟨hg, hs, hd⟩ p, p.ke 3 rfl i3, (by rw [p.old 3 rfl]; exact n3), p.ke 8 rfl i8, p.ke 9 rfl i9, p.ke 10 rfl i10, p.ke 14 rfl i14, p.ke 15 rfl i15, p.ou 1 16 rfl, trivial⟩)
     rintro a k ⟨⟨hg, hs, hd⟩, i3, n3, i8, i9, i10, i14, i15, i16, _⟩
     exact hgo18 _ _ _ (Option.some.inj hr).symm ⟨⟨hg, hs, hd⟩, i3, n3, i8, i9, i10, i14, i15, i16, trivial⟩
    rw [if_neg (by rw [hc31]; decide)] at hr
    refine wp_exit ?_
    exact hex19 _ _ _ _ (Option.some.inj hr).symm ⟨rfl, ⟨hg, hs, hd⟩, i3, n3, i8, i9, i10, trivial⟩
   ·rintro r39 a k rfl hR
    dsimp only at hr
    exact hret13 _ _ _ (Option.some.inj hr).symm hR
   ·rintro _ _ _ rfl _
    simp at hr
   clear hf34
   rintro _ s35 a k rfl ⟨rfl, ⟨hg, hs, hd⟩, i3, n3, i8, i9, i10, _⟩
   dsimp only at hr
   obtain ⟨x36_0, hx36_0, hr⟩ := bind_some hr
   refine cut (fun a' k' => Bs noF k0 33 a' k' ∧ IsOwn 0 3 s35.1 (a'.get 3) k' ∧ Lo k0 (obF (a'.get 3)) ∧ (IsV lists_) (a'.get 8) k' ∧ (IsL lists_) (a'.get 9) k' ∧ (IsV x36_0) (a'.get 10) k' ∧ True) ?_ hQ ?_
   ·intro Q37 hQQ37 hp38
    refine gS 2 (_ :: _ :: []) hs (by kernel_rfl) ⟨o1 [(10, none)] rfl fun _ _ h n => ok_add rfl (up i10 h n.1) (cI rfl) hx36_0, cm 0 rfl rfl, trivial⟩ hQQ37 fun b q p => ?_
    exact tail_done (k := q) (hp38 _ _ ⟨Bs.post ⟨hg, hs, hd⟩ p, p.ke 3 rfl i3, (by rw [p.old 3 rfl]; exact n3), p.ke 8 rfl i8, p.ke 9 rfl i9, p.ou 1 10 rfl, trivial⟩)
   rintro a k ⟨⟨hg, hs, hd⟩, i3, n3, i8, i9, i10, _⟩
   exact hgo11 _ _ _ (Option.some.inj hr).symm ⟨⟨hg, hs, hd⟩, i3, n3, i8, i9, i10, trivial⟩
  rw [if_neg (by rw [hc45]; decide)] at hr
  refine wp_exit ?_
  exact hex12 _ _ _ _ (Option.some.inj hr).symm ⟨rfl, ⟨hg, hs, hd⟩, i3, n3, trivial⟩
 ·rintro r57 a k rfl hR
  dsimp only at hr
  obtain rfl := Option.some.inj hr
  exact hR
 ·rintro _ _ _ rfl _
  simp at hr
 clear hf48
 rintro _ s49 a k rfl ⟨rfl, ⟨hg, hs, hd⟩, i3, n3, _⟩
 dsimp only at hr
 refine wp_seq ?_
 obtain ⟨x50_1, hx50_1, hr⟩ := bind_some hr
 refine cut (fun a' k' => Bs noF k0 33 a' k' ∧ IsOwn 0 3 x50_1 (a'.get 3) k' ∧ Lo k0 (obF (a'.get 3)) ∧ True) ?_ hQ ?_
 ·intro Q55 hQQ55 hp56
  refine gS 1 (⟨some (OwnAt (a.get 3) 0 3 s49.1), [(3, none)]⟩ :: []) hs (by kernel_rfl) ⟨ob1 rfl fun _ _ h n => ok_moveOA (.inl rfl) (ownAt n.1 (up i3 h n.1)), trivial⟩ hQQ55 fun b q p => ?_
  have hgq := hg.then p.grow
  have hsb := p.size.trans hs
  have hdb := p.defers.trans hd
  have j3 := p.ke 3 rfl i3
  have y3 : Lo k0 (obF (b.get 3)) := by rw [p.old 3 rfl]; exact n3
  have e29 : b.get 29 = a.get 3 := (p.ou 0 29 rfl).1
  have j29 : IsOwn 0 3 s49.1 (b.get 29) q := (p.ou 0 29 rfl).2
  have y29 : Lo k0 (obF (b.get 29)) := by rw [e29]; exact n3
  have hns := j29.nshF
  have eS : b.get 3 = b.get 29 := (p.old 3 rfl).trans e29.symm
  refine tail_call (F := obF (b.get 29)) (i := 1) (d := 30) rfl rfl rfl rfl (by rw [hsb]; decide) Try.call51 hQQ55 (sortInts_ok j29 hx50_1) fun b2 q2 hsz hdf hoth hch hres => ?_
  have hle := hch.le hns
  replace hgq := hgq.step hch y29.wr
  replace j3 : IsOwn 0 3 x50_1 (b.get 3) q2 := by rw [eS]; exact hres
  clear hres eS
  rw [← hoth 3 (by decide)] at j3
  rw [← hoth 3 (by decide)] at y3
  replace hsb := hsz.trans hsb
  replace hdb := hdf.trans hdb
  clear hle hch hns hsz hdf hoth
  obtain ⟨b, hbb⟩ : ∃ b, b = b2 := ⟨b2, rfl⟩
  subst hbb
  obtain ⟨q, hqq⟩ : ∃ q, q = q2 := ⟨q2, rfl⟩
  subst hqq
  exact tail_done (k := q) (hp56 _ _ ⟨⟨hgq, hsb, hdb⟩, j3, y3, trivial⟩)
 rintro a k ⟨⟨hg, hs, hd⟩, i3, n3, _⟩
 refine wp_seq ?_
 obtain ⟨x51_1, hx51_1, hr⟩ := bind_some hr
 refine cut (fun a' k' => Bs noF k0 33 a' k' ∧ IsOwn 0 3 x51_1 (a'.get 2) k' ∧ Lo k0 (obF (a'.get 2)) ∧ True) ?_ hQ ?_
 ·intro Q53 hQQ53 hp54
  refine gS 1 (⟨some (OwnAt (a.get 3) 0 3 x50_1), [(3, none)]⟩ :: []) hs (by kernel_rfl) ⟨ob1 rfl fun _ _ h n => ok_moveOA (.inl rfl) (ownAt n.1 (up i3 h n.1)), trivial⟩ hQQ53 fun b q p => ?_
  have hgq := hg.then p.grow
  have hsb := p.size.trans hs
  have hdb := p.defers.trans hd
  have e31 : b.get 31 = a.get 3 := (p.ou 0 31 rfl).1
  have j31 : IsOwn 0 3 x50_1 (b.get 31) q := (p.ou 0 31 rfl).2
  have y31 : Lo k0 (obF (b.get 31)) := by rw [e31]; exact n3
  have hns := j31.nshF
  refine tail_call (F := obF (b.get 31)) (i := 1) (d := 32) rfl rfl rfl rfl (by rw [hsb]; decide) Try.call52 hQQ53 (compactInts_ok j31 hx51_1) fun b2 q2 hsz hdf hoth hch hres => ?_
  have hle := hch.le hns
  obtain ⟨hown, hob⟩ := hres
  have yn : Lo k0 (obF (b2.get 32)) := y31.app hgq hob
  replace hgq := hgq.step hch y31.wr
  have j32 := hown
  have y32 := yn
  have hres := True.intro
  clear hown hob yn
  replace hsb := hsz.trans hsb
  replace hdb := hdf.trans hdb
  clear hle hch hres hns hsz hdf hoth
  obtain ⟨b, hbb⟩ : ∃ b, b = b2 := ⟨b2, rfl⟩
  subst hbb
  obtain ⟨q, hqq⟩ : ∃ q, q = q2 := ⟨q2, rfl⟩
  subst hqq
  refine tail_assign (i := 2) (d := 2) rfl rfl (.inl rfl) rfl (by rw [hsb]; decide) fun b2 hsz hdf hnew hoth => ?_
  have jn : (IsOwn 0 3 x51_1) (b2.get 2) q := by rw [hnew]; exact j32
  have yn : Lo k0 (obF (b2.get 2)) := by rw [hnew]; exact y32
  have j2 := jn
  have y2 := yn
  replace hsb := hsz.trans hsb
  replace hdb := hdf.trans hdb
  clear hsz hdf hoth
  obtain ⟨b, hbb⟩ : ∃ b, b = b2 := ⟨b2, rfl⟩
  subst hbb
  exact tail_done (k := q) (hp54 _ _ ⟨⟨hgq, hsb, hdb⟩, j2, y2, trivial⟩)
 rintro a k ⟨⟨hg, hs, hd⟩, i2, n2, _⟩
 refine wp_ret ?_
 obtain ⟨kk, sh52, ii2⟩ := i2.give
 replace i2 := ii2
 replace hg := hg.hand sh52 n2.wr
 rw [← sh52.w]
 clear sh52
 obtain ⟨k, hkk⟩ : ∃ k, k = kk := ⟨kk, rfl⟩
 subst hkk
 obtain rfl := Option.some.inj hr
 exact retC1 rfl hd hg i2
section
open Go.Proofs Go.RowKit Go.Lib Go.Sort Go.Shelf
def Try.growL67_ren : Go.Shelf.Ren := ⟨fun | 4 => 67 | n => n, fun | 22 => 44 | 25 => 30 | 3 => 3 | 4 => 4 | 9 => 9 | 20 => 20 | 0 => 0 | n => n, fun | n => n⟩
theorem Try.growL67 : Go.Proofs.Lays8.n4 Try.prog Try.growL67_ren := {
 mixed := by kernel_rfl,
 f4 := ⟨Try.f67.name, by decide, Try.func67.trans (congrArg some (by kernel_rfl))⟩,
 t0 := Try.underlying0,
 a0 := Try.isAgg0,
 z0 := Try.sizeOf0,
 v0 := Try.zeroValue0,
 t3 := Try.underlying3,
 a3 := Try.isAgg3,
 z3 := Try.sizeOf3,
 v3 := Try.zeroValue3,
 t4 := Try.underlying4,
 a4 := Try.isAgg4,
 z4 := Try.sizeOf4,
 v4 := Try.zeroValue4,
 t9 := Try.underlying9,
 a9 := Try.isAgg9,
 z9 := Try.sizeOf9,
 v9 := Try.zeroValue9,
 t20 := Try.underlying20,
 a20 := Try.isAgg20,
 z20 := Try.sizeOf20,
 v20 := Try.zeroValue20,
 t22 := Try.underlying44,
 a22 := Try.isAgg44,
 z22 := Try.sizeOf44,
 v22 := Try.zeroValue44 }
theorem slices_Grow_Rect_okO {k0 : K} {v0 v1 : Value} {n : Int} {r : List Rect} (i0 : v0 = .slice none 0 0) (i1 : IsV n v1 k0) (hr : growI Rect n = some r) : Calls Try.prog 67 #[v0, v1] k0.w (Ret k0 (IsOwn k0.w.heap.size 30 r)) := by
 refine grow_own eo30 i0 i1 hr ?_ fun m i z h0 hm hi hz hs hb => ?_
 ·have hcon := Any8.slices_Grow_room Try.growL67 none 0 0 0 k0.w (by omega) (by omega) (by omega) (by omega)
  change Calls Try.prog 67 _ _ _ at hcon
  exact hcon
 ·have hcon := Any8.slices_Grow_grow Try.growL67 i z hi hz hs none 0 0 m [] k0.w (by omega) (by omega) (by
   have : (0 + m) * i.bytes ≤ 1073741824 * 65536 := Nat.mul_le_mul (by omega) hb
   omega) (by omega) (by simp) (fun _ => rfl) (fun a h => by simp at h)
  change Calls Try.prog 67 _ _ _ at hcon
  exact hcon
end
def slices_Concat_Rect_L0 (slices_ : (List (List Rect))) (s68 : Int × Int) : Option (Flow (Int × Int) ((List Rect))) :=
 if (decide (s68.2 < (slices_.length : Int))) then
  (getI slices_ s68.2).bind fun x73_0 =>
  (addI s68.1 (x73_0.length : Int)).bind fun x74_3 =>
  if (decide (x74_3 < 0)) then
   none
  else
   (addI s68.2 1).bind fun x76_0 =>
   some (.go (x74_3, x76_0))
 else
  some (.ex 0 (s68.1, s68.2))
def slices_Concat_Rect_L1 (slices_ : (List (List Rect))) (s93 : (List Rect) × Int) : Option (Flow ((List Rect) × Int) ((List Rect))) :=
 if (decide (s93.2 < (slices_.length : Int))) then
  (getI slices_ s93.2).bind fun x98_0 =>
  (appI s93.1 x98_0).bind fun x99_2 =>
  (addI s93.2 1).bind fun x100_0 =>
  some (.go (x99_2, x100_0))
 else
  some (.ex 2 (s93.1, s93.2))
def slices_Concat_Rect (slices_ : (List (List Rect))) : Option ((List Rect)) :=
 (iterL (slices_Concat_Rect_L0 slices_) (slices_.length + 1) (0, 0)).bind fun f89 => match f89 with
  | .go _ => none
  | .ex _ s90 =>
   (growI Rect s90.1).bind fun x91_1 =>
   (iterL (slices_Concat_Rect_L1 slices_) (slices_.length + 1) (x91_1, 0)).bind fun f110 => match f110 with
    | .go _ => none
    | .ex _ s111 =>
     some s111.1
    | .ret r115 => some r115
  | .ret r121 => some r121
theorem slices_Concat_Rect_okO {k0 : K} {v0 : Value} {slices_ : (List (List Rect))} {r : (List Rect)} (i0 : (IsV slices_) v0 k0) (hr : slices_Concat_Rect slices_ = some r) :
  Calls Try.prog 60 #[v0] k0.w (Ret k0 (IsOwn k0.w.heap.size 30 r)) := by
 unfold slices_Concat_Rect at hr
 refine Ret.ofC ?_
 refine enterK Try.func60 rfl Try.ntmps60 (show 1 ≤ 36 by decide) fun a k hk0 hs hd ha => ?_
 obtain ⟨e0, _⟩ := ha
 replace i0 : (IsV slices_) (a.get 0) k := by rw [e0, hk0]; exact i0
 have hQ : Gb.LetsOut (bodyPost Try.prog Try.f60 (RetC noF k0 (IsOwn k0.w.heap.size 30 r))) := letsOutC
 have hg : Chg noF k0 k := by rw [hk0]; exact Chg.refl _ k0
 refine stepL 1 (⟨some IsE0, []⟩ :: []) rfl ⟨hg, hs, hd⟩ (by kernel_rfl) ⟨ob1 rfl fun b q h n => ok_assign rfl isE0_nil, trivial⟩ [⟨_, _⟩] (fun b q p => ⟨p.ke 0 rfl i0, trivial⟩) ?_
 rintro a k ⟨⟨hg, hs, hd⟩, i0, _⟩
 refine stepL 1 (⟨some (IsI 0), []⟩ :: []) rfl ⟨hg, hs, hd⟩ (by kernel_rfl) ⟨aI rfl rfl, trivial⟩ [⟨_, _⟩, ⟨_, _⟩] (fun b q p => ⟨p.ke 0 rfl i0, p.ou 0 3 rfl, trivial⟩) ?_
 rintro a k ⟨⟨hg, hs, hd⟩, i0, i3, _⟩
 refine wp_seq ?_
 refine stepL 3 (_ :: _ :: ⟨some (IsI 0), []⟩ :: []) rfl ⟨hg, hs, hd⟩ (by kernel_rfl) ⟨mu rfl i0, o1 [(9, some 0)] rfl fun _ _ h n => ok_len rfl rfl Try.underlying86 (IsV.rd n.1), ob1 rfl fun _ _ h n => ok_move rfl (cI rfl), trivial⟩ [⟨_, _⟩, ⟨_, _⟩, ⟨_, _⟩, ⟨_, _⟩, ⟨_, _⟩] (fun b q p => ⟨p.ke 0 rfl i0, p.ke 3 rfl i3, p.ou 0 9 rfl, p.ou 1 10 rfl, p.ou 2 11 rfl, trivial⟩) ?_
 rintro a k ⟨⟨hg, hs, hd⟩, i0, i3, i9, i10, i11, _⟩
 refine wp_block ?_
 obtain ⟨f89, hf89, hr⟩ := bind_some hr
 refine cutFe f89 (fun s' a' k' => Bs noF k0 36 a' k' ∧ (IsV slices_) (a'.get 0) k' ∧ (IsV s'.1) (a'.get 3) k' ∧ (IsV slices_) (a'.get 9) k' ∧ (IsL slices_) (a'.get 10) k' ∧ (IsV s'.2) (a'.get 11) k' ∧ True) (fun i' s' a' k' => (i' = 0 ∧ Bs noF k0 36 a' k' ∧ (IsV slices_) (a'.get 0) k' ∧ (IsV s'.1) (a'.get 3) k' ∧ True)) (fun r' a' k' => bodyPost Try.prog Try.f60 (RetC noF k0 (IsOwn k0.w.heap.size 30 r')) .ret a' k'.w) ?_ hQ ?_ ?_ ?_
 ·intro Q122 hQQ122 hgo hex hret
  refine sim_loop ?_ _ _ _ _ _ hf89 ⟨⟨hg, hs, hd⟩, i0, i3, i9, i10, i11, trivial⟩ Q122 hQQ122 hgo hex hret
  clear hr hf89 hgo hex hret hQQ122 hQ hg hs hd i0 i10 i11 i3 i9
  intro s68 fl_ a k hr hS Q hQ hgo69 hex70 hret71
  obtain ⟨⟨hg, hs, hd⟩, i0, i3, i9, i10, i11, _⟩ := hS
  unfold slices_Concat_Rect_L0 at hr
  refine stepL 1 (_ :: []) rfl ⟨hg, hs, hd⟩ (by kernel_rfl) ⟨o1 [(11, none), (10, none)] rfl fun _ _ h n => ok_lss rfl (up i11 h n.1) (up i10 h n.2.1), trivial⟩ [⟨_, _⟩, ⟨_, _⟩, ⟨_, _⟩, ⟨_, _⟩, ⟨_, _⟩, ⟨_, _⟩] (fun b q p => ⟨p.ke 0 rfl i0, p.ke 3 rfl i3, p.ke 9 rfl i9, p.ke 10 rfl i10, p.ke 11 rfl i11, p.ou 0 12 rfl, trivial⟩) ?_
  rintro a k ⟨⟨hg, hs, hd⟩, i0, i3, i9, i10, i11, i12, _⟩
  refine wp_seq ?_
  refine wp_cond_split (isBool i12) (fun hc86 => ?_) (fun hc86 => ?_)
  ·rw [if_pos hc86] at hr
   refine wp_skip ?_
   refine wp_seq ?_
   refine wp_block ?_
   refine wp_seq ?_
   obtain ⟨x73_0, hx73_0, hr⟩ := bind_some hr
   refine cut (fun a' k' => Bs noF k0 36 a' k' ∧ (IsV slices_) (a'.get 0) k' ∧ (IsV s68.1) (a'.get 3) k' ∧ (IsV x73_0) (a'.get 5) k' ∧ (IsV slices_) (a'.get 9) k' ∧ (IsL slices_) (a'.get 10) k' ∧ (IsV s68.2) (a'.get 11) k' ∧ True) ?_ hQ ?_
   ·intro Q84 hQQ84 hp85
    refine gS 3 (_ :: _ :: _ :: []) hs (by kernel_rfl) ⟨o1 [(9, none), (11, none)] rfl fun _ _ h n => ok_indexAddr rfl Try.underlying86 ty44 (IsV.rd (up i9 h n.1)) (up i11 h n.2.1) hx73_0, o1 [(13, some 0)] rfl fun _ _ h n => ok_load rfl ty44 n.1, cp 1 rfl rfl, trivial⟩ hQQ84 fun b q p => ?_
    exact tail_done (k := q) (hp85 _ _ ⟨Bs.post ⟨hg, hs, hd⟩ p, p.ke 0 rfl i0, p.ke 3 rfl i3, p.ou 2 5 rfl, p.ke 9 rfl i9, p.ke 10 rfl i10, p.ke 11 rfl i11, trivial⟩)
   rintro a k ⟨⟨hg, hs, hd⟩, i0, i3, i5, i9, i10, i11, _⟩
   refine wp_seq ?_
   obtain ⟨x74_3, hx74_3, hr⟩ := bind_some hr
   refine cut (fun a' k' => Bs noF k0 36 a' k' ∧ (IsV slices_) (a'.get 0) k' ∧ (IsV x74_3) (a'.get 3) k' ∧ (IsV slices_) (a'.get 9) k' ∧ (IsL slices_) (a'.get 10) k' ∧ (IsV s68.2) (a'.get 11) k' ∧ True) ?_ hQ ?_
   ·intro Q82 hQQ82 hp83
    refine gS 5 (_ :: _ :: _ :: _ :: _ :: []) hs (by kernel_rfl) ⟨mu rfl i3, mu rfl i5, o1 [(16, some 1)] rfl fun _ _ h n => ok_len rfl rfl Try.underlying44 (IsV.rd n.1), o1 [(15, some 0), (17, some 2)] rfl fun _ _ h n => ok_add rfl n.1 n.2.1 hx74_3, cp 3 rfl rfl, trivial⟩ hQQ82 fun b q p => ?_
    exact tail_done (k := q) (hp83 _ _ ⟨Bs.post ⟨hg, hs, hd⟩ p, p.ke 0 rfl i0, p.ou 4 3 rfl, p.ke 9 rfl i9, p.ke 10 rfl i10, p.ke 11 rfl i11, trivial⟩)
   rintro a k ⟨⟨hg, hs, hd⟩, i0, i3, i9, i10, i11, _⟩
   refine stepL 2 (_ :: _ :: []) rfl ⟨hg, hs, hd⟩ (by kernel_rfl) ⟨mu rfl i3, o1 [(19, some 0)] rfl fun _ _ h n => ok_lss rfl n.1 (cI rfl), trivial⟩ [⟨_, _⟩, ⟨_, _⟩, ⟨_, _⟩, ⟨_, _⟩, ⟨_, _⟩, ⟨_, _⟩] (fun b q p => ⟨p.ke 0 rfl i0, p.ke 3 rfl i3, p.ke 9 rfl i9, p.ke 10 rfl i10, p.ke 11 rfl i11, p.ou 1 20 rfl, trivial⟩) ?_
   rintro a k ⟨⟨hg, hs, hd⟩, i0, i3, i9, i10, i11, i20, _⟩
   refine wp_cond_split (isBool i20) (fun hc79 => ?_) (fun hc79 => ?_)
   ·rw [if_pos hc79] at hr
    simp at hr
   rw [if_neg (by rw [hc79]; decide)] at hr
   refine wp_skip ?_
   obtain ⟨x76_0, hx76_0, hr⟩ := bind_some hr
   refine cut (fun a' k' => Bs noF k0 36 a' k' ∧ (IsV slices_) (a'.get 0) k' ∧ (IsV x74_3) (a'.get 3) k' ∧ (IsV slices_) (a'.get 9) k' ∧ (IsL slices_) (a'.get 10) k' ∧ (IsV x76_0) (a'.get 11) k' ∧ True) ?_ hQ ?_
   ·intro Q77 hQQ77 hp78
    refine gS 2 (_ :: _ :: []) hs (by kernel_rfl) ⟨o1 [(11, none)] rfl fun _ _ h n => ok_add rfl (up i11 h n.1) (cI rfl) hx76_0, cm 0 rfl rfl, trivial⟩ hQQ77 fun b q p => ?_
    exact tail_done (k := q) (hp78 _ _ ⟨Bs.post ⟨hg, hs, hd⟩ p, p.ke 0 rfl i0, p.ke 3 rfl i3, p.ke 9 rfl i9, p.ke 10 rfl i10, p.ou 1 11 rfl, trivial⟩)
   rintro a k ⟨⟨hg, hs, hd⟩, i0, i3, i9, i10, i11, _⟩
   exact hgo69 _ _ _ (Option.some.inj hr).symm ⟨⟨hg, hs, hd⟩, i0, i3, i9, i10, i11, trivial⟩
  rw [if_neg (by rw [hc86]; decide)] at hr
  refine wp_exit ?_
  exact hex70 _ _ _ _ (Option.some.inj hr).symm ⟨rfl, ⟨hg, hs, hd⟩, i0, i3, trivial⟩
 ·rintro r121 a k rfl hR
  dsimp only at hr
  obtain rfl := Option.some.inj hr
  exact hR
 ·rintro _ _ _ rfl _
  simp at hr
 clear hf89
 rintro _ s90 a k rfl ⟨rfl, ⟨hg, hs, hd⟩, i0, i3, _⟩
 dsimp only at hr
 refine wp_seq ?_
 obtain ⟨x91_1, hx91_1, hr⟩ := bind_some hr
 refine cut (fun a' k' => Bs noF k0 36 a' k' ∧ (IsV slices_) (a'.get 0) k' ∧ IsOwn 0 30 x91_1 (a'.get 6) k' ∧ Lo k0 (obF (a'.get 6)) ∧ True) ?_ hQ ?_
 ·intro Q119 hQQ119 hp120
  refine gS 3 (_ :: _ :: _ :: []) hs (by kernel_rfl) ⟨mu rfl i3, o1 [(23, some 0)] rfl fun _ _ h n => ok_call rfl Try.call67 (ret_weaken h.size (slices_Grow_Rect_okO rfl n.1 hx91_1)), cp 1 rfl rfl, trivial⟩ hQQ119 fun b q p => ?_
  have hgq := hg.then p.grow
  have hsb := p.size.trans hs
  have hdb := p.defers.trans hd
  have j0 := p.ke 0 rfl i0
  have j6 : (IsOwn k.w.heap.size 30 x91_1) (b.get 6) q := p.ou 2 6 rfl
  have x6 : Lo k (obF (b.get 6)) := j6.loF
  have y6 := x6.chg hg
  replace j6 := j6.weaken (Nat.zero_le _)
  exact tail_done (k := q) (hp120 _ _ ⟨⟨hgq, hsb, hdb⟩, j0, j6, y6, trivial⟩)
 rintro a k ⟨⟨hg, hs, hd⟩, i0, i6, n6, _⟩
 refine wp_seq ?_
 refine cutS (fun a' k' => Bs noF k0 36 a' k' ∧ IsOwn 0 30 x91_1 (a'.get 6) k' ∧ Lo k0 (obF (a'.get 6)) ∧ (IsV slices_) (a'.get 25) k' ∧ (IsL slices_) (a'.get 26) k' ∧ (IsI 0) (a'.get 27) k' ∧ True) ?_ ?_
 ·intro Q117 hQQ117 hp118
  refine gS 3 (_ :: _ :: ⟨some (IsI 0), []⟩ :: []) hs (by kernel_rfl) ⟨mu rfl i0, o1 [(25, some 0)] rfl fun _ _ h n => ok_len rfl rfl Try.underlying86 (IsV.rd n.1), ob1 rfl fun _ _ h n => ok_move rfl (cI rfl), trivial⟩ hQQ117 fun b q p => ?_
  exact tail_done (k := q) (hp118 _ _ ⟨Bs.post ⟨hg, hs, hd⟩ p, p.ke 6 rfl i6, (by rw [p.old 6 rfl]; exact n6), p.ou 0 25 rfl, p.ou 1 26 rfl, p.ou 2 27 rfl, trivial⟩)
 rintro a k ⟨⟨hg, hs, hd⟩, i6, n6, i25, i26, i27, _⟩
 refine wp_block ?_
 obtain ⟨f110, hf110, hr⟩ := bind_some hr
 refine cutFe f110 (fun s' a' k' => Bs noF k0 36 a' k' ∧ IsOwn 0 30 s'.1 (a'.get 6) k' ∧ Lo k0 (obF (a'.get 6)) ∧ (IsV slices_) (a'.get 25) k' ∧ (IsL slices_) (a'.get 26) k' ∧ (IsV s'.2) (a'.get 27) k' ∧ True) (fun i' s' a' k' => (i' = 2 ∧ Bs noF k0 36 a' k' ∧ IsOwn 0 30 s'.1 (a'.get 6) k' ∧ Lo k0 (obF (a'.get 6)) ∧ True)) (fun r' a' k' => bodyPost Try.prog Try.f60 (RetC noF k0 (IsOwn k0.w.heap.size 30 r')) .ret a' k'.w) ?_ hQ ?_ ?_ ?_
 ·intro Q116 hQQ116 hgo hex hret
  refine sim_loop ?_ _ _ _ _ _ hf110 ⟨⟨hg, hs, hd⟩, i6, n6, i25, i26, i27, trivial⟩ Q116 hQQ116 hgo hex hret
  clear hr hf110 hgo hex hret hQQ116 hQ hg hs hd i25 i26 i27 i6 n6
  intro s93 fl_ a k hr hS Q hQ hgo94 hex95 hret96
  obtain ⟨⟨hg, hs, hd⟩, i6, n6, i25, i26, i27, _⟩ := hS
  unfold slices_Concat_Rect_L1 at hr
  refine cutS (fun a' k' => Bs noF k0 36 a' k' ∧ IsOwn 0 30 s93.1 (a'.get 6) k' ∧ Lo k0 (obF (a'.get 6)) ∧ (IsV slices_) (a'.get 25) k' ∧ (IsL slices_) (a'.get 26) k' ∧ (IsV s93.2) (a'.get 27) k' ∧ (IsV (decide (s93.2 < (slices_.length : Int)))) (a'.get 28) k' ∧ True) ?_ ?_
  ·intro Q108 hQQ108 hp109
   refine gS 1 (_ :: []) hs (by kernel_rfl) ⟨o1 [(27, none), (26, none)] rfl fun _ _ h n => ok_lss rfl (up i27 h n.1) (up i26 h n.2.1), trivial⟩ hQQ108 fun b q p => ?_
   exact tail_done (k := q) (hp109 _ _ ⟨Bs.post ⟨hg, hs, hd⟩ p, p.ke 6 rfl i6, (by rw [p.old 6 rfl]; exact n6), p.ke 25 rfl i25, p.ke 26 rfl i26, p.ke 27 rfl i27, p.ou 0 28 rfl, trivial⟩)
  rintro a k ⟨⟨hg, hs, hd⟩, i6, n6, i25, i26, i27, i28, _⟩
  refine wp_seq ?_
  refine wp_cond_split (isBool i28) (fun hc107 => ?_) (fun hc107 => ?_)
  ·rw [if_pos hc107] at hr
   refine wp_skip ?_
   refine wp_seq ?_
   refine wp_block ?_
   refine wp_seq ?_
   obtain ⟨x98_0, hx98_0, hr⟩ := bind_some hr
   refine cut (fun a' k' => Bs noF k0 36 a' k' ∧ IsOwn 0 30 s93.1 (a'.get 6) k' ∧ Lo k0 (obF (a'.get 6)) ∧ (IsV x98_0) (a'.get 8) k' ∧ (IsV slices_) (a'.get 25) k' ∧ (IsL slices_) (a'.get 26) k' ∧ (IsV s93.2) (a'.get 27) k' ∧ True) ?_ hQ ?_
   ·intro Q105 hQQ105 hp106
    refine gS 3 (_ :: _ :: _ :: []) hs (by kernel_rfl) ⟨o1 [(25, none), (27, none)] rfl fun _ _ h n => ok_indexAddr rfl Try.underlying86 ty44 (IsV.rd (up i25 h n.1)) (up i27 h n.2.1) hx98_0, o1 [(29, some 0)] rfl fun _ _ h n => ok_load rfl ty44 n.1, cp 1 rfl rfl, trivial⟩ hQQ105 fun b q p => ?_
    exact tail_done (k := q) (hp106 _ _ ⟨Bs.post ⟨hg, hs, hd⟩ p, p.ke 6 rfl i6, (by rw [p.old 6 rfl]; exact n6), p.ou 2 8 rfl, p.ke 25 rfl i25, p.ke 26 rfl i26, p.ke 27 rfl i27, trivial⟩)
   rintro a k ⟨⟨hg, hs, hd⟩, i6, n6, i8, i25, i26, i27, _⟩
   obtain ⟨x99_2, hx99_2, hr⟩ := bind_some hr
   refine cut (fun a' k' => Bs noF k0 36 a' k' ∧ IsOwn 0 30 x99_2 (a'.get 6) k' ∧ Lo k0 (obF (a'.get 6)) ∧ (IsV slices_) (a'.get 25) k' ∧ (IsL slices_) (a'.get 26) k' ∧ (IsV s93.2) (a'.get 27) k' ∧ True) ?_ hQ ?_
   ·intro Q103 hQQ103 hp104
    refine gS 2 (⟨some (OwnAt (a.get 6) 0 30 s93.1), [(6, none)]⟩ :: _ :: []) hs (by kernel_rfl) ⟨ob1 rfl fun _ _ h n => ok_moveOA (.inl rfl) (ownAt n.1 (up i6 h n.1)), mu rfl i8, trivial⟩ hQQ103 fun b q p => ?_
    have hgq := hg.then p.grow
    have hsb := p.size.trans hs
    have hdb := p.defers.trans hd
    have j25 := p.ke 25 rfl i25
    have j26 := p.ke 26 rfl i26
    have j27 := p.ke 27 rfl i27
    have e31 : b.get 31 = a.get 6 := (p.ou 0 31 rfl).1
    have j31 : IsOwn 0 30 s93.1 (b.get 31) q := (p.ou 0 31 rfl).2
    have y31 : Lo k0 (obF (b.get 31)) := by rw [e31]; exact n6
    have j32 : (IsV x98_0) (b.get 32) q := p.ou 1 32 rfl
    have hns := j31.nshF
    refine tail_appendS (i := 2) (d := 33) rfl rfl rfl rfl (by rw [hsb]; decide) (e := 30) Try.underlying44 eo30 j31 (IsV.rd j32) hx99_2 fun b2 q2 hsz hdf hoth hch hown hob => ?_
    have hle := hch.le hns
    have yn : Lo k0 (obF (b2.get 33)) := y31.app hgq hob
    replace j25 := Pers.pers hle j25
    replace j26 := Pers.pers hle j26
    replace j27 := Pers.pers hle j27
    replace j32 := Pers.pers hle j32
    replace hgq := hgq.step hch y31.wr
    rw [← hoth 25 (by decide)] at j25
    rw [← hoth 26 (by decide)] at j26
    rw [← hoth 27 (by decide)] at j27
    rw [← hoth 32 (by decide)] at j32
    have j33 := hown
    have y33 := yn
    replace hsb := hsz.trans hsb
    replace hdb := hdf.trans hdb
    clear hle hch hown hob hns yn hsz hdf hoth
    obtain ⟨b, hbb⟩ : ∃ b, b = b2 := ⟨b2, rfl⟩
    subst hbb
    obtain ⟨q, hqq⟩ : ∃ q, q = q2 := ⟨q2, rfl⟩
    subst hqq
    refine tail_assign (i := 3) (d := 6) rfl rfl (.inl rfl) rfl (by rw [hsb]; decide) fun b2 hsz hdf hnew hoth => ?_
    have jn : (IsOwn 0 30 x99_2) (b2.get 6) q := by rw [hnew]; exact j33
    have yn : Lo k0 (obF (b2.get 6)) := by rw [hnew]; exact y33
    rw [← hoth 25 (by decide)] at j25
    rw [← hoth 26 (by decide)] at j26
    rw [← hoth 27 (by decide)] at j27
    rw [← hoth 32 (by decide)] at j32
    have j6 := jn
    have y6 := yn
    replace hsb := hsz.trans hsb
    replace hdb := hdf.trans hdb
    clear hsz hdf hoth
    obtain ⟨b, hbb⟩ : ∃ b, b = b2 := ⟨b2, rfl⟩
    subst hbb
    exact tail_done (k := q) (hp104 _ _ ⟨⟨hgq, hsb, hdb⟩, j6, y6, j25, j26, j27, trivial⟩)
   rintro a k ⟨⟨hg, hs, hd⟩, i6, n6, i25, i26, i27, _⟩
   obtain ⟨x100_0, hx100_0, hr⟩ := bind_some hr
   refine cut (fun a' k' => Bs noF k0 36 a' k' ∧ IsOwn 0 30 x99_2 (a'.get 6) k' ∧ Lo k0 (obF (a'.get 6)) ∧ (IsV slices_) (a'.get 25) k' ∧ (IsL slices_) (a'.get 26) k' ∧ (IsV x100_0) (a'.get 27) k' ∧ True) ?_ hQ ?_
   ·intro Q101 hQQ101 hp102
    refine gS 2 (_ :: _ :: []) hs (by kernel_rfl) ⟨o1 [(27, none)] rfl fun _ _ h n => ok_add rfl (up i27 h n.1) (cI rfl) hx100_0, cm 0 rfl rfl, trivial⟩ hQQ101 fun b q p => ?_
    exact tail_done (k := q) (hp102 _ _ ⟨Bs.post ⟨hg, hs, hd⟩ p, p.ke 6 rfl i6, (by rw [p.old 6 rfl]; exact n6), p.ke 25 rfl i25, p.ke 26 rfl i26, p.ou 1 27 rfl, trivial⟩)
   rintro a k ⟨⟨hg, hs, hd⟩, i6, n6, i25, i26, i27, _⟩
   exact hgo94 _ _ _ (Option.some.inj hr).symm ⟨⟨hg, hs, hd⟩, i6, n6, i25, i26, i27, trivial⟩
  rw [if_neg (by rw [hc107]; decide)] at hr
  refine wp_exit ?_
  exact hex95 _ _ _ _ (Option.some.inj hr).symm ⟨rfl, ⟨hg, hs, hd⟩, i6, n6, trivial⟩
 ·rintro r115 a k rfl hR
  dsimp only at hr
  obtain rfl := Option.some.inj hr
  exact hR
 ·rintro _ _ _ rfl _
  simp at hr
 clear hf110
 rintro _ s111 a k rfl ⟨rfl, ⟨hg, hs, hd⟩, i6, n6, _⟩
 dsimp only at hr
 refine cutS (fun a' k' => Bs noF k0 36 a' k' ∧ IsOwn 0 30 s111.1 (a'.get 2) k' ∧ Lo k0 (obF (a'.get 2)) ∧ True) ?_ ?_
 ·intro Q113 hQQ113 hp114
  refine gS 2 (⟨some (OwnAt (a.get 6) 0 30 s111.1), [(6, none)]⟩ :: ⟨some (OwnAt (a.get 6) 0 30 s111.1), [(35, some 0)]⟩ :: []) hs (by kernel_rfl) ⟨ob1 rfl fun _ _ h n => ok_moveOA (.inl rfl) (ownAt n.1 (up i6 h n.1)), ob1 rfl fun _ _ h n => ok_moveOA (.inr rfl) n.1, trivial⟩ hQQ113 fun b q p => ?_
  have hgq := hg.then p.grow
  have hsb := p.size.trans hs
  have hdb := p.defers.trans hd
  have e2 : b.get 2 = a.get 6 := (p.ou 1 2 rfl).1
  have j2 : IsOwn 0 30 s111.1 (b.get 2) q := (p.ou 1 2 rfl).2
  have y2 : Lo k0 (obF (b.get 2)) := by rw [e2]; exact n6
  exact tail_done (k := q) (hp114 _ _ ⟨⟨hgq, hsb, hdb⟩, j2, y2, trivial⟩)
 rintro a k ⟨⟨hg, hs, hd⟩, i2, n2, _⟩
 refine wp_ret ?_
 obtain rfl := Option.some.inj hr
 exact retC1 rfl hd hg (show ResOk _ _ _ (.tmp 2) _ from IsOwn.raise (k0 := k0) i2 n2)
theorem slices_Concat_Rect_ok {k0 : K} {v0 : Value} {slices_ : (List (List Rect))} {r : (List Rect)} (i0 : (IsV slices_) v0 k0) (hr : slices_Concat_Rect slices_ = some r) :
  Calls Try.prog 60 #[v0] k0.w (Ret k0 (IsV r)) :=
 ret_give (slices_Concat_Rect_okO i0 hr)
def cmp_isNaN_int (x_ : Int) : Option (Bool) :=
 some (x_ != x_)
theorem cmp_isNaN_int_ok {k0 : K} {v0 : Value} {x_ : Int} {r : Bool} (i0 : (IsV x_) v0 k0) (hr : cmp_isNaN_int x_ = some r) :
  Calls Try.prog 87 #[v0] k0.w (Ret k0 (IsV r)) := by
 unfold cmp_isNaN_int at hr
 refine Ret.ofC ?_
 refine enterK Try.func87 rfl Try.ntmps87 (show 1 ≤ 6 by decide) fun a k hk0 hs hd ha => ?_
 obtain ⟨e0, _⟩ := ha
 replace i0 : (IsV x_) (a.get 0) k := by rw [e0, hk0]; exact i0
 have hQ : Gb.LetsOut (bodyPost Try.prog Try.f87 (RetC noF k0 (IsV r))) := letsOutC
 have hg : Chg noF k0 k := by rw [hk0]; exact Chg.refl _ k0
 refine stepL 1 (⟨some (IsV false), []⟩ :: []) rfl ⟨hg, hs, hd⟩ (by kernel_rfl) ⟨ob1 rfl fun _ _ h n => ok_assign rfl (isV_bool.2 rfl), trivial⟩ [⟨_, _⟩] (fun b q p => ⟨p.ke 0 rfl i0, trivial⟩) ?_
 rintro a k ⟨⟨hg, hs, hd⟩, i0, _⟩
 refine stepL 4 (_ :: _ :: ⟨some (IsV (x_ != x_)), [(3, some 0), (4, some 1)]⟩ :: _ :: []) rfl ⟨hg, hs, hd⟩ (by kernel_rfl) ⟨mu rfl i0, mu rfl i0, ob1 rfl fun _ _ h n => ok_neI rfl n.1 n.2.1, cp 2 rfl rfl, trivial⟩ [⟨_, _⟩] (fun b q p => ⟨p.ou 3 2 rfl, trivial⟩) ?_
 rintro a k ⟨⟨hg, hs, hd⟩, i2, _⟩
 refine wp_ret ?_
 obtain rfl := Option.some.inj hr
 exact retC1 rfl hd hg i2
def cmp_Compare_int (x_ : Int) (y_ : Int) : Option (Int) :=
 (cmp_isNaN_int x_).bind fun x136_1 =>
 (cmp_isNaN_int y_).bind fun x137_1 =>
 if x136_1 then
  if x137_1 then
   some 0
  else
   some (-1)
 else
  if x137_1 then
   some 1
  else
   if (decide (x_ < y_)) then
    some (-1)
   else
    if (decide (y_ < x_)) then
     some 1
    else
     some 0
theorem cmp_Compare_int_ok {k0 : K} {v0 v1 : Value} {x_ : Int} {y_ : Int} {r : Int} (i0 : (IsV x_) v0 k0) (i1 : (IsV y_) v1 k0) (hr : cmp_Compare_int x_ y_ = some r) :
  Calls Try.prog 70 #[v0, v1] k0.w (Ret k0 (IsV r)) := by
 unfold cmp_Compare_int at hr
 refine Ret.ofC ?_
 refine enterK Try.func70 rfl Try.ntmps70 (show 2 ≤ 20 by decide) fun a k hk0 hs hd ha => ?_
 obtain ⟨e0, e1, _⟩ := ha
 replace i0 : (IsV x_) (a.get 0) k := by rw [e0, hk0]; exact i0
 replace i1 : (IsV y_) (a.get 1) k := by rw [e1, hk0]; exact i1
 have hQ : Gb.LetsOut (bodyPost Try.prog Try.f70 (RetC noF k0 (IsV r))) := letsOutC
 have hg : Chg noF k0 k := by rw [hk0]; exact Chg.refl _ k0
 refine stepL 1 (⟨some (IsI 0), []⟩ :: []) rfl ⟨hg, hs, hd⟩ (by kernel_rfl) ⟨aI rfl rfl, trivial⟩ [⟨_, _⟩, ⟨_, _⟩] (fun b q p => ⟨p.ke 0 rfl i0, p.ke 1 rfl i1, trivial⟩) ?_
 rintro a k ⟨⟨hg, hs, hd⟩, i0, i1, _⟩
 refine wp_seq ?_
 obtain ⟨x136_1, hx136_1, hr⟩ := bind_some hr
 refine cut (fun a' k' => Bs noF k0 20 a' k' ∧ (IsV x_) (a'.get 0) k' ∧ (IsV y_) (a'.get 1) k' ∧ (IsV x136_1) (a'.get 5) k' ∧ True) ?_ hQ ?_
 ·intro Q178 hQQ178 hp179
  refine gS 3 (_ :: _ :: _ :: []) hs (by kernel_rfl) ⟨mu rfl i0, o1 [(7, some 0)] rfl fun _ _ h n => ok_call rfl Try.call87 (cmp_isNaN_int_ok n.1 hx136_1), cp 1 rfl rfl, trivial⟩ hQQ178 fun b q p => ?_
  exact tail_done (k := q) (hp179 _ _ ⟨Bs.post ⟨hg, hs, hd⟩ p, p.ke 0 rfl i0, p.ke 1 rfl i1, p.ou 2 5 rfl, trivial⟩)
 rintro a k ⟨⟨hg, hs, hd⟩, i0, i1, i5, _⟩
 refine wp_seq ?_
 obtain ⟨x137_1, hx137_1, hr⟩ := bind_some hr
 refine cut (fun a' k' => Bs noF k0 20 a' k' ∧ (IsV x_) (a'.get 0) k' ∧ (IsV y_) (a'.get 1) k' ∧ (IsV x136_1) (a'.get 5) k' ∧ (IsV x137_1) (a'.get 6) k' ∧ True) ?_ hQ ?_
 ·intro Q176 hQQ176 hp177
  refine gS 3 (_ :: _ :: _ :: []) hs (by kernel_rfl) ⟨mu rfl i1, o1 [(9, some 0)] rfl fun _ _ h n => ok_call rfl Try.call87 (cmp_isNaN_int_ok n.1 hx137_1), cp 1 rfl rfl, trivial⟩ hQQ176 fun b q p => ?_
  exact tail_done (k := q) (hp177 _ _ ⟨Bs.post ⟨hg, hs, hd⟩ p, p.ke 0 rfl i0, p.ke 1 rfl i1, p.ke 5 rfl i5, p.ou 2 6 rfl, trivial⟩)
 rintro a k ⟨⟨hg, hs, hd⟩, i0, i1, i5, i6, _⟩
 refine wp_seq ?_
 refine stepL 1 (_ :: []) rfl ⟨hg, hs, hd⟩ (by kernel_rfl) ⟨mu rfl i5, trivial⟩ [⟨_, _⟩, ⟨_, _⟩, ⟨_, _⟩, ⟨_, _⟩] (fun b q p => ⟨p.ke 0 rfl i0, p.ke 1 rfl i1, p.ke 6 rfl i6, p.ou 0 11 rfl, trivial⟩) ?_
 rintro a k ⟨⟨hg, hs, hd⟩, i0, i1, i6, i11, _⟩
 refine wp_cond_split (isBool i11) (fun hc173 => ?_) (fun hc173 => ?_)
 ·rw [if_pos hc173] at hr
  refine wp_seq ?_
  refine stepL 1 (_ :: []) rfl ⟨hg, hs, hd⟩ (by kernel_rfl) ⟨mu rfl i6, trivial⟩ [⟨_, _⟩] (fun b q p => ⟨p.ou 0 12 rfl, trivial⟩) ?_
  rintro a k ⟨⟨hg, hs, hd⟩, i12, _⟩
  refine wp_cond_split (isBool i12) (fun hc146 => ?_) (fun hc146 => ?_)
  ·rw [if_pos hc146] at hr
   refine stepL 1 (⟨some (IsI 0), []⟩ :: []) rfl ⟨hg, hs, hd⟩ (by kernel_rfl) ⟨aI rfl rfl, trivial⟩ [⟨_, _⟩] (fun b q p => ⟨p.ou 0 4 rfl, trivial⟩) ?_
   rintro a k ⟨⟨hg, hs, hd⟩, i4, _⟩
   refine wp_ret ?_
   obtain rfl := Option.some.inj hr
   exact retC1 rfl hd hg i4
  rw [if_neg (by rw [hc146]; decide)] at hr
  refine wp_skip ?_
  refine stepL 1 (⟨some (IsI (-1)), []⟩ :: []) rfl ⟨hg, hs, hd⟩ (by kernel_rfl) ⟨aI rfl rfl, trivial⟩ [⟨_, _⟩] (fun b q p => ⟨p.ou 0 4 rfl, trivial⟩) ?_
  rintro a k ⟨⟨hg, hs, hd⟩, i4, _⟩
  refine wp_ret ?_
  obtain rfl := Option.some.inj hr
  exact retC1 rfl hd hg i4
 rw [if_neg (by rw [hc173]; decide)] at hr
 refine wp_skip ?_
 refine wp_seq ?_
 refine stepL 1 (_ :: []) rfl ⟨hg, hs, hd⟩ (by kernel_rfl) ⟨mu rfl i6, trivial⟩ [⟨_, _⟩, ⟨_, _⟩, ⟨_, _⟩] (fun b q p => ⟨p.ke 0 rfl i0, p.ke 1 rfl i1, p.ou 0 13 rfl, trivial⟩) ?_
 rintro a k ⟨⟨hg, hs, hd⟩, i0, i1, i13, _⟩
 refine wp_cond_split (isBool i13) (fun hc170 => ?_) (fun hc170 => ?_)
 ·rw [if_pos hc170] at hr
  refine stepL 1 (⟨some (IsI 1), []⟩ :: []) rfl ⟨hg, hs, hd⟩ (by kernel_rfl) ⟨aI rfl rfl, trivial⟩ [⟨_, _⟩] (fun b q p => ⟨p.ou 0 4 rfl, trivial⟩) ?_
  rintro a k ⟨⟨hg, hs, hd⟩, i4, _⟩
  refine wp_ret ?_
  obtain rfl := Option.some.inj hr
  exact retC1 rfl hd hg i4
 rw [if_neg (by rw [hc170]; decide)] at hr
 refine wp_skip ?_
 refine wp_seq ?_
 refine stepL 3 (_ :: _ :: _ :: []) rfl ⟨hg, hs, hd⟩ (by kernel_rfl) ⟨mu rfl i0, mu rfl i1, o1 [(14, some 0), (15, some 1)] rfl fun _ _ h n => ok_lss rfl n.1 n.2.1, trivial⟩ [⟨_, _⟩, ⟨_, _⟩, ⟨_, _⟩] (fun b q p => ⟨p.ke 0 rfl i0, p.ke 1 rfl i1, p.ou 2 16 rfl, trivial⟩) ?_
 rintro a k ⟨⟨hg, hs, hd⟩, i0, i1, i16, _⟩
 refine wp_cond_split (isBool i16) (fun hc167 => ?_) (fun hc167 => ?_)
 ·rw [if_pos hc167] at hr
  refine stepL 1 (⟨some (IsI (-1)), []⟩ :: []) rfl ⟨hg, hs, hd⟩ (by kernel_rfl) ⟨aI rfl rfl, trivial⟩ [⟨_, _⟩] (fun b q p => ⟨p.ou 0 4 rfl, trivial⟩) ?_
  rintro a k ⟨⟨hg, hs, hd⟩, i4, _⟩
  refine wp_ret ?_
  obtain rfl := Option.some.inj hr
  exact retC1 rfl hd hg i4
 rw [if_neg (by rw [hc167]; decide)] at hr
 refine wp_skip ?_
 refine wp_seq ?_
 refine stepL 3 (_ :: _ :: _ :: []) rfl ⟨hg, hs, hd⟩ (by kernel_rfl) ⟨mu rfl i0, mu rfl i1, o1 [(17, some 0), (18, some 1)] rfl fun _ _ h n => ok_gtr rfl n.1 n.2.1, trivial⟩ [⟨_, _⟩] (fun b q p => ⟨p.ou 2 19 rfl, trivial⟩) ?_
 rintro a k ⟨⟨hg, hs, hd⟩, i19, _⟩
 refine wp_cond_split (isBool i19) (fun hc164 => ?_) (fun hc164 => ?_)
 ·rw [if_pos hc164] at hr
  refine stepL 1 (⟨some (IsI 1), []⟩ :: []) rfl ⟨hg, hs, hd⟩ (by kernel_rfl) ⟨aI rfl rfl, trivial⟩ [⟨_, _⟩] (fun b q p => ⟨p.ou 0 4 rfl, trivial⟩) ?_
  rintro a k ⟨⟨hg, hs, hd⟩, i4, _⟩
  refine wp_ret ?_
  obtain rfl := Option.some.inj hr
  exact retC1 rfl hd hg i4
 rw [if_neg (by rw [hc164]; decide)] at hr
 refine wp_skip ?_
 refine stepL 1 (⟨some (IsI 0), []⟩ :: []) rfl ⟨hg, hs, hd⟩ (by kernel_rfl) ⟨aI rfl rfl, trivial⟩ [⟨_, _⟩] (fun b q p => ⟨p.ou 0 4 rfl, trivial⟩) ?_
 rintro a k ⟨⟨hg, hs, hd⟩, i4, _⟩
 refine wp_ret ?_
 obtain rfl := Option.some.inj hr
 exact retC1 rfl hd hg i4
def region_column_1 (a_ : RegionSpan) (b_ : RegionSpan) : Option (Int) :=
 (cmp_Compare_int a_.from_ b_.from_).bind fun x183_4 =>
 some x183_4
theorem region_column_1_ok {k0 : K} {v0 v1 : Value} {a_ : RegionSpan} {b_ : RegionSpan} {r : Int} (i0 : (IsV a_) v0 k0) (i1 : (IsV b_) v1 k0) (hr : region_column_1 a_ b_ = some r) :
  Calls Try.prog 69 #[v0, v1] k0.w (Ret k0 (IsV r)) := by
 unfold region_column_1 at hr
 refine Ret.ofC ?_
 refine enterK Try.func69 rfl Try.ntmps69 (show 2 ≤ 10 by decide) fun a k hk0 hs hd ha => ?_
 obtain ⟨e0, e1, _⟩ := ha
 replace i0 : (IsV a_) (a.get 0) k := by rw [e0, hk0]; exact i0
 replace i1 : (IsV b_) (a.get 1) k := by rw [e1, hk0]; exact i1
 have hQ : Gb.LetsOut (bodyPost Try.prog Try.f69 (RetC noF k0 (IsV r))) := letsOutC
 have hg : Chg noF k0 k := by rw [hk0]; exact Chg.refl _ k0
 refine stepL 3 (⟨some (IsRef a_), [(0, none)]⟩ :: ⟨some (IsRef b_), [(1, none)]⟩ :: ⟨some (IsI 0), []⟩ :: []) rfl ⟨hg, hs, hd⟩ (by kernel_rfl) ⟨ob1 rfl fun _ _ h n => ok_boxR rfl (up i0 h n.1), ob1 rfl fun _ _ h n => ok_boxR rfl (up i1 h n.1), aI rfl rfl, trivial⟩ [⟨_, _⟩, ⟨_, _⟩] (fun b q p => ⟨p.ou 0 2 rfl, p.ou 1 3 rfl, trivial⟩) ?_
 rintro a k ⟨⟨hg, hs, hd⟩, i2, i3, _⟩
 refine wp_seq ?_
 obtain ⟨x183_4, hx183_4, hr⟩ := bind_some hr
 refine cut (fun a' k' => Bs noF k0 10 a' k' ∧ (IsV x183_4) (a'.get 4) k' ∧ True) ?_ hQ ?_
 ·intro Q184 hQQ184 hp185
  refine gS 6 (_ :: _ :: _ :: _ :: _ :: _ :: []) hs (by kernel_rfl) ⟨o1 [(2, none)] rfl fun _ _ h n => ok_fieldAddr rfl fo83_0 (at_RegionSpan_0 _) ((up i2 h n.1)).ptr, o1 [(5, some 0)] rfl fun _ _ h n => ok_load rfl ty3 n.1, o1 [(3, none)] rfl fun _ _ h n => ok_fieldAddr rfl fo83_0 (at_RegionSpan_0 _) ((up i3 h n.1)).ptr, o1 [(7, some 2)] rfl fun _ _ h n => ok_load rfl ty3 n.1, o1 [(6, some 1), (8, some 3)] rfl fun _ _ h n => ok_call rfl Try.call70 (cmp_Compare_int_ok n.1 n.2.1 hx183_4), cp 4 rfl rfl, trivial⟩ hQQ184 fun b q p => ?_
  exact tail_done (k := q) (hp185 _ _ ⟨Bs.post ⟨hg, hs, hd⟩ p, p.ou 5 4 rfl, trivial⟩)
 rintro a k ⟨⟨hg, hs, hd⟩, i4, _⟩
 refine wp_ret ?_
 obtain rfl := Option.some.inj hr
 exact retC1 rfl hd hg i4
section
open Go.Proofs Go.RowKit Go.Lib Go.Sort Go.Shelf
def Try.sortSpansL_ren : Go.Shelf.Ren := ⟨fun | 6 => 68 | 15 => 64 | 14 => 86 | 28 => 80 | 29 => 81 | 20 => 96 | 21 => 97 | 22 => 98 | 23 => 99 | 24 => 100 | 25 => 101 | 26 => 102 | 27 => 103 | 46 => 105 | 47 => 89 | 48 => 90 | 49 => 106 | 50 => 107 | 57 => 108 | n => n, fun | 22 => 81 | 24 => 83 | 25 => 98 | 3 => 3 | 39 => 92 | 0 => 0 | 53 => 109 | 55 => 111 | 4 => 4 | 46 => 101 | 45 => 100 | 50 => 106 | 5 => 5 | 9 => 9 | 66 => 118 | 70 => 122 | 76 => 133 | 77 => 134 | n => n, fun | n => n⟩
theorem Try.sortSpansL : Go.Proofs.SlLaysF0.n6 Try.prog Try.sortSpansL_ren := {
 mixed := by kernel_rfl,
 f6 := ⟨Try.f68.name, by decide, Try.func68.trans (congrArg some (by kernel_rfl))⟩,
 f14 := ⟨Try.f86.name, by decide, Try.func86.trans (congrArg some (by kernel_rfl))⟩,
 f15 := Try.func64.trans (congrArg some (by kernel_rfl)),
 f20 := ⟨Try.f96.name, by decide, Try.func96.trans (congrArg some (by kernel_rfl))⟩,
 f21 := ⟨Try.f97.name, by decide, Try.func97.trans (congrArg some (by kernel_rfl))⟩,
 f22 := ⟨Try.f98.name, by decide, Try.func98.trans (congrArg some (by kernel_rfl))⟩,
 f23 := ⟨Try.f99.name, by decide, Try.func99.trans (congrArg some (by kernel_rfl))⟩,
 f24 := ⟨Try.f100.name, by decide, Try.func100.trans (congrArg some (by kernel_rfl))⟩,
 f25 := ⟨Try.f101.name, by decide, Try.func101.trans (congrArg some (by kernel_rfl))⟩,
 f26 := ⟨Try.f102.name, by decide, Try.func102.trans (congrArg some (by kernel_rfl))⟩,
 f27 := ⟨Try.f103.name, by decide, Try.func103.trans (congrArg some (by kernel_rfl))⟩,
 f28 := Try.func80.trans (congrArg some (by kernel_rfl)),
 f29 := Try.func81.trans (congrArg some (by kernel_rfl)),
 f46 := ⟨Try.f105.name, by decide, Try.func105.trans (congrArg some (by kernel_rfl))⟩,
 f47 := Try.func89.trans (congrArg some (by kernel_rfl)),
 f48 := Try.func90.trans (congrArg some (by kernel_rfl)),
 f49 := ⟨Try.f106.name, by decide, Try.func106.trans (congrArg some (by kernel_rfl))⟩,
 f50 := ⟨Try.f107.name, by decide, Try.func107.trans (congrArg some (by kernel_rfl))⟩,
 f57 := ⟨Try.f108.name, by decide, Try.func108.trans (congrArg some (by kernel_rfl))⟩,
 t0 := Try.underlying0,
 a0 := Try.isAgg0,
 z0 := Try.sizeOf0,
 v0 := Try.zeroValue0,
 t3 := Try.underlying3,
 a3 := Try.isAgg3,
 z3 := Try.sizeOf3,
 v3 := Try.zeroValue3,
 t4 := Try.underlying4,
 a4 := Try.isAgg4,
 z4 := Try.sizeOf4,
 v4 := Try.zeroValue4,
 t5 := Try.underlying5,
 a5 := Try.isAgg5,
 z5 := Try.sizeOf5,
 v5 := Try.zeroValue5,
 t9 := Try.underlying9,
 a9 := Try.isAgg9,
 z9 := Try.sizeOf9,
 v9 := Try.zeroValue9,
 t22 := Try.underlying81,
 a22 := Try.isAgg81,
 z22 := Try.sizeOf81,
 v22 := Try.zeroValue81,
 t25 := Try.underlying98,
 a25 := Try.isAgg98,
 z25 := Try.sizeOf98,
 v25 := Try.zeroValue98,
 t39 := Try.underlying92,
 a39 := Try.isAgg92,
 z39 := Try.sizeOf92,
 v39 := Try.zeroValue92,
 t45 := Try.underlying100,
 a45 := Try.isAgg100,
 z45 := Try.sizeOf100,
 v45 := Try.zeroValue100,
 t46 := Try.underlying101,
 a46 := Try.isAgg101,
 z46 := Try.sizeOf101,
 v46 := Try.zeroValue101,
 t50 := Try.underlying106,
 a50 := Try.isAgg106,
 z50 := Try.sizeOf106,
 v50 := Try.zeroValue106,
 t53 := Try.underlying109,
 a53 := Try.isAgg109,
 z53 := Try.sizeOf109,
 v53 := Try.zeroValue109,
 t55 := Try.underlying111,
 a55 := Try.isAgg111,
 z55 := Try.sizeOf111,
 v55 := Try.zeroValue111,
 t66 := Try.underlying118,
 a66 := Try.isAgg118,
 z66 := Try.sizeOf118,
 v66 := Try.zeroValue118,
 t70 := Try.underlying122,
 a70 := Try.isAgg122,
 z70 := Try.sizeOf122,
 v70 := Try.zeroValue122,
 t76 := Try.underlying133,
 a76 := Try.isAgg133,
 z76 := Try.sizeOf133,
 v76 := Try.zeroValue133,
 t77 := Try.underlying134,
 a77 := Try.isAgg134,
 z77 := Try.sizeOf134,
 v77 := Try.zeroValue134 }
instance : FlatE RegionSpan := FlatE.ofMap fun x : RegionSpan => (x.from_, x.to_)
/-- What the comparison of two spans hands back. -/
def spanCmp (x y : RegionSpan) : Int := if x.from_ < y.from_ then -1 else if y.from_ < x.from_ then 1 else 0
theorem column_1_val (x y : RegionSpan) : region_column_1 x y = some (spanCmp x y) := by
 unfold region_column_1 cmp_Compare_int cmp_isNaN_int spanCmp
 by_cases h : x.from_ < y.from_
 ·simp [h]
 ·by_cases h2 : y.from_ < x.from_ <;> simp [h, h2]
theorem ltOf_span (x y : RegionSpan) : ltOf spanCmp x y = decide (x.from_ < y.from_) := by
 unfold ltOf spanCmp
 congr 1
 rw [eq_iff_iff]
 split
 ·simp [*]
 ·split <;> simp [*]
theorem spanCmp_swo : SWO (ltOf spanCmp) := by
 constructor <;> simp only [ltOf_span, decide_eq_true_eq, decide_eq_false_iff_not] <;> intros <;> omega
def sortSpans (l : List RegionSpan) : Option (List RegionSpan) := if l.length ≤ 1073741824 then some (pdq (ltOf spanCmp) l.toArray 0 l.toArray.size (Lib.bitLen l.toArray.size) true true).toList else none
theorem sortSpans_spec {l : List RegionSpan} (h : l.length ≤ 1000000) : ∃ r, sortSpans l = some r ∧ r.Perm l ∧ r.Pairwise fun a b => a.from_ ≤ b.from_ := by
 obtain ⟨⟨h1, _, h2⟩, h3⟩ := pdq_sorts (ltOf spanCmp) spanCmp_swo l.toArray 0 l.toArray.size (Lib.bitLen l.toArray.size) true true (Nat.zero_le _) (Nat.le_refl _) (Or.inl rfl)
 refine ⟨_, if_pos (by omega), ?_, ?_⟩
 ·generalize pdq (ltOf spanCmp) l.toArray 0 l.toArray.size (Lib.bitLen l.toArray.size) true true = r at h1 h2
  have e : r.extract 0 l.toArray.size = r := by rw [← h1]; simp
  rw [e] at h2
  simpa using h2
 ·rw [List.pairwise_iff_getElem]
  intro i j hi hj hij
  have := h3 i j (Nat.zero_le _) hij (by rw [← h1]; simpa using hj)
  rw [getElem!_pos _ j (by simpa using hj), getElem!_pos _ i (by simpa using hi)] at this
  rw [ltOf_span, decide_eq_false_iff_not] at this
  simp only [Array.getElem_toList]
  omega
theorem pdq_size (d : Array RegionSpan) : (pdq (ltOf spanCmp) d 0 d.size (Lib.bitLen d.size) true true).size = d.size :=
 (pdq_sorts (ltOf spanCmp) spanCmp_swo d 0 d.size (Lib.bitLen d.size) true true (Nat.zero_le _) (Nat.le_refl _) (Or.inl rfl)).1.1
set_option maxHeartbeats 2000000 in
theorem sortSpans_ok {k0 : K} {v0 : Value} {l r : List RegionSpan} (i0 : IsOwn 0 83 l v0 k0) (hr : sortSpans l = some r) :
  Calls Try.prog 68 #[v0, .func (.func 69) #[] #[]] k0.w (RetC (obF v0) k0 fun _ k' => IsOwn 0 83 r v0 k') := by
 unfold sortSpans at hr
 split at hr
 ·rename_i h12
  obtain rfl := Option.some.inj hr
  refine sort_own (S := fun d => pdq (ltOf spanCmp) d 0 d.size (Lib.bitLen d.size) true true) pdq_size (fun p cap w => ?_) (fun blk off cap w hH hblk => ?_) i0
  ·have hcon := AnyF.slices_SortFunc_none { Try.sortSpansL with } p cap (.func (.func 69) #[] #[]) w
   change Calls Try.prog 68 _ _ _ at hcon
   exact hcon
  ·have hcon := AnyQ.slices_SortFunc_eq Try.sortSpansL 2 Try.isAgg83 Try.sizeOf83 (FlatE.enc (α := RegionSpan)) (fun _ => rfl) (fun x v hv => flat_one k0 x v hv) spanCmp spanCmp_swo 69 #[] blk off cap l.toArray w (enters_of Try.func69 (by kernel_rfl) rfl)
    (fun _ _ _ _ x y => ret_cmp (k := kFree _) (region_column_1_ok (isV_flat rfl x _) (isV_flat rfl y _) (column_1_val x y))) hH hblk (by simp; omega)
   change Calls Try.prog 68 _ _ _ at hcon
   exact hcon
 ·simp at hr
end
def region_column_L0 (l_ : (List Rect)) (x_ : Int) (s191 : (List RegionSpan) × Int) : Option (Flow ((List RegionSpan) × Int) ((List RegionSpan))) :=
 if (decide (s191.2 < (l_.length : Int))) then
  (getI l_ s191.2).bind fun x196_0 =>
  (if ((decide (x196_0.X0 ≤ x_)) && (decide (x_ < x196_0.X1))) then
   (appI s191.1 ([(⟨x196_0.Y0, x196_0.Y1⟩ : RegionSpan)])).bind fun x200_7 =>
   some x200_7
  else
   some s191.1).bind fun s198 =>
  (addI s191.2 1).bind fun x204_0 =>
  some (.go (s198, x204_0))
 else
  some (.ex 0 (s191.1, s191.2))
def region_column_L1 (x217_1 : (List RegionSpan)) (s221 : (List RegionSpan) × Int) : Option (Flow ((List RegionSpan) × Int) ((List RegionSpan))) :=
 if (decide (s221.2 < (x217_1.length : Int))) then
  (getI x217_1 s221.2).bind fun x226_0 =>
  (if (decide (0 < (s221.1.length : Int))) then
   (subI (s221.1.length : Int) 1).bind fun x228_7 =>
   (getI s221.1 x228_7).bind fun x228_8 =>
   some (decide (x226_0.from_ ≤ x228_8.to_))
  else
   some false).bind fun x228_12 =>
  (if x228_12 then
   (subI (s221.1.length : Int) 1).bind fun x231_2 =>
   (subI (s221.1.length : Int) 1).bind fun x231_5 =>
   (getI s221.1 x231_5).bind fun x231_6 =>
   (getI s221.1 x231_2).bind fun x231_12 =>
   (some (s221.1.set (x231_2).toNat ({ x231_12 with to_ := (max x231_6.to_ x226_0.to_) }))).bind fun x231_14 =>
   some x231_14
  else
   (appI s221.1 ([x226_0])).bind fun x234_3 =>
   some x234_3).bind fun s229 =>
  (addI s221.2 1).bind fun x238_0 =>
  some (.go (s229, x238_0))
 else
  some (.ex 2 (s221.1, s221.2))
def region_column (l_ : (List Rect)) (x_ : Int) : Option ((List RegionSpan)) :=
 (iterL (region_column_L0 l_ x_) (l_.length + 1) (([] : List RegionSpan), 0)).bind fun f215 => match f215 with
  | .go _ => none
  | .ex _ s216 =>
   (sortSpans s216.1).bind fun x217_1 =>
   (iterL (region_column_L1 x217_1) (x217_1.length + 1) (([] : List RegionSpan), 0)).bind fun f252 => match f252 with
    | .go _ => none
    | .ex _ s253 =>
     some s253.1
    | .ret r257 => some r257
  | .ret r265 => some r265
theorem region_column_ok {k0 : K} {v0 v1 : Value} {l_ : (List Rect)} {x_ : Int} {r : (List RegionSpan)} (i0 : (IsV l_) v0 k0) (i1 : (IsV x_) v1 k0) (hr : region_column l_ x_ = some r) :
  Calls Try.prog 61 #[v0, v1] k0.w (Ret k0 (IsV r)) := by
 unfold region_column at hr
 refine Ret.ofC ?_
 refine enterK Try.func61 rfl Try.ntmps61 (show 2 ≤ 80 by decide) fun a k hk0 hs hd ha => ?_
 obtain ⟨e0, e1, _⟩ := ha
 replace i0 : (IsV l_) (a.get 0) k := by rw [e0, hk0]; exact i0
 replace i1 : (IsV x_) (a.get 1) k := by rw [e1, hk0]; exact i1
 have hQ : Gb.LetsOut (bodyPost Try.prog Try.f61 (RetC noF k0 (IsV r))) := letsOutC
 have hg : Chg noF k0 k := by rw [hk0]; exact Chg.refl _ k0
 refine stepL 1 (⟨some IsE0, []⟩ :: []) rfl ⟨hg, hs, hd⟩ (by kernel_rfl) ⟨ob1 rfl fun b q h n => ok_assign rfl isE0_nil, trivial⟩ [⟨_, _⟩, ⟨_, _⟩] (fun b q p => ⟨p.ke 0 rfl i0, p.ke 1 rfl i1, trivial⟩) ?_
 rintro a k ⟨⟨hg, hs, hd⟩, i0, i1, _⟩
 refine cutS (fun a' k' => Bs noF k0 80 a' k' ∧ (IsV l_) (a'.get 0) k' ∧ (IsV x_) (a'.get 1) k' ∧ IsOwn 0 83 ([] : List RegionSpan) (a'.get 5) k' ∧ Lo k0 (obF (a'.get 5)) ∧ True) ?_ ?_
 ·intro Q269 hQQ269 hp270
  refine gS 1 (⟨some IsE0, []⟩ :: []) hs (by kernel_rfl) ⟨ob1 rfl fun b q h n => ok_assign rfl isE0_nil, trivial⟩ hQQ269 fun b q p => ?_
  have hgq := hg.then p.grow
  have hsb := p.size.trans hs
  have hdb := p.defers.trans hd
  have j0 := p.ke 0 rfl i0
  have j1 := p.ke 1 rfl i1
  have j5 : IsE0 (b.get 5) q := p.ou 0 5 rfl
  have y5 : Lo k0 (obF (b.get 5)) := j5.lo
  replace j5 : IsOwn 0 83 ([] : List RegionSpan) (b.get 5) q := j5.own0
  exact tail_done (k := q) (hp270 _ _ ⟨⟨hgq, hsb, hdb⟩, j0, j1, j5, y5, trivial⟩)
 rintro a k ⟨⟨hg, hs, hd⟩, i0, i1, i5, n5, _⟩
 refine wp_seq ?_
 refine cutS (fun a' k' => Bs noF k0 80 a' k' ∧ (IsV x_) (a'.get 1) k' ∧ IsOwn 0 83 ([] : List RegionSpan) (a'.get 5) k' ∧ Lo k0 (obF (a'.get 5)) ∧ (IsV l_) (a'.get 12) k' ∧ (IsL l_) (a'.get 13) k' ∧ (IsI 0) (a'.get 14) k' ∧ True) ?_ ?_
 ·intro Q267 hQQ267 hp268
  refine gS 3 (_ :: _ :: ⟨some (IsI 0), []⟩ :: []) hs (by kernel_rfl) ⟨mu rfl i0, o1 [(12, some 0)] rfl fun _ _ h n => ok_len rfl rfl Try.underlying44 (IsV.rd n.1), ob1 rfl fun _ _ h n => ok_move rfl (cI rfl), trivial⟩ hQQ267 fun b q p => ?_
  exact tail_done (k := q) (hp268 _ _ ⟨Bs.post ⟨hg, hs, hd⟩ p, p.ke 1 rfl i1, p.ke 5 rfl i5, (by rw [p.old 5 rfl]; exact n5), p.ou 0 12 rfl, p.ou 1 13 rfl, p.ou 2 14 rfl, trivial⟩)
 rintro a k ⟨⟨hg, hs, hd⟩, i1, i5, n5, i12, i13, i14, _⟩
 refine wp_block ?_
 obtain ⟨f215, hf215, hr⟩ := bind_some hr
 refine cutFe f215 (fun s' a' k' => Bs noF k0 80 a' k' ∧ (IsV x_) (a'.get 1) k' ∧ IsOwn 0 83 s'.1 (a'.get 5) k' ∧ Lo k0 (obF (a'.get 5)) ∧ (IsV l_) (a'.get 12) k' ∧ (IsL l_) (a'.get 13) k' ∧ (IsV s'.2) (a'.get 14) k' ∧ True) (fun i' s' a' k' => (i' = 0 ∧ Bs noF k0 80 a' k' ∧ IsOwn 0 83 s'.1 (a'.get 5) k' ∧ Lo k0 (obF (a'.get 5)) ∧ True)) (fun r' a' k' => bodyPost Try.prog Try.f61 (RetC noF k0 (IsV r')) .ret a' k'.w) ?_ hQ ?_ ?_ ?_
 ·intro Q266 hQQ266 hgo hex hret
  refine sim_loop ?_ _ _ _ _ _ hf215 ⟨⟨hg, hs, hd⟩, i1, i5, n5, i12, i13, i14, trivial⟩ Q266 hQQ266 hgo hex hret
  clear hr hf215 hgo hex hret hQQ266 hQ hg hs hd i1 i12 i13 i14 i5 n5
  intro s191 fl_ a k hr hS Q hQ hgo192 hex193 hret194
  obtain ⟨⟨hg, hs, hd⟩, i1, i5, n5, i12, i13, i14, _⟩ := hS
  unfold region_column_L0 at hr
  refine cutS (fun a' k' => Bs noF k0 80 a' k' ∧ (IsV x_) (a'.get 1) k' ∧ IsOwn 0 83 s191.1 (a'.get 5) k' ∧ Lo k0 (obF (a'.get 5)) ∧ (IsV l_) (a'.get 12) k' ∧ (IsL l_) (a'.get 13) k' ∧ (IsV s191.2) (a'.get 14) k' ∧ (IsV (decide (s191.2 < (l_.length : Int)))) (a'.get 15) k' ∧ True) ?_ ?_
  ·intro Q213 hQQ213 hp214
   refine gS 1 (_ :: []) hs (by kernel_rfl) ⟨o1 [(14, none), (13, none)] rfl fun _ _ h n => ok_lss rfl (up i14 h n.1) (up i13 h n.2.1), trivial⟩ hQQ213 fun b q p => ?_
   exact tail_done (k := q) (hp214 _ _ ⟨Bs.post ⟨hg, hs, hd⟩ p, p.ke 1 rfl i1, p.ke 5 rfl i5, (by rw [p.old 5 rfl]; exact n5), p.ke 12 rfl i12, p.ke 13 rfl i13, p.ke 14 rfl i14, p.ou 0 15 rfl, trivial⟩)
  rintro a k ⟨⟨hg, hs, hd⟩, i1, i5, n5, i12, i13, i14, i15, _⟩
  refine wp_seq ?_
  refine wp_cond_split (isBool i15) (fun hc212 => ?_) (fun hc212 => ?_)
  ·rw [if_pos hc212] at hr
   refine wp_skip ?_
   refine wp_seq ?_
   refine wp_block ?_
   refine wp_seq ?_
   obtain ⟨x196_0, hx196_0, hr⟩ := bind_some hr
   refine cut (fun a' k' => Bs noF k0 80 a' k' ∧ (IsV x_) (a'.get 1) k' ∧ IsOwn 0 83 s191.1 (a'.get 5) k' ∧ Lo k0 (obF (a'.get 5)) ∧ (IsRef x196_0) (a'.get 7) k' ∧ (IsV l_) (a'.get 12) k' ∧ (IsL l_) (a'.get 13) k' ∧ (IsV s191.2) (a'.get 14) k' ∧ True) ?_ hQ ?_
   ·intro Q210 hQQ210 hp211
    refine gS 3 (_ :: _ :: ⟨some (IsBox k.w.heap.size (⟨0, 0, 0, 0⟩ : Rect)), []⟩ :: []) hs (by kernel_rfl) ⟨o1 [(12, none), (14, none)] rfl fun _ _ h n => ok_indexAddr rfl Try.underlying44 ty30 (IsV.rd (up i12 h n.1)) (up i14 h n.2.1) hx196_0, o1 [(16, some 0)] rfl fun _ _ h n => ok_load rfl ty30 n.1, ob1 rfl fun _ _ h n => ok_alloc _ h.size rfl z30, trivial⟩ hQQ210 fun b q p => ?_
    have hgq := hg.then p.grow
    have hsb := p.size.trans hs
    have hdb := p.defers.trans hd
    have j1 := p.ke 1 rfl i1
    have j5 := p.ke 5 rfl i5
    have y5 : Lo k0 (obF (b.get 5)) := by rw [p.old 5 rfl]; exact n5
    obtain ⟨b7, j7, x7, z7⟩ : (IsBox k.w.heap.size (⟨0, 0, 0, 0⟩ : Rect)) (b.get 7) q := p.ou 2 7 rfl
    replace x7 : Lo k (Eq b7) := Lo.eq x7
    have y7 : Lo k0 (Eq b7) := x7.chg hg
    have j12 := p.ke 12 rfl i12
    have j13 := p.ke 13 rfl i13
    have j14 := p.ke 14 rfl i14
    have j17 : (IsV x196_0) (b.get 17) q := p.ou 1 17 rfl
    have w5_7 : Apart (obF (b.get 5)) (Eq b7) := Apart.new (by rw [p.old 5 rfl]; exact i5.ltF) x7
    have hns := z7.nshF
    refine tail_storeB (i := 3) rfl rfl rfl rfl szf30 (Upd.self (α := Rect)) j7 z7 j17 fun q2 hch hz => ?_
    replace hgq := hgq.step hch y7.wr
    have hle := hch.le hns
    replace j1 := Pers.pers hle j1
    replace j5 := j5.keep hch w5_7 hns
    replace j12 := Pers.pers hle j12
    replace j13 := Pers.pers hle j13
    replace j14 := Pers.pers hle j14
    replace j17 := Pers.pers hle j17
    replace z7 := hz
    clear hns hle hch
    obtain ⟨q, hqq⟩ : ∃ q, q = q2 := ⟨q2, rfl⟩
    subst hqq
    obtain ⟨q2, hsh, jn⟩ := z7.give
    replace j1 := Pers.pers hsh.le j1
    replace j5 := j5.handed hsh w5_7
    replace j12 := Pers.pers hsh.le j12
    replace j13 := Pers.pers hsh.le j13
    replace j14 := Pers.pers hsh.le j14
    rw [← j7] at jn
    replace j7 := jn
    replace hgq := hgq.hand hsh y7.wr
    rw [← hsh.w]
    clear hsh
    obtain ⟨q, hqq⟩ : ∃ q, q = q2 := ⟨q2, rfl⟩
    subst hqq
    exact tail_done (k := q) (hp211 _ _ ⟨⟨hgq, hsb, hdb⟩, j1, j5, y5, j7, j12, j13, j14, trivial⟩)
   rintro a k ⟨⟨hg, hs, hd⟩, i1, i5, n5, i7, i12, i13, i14, _⟩
   refine cutS (fun a' k' => Bs noF k0 80 a' k' ∧ (IsV x_) (a'.get 1) k' ∧ IsOwn 0 83 s191.1 (a'.get 5) k' ∧ Lo k0 (obF (a'.get 5)) ∧ (IsRef x196_0) (a'.get 7) k' ∧ (IsV l_) (a'.get 12) k' ∧ (IsL l_) (a'.get 13) k' ∧ (IsV s191.2) (a'.get 14) k' ∧ (IsV ((decide (x196_0.X0 ≤ x_)) && (decide (x_ < x196_0.X1)))) (a'.get 27) k' ∧ True) ?_ ?_
   ·intro Q208 hQQ208 hp209
    refine gS 10 (_ :: _ :: _ :: _ :: _ :: _ :: _ :: _ :: _ :: _ :: []) hs (by kernel_rfl) ⟨o1 [(7, none)] rfl fun _ _ h n => ok_fieldAddr rfl fo30_0 (at_Rect_0 _) ((up i7 h n.1)).ptr, o1 [(18, some 0)] rfl fun _ _ h n => ok_load rfl ty3 n.1, mu rfl i1, o1 [(19, some 1), (20, some 2)] rfl fun _ _ h n => ok_leq rfl n.1 n.2.1, cm 3 rfl rfl, mT rfl rfl i1, gT [(7, none)] rfl rfl fun hp _ _ h n => ok_fieldAddr rfl fo30_2 (at_Rect_2 _) ((up i7 h n.1)).ptr, gT [(24, some 6)] rfl rfl fun hp _ _ h n => ok_load rfl ty3 (Gd.get n.1 hp), gT [(23, some 5), (25, some 7)] rfl rfl fun hp _ _ h n => ok_lss rfl (Gd.get n.1 hp) (Gd.get n.2.1 hp), o1 [(22, some 4), (26, some 8)] rfl fun _ _ h n => ok_pickAnd rfl n.1 (Gd.get n.2.1) (cB rfl), trivial⟩ hQQ208 fun b q p => ?_
    exact tail_done (k := q) (hp209 _ _ ⟨Bs.post ⟨hg, hs, hd⟩ p, p.ke 1 rfl i1, p.ke 5 rfl i5, (by rw [p.old 5 rfl]; exact n5), p.ke 7 rfl i7, p.ke 12 rfl i12, p.ke 13 rfl i13, p.ke 14 rfl i14, p.ou 9 27 rfl, trivial⟩)
   rintro a k ⟨⟨hg, hs, hd⟩, i1, i5, n5, i7, i12, i13, i14, i27, _⟩
   obtain ⟨s198, hs198, hr⟩ := bind_some hr
   refine cut (fun a' k' => Bs noF k0 80 a' k' ∧ (IsV x_) (a'.get 1) k' ∧ IsOwn 0 83 s198 (a'.get 5) k' ∧ Lo k0 (obF (a'.get 5)) ∧ (IsV l_) (a'.get 12) k' ∧ (IsL l_) (a'.get 13) k' ∧ (IsV s191.2) (a'.get 14) k' ∧ True) ?_ hQ ?_
   ·intro Q207 hQQ207 hp199
    replace hr := hs198
    clear hQ
    have hQ := hQQ207
    refine wp_cond_split (isBool i27) (fun hc203 => ?_) (fun hc203 => ?_)
    ·rw [if_pos hc203] at hr
     obtain ⟨x200_7, hx200_7, hr⟩ := bind_some hr
     refine cut (fun a' k' => Bs noF k0 80 a' k' ∧ (IsV x_) (a'.get 1) k' ∧ IsOwn 0 83 x200_7 (a'.get 5) k' ∧ Lo k0 (obF (a'.get 5)) ∧ (IsV l_) (a'.get 12) k' ∧ (IsL l_) (a'.get 13) k' ∧ (IsV s191.2) (a'.get 14) k' ∧ True) ?_ hQ ?_
     ·intro Q201 hQQ201 hp202
      refine gS 7 (⟨some (OwnAt (a.get 5) 0 83 s191.1), [(5, none)]⟩ :: _ :: _ :: _ :: _ :: ⟨some (IsV (⟨x196_0.Y0, x196_0.Y1⟩ : RegionSpan)), [(30, some 2), (32, some 4)]⟩ :: ⟨some (IsV (α := (List RegionSpan)) ([(⟨x196_0.Y0, x196_0.Y1⟩ : RegionSpan)])), [(33, some 5)]⟩ :: []) hs (by kernel_rfl) ⟨ob1 rfl fun _ _ h n => ok_moveOA (.inl rfl) (ownAt n.1 (up i5 h n.1)), o1 [(7, none)] rfl fun _ _ h n => ok_fieldAddr rfl fo30_1 (at_Rect_1 _) ((up i7 h n.1)).ptr, o1 [(29, some 1)] rfl fun _ _ h n => ok_load rfl ty3 n.1, o1 [(7, none)] rfl fun _ _ h n => ok_fieldAddr rfl fo30_3 (at_Rect_3 _) ((up i7 h n.1)).ptr, o1 [(31, some 3)] rfl fun _ _ h n => ok_load rfl ty3 n.1, ob1 rfl fun _ _ h n => ok_build rfl (bld83_0_1 n.1 n.2.1), ob1 rfl fun _ _ h n => ok_buildSlice rfl Try.underlying81 eo83 rfl (by decide) (by decide) ⟨rfl, n.1, trivial⟩, trivial⟩ hQQ201 fun b q p => ?_
      have hgq := hg.then p.grow
      have hsb := p.size.trans hs
      have hdb := p.defers.trans hd
      have j1 := p.ke 1 rfl i1
      have j12 := p.ke 12 rfl i12
      have j13 := p.ke 13 rfl i13
      have j14 := p.ke 14 rfl i14
      have e28 : b.get 28 = a.get 5 := (p.ou 0 28 rfl).1
      have j28 : IsOwn 0 83 s191.1 (b.get 28) q := (p.ou 0 28 rfl).2
      have y28 : Lo k0 (obF (b.get 28)) := by rw [e28]; exact n5
      have j34 : (IsV (α := (List RegionSpan)) ([(⟨x196_0.Y0, x196_0.Y1⟩ : RegionSpan)])) (b.get 34) q := p.ou 6 34 rfl
      have hns := j28.nshF
      refine tail_appendS (i := 7) (d := 35) rfl rfl rfl rfl (by rw [hsb]; decide) (e := 83) Try.underlying81 eo83 j28 (IsV.rd j34) hx200_7 fun b2 q2 hsz hdf hoth hch hown hob => ?_
      have hle := hch.le hns
      have yn : Lo k0 (obF (b2.get 35)) := y28.app hgq hob
      replace j1 := Pers.pers hle j1
      replace j12 := Pers.pers hle j12
      replace j13 := Pers.pers hle j13
      replace j14 := Pers.pers hle j14
      replace j34 := Pers.pers hle j34
      replace hgq := hgq.step hch y28.wr
      rw [← hoth 1 (by decide)] at j1
      rw [← hoth 12 (by decide)] at j12
      rw [← hoth 13 (by decide)] at j13
      rw [← hoth 14 (by decide)] at j14
      rw [← hoth 34 (by decide)] at j34
      have j35 := hown
      have y35 := yn
      replace hsb := hsz.trans hsb
      replace hdb := hdf.trans hdb
      clear hle hch hown hob hns yn hsz hdf hoth
      obtain ⟨b, hbb⟩ : ∃ b, b = b2 := ⟨b2, rfl⟩
      subst hbb
      obtain ⟨q, hqq⟩ : ∃ q, q = q2 := ⟨q2, rfl⟩
      subst hqq
      refine tail_assign (i := 8) (d := 5) rfl rfl (.inl rfl) rfl (by rw [hsb]; decide) fun b2 hsz hdf hnew hoth => ?_
      have jn : (IsOwn 0 83 x200_7) (b2.get 5) q := by rw [hnew]; exact j35
      have yn : Lo k0 (obF (b2.get 5)) := by rw [hnew]; exact y35
      rw [← hoth 1 (by decide)] at j1
      rw [← hoth 12 (by decide)] at j12
      rw [← hoth 13 (by decide)] at j13
      rw [← hoth 14 (by decide)] at j14
      rw [← hoth 34 (by decide)] at j34
      have j5 := jn
      have y5 := yn
      replace hsb := hsz.trans hsb
      replace hdb := hdf.trans hdb
      clear hsz hdf hoth
      obtain ⟨b, hbb⟩ : ∃ b, b = b2 := ⟨b2, rfl⟩
      subst hbb
      exact tail_done (k := q) (hp202 _ _ ⟨⟨hgq, hsb, hdb⟩, j1, j5, y5, j12, j13, j14, trivial⟩)
     rintro a k ⟨⟨hg, hs, hd⟩, i1, i5, n5, i12, i13, i14, _⟩
     obtain rfl := Option.some.inj hr
     exact hp199 _ _ ⟨⟨hg, hs, hd⟩, i1, i5, n5, i12, i13, i14, trivial⟩
    rw [if_neg (by rw [hc203]; decide)] at hr
    refine wp_skip ?_
    obtain rfl := Option.some.inj hr
    exact hp199 _ _ ⟨⟨hg, hs, hd⟩, i1, i5, n5, i12, i13, i14, trivial⟩
   clear hs198
   rintro a k ⟨⟨hg, hs, hd⟩, i1, i5, n5, i12, i13, i14, _⟩
   obtain ⟨x204_0, hx204_0, hr⟩ := bind_some hr
   refine cut (fun a' k' => Bs noF k0 80 a' k' ∧ (IsV x_) (a'.get 1) k' ∧ IsOwn 0 83 s198 (a'.get 5) k' ∧ Lo k0 (obF (a'.get 5)) ∧ (IsV l_) (a'.get 12) k' ∧ (IsL l_) (a'.get 13) k' ∧ (IsV x204_0) (a'.get 14) k' ∧ True) ?_ hQ ?_
   ·intro Q205 hQQ205 hp206
    refine gS 2 (_ :: _ :: []) hs (by kernel_rfl) ⟨o1 [(14, none)] rfl fun _ _ h n => ok_add rfl (up i14 h n.1) (cI rfl) hx204_0, cm 0 rfl rfl, trivial⟩ hQQ205 fun b q p => ?_
    exact tail_done (k := q) (hp206 _ _ ⟨Bs.post ⟨hg, hs, hd⟩ p, p.ke 1 rfl i1, p.ke 5 rfl i5, (by rw [p.old 5 rfl]; exact n5), p.ke 12 rfl i12, p.ke 13 rfl i13, p.ou 1 14 rfl, trivial⟩)
   rintro a k ⟨⟨hg, hs, hd⟩, i1, i5, n5, i12, i13, i14, _⟩
   exact hgo192 _ _ _ (Option.some.inj hr).symm ⟨⟨hg, hs, hd⟩, i1, i5, n5, i12, i13, i14, trivial⟩
  rw [if_neg (by rw [hc212]; decide)] at hr
  refine wp_exit ?_
  exact hex193 _ _ _ _ (Option.some.inj hr).symm ⟨rfl, ⟨hg, hs, hd⟩, i5, n5, trivial⟩
 ·rintro r265 a k rfl hR
  dsimp only at hr
  obtain rfl := Option.some.inj hr
  exact hR
 ·rintro _ _ _ rfl _
  simp at hr
 clear hf215
 rintro _ s216 a k rfl ⟨rfl, ⟨hg, hs, hd⟩, i5, n5, _⟩
 dsimp only at hr
 refine wp_seq ?_
 obtain ⟨x217_1, hx217_1, hr⟩ := bind_some hr
 refine cut (fun a' k' => Bs noF k0 80 a' k' ∧ IsOwn 0 83 x217_1 (a'.get 5) k' ∧ Lo k0 (obF (a'.get 5)) ∧ True) ?_ hQ ?_
 ·intro Q263 hQQ263 hp264
  refine gS 1 (⟨some (OwnAt (a.get 5) 0 83 s216.1), [(5, none)]⟩ :: []) hs (by kernel_rfl) ⟨ob1 rfl fun _ _ h n => ok_moveOA (.inl rfl) (ownAt n.1 (up i5 h n.1)), trivial⟩ hQQ263 fun b q p => ?_
  have hgq := hg.then p.grow
  have hsb := p.size.trans hs
  have hdb := p.defers.trans hd
  have j5 := p.ke 5 rfl i5
  have y5 : Lo k0 (obF (b.get 5)) := by rw [p.old 5 rfl]; exact n5
  have e37 : b.get 37 = a.get 5 := (p.ou 0 37 rfl).1
  have j37 : IsOwn 0 83 s216.1 (b.get 37) q := (p.ou 0 37 rfl).2
  have y37 : Lo k0 (obF (b.get 37)) := by rw [e37]; exact n5
  have hns := j37.nshF
  have eS : b.get 5 = b.get 37 := (p.old 5 rfl).trans e37.symm
  refine tail_call (F := obF (b.get 37)) (i := 1) (d := 38) rfl rfl rfl rfl (by rw [hsb]; decide) Try.call68 hQQ263 (sortSpans_ok j37 hx217_1) fun b2 q2 hsz hdf hoth hch hres => ?_
  have hle := hch.le hns
  replace hgq := hgq.step hch y37.wr
  replace j5 : IsOwn 0 83 x217_1 (b.get 5) q2 := by rw [eS]; exact hres
  clear hres eS
  rw [← hoth 5 (by decide)] at j5
  rw [← hoth 5 (by decide)] at y5
  replace hsb := hsz.trans hsb
  replace hdb := hdf.trans hdb
  clear hle hch hns hsz hdf hoth
  obtain ⟨b, hbb⟩ : ∃ b, b = b2 := ⟨b2, rfl⟩
  subst hbb
  obtain ⟨q, hqq⟩ : ∃ q, q = q2 := ⟨q2, rfl⟩
  subst hqq
  exact tail_done (k := q) (hp264 _ _ ⟨⟨hgq, hsb, hdb⟩, j5, y5, trivial⟩)
 rintro a k ⟨⟨hg, hs, hd⟩, i5, n5, _⟩
 refine wp_seq ?_
 obtain ⟨kk, sh218, ii5⟩ := i5.give
 replace i5 := ii5
 replace hg := hg.hand sh218 n5.wr
 rw [← sh218.w]
 clear sh218
 obtain ⟨k, hkk⟩ : ∃ k, k = kk := ⟨kk, rfl⟩
 subst hkk
 refine cut (fun a' k' => Bs noF k0 80 a' k' ∧ (IsV x217_1) (a'.get 5) k' ∧ IsOwn 0 83 ([] : List RegionSpan) (a'.get 8) k' ∧ Lo k0 (obF (a'.get 8)) ∧ True) ?_ hQ ?_
 ·intro Q261 hQQ261 hp262
  refine gS 1 (⟨some IsE0, []⟩ :: []) hs (by kernel_rfl) ⟨ob1 rfl fun b q h n => ok_assign rfl isE0_nil, trivial⟩ hQQ261 fun b q p => ?_
  have hgq := hg.then p.grow
  have hsb := p.size.trans hs
  have hdb := p.defers.trans hd
  have j5 := p.ke 5 rfl i5
  have j8 : IsE0 (b.get 8) q := p.ou 0 8 rfl
  have y8 : Lo k0 (obF (b.get 8)) := j8.lo
  replace j8 : IsOwn 0 83 ([] : List RegionSpan) (b.get 8) q := j8.own0
  exact tail_done (k := q) (hp262 _ _ ⟨⟨hgq, hsb, hdb⟩, j5, j8, y8, trivial⟩)
 rintro a k ⟨⟨hg, hs, hd⟩, i5, i8, n8, _⟩
 refine wp_seq ?_
 refine cutS (fun a' k' => Bs noF k0 80 a' k' ∧ IsOwn 0 83 ([] : List RegionSpan) (a'.get 8) k' ∧ Lo k0 (obF (a'.get 8)) ∧ (IsV x217_1) (a'.get 39) k' ∧ (IsL x217_1) (a'.get 40) k' ∧ (IsI 0) (a'.get 41) k' ∧ True) ?_ ?_
 ·intro Q259 hQQ259 hp260
  refine gS 3 (_ :: _ :: ⟨some (IsI 0), []⟩ :: []) hs (by kernel_rfl) ⟨mu rfl i5, o1 [(39, some 0)] rfl fun _ _ h n => ok_len rfl rfl Try.underlying81 (IsV.rd n.1), ob1 rfl fun _ _ h n => ok_move rfl (cI rfl), trivial⟩ hQQ259 fun b q p => ?_
  exact tail_done (k := q) (hp260 _ _ ⟨Bs.post ⟨hg, hs, hd⟩ p, p.ke 8 rfl i8, (by rw [p.old 8 rfl]; exact n8), p.ou 0 39 rfl, p.ou 1 40 rfl, p.ou 2 41 rfl, trivial⟩)
 rintro a k ⟨⟨hg, hs, hd⟩, i8, n8, i39, i40, i41, _⟩
 refine wp_block ?_
 obtain ⟨f252, hf252, hr⟩ := bind_some hr
 refine cutFe f252 (fun s' a' k' => Bs noF k0 80 a' k' ∧ IsOwn 0 83 s'.1 (a'.get 8) k' ∧ Lo k0 (obF (a'.get 8)) ∧ (IsV x217_1) (a'.get 39) k' ∧ (IsL x217_1) (a'.get 40) k' ∧ (IsV s'.2) (a'.get 41) k' ∧ True) (fun i' s' a' k' => (i' = 2 ∧ Bs noF k0 80 a' k' ∧ (IsV s'.1) (a'.get 8) k' ∧ True)) (fun r' a' k' => bodyPost Try.prog Try.f61 (RetC noF k0 (IsV r')) .ret a' k'.w) ?_ hQ ?_ ?_ ?_
 ·intro Q258 hQQ258 hgo hex hret
  refine sim_loop ?_ _ _ _ _ _ hf252 ⟨⟨hg, hs, hd⟩, i8, n8, i39, i40, i41, trivial⟩ Q258 hQQ258 hgo hex hret
  clear hr hf252 hgo hex hret hQQ258 hQ hg hs hd i39 i40 i41 i8 n8
  intro s221 fl_ a k hr hS Q hQ hgo222 hex223 hret224
  obtain ⟨⟨hg, hs, hd⟩, i8, n8, i39, i40, i41, _⟩ := hS
  unfold region_column_L1 at hr
  refine cutS (fun a' k' => Bs noF k0 80 a' k' ∧ IsOwn 0 83 s221.1 (a'.get 8) k' ∧ Lo k0 (obF (a'.get 8)) ∧ (IsV x217_1) (a'.get 39) k' ∧ (IsL x217_1) (a'.get 40) k' ∧ (IsV s221.2) (a'.get 41) k' ∧ (IsV (decide (s221.2 < (x217_1.length : Int)))) (a'.get 42) k' ∧ True) ?_ ?_
  ·intro Q250 hQQ250 hp251
   refine gS 1 (_ :: []) hs (by kernel_rfl) ⟨o1 [(41, none), (40, none)] rfl fun _ _ h n => ok_lss rfl (up i41 h n.1) (up i40 h n.2.1), trivial⟩ hQQ250 fun b q p => ?_
   exact tail_done (k := q) (hp251 _ _ ⟨Bs.post ⟨hg, hs, hd⟩ p, p.ke 8 rfl i8, (by rw [p.old 8 rfl]; exact n8), p.ke 39 rfl i39, p.ke 40 rfl i40, p.ke 41 rfl i41, p.ou 0 42 rfl, trivial⟩)
  rintro a k ⟨⟨hg, hs, hd⟩, i8, n8, i39, i40, i41, i42, _⟩
  refine wp_seq ?_
  refine wp_cond_split (isBool i42) (fun hc249 => ?_) (fun hc249 => ?_)
  ·rw [if_pos hc249] at hr
   refine wp_skip ?_
   refine wp_seq ?_
   refine wp_block ?_
   refine wp_seq ?_
   obtain ⟨x226_0, hx226_0, hr⟩ := bind_some hr
   refine cut (fun a' k' => Bs noF k0 80 a' k' ∧ IsOwn 0 83 s221.1 (a'.get 8) k' ∧ Lo k0 (obF (a'.get 8)) ∧ (IsRef x226_0) (a'.get 10) k' ∧ (IsV x217_1) (a'.get 39) k' ∧ (IsL x217_1) (a'.get 40) k' ∧ (IsV s221.2) (a'.get 41) k' ∧ True) ?_ hQ ?_
   ·intro Q246 hQQ246 hp247
    refine gS 3 (_ :: _ :: ⟨some (IsBox k.w.heap.size (⟨0, 0⟩ : RegionSpan)), []⟩ :: []) hs (by kernel_rfl) ⟨o1 [(39, none), (41, none)] rfl fun _ _ h n => ok_indexAddr rfl Try.underlying81 ty83 (IsV.rd (up i39 h n.1)) (up i41 h n.2.1) hx226_0, o1 [(43, some 0)] rfl fun _ _ h n => ok_load rfl ty83 n.1, ob1 rfl fun _ _ h n => ok_alloc _ h.size rfl z83, trivial⟩ hQQ246 fun b q p => ?_
    have hgq := hg.then p.grow
    have hsb := p.size.trans hs
    have hdb := p.defers.trans hd
    have j8 := p.ke 8 rfl i8
    have y8 : Lo k0 (obF (b.get 8)) := by rw [p.old 8 rfl]; exact n8
    obtain ⟨b10, j10, x10, z10⟩ : (IsBox k.w.heap.size (⟨0, 0⟩ : RegionSpan)) (b.get 10) q := p.ou 2 10 rfl
    replace x10 : Lo k (Eq b10) := Lo.eq x10
    have y10 : Lo k0 (Eq b10) := x10.chg hg
    have j39 := p.ke 39 rfl i39
    have j40 := p.ke 40 rfl i40
    have j41 := p.ke 41 rfl i41
    have j44 : (IsV x226_0) (b.get 44) q := p.ou 1 44 rfl
    have w8_10 : Apart (obF (b.get 8)) (Eq b10) := Apart.new (by rw [p.old 8 rfl]; exact i8.ltF) x10
    have hns := z10.nshF
    refine tail_storeB (i := 3) rfl rfl rfl rfl szf83 (Upd.self (α := RegionSpan)) j10 z10 j44 fun q2 hch hz => ?_
    replace hgq := hgq.step hch y10.wr
    have hle := hch.le hns
    replace j8 := j8.keep hch w8_10 hns
    replace j39 := Pers.pers hle j39
    replace j40 := Pers.pers hle j40
    replace j41 := Pers.pers hle j41
    replace j44 := Pers.pers hle j44
    replace z10 := hz
    clear hns hle hch
    obtain ⟨q, hqq⟩ : ∃ q, q = q2 := ⟨q2, rfl⟩
    subst hqq
    obtain ⟨q2, hsh, jn⟩ := z10.give
    replace j8 := j8.handed hsh w8_10
    replace j39 := Pers.pers hsh.le j39
    replace j40 := Pers.pers hsh.le j40
    replace j41 := Pers.pers hsh.le j41
    rw [← j10] at jn
    replace j10 := jn
    replace hgq := hgq.hand hsh y10.wr
    rw [← hsh.w]
    clear hsh
    obtain ⟨q, hqq⟩ : ∃ q, q = q2 := ⟨q2, rfl⟩
    subst hqq
    exact tail_done (k := q) (hp247 _ _ ⟨⟨hgq, hsb, hdb⟩, j8, y8, j10, j39, j40, j41, trivial⟩)
   rintro a k ⟨⟨hg, hs, hd⟩, i8, n8, i10, i39, i40, i41, _⟩
   refine cutS (fun a' k' => Bs noF k0 80 a' k' ∧ IsOwn 0 83 s221.1 (a'.get 8) k' ∧ Lo k0 (obF (a'.get 8)) ∧ (IsRef x226_0) (a'.get 10) k' ∧ (IsI (s221.1.length : Int)) (a'.get 11) k' ∧ (IsV x217_1) (a'.get 39) k' ∧ (IsL x217_1) (a'.get 40) k' ∧ (IsV s221.2) (a'.get 41) k' ∧ True) ?_ ?_
   ·intro Q244 hQQ244 hp245
    refine gS 3 (⟨some (OwnAt (a.get 8) 0 83 s221.1), [(8, none)]⟩ :: _ :: _ :: []) hs (by kernel_rfl) ⟨ob1 rfl fun _ _ h n => ok_moveOA (.inl rfl) (ownAt n.1 (up i8 h n.1)), o1 [(45, some 0)] rfl fun _ _ h n => ok_len rfl rfl Try.underlying81 (IsOwn.rd (n.1).2), cp 1 rfl rfl, trivial⟩ hQQ244 fun b q p => ?_
    exact tail_done (k := q) (hp245 _ _ ⟨Bs.post ⟨hg, hs, hd⟩ p, p.ke 8 rfl i8, (by rw [p.old 8 rfl]; exact n8), p.ke 10 rfl i10, p.ou 2 11 rfl, p.ke 39 rfl i39, p.ke 40 rfl i40, p.ke 41 rfl i41, trivial⟩)
   rintro a k ⟨⟨hg, hs, hd⟩, i8, n8, i10, i11, i39, i40, i41, _⟩
   refine wp_seq ?_
   obtain ⟨x228_12, hx228_12, hr⟩ := bind_some hr
   obtain ⟨x228_7, hx228_7, hx228_12⟩ := ite_bind hx228_12
   obtain ⟨x228_8, hx228_8, hx228_12⟩ := ite_bind hx228_12
   refine cut (fun a' k' => Bs noF k0 80 a' k' ∧ IsOwn 0 83 s221.1 (a'.get 8) k' ∧ Lo k0 (obF (a'.get 8)) ∧ (IsRef x226_0) (a'.get 10) k' ∧ (IsI (s221.1.length : Int)) (a'.get 11) k' ∧ (IsV x217_1) (a'.get 39) k' ∧ (IsL x217_1) (a'.get 40) k' ∧ (IsV s221.2) (a'.get 41) k' ∧ (IsV x228_12) (a'.get 59) k' ∧ True) ?_ hQ ?_
   ·intro Q242 hQQ242 hp243
    refine region (a0 := a) (k0 := k) (n := 80) (m := 13) (⟨some (IsI (s221.1.length : Int)), [(11, none)]⟩ :: ⟨some (IsV (decide (0 < (s221.1.length : Int)))), [(47, some 0)]⟩ :: ⟨some (IsV (decide (0 < (s221.1.length : Int)))), [(48, some 1)]⟩ :: ⟨some (Gd ((decide (0 < (s221.1.length : Int))) = true) (IsPtr x226_0.from_)), [(10, none)]⟩ :: ⟨some (Gd ((decide (0 < (s221.1.length : Int))) = true) (IsV x226_0.from_)), [(50, some 3)]⟩ :: ⟨some (Gd ((decide (0 < (s221.1.length : Int))) = true) (OwnAt (a.get 8) 0 83 s221.1)), [(8, none)]⟩ :: ⟨some (Gd ((decide (0 < (s221.1.length : Int))) = true) (IsI (s221.1.length : Int))), [(11, none)]⟩ :: ⟨some (Gd ((decide (0 < (s221.1.length : Int))) = true) (IsV x228_7)), [(53, some 6)]⟩ :: ⟨some (Gd ((decide (0 < (s221.1.length : Int))) = true) (IsPtr x228_8)), [(52, some 5), (54, some 7)]⟩ :: ⟨some (Gd ((decide (0 < (s221.1.length : Int))) = true) (IsPtr x228_8.to_)), [(55, some 8)]⟩ :: ⟨some (Gd ((decide (0 < (s221.1.length : Int))) = true) (IsV x228_8.to_)), [(56, some 9)]⟩ :: ⟨some (Gd ((decide (0 < (s221.1.length : Int))) = true) (IsV (decide (x226_0.from_ ≤ x228_8.to_)))), [(51, some 4), (57, some 10)]⟩ :: ⟨some (IsV x228_12), [(49, some 2), (58, some 11)]⟩ :: []) hmix hs (by kernel_rfl) ⟨ob1 rfl fun b q hk hn => ok_move rfl (up i11 hk hn.1), ob1 rfl fun b q hk hn => ok_gtr rfl hn.1 (isV_int.2 rfl), ob1 rfl fun b q hk hn => ok_move rfl hn.1, gdT rfl rfl fun hp b q hk hn => ok_fieldAddr rfl fo83_0 (at_RegionSpan_0 _) ((up i10 hk hn.1)).ptr, gdT rfl rfl fun hp b q hk hn => ok_load rfl ty3 (Gd.get hn.1 hp), gdT rfl rfl fun hp b q hk hn => ok_moveOA (.inl rfl) (ownAt hn.1 (up i8 hk hn.1)), gdT rfl rfl fun hp b q hk hn => ok_move rfl (up i11 hk hn.1), gdT rfl rfl fun hp b q hk hn => ok_sub rfl (Gd.get hn.1 hp) (isV_int.2 rfl) (hx228_7 hp), gdT rfl rfl fun hp b q hk hn => ok_indexAddr rfl Try.underlying81 ty83 (IsOwn.rd ((Gd.get hn.1 hp)).2) (Gd.get hn.2.1 hp) (hx228_8 hp), gdT rfl rfl fun hp b q hk hn => ok_fieldAddr rfl fo83_1 (at_RegionSpan_1 _) (Gd.get hn.1 hp), gdT rfl rfl fun hp b q hk hn => ok_load rfl ty3 (Gd.get hn.1 hp), gdT rfl rfl fun hp b q hk hn => ok_leq rfl (Gd.get hn.1 hp) (Gd.get hn.2.1 hp), ob1 rfl fun b q hk hn => ok_pickM rfl hn.1 hx228_12 (fun hm => (Gd.get hn.2.1 hm)) (fun _ => (isV_bool.2 rfl)), trivial⟩ hQQ242 fun b q p => ?_
    exact tail_done (k := q) (hp243 _ _ ⟨Bs.post ⟨hg, hs, hd⟩ p, p.ke 8 rfl i8, (by rw [p.old 8 rfl]; exact n8), p.ke 10 rfl i10, p.ke 11 rfl i11, p.ke 39 rfl i39, p.ke 40 rfl i40, p.ke 41 rfl i41, p.ou 12 59 rfl, trivial⟩)
   rintro a k ⟨⟨hg, hs, hd⟩, i8, n8, i10, i11, i39, i40, i41, i59, _⟩
   obtain ⟨s229, hs229, hr⟩ := bind_some hr
   refine cut (fun a' k' => Bs noF k0 80 a' k' ∧ IsOwn 0 83 s229 (a'.get 8) k' ∧ Lo k0 (obF (a'.get 8)) ∧ (IsV x217_1) (a'.get 39) k' ∧ (IsL x217_1) (a'.get 40) k' ∧ (IsV s221.2) (a'.get 41) k' ∧ True) ?_ hQ ?_
   ·intro Q241 hQQ241 hp230
    replace hr := hs229
    clear hQ
    have hQ := hQQ241
    refine wp_cond_split (isBool i59) (fun hc237 => ?_) (fun hc237 => ?_)
    ·rw [if_pos hc237] at hr
     obtain ⟨x231_2, hx231_2, hr⟩ := bind_some hr
     obtain ⟨x231_5, hx231_5, hr⟩ := bind_some hr
     obtain ⟨x231_6, hx231_6, hr⟩ := bind_some hr
     obtain ⟨x231_12, hx231_12, hr⟩ := bind_some hr
     obtain ⟨x231_14, hx231_14, hr⟩ := bind_some hr
     refine cut (fun a' k' => Bs noF k0 80 a' k' ∧ IsOwn 0 83 x231_14 (a'.get 8) k' ∧ Lo k0 (obF (a'.get 8)) ∧ (IsV x217_1) (a'.get 39) k' ∧ (IsL x217_1) (a'.get 40) k' ∧ (IsV s221.2) (a'.get 41) k' ∧ True) ?_ hQ ?_
     ·intro Q232 hQQ232 hp233
      refine region (a0 := a) (k0 := k) (n := 80) (m := 14) (⟨some (OwnAt (a.get 8) 0 83 s221.1), [(8, none)]⟩ :: ⟨some (IsI (s221.1.length : Int)), [(11, none)]⟩ :: ⟨some (IsV x231_2), [(61, some 1)]⟩ :: ⟨some (OwnAt (a.get 8) 0 83 s221.1), [(8, none)]⟩ :: ⟨some (IsI (s221.1.length : Int)), [(11, none)]⟩ :: ⟨some (IsV x231_5), [(64, some 4)]⟩ :: ⟨some (IsPtr x231_6), [(63, some 3), (65, some 5)]⟩ :: ⟨some (IsPtr x231_6.to_), [(66, some 6)]⟩ :: ⟨some (IsV x231_6.to_), [(67, some 7)]⟩ :: ⟨some (IsPtr x226_0.to_), [(10, none)]⟩ :: ⟨some (IsV x226_0.to_), [(69, some 9)]⟩ :: ⟨some (IsI (max x231_6.to_ x226_0.to_)), [(68, some 8), (70, some 10)]⟩ :: ⟨some (IsAdrO (a.get 8) ((x231_2).toNat * Enc.sz RegionSpan)), [(60, some 0), (62, some 2)]⟩ :: ⟨some (IsAdrO (a.get 8) ((x231_2).toNat * Enc.sz RegionSpan + 1)), [(72, some 12)]⟩ :: []) hmix hs (by kernel_rfl) ⟨ob1 rfl fun b q hk hn => ok_moveOA (.inl rfl) (ownAt hn.1 (up i8 hk hn.1)), ob1 rfl fun b q hk hn => ok_move rfl (up i11 hk hn.1), ob1 rfl fun b q hk hn => ok_sub rfl hn.1 (isV_int.2 rfl) hx231_2, ob1 rfl fun b q hk hn => ok_moveOA (.inl rfl) (ownAt hn.1 (up i8 hk hn.1)), ob1 rfl fun b q hk hn => ok_move rfl (up i11 hk hn.1), ob1 rfl fun b q hk hn => ok_sub rfl hn.1 (isV_int.2 rfl) hx231_5, ob1 rfl fun b q hk hn => ok_indexAddr rfl Try.underlying81 ty83 (IsOwn.rd (hn.1).2) hn.2.1 hx231_6, ob1 rfl fun b q hk hn => ok_fieldAddr rfl fo83_1 (at_RegionSpan_1 _) hn.1, ob1 rfl fun b q hk hn => ok_load rfl ty3 hn.1, ob1 rfl fun b q hk hn => ok_fieldAddr rfl fo83_1 (at_RegionSpan_1 _) ((up i10 hk hn.1)).ptr, ob1 rfl fun b q hk hn => ok_load rfl ty3 hn.1, ob1 rfl fun b q hk hn => ok_max2 rfl hn.1 hn.2.1, ob1 rfl fun b q hk hn => ok_indexO rfl Try.underlying81 ty83 hn.1 hn.2.1 hx231_12, ob1 rfl fun b q hk hn => ok_fieldAdrO rfl fo83_1 hn.1, trivial⟩ hQQ232 fun b q p => ?_
      have hgq := hg.then p.grow
      have hsb := p.size.trans hs
      have hdb := p.defers.trans hd
      have j8 := p.ke 8 rfl i8
      have y8 : Lo k0 (obF (b.get 8)) := by rw [p.old 8 rfl]; exact n8
      have j39 := p.ke 39 rfl i39
      have j40 := p.ke 40 rfl i40
      have j41 := p.ke 41 rfl i41
      have j71 : (IsI (max x231_6.to_ x226_0.to_)) (b.get 71) q := p.ou 11 71 rfl
      have j73 : IsAdrO (a.get 8) ((x231_2).toNat * Enc.sz RegionSpan + 1) (b.get 73) q := p.ou 13 73 rfl
      have eo : b.get 8 = a.get 8 := p.old 8 rfl
      have hns := j8.nshF
      refine tail_storeS (i := 14) (u := b.get 8) (m := (x231_2).toNat) (off := 0 + 1) rfl rfl rfl rfl szf3 upd_F83_1 (by rw [eo]; exact j73) j8 (getI_spec hx231_12).2.1 j71 fun q2 hch hz => ?_
      replace hgq := hgq.step hch y8.wr
      have hle := hch.le hns
      replace j39 := Pers.pers hle j39
      replace j40 := Pers.pers hle j40
      replace j41 := Pers.pers hle j41
      replace j71 := Pers.pers hle j71
      replace j73 := Pers.pers hle j73
      replace j8 := hz
      rw [Option.some.inj hx231_14] at j8
      clear hns hle hch eo hz
      obtain ⟨q, hqq⟩ : ∃ q, q = q2 := ⟨q2, rfl⟩
      subst hqq
      exact tail_done (k := q) (hp233 _ _ ⟨⟨hgq, hsb, hdb⟩, j8, y8, j39, j40, j41, trivial⟩)
     rintro a k ⟨⟨hg, hs, hd⟩, i8, n8, i39, i40, i41, _⟩
     obtain rfl := Option.some.inj hr
     exact hp230 _ _ ⟨⟨hg, hs, hd⟩, i8, n8, i39, i40, i41, trivial⟩
    rw [if_neg (by rw [hc237]; decide)] at hr
    obtain ⟨x234_3, hx234_3, hr⟩ := bind_some hr
    refine cut (fun a' k' => Bs noF k0 80 a' k' ∧ IsOwn 0 83 x234_3 (a'.get 8) k' ∧ Lo k0 (obF (a'.get 8)) ∧ (IsV x217_1) (a'.get 39) k' ∧ (IsL x217_1) (a'.get 40) k' ∧ (IsV s221.2) (a'.get 41) k' ∧ True) ?_ hQ ?_
    ·intro Q235 hQQ235 hp236
     refine gS 3 (⟨some (OwnAt (a.get 8) 0 83 s221.1), [(8, none)]⟩ :: _ :: ⟨some (IsV (α := (List RegionSpan)) ([x226_0])), [(75, some 1)]⟩ :: []) hs (by kernel_rfl) ⟨ob1 rfl fun _ _ h n => ok_moveOA (.inl rfl) (ownAt n.1 (up i8 h n.1)), o1 [(10, none)] rfl fun _ _ h n => ok_load rfl ty83 ((up i10 h n.1)).ptr, ob1 rfl fun _ _ h n => ok_buildSlice rfl Try.underlying81 eo83 rfl (by decide) (by decide) ⟨rfl, n.1, trivial⟩, trivial⟩ hQQ235 fun b q p => ?_
     have hgq := hg.then p.grow
     have hsb := p.size.trans hs
     have hdb := p.defers.trans hd
     have j39 := p.ke 39 rfl i39
     have j40 := p.ke 40 rfl i40
     have j41 := p.ke 41 rfl i41
     have e74 : b.get 74 = a.get 8 := (p.ou 0 74 rfl).1
     have j74 : IsOwn 0 83 s221.1 (b.get 74) q := (p.ou 0 74 rfl).2
     have y74 : Lo k0 (obF (b.get 74)) := by rw [e74]; exact n8
     have j76 : (IsV (α := (List RegionSpan)) ([x226_0])) (b.get 76) q := p.ou 2 76 rfl
     have hns := j74.nshF
     refine tail_appendS (i := 3) (d := 77) rfl rfl rfl rfl (by rw [hsb]; decide) (e := 83) Try.underlying81 eo83 j74 (IsV.rd j76) hx234_3 fun b2 q2 hsz hdf hoth hch hown hob => ?_
     have hle := hch.le hns
     have yn : Lo k0 (obF (b2.get 77)) := y74.app hgq hob
     replace j39 := Pers.pers hle j39
     replace j40 := Pers.pers hle j40
     replace j41 := Pers.pers hle j41
     replace j76 := Pers.pers hle j76
     replace hgq := hgq.step hch y74.wr
     rw [← hoth 39 (by decide)] at j39
     rw [← hoth 40 (by decide)] at j40
     rw [← hoth 41 (by decide)] at j41
     rw [← hoth 76 (by decide)] at j76
     have j77 := hown
     have y77 := yn
     replace hsb := hsz.trans hsb
     replace hdb := hdf.trans hdb
     clear hle hch hown hob hns yn hsz hdf hoth
     obtain ⟨b, hbb⟩ : ∃ b, b = b2 := ⟨b2, rfl⟩
     subst hbb
     obtain ⟨q, hqq⟩ : ∃ q, q = q2 := ⟨q2, rfl⟩
     subst hqq
     refine tail_assign (i := 4) (d := 8) rfl rfl (.inl rfl) rfl (by rw [hsb]; decide) fun b2 hsz hdf hnew hoth => ?_
     have jn : (IsOwn 0 83 x234_3) (b2.get 8) q := by rw [hnew]; exact j77
     have yn : Lo k0 (obF (b2.get 8)) := by rw [hnew]; exact y77
     rw [← hoth 39 (by decide)] at j39
     rw [← hoth 40 (by decide)] at j40
     rw [← hoth 41 (by decide)] at j41
     rw [← hoth 76 (by decide)] at j76
     have j8 := jn
     have y8 := yn
     replace hsb := hsz.trans hsb
     replace hdb := hdf.trans hdb
     clear hsz hdf hoth
     obtain ⟨b, hbb⟩ : ∃ b, b = b2 := ⟨b2, rfl⟩
     subst hbb
     exact tail_done (k := q) (hp236 _ _ ⟨⟨hgq, hsb, hdb⟩, j8, y8, j39, j40, j41, trivial⟩)
    rintro a k ⟨⟨hg, hs, hd⟩, i8, n8, i39, i40, i41, _⟩
    obtain rfl := Option.some.inj hr
    exact hp230 _ _ ⟨⟨hg, hs, hd⟩, i8, n8, i39, i40, i41, trivial⟩
   clear hs229
   rintro a k ⟨⟨hg, hs, hd⟩, i8, n8, i39, i40, i41, _⟩
   obtain ⟨x238_0, hx238_0, hr⟩ := bind_some hr
   refine cut (fun a' k' => Bs noF k0 80 a' k' ∧ IsOwn 0 83 s229 (a'.get 8) k' ∧ Lo k0 (obF (a'.get 8)) ∧ (IsV x217_1) (a'.get 39) k' ∧ (IsL x217_1) (a'.get 40) k' ∧ (IsV x238_0) (a'.get 41) k' ∧ True) ?_ hQ ?_
   ·intro Q239 hQQ239 hp240
    refine gS 2 (_ :: _ :: []) hs (by kernel_rfl) ⟨o1 [(41, none)] rfl fun _ _ h n => ok_add rfl (up i41 h n.1) (cI rfl) hx238_0, cm 0 rfl rfl, trivial⟩ hQQ239 fun b q p => ?_
    exact tail_done (k := q) (hp240 _ _ ⟨Bs.post ⟨hg, hs, hd⟩ p, p.ke 8 rfl i8, (by rw [p.old 8 rfl]; exact n8), p.ke 39 rfl i39, p.ke 40 rfl i40, p.ou 1 41 rfl, trivial⟩)
   rintro a k ⟨⟨hg, hs, hd⟩, i8, n8, i39, i40, i41, _⟩
   exact hgo222 _ _ _ (Option.some.inj hr).symm ⟨⟨hg, hs, hd⟩, i8, n8, i39, i40, i41, trivial⟩
  rw [if_neg (by rw [hc249]; decide)] at hr
  refine wp_exit ?_
  obtain ⟨kk, sh248, ii8⟩ := i8.give
  replace i8 := ii8
  replace hg := hg.hand sh248 n8.wr
  rw [← sh248.w]
  clear sh248
  obtain ⟨k, hkk⟩ : ∃ k, k = kk := ⟨kk, rfl⟩
  subst hkk
  exact hex223 _ _ _ _ (Option.some.inj hr).symm ⟨rfl, ⟨hg, hs, hd⟩, i8, trivial⟩
 ·rintro r257 a k rfl hR
  dsimp only at hr
  obtain rfl := Option.some.inj hr
  exact hR
 ·rintro _ _ _ rfl _
  simp at hr
 clear hf252
 rintro _ s253 a k rfl ⟨rfl, ⟨hg, hs, hd⟩, i8, _⟩
 dsimp only at hr
 refine stepL 2 (_ :: _ :: []) rfl ⟨hg, hs, hd⟩ (by kernel_rfl) ⟨mu rfl i8, cp 0 rfl rfl, trivial⟩ [⟨_, _⟩] (fun b q p => ⟨p.ou 1 4 rfl, trivial⟩) ?_
 rintro a k ⟨⟨hg, hs, hd⟩, i4, _⟩
 refine wp_ret ?_
 obtain rfl := Option.some.inj hr
 exact retC1 rfl hd hg i4
def region_strips_L0 (x274_1 : (List Rect)) (s277 : (List Int) × Int) : Option (Flow ((List Int) × Int) ((List RegionStrip))) :=
 if (decide (s277.2 < (x274_1.length : Int))) then
  (getI x274_1 s277.2).bind fun x282_0 =>
  (appI s277.1 ([x282_0.X0, x282_0.X1])).bind fun x283_6 =>
  (addI s277.2 1).bind fun x284_0 =>
  some (.go (x283_6, x284_0))
 else
  some (.ex 0 (s277.1, s277.2))
def region_strips_L1 (x274_1 : (List Rect)) (x297_1 : (List Int)) (s301 : (List RegionStrip) × Int) : Option (Flow ((List RegionStrip) × Int) ((List RegionStrip))) :=
 if (decide (s301.2 < (x297_1.length : Int))) then
  (subI s301.2 1).bind fun x306_3 =>
  (getI x297_1 x306_3).bind fun x306_4 =>
  (getI x297_1 s301.2).bind fun x306_8 =>
  (subI s301.2 1).bind fun x306_13 =>
  (getI x297_1 x306_13).bind fun x306_14 =>
  (region_column x274_1 x306_14).bind fun x306_16 =>
  (appI s301.1 ([(⟨x306_4, x306_8, x306_16⟩ : RegionStrip)])).bind fun x306_19 =>
  (addI s301.2 1).bind fun x307_1 =>
  some (.go (x306_19, x307_1))
 else
  some (.ex 2 (s301.1, s301.2))
def region_strips (lists_ : (List (List Rect))) : Option ((List RegionStrip)) :=
 (slices_Concat_Rect lists_).bind fun x274_1 =>
 (iterL (region_strips_L0 x274_1) (x274_1.length + 1) (([] : List Int), 0)).bind fun f294 => match f294 with
  | .go _ => none
  | .ex _ s295 =>
   (sortInts s295.1).bind fun x296_1 =>
   (compactInts x296_1).bind fun x297_1 =>
   (iterL (region_strips_L1 x274_1 x297_1) (x274_1.length + x297_1.length + ([] : List RegionStrip).length + 1) (([] : List RegionStrip), 1)).bind fun f315 => match f315 with
    | .go _ => none
    | .ex _ s316 =>
     some s316.1
    | .ret r320 => some r320
  | .ret r330 => some r330
theorem region_strips_okO {k0 : K} {v0 : Value} {lists_ : (List (List Rect))} {r : (List RegionStrip)} (i0 : (IsV lists_) v0 k0) (hr : region_strips lists_ = some r) :
  Calls Try.prog 46 #[v0] k0.w (Ret k0 (IsOwn k0.w.heap.size 85 r)) := by
 unfold region_strips at hr
 refine Ret.ofC ?_
 refine enterK Try.func46 rfl Try.ntmps46 (show 1 ≤ 56 by decide) fun a k hk0 hs hd ha => ?_
 obtain ⟨e0, _⟩ := ha
 replace i0 : (IsV lists_) (a.get 0) k := by rw [e0, hk0]; exact i0
 have hQ : Gb.LetsOut (bodyPost Try.prog Try.f46 (RetC noF k0 (IsOwn k0.w.heap.size 85 r))) := letsOutC
 have hg : Chg noF k0 k := by rw [hk0]; exact Chg.refl _ k0
 refine stepL 1 (⟨some IsE0, []⟩ :: []) rfl ⟨hg, hs, hd⟩ (by kernel_rfl) ⟨ob1 rfl fun b q h n => ok_assign rfl isE0_nil, trivial⟩ [⟨_, _⟩] (fun b q p => ⟨p.ke 0 rfl i0, trivial⟩) ?_
 rintro a k ⟨⟨hg, hs, hd⟩, i0, _⟩
 refine wp_seq ?_
 obtain ⟨x274_1, hx274_1, hr⟩ := bind_some hr
 refine cut (fun a' k' => Bs noF k0 56 a' k' ∧ (IsV x274_1) (a'.get 3) k' ∧ True) ?_ hQ ?_
 ·intro Q336 hQQ336 hp337
  refine gS 3 (_ :: _ :: _ :: []) hs (by kernel_rfl) ⟨mu rfl i0, o1 [(9, some 0)] rfl fun _ _ h n => ok_call rfl Try.call60 (slices_Concat_Rect_ok n.1 hx274_1), cp 1 rfl rfl, trivial⟩ hQQ336 fun b q p => ?_
  exact tail_done (k := q) (hp337 _ _ ⟨Bs.post ⟨hg, hs, hd⟩ p, p.ou 2 3 rfl, trivial⟩)
 rintro a k ⟨⟨hg, hs, hd⟩, i3, _⟩
 refine cutS (fun a' k' => Bs noF k0 56 a' k' ∧ (IsV x274_1) (a'.get 3) k' ∧ IsOwn 0 3 ([] : List Int) (a'.get 4) k' ∧ Lo k0 (obF (a'.get 4)) ∧ True) ?_ ?_
 ·intro Q334 hQQ334 hp335
  refine gS 1 (⟨some IsE0, []⟩ :: []) hs (by kernel_rfl) ⟨ob1 rfl fun b q h n => ok_assign rfl isE0_nil, trivial⟩ hQQ334 fun b q p => ?_
  have hgq := hg.then p.grow
  have hsb := p.size.trans hs
  have hdb := p.defers.trans hd
  have j3 := p.ke 3 rfl i3
  have j4 : IsE0 (b.get 4) q := p.ou 0 4 rfl
  have y4 : Lo k0 (obF (b.get 4)) := j4.lo
  replace j4 : IsOwn 0 3 ([] : List Int) (b.get 4) q := j4.own0
  exact tail_done (k := q) (hp335 _ _ ⟨⟨hgq, hsb, hdb⟩, j3, j4, y4, trivial⟩)
 rintro a k ⟨⟨hg, hs, hd⟩, i3, i4, n4, _⟩
 refine wp_seq ?_
 refine cutS (fun a' k' => Bs noF k0 56 a' k' ∧ (IsV x274_1) (a'.get 3) k' ∧ IsOwn 0 3 ([] : List Int) (a'.get 4) k' ∧ Lo k0 (obF (a'.get 4)) ∧ (IsV x274_1) (a'.get 11) k' ∧ (IsL x274_1) (a'.get 12) k' ∧ (IsI 0) (a'.get 13) k' ∧ True) ?_ ?_
 ·intro Q332 hQQ332 hp333
  refine gS 3 (_ :: _ :: ⟨some (IsI 0), []⟩ :: []) hs (by kernel_rfl) ⟨mu rfl i3, o1 [(11, some 0)] rfl fun _ _ h n => ok_len rfl rfl Try.underlying44 (IsV.rd n.1), ob1 rfl fun _ _ h n => ok_move rfl (cI rfl), trivial⟩ hQQ332 fun b q p => ?_
  exact tail_done (k := q) (hp333 _ _ ⟨Bs.post ⟨hg, hs, hd⟩ p, p.ke 3 rfl i3, p.ke 4 rfl i4, (by rw [p.old 4 rfl]; exact n4), p.ou 0 11 rfl, p.ou 1 12 rfl, p.ou 2 13 rfl, trivial⟩)
 rintro a k ⟨⟨hg, hs, hd⟩, i3, i4, n4, i11, i12, i13, _⟩
 refine wp_block ?_
 obtain ⟨f294, hf294, hr⟩ := bind_some hr
 refine cutFe f294 (fun s' a' k' => Bs noF k0 56 a' k' ∧ (IsV x274_1) (a'.get 3) k' ∧ IsOwn 0 3 s'.1 (a'.get 4) k' ∧ Lo k0 (obF (a'.get 4)) ∧ (IsV x274_1) (a'.get 11) k' ∧ (IsL x274_1) (a'.get 12) k' ∧ (IsV s'.2) (a'.get 13) k' ∧ True) (fun i' s' a' k' => (i' = 0 ∧ Bs noF k0 56 a' k' ∧ (IsV x274_1) (a'.get 3) k' ∧ IsOwn 0 3 s'.1 (a'.get 4) k' ∧ Lo k0 (obF (a'.get 4)) ∧ True)) (fun r' a' k' => bodyPost Try.prog Try.f46 (RetC noF k0 (IsOwn k0.w.heap.size 85 r')) .ret a' k'.w) ?_ hQ ?_ ?_ ?_
 ·intro Q331 hQQ331 hgo hex hret
  refine sim_loop ?_ _ _ _ _ _ hf294 ⟨⟨hg, hs, hd⟩, i3, i4, n4, i11, i12, i13, trivial⟩ Q331 hQQ331 hgo hex hret
  clear hr hf294 hgo hex hret hQQ331 hQ hg hs hd i11 i12 i13 i3 i4 n4
  intro s277 fl_ a k hr hS Q hQ hgo278 hex279 hret280
  obtain ⟨⟨hg, hs, hd⟩, i3, i4, n4, i11, i12, i13, _⟩ := hS
  unfold region_strips_L0 at hr
  refine cutS (fun a' k' => Bs noF k0 56 a' k' ∧ (IsV x274_1) (a'.get 3) k' ∧ IsOwn 0 3 s277.1 (a'.get 4) k' ∧ Lo k0 (obF (a'.get 4)) ∧ (IsV x274_1) (a'.get 11) k' ∧ (IsL x274_1) (a'.get 12) k' ∧ (IsV s277.2) (a'.get 13) k' ∧ (IsV (decide (s277.2 < (x274_1.length : Int)))) (a'.get 14) k' ∧ True) ?_ ?_
  ·intro Q292 hQQ292 hp293
   refine gS 1 (_ :: []) hs (by kernel_rfl) ⟨o1 [(13, none), (12, none)] rfl fun _ _ h n => ok_lss rfl (up i13 h n.1) (up i12 h n.2.1), trivial⟩ hQQ292 fun b q p => ?_
   exact tail_done (k := q) (hp293 _ _ ⟨Bs.post ⟨hg, hs, hd⟩ p, p.ke 3 rfl i3, p.ke 4 rfl i4, (by rw [p.old 4 rfl]; exact n4), p.ke 11 rfl i11, p.ke 12 rfl i12, p.ke 13 rfl i13, p.ou 0 14 rfl, trivial⟩)
  rintro a k ⟨⟨hg, hs, hd⟩, i3, i4, n4, i11, i12, i13, i14, _⟩
  refine wp_seq ?_
  refine wp_cond_split (isBool i14) (fun hc291 => ?_) (fun hc291 => ?_)
  ·rw [if_pos hc291] at hr
   refine wp_skip ?_
   refine wp_seq ?_
   refine wp_block ?_
   refine wp_seq ?_
   obtain ⟨x282_0, hx282_0, hr⟩ := bind_some hr
   refine cut (fun a' k' => Bs noF k0 56 a' k' ∧ (IsV x274_1) (a'.get 3) k' ∧ IsOwn 0 3 s277.1 (a'.get 4) k' ∧ Lo k0 (obF (a'.get 4)) ∧ (IsRef x282_0) (a'.get 6) k' ∧ (IsV x274_1) (a'.get 11) k' ∧ (IsL x274_1) (a'.get 12) k' ∧ (IsV s277.2) (a'.get 13) k' ∧ True) ?_ hQ ?_
   ·intro Q289 hQQ289 hp290
    refine gS 3 (_ :: _ :: ⟨some (IsBox k.w.heap.size (⟨0, 0, 0, 0⟩ : Rect)), []⟩ :: []) hs (by kernel_rfl) ⟨o1 [(11, none), (13, none)] rfl fun _ _ h n => ok_indexAddr rfl Try.underlying44 ty30 (IsV.rd (up i11 h n.1)) (up i13 h n.2.1) hx282_0, o1 [(15, some 0)] rfl fun _ _ h n => ok_load rfl ty30 n.1, ob1 rfl fun _ _ h n => ok_alloc _ h.size rfl z30, trivial⟩ hQQ289 fun b q p => ?_
    have hgq := hg.then p.grow
    have hsb := p.size.trans hs
    have hdb := p.defers.trans hd
    have j3 := p.ke 3 rfl i3
    have j4 := p.ke 4 rfl i4
    have y4 : Lo k0 (obF (b.get 4)) := by rw [p.old 4 rfl]; exact n4
    obtain ⟨b6, j6, x6, z6⟩ : (IsBox k.w.heap.size (⟨0, 0, 0, 0⟩ : Rect)) (b.get 6) q := p.ou 2 6 rfl
    replace x6 : Lo k (Eq b6) := Lo.eq x6
    have y6 : Lo k0 (Eq b6) := x6.chg hg
    have j11 := p.ke 11 rfl i11
    have j12 := p.ke 12 rfl i12
    have j13 := p.ke 13 rfl i13
    have j16 : (IsV x282_0) (b.get 16) q := p.ou 1 16 rfl
    have w4_6 : Apart (obF (b.get 4)) (Eq b6) := Apart.new (by rw [p.old 4 rfl]; exact i4.ltF) x6
    have hns := z6.nshF
    refine tail_storeB (i := 3) rfl rfl rfl rfl szf30 (Upd.self (α := Rect)) j6 z6 j16 fun q2 hch hz => ?_
    replace hgq := hgq.step hch y6.wr
    have hle := hch.le hns
    replace j3 := Pers.pers hle j3
    replace j4 := j4.keep hch w4_6 hns
    replace j11 := Pers.pers hle j11
    replace j12 := Pers.pers hle j12
    replace j13 := Pers.pers hle j13
    replace j16 := Pers.pers hle j16
    replace z6 := hz
    clear hns hle hch
    obtain ⟨q, hqq⟩ : ∃ q, q = q2 := ⟨q2, rfl⟩
    subst hqq
    obtain ⟨q2, hsh, jn⟩ := z6.give
    replace j3 := Pers.pers hsh.le j3
    replace j4 := j4.handed hsh w4_6
    replace j11 := Pers.pers hsh.le j11
    replace j12 := Pers.pers hsh.le j12
    replace j13 := Pers.pers hsh.le j13
    rw [← j6] at jn
    replace j6 := jn
    replace hgq := hgq.hand hsh y6.wr
    rw [← hsh.w]
    clear hsh
    obtain ⟨q, hqq⟩ : ∃ q, q = q2 := ⟨q2, rfl⟩
    subst hqq
    exact tail_done (k := q) (hp290 _ _ ⟨⟨hgq, hsb, hdb⟩, j3, j4, y4, j6, j11, j12, j13, trivial⟩)
   rintro a k ⟨⟨hg, hs, hd⟩, i3, i4, n4, i6, i11, i12, i13, _⟩
   obtain ⟨x283_6, hx283_6, hr⟩ := bind_some hr
   refine cut (fun a' k' => Bs noF k0 56 a' k' ∧ (IsV x274_1) (a'.get 3) k' ∧ IsOwn 0 3 x283_6 (a'.get 4) k' ∧ Lo k0 (obF (a'.get 4)) ∧ (IsV x274_1) (a'.get 11) k' ∧ (IsL x274_1) (a'.get 12) k' ∧ (IsV s277.2) (a'.get 13) k' ∧ True) ?_ hQ ?_
   ·intro Q287 hQQ287 hp288
    refine gS 6 (⟨some (OwnAt (a.get 4) 0 3 s277.1), [(4, none)]⟩ :: _ :: _ :: _ :: _ :: ⟨some (IsV (α := (List Int)) ([x282_0.X0, x282_0.X1])), [(19, some 2), (21, some 4)]⟩ :: []) hs (by kernel_rfl) ⟨ob1 rfl fun _ _ h n => ok_moveOA (.inl rfl) (ownAt n.1 (up i4 h n.1)), o1 [(6, none)] rfl fun _ _ h n => ok_fieldAddr rfl fo30_0 (at_Rect_0 _) ((up i6 h n.1)).ptr, o1 [(18, some 1)] rfl fun _ _ h n => ok_load rfl ty3 n.1, o1 [(6, none)] rfl fun _ _ h n => ok_fieldAddr rfl fo30_2 (at_Rect_2 _) ((up i6 h n.1)).ptr, o1 [(20, some 3)] rfl fun _ _ h n => ok_load rfl ty3 n.1, ob1 rfl fun _ _ h n => ok_buildSlice rfl Try.underlying57 eo3 rfl (by decide) (by decide) ⟨rfl, n.1, rfl, n.2.1, trivial⟩, trivial⟩ hQQ287 fun b q p => ?_
    have hgq := hg.then p.grow
    have hsb := p.size.trans hs
    have hdb := p.defers.trans hd
    have j3 := p.ke 3 rfl i3
    have j11 := p.ke 11 rfl i11
    have j12 := p.ke 12 rfl i12
    have j13 := p.ke 13 rfl i13
    have e17 : b.get 17 = a.get 4 := (p.ou 0 17 rfl).1
    have j17 : IsOwn 0 3 s277.1 (b.get 17) q := (p.ou 0 17 rfl).2
    have y17 : Lo k0 (obF (b.get 17)) := by rw [e17]; exact n4
    have j22 : (IsV (α := (List Int)) ([x282_0.X0, x282_0.X1])) (b.get 22) q := p.ou 5 22 rfl
    have hns := j17.nshF
    refine tail_appendS (i := 6) (d := 23) rfl rfl rfl rfl (by rw [hsb]; decide) (e := 3) Try.underlying57 eo3 j17 (IsV.rd j22) hx283_6 fun b2 q2 hsz hdf hoth hch hown hob => ?_
    have hle := hch.le hns
    have yn : Lo k0 (obF (b2.get 23)) := y17.app hgq hob
    replace j3 := Pers.pers hle j3
    replace j11 := Pers.pers hle j11
    replace j12 := Pers.pers hle j12
    replace j13 := Pers.pers hle j13
    replace j22 := Pers.pers hle j22
    replace hgq := hgq.step hch y17.wr
    rw [← hoth 3 (by decide)] at j3
    rw [← hoth 11 (by decide)] at j11
    rw [← hoth 12 (by decide)] at j12
    rw [← hoth 13 (by decide)] at j13
    rw [← hoth 22 (by decide)] at j22
    have j23 := hown
    have y23 := yn
    replace hsb := hsz.trans hsb
    replace hdb := hdf.trans hdb
    clear hle hch hown hob hns yn hsz hdf hoth
    obtain ⟨b, hbb⟩ : ∃ b, b = b2 := ⟨b2, rfl⟩
    subst hbb
    obtain ⟨q, hqq⟩ : ∃ q, q = q2 := ⟨q2, rfl⟩
    subst hqq
    refine tail_assign (i := 7) (d := 4) rfl rfl (.inl rfl) rfl (by rw [hsb]; decide) fun b2 hsz hdf hnew hoth => ?_
    have jn : (IsOwn 0 3 x283_6) (b2.get 4) q := by rw [hnew]; exact j23
    have yn : Lo k0 (obF (b2.get 4)) := by rw [hnew]; exact y23
    rw [← hoth 3 (by decide)] at j3
    rw [← hoth 11 (by decide)] at j11
    rw [← hoth 12 (by decide)] at j12
    rw [← hoth 13 (by decide)] at j13
    rw [← hoth 22 (by decide)] at j22
    have j4 := jn
    have y4 := yn
    replace hsb := hsz.trans hsb
    replace hdb := hdf.trans hdb
    clear hsz hdf hoth
    obtain ⟨b, hbb⟩ : ∃ b, b = b2 := ⟨b2, rfl⟩
    subst hbb
    exact tail_done (k := q) (hp288 _ _ ⟨⟨hgq, hsb, hdb⟩, j3, j4, y4, j11, j12, j13, trivial⟩)
   rintro a k ⟨⟨hg, hs, hd⟩, i3, i4, n4, i11, i12, i13, _⟩
   obtain ⟨x284_0, hx284_0, hr⟩ := bind_some hr
   refine cut (fun a' k' => Bs noF k0 56 a' k' ∧ (IsV x274_1) (a'.get 3) k' ∧ IsOwn 0 3 x283_6 (a'.get 4) k' ∧ Lo k0 (obF (a'.get 4)) ∧ (IsV x274_1) (a'.get 11) k' ∧ (IsL x274_1) (a'.get 12) k' ∧ (IsV x284_0) (a'.get 13) k' ∧ True) ?_ hQ ?_
   ·intro Q285 hQQ285 hp286
    refine gS 2 (_ :: _ :: []) hs (by kernel_rfl) ⟨o1 [(13, none)] rfl fun _ _ h n => ok_add rfl (up i13 h n.1) (cI rfl) hx284_0, cm 0 rfl rfl, trivial⟩ hQQ285 fun b q p => ?_
    exact tail_done (k := q) (hp286 _ _ ⟨Bs.post ⟨hg, hs, hd⟩ p, p.ke 3 rfl i3, p.ke 4 rfl i4, (by rw [p.old 4 rfl]; exact n4), p.ke 11 rfl i11, p.ke 12 rfl i12, p.ou 1 13 rfl, trivial⟩)
   rintro a k ⟨⟨hg, hs, hd⟩, i3, i4, n4, i11, i12, i13, _⟩
   exact hgo278 _ _ _ (Option.some.inj hr).symm ⟨⟨hg, hs, hd⟩, i3, i4, n4, i11, i12, i13, trivial⟩
  rw [if_neg (by rw [hc291]; decide)] at hr
  refine wp_exit ?_
  exact hex279 _ _ _ _ (Option.some.inj hr).symm ⟨rfl, ⟨hg, hs, hd⟩, i3, i4, n4, trivial⟩
 ·rintro r330 a k rfl hR
  dsimp only at hr
  obtain rfl := Option.some.inj hr
  exact hR
 ·rintro _ _ _ rfl _
  simp at hr
 clear hf294
 rintro _ s295 a k rfl ⟨rfl, ⟨hg, hs, hd⟩, i3, i4, n4, _⟩
 dsimp only at hr
 refine wp_seq ?_
 obtain ⟨x296_1, hx296_1, hr⟩ := bind_some hr
 refine cut (fun a' k' => Bs noF k0 56 a' k' ∧ (IsV x274_1) (a'.get 3) k' ∧ IsOwn 0 3 x296_1 (a'.get 4) k' ∧ Lo k0 (obF (a'.get 4)) ∧ True) ?_ hQ ?_
 ·intro Q328 hQQ328 hp329
  refine gS 1 (⟨some (OwnAt (a.get 4) 0 3 s295.1), [(4, none)]⟩ :: []) hs (by kernel_rfl) ⟨ob1 rfl fun _ _ h n => ok_moveOA (.inl rfl) (ownAt n.1 (up i4 h n.1)), trivial⟩ hQQ328 fun b q p => ?_
  have hgq := hg.then p.grow
  have hsb := p.size.trans hs
  have hdb := p.defers.trans hd
  have j3 := p.ke 3 rfl i3
  have j4 := p.ke 4 rfl i4
  have y4 : Lo k0 (obF (b.get 4)) := by rw [p.old 4 rfl]; exact n4
  have e25 : b.get 25 = a.get 4 := (p.ou 0 25 rfl).1
  have j25 : IsOwn 0 3 s295.1 (b.get 25) q := (p.ou 0 25 rfl).2
  have y25 : Lo k0 (obF (b.get 25)) := by rw [e25]; exact n4
  have hns := j25.nshF
  have eS : b.get 4 = b.get 25 := (p.old 4 rfl).trans e25.symm
  refine tail_call (F := obF (b.get 25)) (i := 1) (d := 26) rfl rfl rfl rfl (by rw [hsb]; decide) Try.call51 hQQ328 (sortInts_ok j25 hx296_1) fun b2 q2 hsz hdf hoth hch hres => ?_
  have hle := hch.le hns
  replace j3 := Pers.pers hle j3
  replace hgq := hgq.step hch y25.wr
  replace j4 : IsOwn 0 3 x296_1 (b.get 4) q2 := by rw [eS]; exact hres
  clear hres eS
  rw [← hoth 3 (by decide)] at j3
  rw [← hoth 4 (by decide)] at j4
  rw [← hoth 4 (by decide)] at y4
  replace hsb := hsz.trans hsb
  replace hdb := hdf.trans hdb
  clear hle hch hns hsz hdf hoth
  obtain ⟨b, hbb⟩ : ∃ b, b = b2 := ⟨b2, rfl⟩
  subst hbb
  obtain ⟨q, hqq⟩ : ∃ q, q = q2 := ⟨q2, rfl⟩
  subst hqq
  exact tail_done (k := q) (hp329 _ _ ⟨⟨hgq, hsb, hdb⟩, j3, j4, y4, trivial⟩)
 rintro a k ⟨⟨hg, hs, hd⟩, i3, i4, n4, _⟩
 refine wp_seq ?_
 obtain ⟨x297_1, hx297_1, hr⟩ := bind_some hr
 refine cut (fun a' k' => Bs noF k0 56 a' k' ∧ (IsV x274_1) (a'.get 3) k' ∧ IsOwn 0 3 x297_1 (a'.get 4) k' ∧ Lo k0 (obF (a'.get 4)) ∧ True) ?_ hQ ?_
 ·intro Q326 hQQ326 hp327
  refine gS 1 (⟨some (OwnAt (a.get 4) 0 3 x296_1), [(4, none)]⟩ :: []) hs (by kernel_rfl) ⟨ob1 rfl fun _ _ h n => ok_moveOA (.inl rfl) (ownAt n.1 (up i4 h n.1)), trivial⟩ hQQ326 fun b q p => ?_
  have hgq := hg.then p.grow
  have hsb := p.size.trans hs
  have hdb := p.defers.trans hd
  have j3 := p.ke 3 rfl i3
  have e27 : b.get 27 = a.get 4 := (p.ou 0 27 rfl).1
  have j27 : IsOwn 0 3 x296_1 (b.get 27) q := (p.ou 0 27 rfl).2
  have y27 : Lo k0 (obF (b.get 27)) := by rw [e27]; exact n4
  have hns := j27.nshF
  refine tail_call (F := obF (b.get 27)) (i := 1) (d := 28) rfl rfl rfl rfl (by rw [hsb]; decide) Try.call52 hQQ326 (compactInts_ok j27 hx297_1) fun b2 q2 hsz hdf hoth hch hres => ?_
  have hle := hch.le hns
  obtain ⟨hown, hob⟩ := hres
  have yn : Lo k0 (obF (b2.get 28)) := y27.app hgq hob
  replace j3 := Pers.pers hle j3
  replace hgq := hgq.step hch y27.wr
  rw [← hoth 3 (by decide)] at j3
  have j28 := hown
  have y28 := yn
  have hres := True.intro
  clear hown hob yn
  replace hsb := hsz.trans hsb
  replace hdb := hdf.trans hdb
  clear hle hch hres hns hsz hdf hoth
  obtain ⟨b, hbb⟩ : ∃ b, b = b2 := ⟨b2, rfl⟩
  subst hbb
  obtain ⟨q, hqq⟩ : ∃ q, q = q2 := ⟨q2, rfl⟩
  subst hqq
  refine tail_assign (i := 2) (d := 4) rfl rfl (.inl rfl) rfl (by rw [hsb]; decide) fun b2 hsz hdf hnew hoth => ?_
  have jn : (IsOwn 0 3 x297_1) (b2.get 4) q := by rw [hnew]; exact j28
  have yn : Lo k0 (obF (b2.get 4)) := by rw [hnew]; exact y28
  rw [← hoth 3 (by decide)] at j3
  have j4 := jn
  have y4 := yn
  replace hsb := hsz.trans hsb
  replace hdb := hdf.trans hdb
  clear hsz hdf hoth
  obtain ⟨b, hbb⟩ : ∃ b, b = b2 := ⟨b2, rfl⟩
  subst hbb
  exact tail_done (k := q) (hp327 _ _ ⟨⟨hgq, hsb, hdb⟩, j3, j4, y4, trivial⟩)
 rintro a k ⟨⟨hg, hs, hd⟩, i3, i4, n4, _⟩
 refine wp_seq ?_
 obtain ⟨kk, sh298, ii4⟩ := i4.give
 replace i3 := Pers.pers sh298.le i3
 replace i4 := ii4
 replace hg := hg.hand sh298 n4.wr
 rw [← sh298.w]
 clear sh298
 obtain ⟨k, hkk⟩ : ∃ k, k = kk := ⟨kk, rfl⟩
 subst hkk
 refine cut (fun a' k' => Bs noF k0 56 a' k' ∧ (IsV x274_1) (a'.get 3) k' ∧ (IsV x297_1) (a'.get 4) k' ∧ IsOwn 0 85 ([] : List RegionStrip) (a'.get 7) k' ∧ Lo k0 (obF (a'.get 7)) ∧ True) ?_ hQ ?_
 ·intro Q324 hQQ324 hp325
  refine gS 1 (⟨some IsE0, []⟩ :: []) hs (by kernel_rfl) ⟨ob1 rfl fun b q h n => ok_assign rfl isE0_nil, trivial⟩ hQQ324 fun b q p => ?_
  have hgq := hg.then p.grow
  have hsb := p.size.trans hs
  have hdb := p.defers.trans hd
  have j3 := p.ke 3 rfl i3
  have j4 := p.ke 4 rfl i4
  have j7 : IsE0 (b.get 7) q := p.ou 0 7 rfl
  have y7 : Lo k0 (obF (b.get 7)) := j7.lo
  replace j7 : IsOwn 0 85 ([] : List RegionStrip) (b.get 7) q := j7.own0
  exact tail_done (k := q) (hp325 _ _ ⟨⟨hgq, hsb, hdb⟩, j3, j4, j7, y7, trivial⟩)
 rintro a k ⟨⟨hg, hs, hd⟩, i3, i4, i7, n7, _⟩
 refine wp_seq ?_
 refine cutS (fun a' k' => Bs noF k0 56 a' k' ∧ (IsV x274_1) (a'.get 3) k' ∧ (IsV x297_1) (a'.get 4) k' ∧ IsOwn 0 85 ([] : List RegionStrip) (a'.get 7) k' ∧ Lo k0 (obF (a'.get 7)) ∧ (IsI 1) (a'.get 8) k' ∧ True) ?_ ?_
 ·intro Q322 hQQ322 hp323
  refine gS 1 (⟨some (IsI 1), []⟩ :: []) hs (by kernel_rfl) ⟨aI rfl rfl, trivial⟩ hQQ322 fun b q p => ?_
  exact tail_done (k := q) (hp323 _ _ ⟨Bs.post ⟨hg, hs, hd⟩ p, p.ke 3 rfl i3, p.ke 4 rfl i4, p.ke 7 rfl i7, (by rw [p.old 7 rfl]; exact n7), p.ou 0 8 rfl, trivial⟩)
 rintro a k ⟨⟨hg, hs, hd⟩, i3, i4, i7, n7, i8, _⟩
 refine wp_block ?_
 obtain ⟨f315, hf315, hr⟩ := bind_some hr
 refine cutFe f315 (fun s' a' k' => Bs noF k0 56 a' k' ∧ (IsV x274_1) (a'.get 3) k' ∧ (IsV x297_1) (a'.get 4) k' ∧ IsOwn 0 85 s'.1 (a'.get 7) k' ∧ Lo k0 (obF (a'.get 7)) ∧ (IsV s'.2) (a'.get 8) k' ∧ True) (fun i' s' a' k' => (i' = 2 ∧ Bs noF k0 56 a' k' ∧ IsOwn 0 85 s'.1 (a'.get 7) k' ∧ Lo k0 (obF (a'.get 7)) ∧ True)) (fun r' a' k' => bodyPost Try.prog Try.f46 (RetC noF k0 (IsOwn k0.w.heap.size 85 r')) .ret a' k'.w) ?_ hQ ?_ ?_ ?_
 ·intro Q321 hQQ321 hgo hex hret
  refine sim_loop ?_ _ _ _ _ _ hf315 ⟨⟨hg, hs, hd⟩, i3, i4, i7, n7, i8, trivial⟩ Q321 hQQ321 hgo hex hret
  clear hr hf315 hgo hex hret hQQ321 hQ hg hs hd i3 i4 i7 i8 n7
  intro s301 fl_ a k hr hS Q hQ hgo302 hex303 hret304
  obtain ⟨⟨hg, hs, hd⟩, i3, i4, i7, n7, i8, _⟩ := hS
  unfold region_strips_L1 at hr
  refine wp_seq ?_
  refine cutS (fun a' k' => Bs noF k0 56 a' k' ∧ (IsV x274_1) (a'.get 3) k' ∧ (IsV x297_1) (a'.get 4) k' ∧ IsOwn 0 85 s301.1 (a'.get 7) k' ∧ Lo k0 (obF (a'.get 7)) ∧ (IsV s301.2) (a'.get 8) k' ∧ (IsV (decide (s301.2 < (x297_1.length : Int)))) (a'.get 32) k' ∧ True) ?_ ?_
  ·intro Q313 hQQ313 hp314
   refine gS 4 (_ :: _ :: _ :: _ :: []) hs (by kernel_rfl) ⟨mu rfl i8, mu rfl i4, o1 [(30, some 1)] rfl fun _ _ h n => ok_len rfl rfl Try.underlying57 (IsV.rd n.1), o1 [(29, some 0), (31, some 2)] rfl fun _ _ h n => ok_lss rfl n.1 n.2.1, trivial⟩ hQQ313 fun b q p => ?_
   exact tail_done (k := q) (hp314 _ _ ⟨Bs.post ⟨hg, hs, hd⟩ p, p.ke 3 rfl i3, p.ke 4 rfl i4, p.ke 7 rfl i7, (by rw [p.old 7 rfl]; exact n7), p.ke 8 rfl i8, p.ou 3 32 rfl, trivial⟩)
  rintro a k ⟨⟨hg, hs, hd⟩, i3, i4, i7, n7, i8, i32, _⟩
  refine wp_cond_split (isBool i32) (fun hc312 => ?_) (fun hc312 => ?_)
  ·rw [if_pos hc312] at hr
   refine wp_skip ?_
   refine wp_seq ?_
   refine wp_block ?_
   obtain ⟨x306_3, hx306_3, hr⟩ := bind_some hr
   obtain ⟨x306_4, hx306_4, hr⟩ := bind_some hr
   obtain ⟨x306_8, hx306_8, hr⟩ := bind_some hr
   obtain ⟨x306_13, hx306_13, hr⟩ := bind_some hr
   obtain ⟨x306_14, hx306_14, hr⟩ := bind_some hr
   obtain ⟨x306_16, hx306_16, hr⟩ := bind_some hr
   obtain ⟨x306_19, hx306_19, hr⟩ := bind_some hr
   refine cut (fun a' k' => Bs noF k0 56 a' k' ∧ (IsV x274_1) (a'.get 3) k' ∧ (IsV x297_1) (a'.get 4) k' ∧ IsOwn 0 85 x306_19 (a'.get 7) k' ∧ Lo k0 (obF (a'.get 7)) ∧ (IsV s301.2) (a'.get 8) k' ∧ True) ?_ hQ ?_
   ·intro Q310 hQQ310 hp311
    refine region (a0 := a) (k0 := k) (n := 56) (m := 19) (⟨some (OwnAt (a.get 7) 0 85 s301.1), [(7, none)]⟩ :: ⟨some (IsV x297_1), [(4, none)]⟩ :: ⟨some (IsV s301.2), [(8, none)]⟩ :: ⟨some (IsV x306_3), [(37, some 2)]⟩ :: ⟨some (IsPtr x306_4), [(36, some 1), (38, some 3)]⟩ :: ⟨some (IsV x306_4), [(39, some 4)]⟩ :: ⟨some (IsV x297_1), [(4, none)]⟩ :: ⟨some (IsV s301.2), [(8, none)]⟩ :: ⟨some (IsPtr x306_8), [(41, some 6), (42, some 7)]⟩ :: ⟨some (IsV x306_8), [(43, some 8)]⟩ :: ⟨some (IsV x274_1), [(3, none)]⟩ :: ⟨some (IsV x297_1), [(4, none)]⟩ :: ⟨some (IsV s301.2), [(8, none)]⟩ :: ⟨some (IsV x306_13), [(47, some 12)]⟩ :: ⟨some (IsPtr x306_14), [(46, some 11), (48, some 13)]⟩ :: ⟨some (IsV x306_14), [(49, some 14)]⟩ :: ⟨some (IsV x306_16), [(45, some 10), (50, some 15)]⟩ :: ⟨some (IsV (⟨x306_4, x306_8, x306_16⟩ : RegionStrip)), [(40, some 5), (44, some 9), (51, some 16)]⟩ :: ⟨some (IsV (α := (List RegionStrip)) ([(⟨x306_4, x306_8, x306_16⟩ : RegionStrip)])), [(52, some 17)]⟩ :: []) hmix hs (by kernel_rfl) ⟨ob1 rfl fun b q hk hn => ok_moveOA (.inl rfl) (ownAt hn.1 (up i7 hk hn.1)), ob1 rfl fun b q hk hn => ok_move rfl (up i4 hk hn.1), ob1 rfl fun b q hk hn => ok_move rfl (up i8 hk hn.1), ob1 rfl fun b q hk hn => ok_sub rfl hn.1 (isV_int.2 rfl) hx306_3, ob1 rfl fun b q hk hn => ok_indexAddr rfl Try.underlying57 ty3 (IsV.rd hn.1) hn.2.1 hx306_4, ob1 rfl fun b q hk hn => ok_load rfl ty3 hn.1, ob1 rfl fun b q hk hn => ok_move rfl (up i4 hk hn.1), ob1 rfl fun b q hk hn => ok_move rfl (up i8 hk hn.1), ob1 rfl fun b q hk hn => ok_indexAddr rfl Try.underlying57 ty3 (IsV.rd hn.1) hn.2.1 hx306_8, ob1 rfl fun b q hk hn => ok_load rfl ty3 hn.1, ob1 rfl fun b q hk hn => ok_move rfl (up i3 hk hn.1), ob1 rfl fun b q hk hn => ok_move rfl (up i4 hk hn.1), ob1 rfl fun b q hk hn => ok_move rfl (up i8 hk hn.1), ob1 rfl fun b q hk hn => ok_sub rfl hn.1 (isV_int.2 rfl) hx306_13, ob1 rfl fun b q hk hn => ok_indexAddr rfl Try.underlying57 ty3 (IsV.rd hn.1) hn.2.1 hx306_14, ob1 rfl fun b q hk hn => ok_load rfl ty3 hn.1, ob1 rfl fun b q hk hn => ok_call rfl Try.call61 (region_column_ok hn.1 hn.2.1 hx306_16), ob1 rfl fun b q hk hn => ok_build rfl (bld85_0_1_2 hn.1 hn.2.1 hn.2.2.1), ob1 rfl fun b q hk hn => ok_buildSlice rfl Try.underlying69 eo85 rfl (by decide) (by decide) ⟨rfl, hn.1, trivial⟩, trivial⟩ hQQ310 fun b q p => ?_
    have hgq := hg.then p.grow
    have hsb := p.size.trans hs
    have hdb := p.defers.trans hd
    have j3 := p.ke 3 rfl i3
    have j4 := p.ke 4 rfl i4
    have j8 := p.ke 8 rfl i8
    have e35 : b.get 35 = a.get 7 := (p.ou 0 35 rfl).1
    have j35 : IsOwn 0 85 s301.1 (b.get 35) q := (p.ou 0 35 rfl).2
    have y35 : Lo k0 (obF (b.get 35)) := by rw [e35]; exact n7
    have j53 : (IsV (α := (List RegionStrip)) ([(⟨x306_4, x306_8, x306_16⟩ : RegionStrip)])) (b.get 53) q := p.ou 18 53 rfl
    have hns := j35.nshF
    refine tail_appendS (i := 19) (d := 54) rfl rfl rfl rfl (by rw [hsb]; decide) (e := 85) Try.underlying69 eo85 j35 (IsV.rd j53) hx306_19 fun b2 q2 hsz hdf hoth hch hown hob => ?_
    have hle := hch.le hns
    have yn : Lo k0 (obF (b2.get 54)) := y35.app hgq hob
    replace j3 := Pers.pers hle j3
    replace j4 := Pers.pers hle j4
    replace j8 := Pers.pers hle j8
    replace j53 := Pers.pers hle j53
    replace hgq := hgq.step hch y35.wr
    rw [← hoth 3 (by decide)] at j3
    rw [← hoth 4 (by decide)] at j4
    rw [← hoth 8 (by decide)] at j8
    rw [← hoth 53 (by decide)] at j53
    have j54 := hown
    have y54 := yn
    replace hsb := hsz.trans hsb
    replace hdb := hdf.trans hdb
    clear hle hch hown hob hns yn hsz hdf hoth
    obtain ⟨b, hbb⟩ : ∃ b, b = b2 := ⟨b2, rfl⟩
    subst hbb
    obtain ⟨q, hqq⟩ : ∃ q, q = q2 := ⟨q2, rfl⟩
    subst hqq
    refine tail_assign (i := 20) (d := 7) rfl rfl (.inl rfl) rfl (by rw [hsb]; decide) fun b2 hsz hdf hnew hoth => ?_
    have jn : (IsOwn 0 85 x306_19) (b2.get 7) q := by rw [hnew]; exact j54
    have yn : Lo k0 (obF (b2.get 7)) := by rw [hnew]; exact y54
    rw [← hoth 3 (by decide)] at j3
    rw [← hoth 4 (by decide)] at j4
    rw [← hoth 8 (by decide)] at j8
    rw [← hoth 53 (by decide)] at j53
    have j7 := jn
    have y7 := yn
    replace hsb := hsz.trans hsb
    replace hdb := hdf.trans hdb
    clear hsz hdf hoth
    obtain ⟨b, hbb⟩ : ∃ b, b = b2 := ⟨b2, rfl⟩
    subst hbb
    exact tail_done (k := q) (hp311 _ _ ⟨⟨hgq, hsb, hdb⟩, j3, j4, j7, y7, j8, trivial⟩)
   rintro a k ⟨⟨hg, hs, hd⟩, i3, i4, i7, n7, i8, _⟩
   obtain ⟨x307_1, hx307_1, hr⟩ := bind_some hr
   refine cut (fun a' k' => Bs noF k0 56 a' k' ∧ (IsV x274_1) (a'.get 3) k' ∧ (IsV x297_1) (a'.get 4) k' ∧ IsOwn 0 85 x306_19 (a'.get 7) k' ∧ Lo k0 (obF (a'.get 7)) ∧ (IsV x307_1) (a'.get 8) k' ∧ True) ?_ hQ ?_
   ·intro Q308 hQQ308 hp309
    refine gS 3 (_ :: _ :: _ :: []) hs (by kernel_rfl) ⟨mu rfl i8, o1 [(33, some 0)] rfl fun _ _ h n => ok_add rfl n.1 (cI rfl) hx307_1, cp 1 rfl rfl, trivial⟩ hQQ308 fun b q p => ?_
    exact tail_done (k := q) (hp309 _ _ ⟨Bs.post ⟨hg, hs, hd⟩ p, p.ke 3 rfl i3, p.ke 4 rfl i4, p.ke 7 rfl i7, (by rw [p.old 7 rfl]; exact n7), p.ou 2 8 rfl, trivial⟩)
   rintro a k ⟨⟨hg, hs, hd⟩, i3, i4, i7, n7, i8, _⟩
   exact hgo302 _ _ _ (Option.some.inj hr).symm ⟨⟨hg, hs, hd⟩, i3, i4, i7, n7, i8, trivial⟩
  rw [if_neg (by rw [hc312]; decide)] at hr
  refine wp_exit ?_
  exact hex303 _ _ _ _ (Option.some.inj hr).symm ⟨rfl, ⟨hg, hs, hd⟩, i7, n7, trivial⟩
 ·rintro r320 a k rfl hR
  dsimp only at hr
  obtain rfl := Option.some.inj hr
  exact hR
 ·rintro _ _ _ rfl _
  simp at hr
 clear hf315
 rintro _ s316 a k rfl ⟨rfl, ⟨hg, hs, hd⟩, i7, n7, _⟩
 dsimp only at hr
 refine cutS (fun a' k' => Bs noF k0 56 a' k' ∧ IsOwn 0 85 s316.1 (a'.get 2) k' ∧ Lo k0 (obF (a'.get 2)) ∧ True) ?_ ?_
 ·intro Q318 hQQ318 hp319
  refine gS 2 (⟨some (OwnAt (a.get 7) 0 85 s316.1), [(7, none)]⟩ :: ⟨some (OwnAt (a.get 7) 0 85 s316.1), [(55, some 0)]⟩ :: []) hs (by kernel_rfl) ⟨ob1 rfl fun _ _ h n => ok_moveOA (.inl rfl) (ownAt n.1 (up i7 h n.1)), ob1 rfl fun _ _ h n => ok_moveOA (.inr rfl) n.1, trivial⟩ hQQ318 fun b q p => ?_
  have hgq := hg.then p.grow
  have hsb := p.size.trans hs
  have hdb := p.defers.trans hd
  have e2 : b.get 2 = a.get 7 := (p.ou 1 2 rfl).1
  have j2 : IsOwn 0 85 s316.1 (b.get 2) q := (p.ou 1 2 rfl).2
  have y2 : Lo k0 (obF (b.get 2)) := by rw [e2]; exact n7
  exact tail_done (k := q) (hp319 _ _ ⟨⟨hgq, hsb, hdb⟩, j2, y2, trivial⟩)
 rintro a k ⟨⟨hg, hs, hd⟩, i2, n2, _⟩
 refine wp_ret ?_
 obtain rfl := Option.some.inj hr
 exact retC1 rfl hd hg (show ResOk _ _ _ (.tmp 2) _ from IsOwn.raise (k0 := k0) i2 n2)
theorem region_strips_ok {k0 : K} {v0 : Value} {lists_ : (List (List Rect))} {r : (List RegionStrip)} (i0 : (IsV lists_) v0 k0) (hr : region_strips lists_ = some r) :
  Calls Try.prog 46 #[v0] k0.w (Ret k0 (IsV r)) :=
 ret_give (region_strips_okO i0 hr)
def slices_Equal_span_L0 (s1_ : (List RegionSpan)) (s2_ : (List RegionSpan)) (s346 : Int) : Option (Flow (Int) (Bool)) :=
 if (decide (s346 < (s1_.length : Int))) then
  (getI s1_ s346).bind fun x352_2 =>
  (getI s2_ s346).bind fun x352_6 =>
  if (!decide (x352_2 = x352_6)) then
   some (.ret false)
  else
   (addI s346 1).bind fun x356_0 =>
   some (.go x356_0)
 else
  some (.ex 0 s346)
def slices_Equal_span (s1_ : (List RegionSpan)) (s2_ : (List RegionSpan)) : Option (Bool) :=
 if ((s1_.length : Int) != (s2_.length : Int)) then
  some false
 else
  (iterL (slices_Equal_span_L0 s1_ s2_) (s1_.length + 1) 0).bind fun f367 => match f367 with
   | .go _ => none
   | .ex _ _ =>
    some true
   | .ret r372 => some r372
theorem slices_Equal_span_ok {k0 : K} {v0 v1 : Value} {s1_ : (List RegionSpan)} {s2_ : (List RegionSpan)} {r : Bool} (i0 : (IsV s1_) v0 k0) (i1 : (IsV s2_) v1 k0) (hr : slices_Equal_span s1_ s2_ = some r) :
  Calls Try.prog 59 #[v0, v1] k0.w (Ret k0 (IsV r)) := by
 unfold slices_Equal_span at hr
 refine Ret.ofC ?_
 refine enterK Try.func59 rfl Try.ntmps59 (show 2 ≤ 26 by decide) fun a k hk0 hs hd ha => ?_
 obtain ⟨e0, e1, _⟩ := ha
 replace i0 : (IsV s1_) (a.get 0) k := by rw [e0, hk0]; exact i0
 replace i1 : (IsV s2_) (a.get 1) k := by rw [e1, hk0]; exact i1
 have hQ : Gb.LetsOut (bodyPost Try.prog Try.f59 (RetC noF k0 (IsV r))) := letsOutC
 have hg : Chg noF k0 k := by rw [hk0]; exact Chg.refl _ k0
 refine stepL 1 (⟨some (IsV false), []⟩ :: []) rfl ⟨hg, hs, hd⟩ (by kernel_rfl) ⟨ob1 rfl fun _ _ h n => ok_assign rfl (isV_bool.2 rfl), trivial⟩ [⟨_, _⟩, ⟨_, _⟩] (fun b q p => ⟨p.ke 0 rfl i0, p.ke 1 rfl i1, trivial⟩) ?_
 rintro a k ⟨⟨hg, hs, hd⟩, i0, i1, _⟩
 refine wp_seq ?_
 refine stepL 5 (_ :: _ :: _ :: _ :: ⟨some (IsV ((s1_.length : Int) != (s2_.length : Int))), [(7, some 1), (9, some 3)]⟩ :: []) rfl ⟨hg, hs, hd⟩ (by kernel_rfl) ⟨mu rfl i0, o1 [(6, some 0)] rfl fun _ _ h n => ok_len rfl rfl Try.underlying81 (IsV.rd n.1), mu rfl i1, o1 [(8, some 2)] rfl fun _ _ h n => ok_len rfl rfl Try.underlying81 (IsV.rd n.1), ob1 rfl fun _ _ h n => ok_neI rfl n.1 n.2.1, trivial⟩ [⟨_, _⟩, ⟨_, _⟩, ⟨_, _⟩] (fun b q p => ⟨p.ke 0 rfl i0, p.ke 1 rfl i1, p.ou 4 10 rfl, trivial⟩) ?_
 rintro a k ⟨⟨hg, hs, hd⟩, i0, i1, i10, _⟩
 refine wp_cond_split (isBool i10) (fun hc376 => ?_) (fun hc376 => ?_)
 ·rw [if_pos hc376] at hr
  refine stepL 1 (⟨some (IsV false), []⟩ :: []) rfl ⟨hg, hs, hd⟩ (by kernel_rfl) ⟨ob1 rfl fun _ _ h n => ok_assign rfl (isV_bool.2 rfl), trivial⟩ [⟨_, _⟩] (fun b q p => ⟨p.ou 0 4 rfl, trivial⟩) ?_
  rintro a k ⟨⟨hg, hs, hd⟩, i4, _⟩
  refine wp_ret ?_
  obtain rfl := Option.some.inj hr
  exact retC1 rfl hd hg i4
 rw [if_neg (by rw [hc376]; decide)] at hr
 refine wp_skip ?_
 refine wp_seq ?_
 refine stepL 3 (_ :: _ :: ⟨some (IsI 0), []⟩ :: []) rfl ⟨hg, hs, hd⟩ (by kernel_rfl) ⟨mu rfl i0, o1 [(11, some 0)] rfl fun _ _ h n => ok_len rfl rfl Try.underlying81 (IsV.rd n.1), ob1 rfl fun _ _ h n => ok_move rfl (cI rfl), trivial⟩ [⟨_, _⟩, ⟨_, _⟩, ⟨_, _⟩, ⟨_, _⟩] (fun b q p => ⟨p.ke 0 rfl i0, p.ke 1 rfl i1, p.ou 1 12 rfl, p.ou 2 13 rfl, trivial⟩) ?_
 rintro a k ⟨⟨hg, hs, hd⟩, i0, i1, i12, i13, _⟩
 refine wp_block ?_
 obtain ⟨f367, hf367, hr⟩ := bind_some hr
 refine cutFe f367 (fun s' a' k' => Bs noF k0 26 a' k' ∧ (IsV s1_) (a'.get 0) k' ∧ (IsV s2_) (a'.get 1) k' ∧ (IsL s1_) (a'.get 12) k' ∧ (IsV s') (a'.get 13) k' ∧ True) (fun i' s' a' k' => (i' = 0 ∧ Bs noF k0 26 a' k' ∧ True)) (fun r' a' k' => bodyPost Try.prog Try.f59 (RetC noF k0 (IsV r')) .ret a' k'.w) ?_ hQ ?_ ?_ ?_
 ·intro Q373 hQQ373 hgo hex hret
  refine sim_loop ?_ _ _ _ _ _ hf367 ⟨⟨hg, hs, hd⟩, i0, i1, i12, i13, trivial⟩ Q373 hQQ373 hgo hex hret
  clear hr hf367 hgo hex hret hQQ373 hQ hg hs hd i0 i1 i12 i13
  intro s346 fl_ a k hr hS Q hQ hgo347 hex348 hret349
  obtain ⟨⟨hg, hs, hd⟩, i0, i1, i12, i13, _⟩ := hS
  unfold slices_Equal_span_L0 at hr
  refine stepL 1 (_ :: []) rfl ⟨hg, hs, hd⟩ (by kernel_rfl) ⟨o1 [(13, none), (12, none)] rfl fun _ _ h n => ok_lss rfl (up i13 h n.1) (up i12 h n.2.1), trivial⟩ [⟨_, _⟩, ⟨_, _⟩, ⟨_, _⟩, ⟨_, _⟩, ⟨_, _⟩] (fun b q p => ⟨p.ke 0 rfl i0, p.ke 1 rfl i1, p.ke 12 rfl i12, p.ke 13 rfl i13, p.ou 0 14 rfl, trivial⟩) ?_
  rintro a k ⟨⟨hg, hs, hd⟩, i0, i1, i12, i13, i14, _⟩
  refine wp_seq ?_
  refine wp_cond_split (isBool i14) (fun hc364 => ?_) (fun hc364 => ?_)
  ·rw [if_pos hc364] at hr
   refine wp_skip ?_
   refine wp_seq ?_
   refine wp_block ?_
   refine stepL 2 (_ :: _ :: []) rfl ⟨hg, hs, hd⟩ (by kernel_rfl) ⟨mu rfl i13, cp 0 rfl rfl, trivial⟩ [⟨_, _⟩, ⟨_, _⟩, ⟨_, _⟩, ⟨_, _⟩, ⟨_, _⟩] (fun b q p => ⟨p.ke 0 rfl i0, p.ke 1 rfl i1, p.ou 1 5 rfl, p.ke 12 rfl i12, p.ke 13 rfl i13, trivial⟩) ?_
   rintro a k ⟨⟨hg, hs, hd⟩, i0, i1, i5, i12, i13, _⟩
   refine wp_seq ?_
   obtain ⟨x352_2, hx352_2, hr⟩ := bind_some hr
   obtain ⟨x352_6, hx352_6, hr⟩ := bind_some hr
   refine cut (fun a' k' => Bs noF k0 26 a' k' ∧ (IsV s1_) (a'.get 0) k' ∧ (IsV s2_) (a'.get 1) k' ∧ (IsL s1_) (a'.get 12) k' ∧ (IsV s346) (a'.get 13) k' ∧ (IsV (!decide (x352_2 = x352_6))) (a'.get 24) k' ∧ True) ?_ hQ ?_
   ·intro Q360 hQQ360 hp361
    refine region (a0 := a) (k0 := k) (n := 26) (m := 9) (⟨some (IsV s1_), [(0, none)]⟩ :: ⟨some (IsV s346), [(5, none)]⟩ :: ⟨some (IsPtr x352_2), [(16, some 0), (17, some 1)]⟩ :: ⟨some (IsV x352_2), [(18, some 2)]⟩ :: ⟨some (IsV s2_), [(1, none)]⟩ :: ⟨some (IsV s346), [(5, none)]⟩ :: ⟨some (IsPtr x352_6), [(20, some 4), (21, some 5)]⟩ :: ⟨some (IsV x352_6), [(22, some 6)]⟩ :: ⟨some (IsV (!decide (x352_2 = x352_6))), [(19, some 3), (23, some 7)]⟩ :: []) hmix hs (by kernel_rfl) ⟨ob1 rfl fun b q hk hn => ok_move rfl (up i0 hk hn.1), ob1 rfl fun b q hk hn => ok_move rfl (up i5 hk hn.1), ob1 rfl fun b q hk hn => ok_indexAddr rfl Try.underlying81 ty83 (IsV.rd hn.1) hn.2.1 hx352_2, ob1 rfl fun b q hk hn => ok_load rfl ty83 hn.1, ob1 rfl fun b q hk hn => ok_move rfl (up i1 hk hn.1), ob1 rfl fun b q hk hn => ok_move rfl (up i5 hk hn.1), ob1 rfl fun b q hk hn => ok_indexAddr rfl Try.underlying81 ty83 (IsV.rd hn.1) hn.2.1 hx352_6, ob1 rfl fun b q hk hn => ok_load rfl ty83 hn.1, ob1 rfl fun b q hk hn => ok_neA rfl eq83 hn.1 hn.2.1, trivial⟩ hQQ360 fun b q p => ?_
    exact tail_done (k := q) (hp361 _ _ ⟨Bs.post ⟨hg, hs, hd⟩ p, p.ke 0 rfl i0, p.ke 1 rfl i1, p.ke 12 rfl i12, p.ke 13 rfl i13, p.ou 8 24 rfl, trivial⟩)
   rintro a k ⟨⟨hg, hs, hd⟩, i0, i1, i12, i13, i24, _⟩
   refine wp_cond_split (isBool i24) (fun hc359 => ?_) (fun hc359 => ?_)
   ·rw [if_pos hc359] at hr
    refine stepL 1 (⟨some (IsV false), []⟩ :: []) rfl ⟨hg, hs, hd⟩ (by kernel_rfl) ⟨ob1 rfl fun _ _ h n => ok_assign rfl (isV_bool.2 rfl), trivial⟩ [⟨_, _⟩] (fun b q p => ⟨p.ou 0 4 rfl, trivial⟩) ?_
    rintro a k ⟨⟨hg, hs, hd⟩, i4, _⟩
    refine wp_ret ?_
    exact hret349 _ _ _ (Option.some.inj hr).symm (retC1 rfl hd hg i4)
   rw [if_neg (by rw [hc359]; decide)] at hr
   refine wp_skip ?_
   obtain ⟨x356_0, hx356_0, hr⟩ := bind_some hr
   refine cut (fun a' k' => Bs noF k0 26 a' k' ∧ (IsV s1_) (a'.get 0) k' ∧ (IsV s2_) (a'.get 1) k' ∧ (IsL s1_) (a'.get 12) k' ∧ (IsV x356_0) (a'.get 13) k' ∧ True) ?_ hQ ?_
   ·intro Q357 hQQ357 hp358
    refine gS 2 (_ :: _ :: []) hs (by kernel_rfl) ⟨o1 [(13, none)] rfl fun _ _ h n => ok_add rfl (up i13 h n.1) (cI rfl) hx356_0, cm 0 rfl rfl, trivial⟩ hQQ357 fun b q p => ?_
    exact tail_done (k := q) (hp358 _ _ ⟨Bs.post ⟨hg, hs, hd⟩ p, p.ke 0 rfl i0, p.ke 1 rfl i1, p.ke 12 rfl i12, p.ou 1 13 rfl, trivial⟩)
   rintro a k ⟨⟨hg, hs, hd⟩, i0, i1, i12, i13, _⟩
   exact hgo347 _ _ _ (Option.some.inj hr).symm ⟨⟨hg, hs, hd⟩, i0, i1, i12, i13, trivial⟩
  rw [if_neg (by rw [hc364]; decide)] at hr
  refine wp_exit ?_
  exact hex348 _ _ _ _ (Option.some.inj hr).symm ⟨rfl, ⟨hg, hs, hd⟩, trivial⟩
 ·rintro r372 a k rfl hR
  dsimp only at hr
  obtain rfl := Option.some.inj hr
  exact hR
 ·rintro _ _ _ rfl _
  simp at hr
 clear hf367
 rintro _ s368 a k rfl ⟨rfl, ⟨hg, hs, hd⟩, _⟩
 dsimp only at hr
 refine stepL 1 (⟨some (IsV true), []⟩ :: []) rfl ⟨hg, hs, hd⟩ (by kernel_rfl) ⟨ob1 rfl fun _ _ h n => ok_assign rfl (isV_bool.2 rfl), trivial⟩ [⟨_, _⟩] (fun b q p => ⟨p.ou 0 4 rfl, trivial⟩) ?_
 rintro a k ⟨⟨hg, hs, hd⟩, i4, _⟩
 refine wp_ret ?_
 obtain rfl := Option.some.inj hr
 exact retC1 rfl hd hg i4
def region_write_L1 (l_ : (List RegionStrip)) (s384 : (List Rect) × Int) (s390 : Int) : Option (Flow (Int) ((List Rect))) :=
 (if (decide (s390 < (l_.length : Int))) then
  (getI l_ s390).bind fun x394_7 =>
  (getI l_ s384.2).bind fun x394_12 =>
  (slices_Equal_span x394_7.column x394_12.column).bind fun x394_15 =>
  some x394_15
 else
  some false).bind fun x394_16 =>
 if x394_16 then
  (addI s390 1).bind fun x395_1 =>
  some (.go x395_1)
 else
  some (.ex 2 s390)
def region_write_L2 (l_ : (List RegionStrip)) (s384 : (List Rect) × Int) (s402 : Int) (x403_2 : RegionStrip) (s404 : (List Rect) × Int) : Option (Flow ((List Rect) × Int) ((List Rect))) :=
 if (decide (s404.2 < (x403_2.column.length : Int))) then
  (getI x403_2.column s404.2).bind fun x409_0 =>
  (getI l_ s384.2).bind fun x410_3 =>
  (subI s402 1).bind fun x410_10 =>
  (getI l_ x410_10).bind fun x410_11 =>
  (appI s404.1 ([(⟨x410_3.x0, x409_0.from_, x410_11.x1, x409_0.to_⟩ : Rect)])).bind fun x410_18 =>
  (addI s404.2 1).bind fun x411_0 =>
  some (.go (x410_18, x411_0))
 else
  some (.ex 4 (s404.1, s404.2))
def region_write_L0 (l_ : (List RegionStrip)) (s384 : (List Rect) × Int) : Option (Flow ((List Rect) × Int) ((List Rect))) :=
 if (decide (s384.2 < (l_.length : Int))) then
  (addI s384.2 1).bind fun x389_1 =>
  (iterL (region_write_L1 l_ s384) (l_.length + s384.1.length + 1) x389_1).bind fun f401 => match f401 with
   | .go _ => none
   | .ex _ s402 =>
    (getI l_ s384.2).bind fun x403_2 =>
    (iterL (region_write_L2 l_ s384 s402 x403_2) (x403_2.column.length + 1) (s384.1, 0)).bind fun f421 => match f421 with
     | .go _ => none
     | .ex _ s422 =>
      some (.go (s422.1, s402))
     | .ret r426 => some (.ret r426)
   | .ret r430 => some (.ret r430)
 else
  some (.ex 0 (s384.1, s384.2))
def region_write (l_ : (List RegionStrip)) : Option ((List Rect)) :=
 (iterL (region_write_L0 l_) (l_.length + ([] : List Rect).length + 1) (([] : List Rect), 0)).bind fun f438 => match f438 with
  | .go _ => none
  | .ex _ s439 =>
   some s439.1
  | .ret r443 => some r443
theorem region_write_ok {k0 : K} {v0 : Value} {l_ : (List RegionStrip)} {r : (List Rect)} (i0 : (IsV l_) v0 k0) (hr : region_write l_ = some r) :
  Calls Try.prog 45 #[v0] k0.w (Ret k0 (IsV r)) := by
 unfold region_write at hr
 refine Ret.ofC ?_
 refine enterK Try.func45 rfl Try.ntmps45 (show 1 ≤ 65 by decide) fun a k hk0 hs hd ha => ?_
 obtain ⟨e0, _⟩ := ha
 replace i0 : (IsV l_) (a.get 0) k := by rw [e0, hk0]; exact i0
 have hQ : Gb.LetsOut (bodyPost Try.prog Try.f45 (RetC noF k0 (IsV r))) := letsOutC
 have hg : Chg noF k0 k := by rw [hk0]; exact Chg.refl _ k0
 refine stepL 1 (⟨some IsE0, []⟩ :: []) rfl ⟨hg, hs, hd⟩ (by kernel_rfl) ⟨ob1 rfl fun b q h n => ok_assign rfl isE0_nil, trivial⟩ [⟨_, _⟩] (fun b q p => ⟨p.ke 0 rfl i0, trivial⟩) ?_
 rintro a k ⟨⟨hg, hs, hd⟩, i0, _⟩
 refine cutS (fun a' k' => Bs noF k0 65 a' k' ∧ (IsV l_) (a'.get 0) k' ∧ IsOwn 0 30 ([] : List Rect) (a'.get 3) k' ∧ Lo k0 (obF (a'.get 3)) ∧ True) ?_ ?_
 ·intro Q447 hQQ447 hp448
  refine gS 1 (⟨some IsE0, []⟩ :: []) hs (by kernel_rfl) ⟨ob1 rfl fun b q h n => ok_assign rfl isE0_nil, trivial⟩ hQQ447 fun b q p => ?_
  have hgq := hg.then p.grow
  have hsb := p.size.trans hs
  have hdb := p.defers.trans hd
  have j0 := p.ke 0 rfl i0
  have j3 : IsE0 (b.get 3) q := p.ou 0 3 rfl
  have y3 : Lo k0 (obF (b.get 3)) := j3.lo
  replace j3 : IsOwn 0 30 ([] : List Rect) (b.get 3) q := j3.own0
  exact tail_done (k := q) (hp448 _ _ ⟨⟨hgq, hsb, hdb⟩, j0, j3, y3, trivial⟩)
 rintro a k ⟨⟨hg, hs, hd⟩, i0, i3, n3, _⟩
 refine wp_seq ?_
 refine cutS (fun a' k' => Bs noF k0 65 a' k' ∧ (IsV l_) (a'.get 0) k' ∧ IsOwn 0 30 ([] : List Rect) (a'.get 3) k' ∧ Lo k0 (obF (a'.get 3)) ∧ (IsI 0) (a'.get 4) k' ∧ True) ?_ ?_
 ·intro Q445 hQQ445 hp446
  refine gS 1 (⟨some (IsI 0), []⟩ :: []) hs (by kernel_rfl) ⟨aI rfl rfl, trivial⟩ hQQ445 fun b q p => ?_
  exact tail_done (k := q) (hp446 _ _ ⟨Bs.post ⟨hg, hs, hd⟩ p, p.ke 0 rfl i0, p.ke 3 rfl i3, (by rw [p.old 3 rfl]; exact n3), p.ou 0 4 rfl, trivial⟩)
 rintro a k ⟨⟨hg, hs, hd⟩, i0, i3, n3, i4, _⟩
 refine wp_block ?_
 obtain ⟨f438, hf438, hr⟩ := bind_some hr
 refine cutFe f438 (fun s' a' k' => Bs noF k0 65 a' k' ∧ (IsV l_) (a'.get 0) k' ∧ IsOwn 0 30 s'.1 (a'.get 3) k' ∧ Lo k0 (obF (a'.get 3)) ∧ (IsV s'.2) (a'.get 4) k' ∧ True) (fun i' s' a' k' => (i' = 0 ∧ Bs noF k0 65 a' k' ∧ (IsV s'.1) (a'.get 3) k' ∧ True)) (fun r' a' k' => bodyPost Try.prog Try.f45 (RetC noF k0 (IsV r')) .ret a' k'.w) ?_ hQ ?_ ?_ ?_
 ·intro Q444 hQQ444 hgo hex hret
  refine sim_loop ?_ _ _ _ _ _ hf438 ⟨⟨hg, hs, hd⟩, i0, i3, n3, i4, trivial⟩ Q444 hQQ444 hgo hex hret
  clear hr hf438 hgo hex hret hQQ444 hQ hg hs hd i0 i3 i4 n3
  intro s384 fl_ a k hr hS Q hQ hgo385 hex386 hret387
  obtain ⟨⟨hg, hs, hd⟩, i0, i3, n3, i4, _⟩ := hS
  unfold region_write_L0 at hr
  refine wp_seq ?_
  refine cutS (fun a' k' => Bs noF k0 65 a' k' ∧ (IsV l_) (a'.get 0) k' ∧ IsOwn 0 30 s384.1 (a'.get 3) k' ∧ Lo k0 (obF (a'.get 3)) ∧ (IsV s384.2) (a'.get 4) k' ∧ (IsV (decide (s384.2 < (l_.length : Int)))) (a'.get 11) k' ∧ True) ?_ ?_
  ·intro Q436 hQQ436 hp437
   refine gS 4 (_ :: _ :: _ :: _ :: []) hs (by kernel_rfl) ⟨mu rfl i4, mu rfl i0, o1 [(9, some 1)] rfl fun _ _ h n => ok_len rfl rfl Try.underlying69 (IsV.rd n.1), o1 [(8, some 0), (10, some 2)] rfl fun _ _ h n => ok_lss rfl n.1 n.2.1, trivial⟩ hQQ436 fun b q p => ?_
   exact tail_done (k := q) (hp437 _ _ ⟨Bs.post ⟨hg, hs, hd⟩ p, p.ke 0 rfl i0, p.ke 3 rfl i3, (by rw [p.old 3 rfl]; exact n3), p.ke 4 rfl i4, p.ou 3 11 rfl, trivial⟩)
  rintro a k ⟨⟨hg, hs, hd⟩, i0, i3, n3, i4, i11, _⟩
  refine wp_cond_split (isBool i11) (fun hc435 => ?_) (fun hc435 => ?_)
  ·rw [if_pos hc435] at hr
   refine wp_skip ?_
   refine wp_block ?_
   refine wp_seq ?_
   obtain ⟨x389_1, hx389_1, hr⟩ := bind_some hr
   refine cut (fun a' k' => Bs noF k0 65 a' k' ∧ (IsV l_) (a'.get 0) k' ∧ IsOwn 0 30 s384.1 (a'.get 3) k' ∧ Lo k0 (obF (a'.get 3)) ∧ (IsV s384.2) (a'.get 4) k' ∧ (IsV x389_1) (a'.get 5) k' ∧ True) ?_ hQ ?_
   ·intro Q432 hQQ432 hp433
    refine gS 3 (_ :: _ :: _ :: []) hs (by kernel_rfl) ⟨mu rfl i4, o1 [(12, some 0)] rfl fun _ _ h n => ok_add rfl n.1 (cI rfl) hx389_1, cp 1 rfl rfl, trivial⟩ hQQ432 fun b q p => ?_
    exact tail_done (k := q) (hp433 _ _ ⟨Bs.post ⟨hg, hs, hd⟩ p, p.ke 0 rfl i0, p.ke 3 rfl i3, (by rw [p.old 3 rfl]; exact n3), p.ke 4 rfl i4, p.ou 2 5 rfl, trivial⟩)
   rintro a k ⟨⟨hg, hs, hd⟩, i0, i3, n3, i4, i5, _⟩
   refine wp_seq ?_
   refine wp_block ?_
   obtain ⟨f401, hf401, hr⟩ := bind_some hr
   refine cutFe f401 (fun s' a' k' => Bs noF k0 65 a' k' ∧ (IsV l_) (a'.get 0) k' ∧ IsOwn 0 30 s384.1 (a'.get 3) k' ∧ Lo k0 (obF (a'.get 3)) ∧ (IsV s384.2) (a'.get 4) k' ∧ (IsV s') (a'.get 5) k' ∧ True) (fun i' s' a' k' => (i' = 2 ∧ Bs noF k0 65 a' k' ∧ (IsV l_) (a'.get 0) k' ∧ IsOwn 0 30 s384.1 (a'.get 3) k' ∧ Lo k0 (obF (a'.get 3)) ∧ (IsV s384.2) (a'.get 4) k' ∧ (IsV s') (a'.get 5) k' ∧ True)) (fun r' a' k' => bodyPost Try.prog Try.f45 (RetC noF k0 (IsV r')) .ret a' k'.w) ?_ hQ ?_ ?_ ?_
   ·intro Q431 hQQ431 hgo hex hret
    refine sim_loop ?_ _ _ _ _ _ hf401 ⟨⟨hg, hs, hd⟩, i0, i3, n3, i4, i5, trivial⟩ Q431 hQQ431 hgo hex hret
    clear hr hf401 hgo hex hret hQQ431 hQ hg hs hd i0 i3 i4 i5 n3
    intro s390 fl_ a k hr hS Q hQ hgo391 hex392 hret393
    obtain ⟨⟨hg, hs, hd⟩, i0, i3, n3, i4, i5, _⟩ := hS
    unfold region_write_L1 at hr
    refine wp_seq ?_
    refine wp_seq ?_
    obtain ⟨x394_16, hx394_16, hr⟩ := bind_some hr
    obtain ⟨x394_7, hx394_7, hx394_16⟩ := ite_bind hx394_16
    obtain ⟨x394_12, hx394_12, hx394_16⟩ := ite_bind hx394_16
    obtain ⟨x394_15, hx394_15, hx394_16⟩ := ite_bind hx394_16
    refine cut (fun a' k' => Bs noF k0 65 a' k' ∧ (IsV l_) (a'.get 0) k' ∧ IsOwn 0 30 s384.1 (a'.get 3) k' ∧ Lo k0 (obF (a'.get 3)) ∧ (IsV s384.2) (a'.get 4) k' ∧ (IsV s390) (a'.get 5) k' ∧ (IsV x394_16) (a'.get 30) k' ∧ True) ?_ hQ ?_
    ·intro Q399 hQQ399 hp400
     refine region (a0 := a) (k0 := k) (n := 65) (m := 17) (⟨some (IsV s390), [(5, none)]⟩ :: ⟨some (IsV l_), [(0, none)]⟩ :: ⟨some (IsL l_), [(15, some 1)]⟩ :: ⟨some (IsV (decide (s390 < (l_.length : Int)))), [(14, some 0), (16, some 2)]⟩ :: ⟨some (IsV (decide (s390 < (l_.length : Int)))), [(17, some 3)]⟩ :: ⟨some (Gd ((decide (s390 < (l_.length : Int))) = true) (IsV l_)), [(0, none)]⟩ :: ⟨some (Gd ((decide (s390 < (l_.length : Int))) = true) (IsV s390)), [(5, none)]⟩ :: ⟨some (Gd ((decide (s390 < (l_.length : Int))) = true) (IsPtr x394_7)), [(19, some 5), (20, some 6)]⟩ :: ⟨some (Gd ((decide (s390 < (l_.length : Int))) = true) (IsPtr x394_7.column)), [(21, some 7)]⟩ :: ⟨some (Gd ((decide (s390 < (l_.length : Int))) = true) (IsV x394_7.column)), [(22, some 8)]⟩ :: ⟨some (Gd ((decide (s390 < (l_.length : Int))) = true) (IsV l_)), [(0, none)]⟩ :: ⟨some (Gd ((decide (s390 < (l_.length : Int))) = true) (IsV s384.2)), [(4, none)]⟩ :: ⟨some (Gd ((decide (s390 < (l_.length : Int))) = true) (IsPtr x394_12)), [(24, some 10), (25, some 11)]⟩ :: ⟨some (Gd ((decide (s390 < (l_.length : Int))) = true) (IsPtr x394_12.column)), [(26, some 12)]⟩ :: ⟨some (Gd ((decide (s390 < (l_.length : Int))) = true) (IsV x394_12.column)), [(27, some 13)]⟩ :: ⟨some (Gd ((decide (s390 < (l_.length : Int))) = true) (IsV x394_15)), [(23, some 9), (28, some 14)]⟩ :: ⟨some (IsV x394_16), [(18, some 4), (29, some 15)]⟩ :: []) hmix hs (by kernel_rfl) ⟨ob1 rfl fun b q hk hn => ok_move rfl (up i5 hk hn.1), ob1 rfl fun b q hk hn => ok_move rfl (up i0 hk hn.1), ob1 rfl fun b q hk hn => ok_len rfl rfl Try.underlying69 (IsV.rd hn.1), ob1 rfl fun b q hk hn => ok_lss rfl hn.1 hn.2.1, ob1 rfl fun b q hk hn => ok_move rfl hn.1, gdT rfl rfl fun hp b q hk hn => ok_move rfl (up i0 hk hn.1), gdT rfl rfl fun hp b q hk hn => ok_move rfl (up i5 hk hn.1), gdT rfl rfl fun hp b q hk hn => ok_indexAddr rfl Try.underlying69 ty85 (IsV.rd (Gd.get hn.1 hp)) (Gd.get hn.2.1 hp) (hx394_7 hp), gdT rfl rfl fun hp b q hk hn => ok_fieldAddr rfl fo85_2 (at_RegionStrip_2 _) (Gd.get hn.1 hp), gdT rfl rfl fun hp b q hk hn => ok_load rfl ty81 (Gd.get hn.1 hp), gdT rfl rfl fun hp b q hk hn => ok_move rfl (up i0 hk hn.1), gdT rfl rfl fun hp b q hk hn => ok_move rfl (up i4 hk hn.1), gdT rfl rfl fun hp b q hk hn => ok_indexAddr rfl Try.underlying69 ty85 (IsV.rd (Gd.get hn.1 hp)) (Gd.get hn.2.1 hp) (hx394_12 hp), gdT rfl rfl fun hp b q hk hn => ok_fieldAddr rfl fo85_2 (at_RegionStrip_2 _) (Gd.get hn.1 hp), gdT rfl rfl fun hp b q hk hn => ok_load rfl ty81 (Gd.get hn.1 hp), gdT rfl rfl fun hp b q hk hn => ok_call rfl Try.call59 (slices_Equal_span_ok (Gd.get hn.1 hp) (Gd.get hn.2.1 hp) (hx394_15 hp)), ob1 rfl fun b q hk hn => ok_pickM rfl hn.1 hx394_16 (fun hm => (Gd.get hn.2.1 hm)) (fun _ => (isV_bool.2 rfl)), trivial⟩ hQQ399 fun b q p => ?_
     exact tail_done (k := q) (hp400 _ _ ⟨Bs.post ⟨hg, hs, hd⟩ p, p.ke 0 rfl i0, p.ke 3 rfl i3, (by rw [p.old 3 rfl]; exact n3), p.ke 4 rfl i4, p.ke 5 rfl i5, p.ou 16 30 rfl, trivial⟩)
    rintro a k ⟨⟨hg, hs, hd⟩, i0, i3, n3, i4, i5, i30, _⟩
    refine wp_cond_split (isBool i30) (fun hc398 => ?_) (fun hc398 => ?_)
    ·rw [if_pos hc398] at hr
     refine wp_skip ?_
     refine wp_block ?_
     obtain ⟨x395_1, hx395_1, hr⟩ := bind_some hr
     refine cut (fun a' k' => Bs noF k0 65 a' k' ∧ (IsV l_) (a'.get 0) k' ∧ IsOwn 0 30 s384.1 (a'.get 3) k' ∧ Lo k0 (obF (a'.get 3)) ∧ (IsV s384.2) (a'.get 4) k' ∧ (IsV x395_1) (a'.get 5) k' ∧ True) ?_ hQ ?_
     ·intro Q396 hQQ396 hp397
      refine gS 3 (_ :: _ :: _ :: []) hs (by kernel_rfl) ⟨mu rfl i5, o1 [(31, some 0)] rfl fun _ _ h n => ok_add rfl n.1 (cI rfl) hx395_1, cp 1 rfl rfl, trivial⟩ hQQ396 fun b q p => ?_
      exact tail_done (k := q) (hp397 _ _ ⟨Bs.post ⟨hg, hs, hd⟩ p, p.ke 0 rfl i0, p.ke 3 rfl i3, (by rw [p.old 3 rfl]; exact n3), p.ke 4 rfl i4, p.ou 2 5 rfl, trivial⟩)
     rintro a k ⟨⟨hg, hs, hd⟩, i0, i3, n3, i4, i5, _⟩
     exact hgo391 _ _ _ (Option.some.inj hr).symm ⟨⟨hg, hs, hd⟩, i0, i3, n3, i4, i5, trivial⟩
    rw [if_neg (by rw [hc398]; decide)] at hr
    refine wp_exit ?_
    exact hex392 _ _ _ _ (Option.some.inj hr).symm ⟨rfl, ⟨hg, hs, hd⟩, i0, i3, n3, i4, i5, trivial⟩
   ·rintro r430 a k rfl hR
    dsimp only at hr
    exact hret387 _ _ _ (Option.some.inj hr).symm hR
   ·rintro _ _ _ rfl _
    simp at hr
   clear hf401
   rintro _ s402 a k rfl ⟨rfl, ⟨hg, hs, hd⟩, i0, i3, n3, i4, i5, _⟩
   dsimp only at hr
   refine wp_seq ?_
   refine wp_seq ?_
   obtain ⟨x403_2, hx403_2, hr⟩ := bind_some hr
   refine cut (fun a' k' => Bs noF k0 65 a' k' ∧ (IsV l_) (a'.get 0) k' ∧ IsOwn 0 30 s384.1 (a'.get 3) k' ∧ Lo k0 (obF (a'.get 3)) ∧ (IsV s384.2) (a'.get 4) k' ∧ (IsV s402) (a'.get 5) k' ∧ (IsV x403_2.column) (a'.get 37) k' ∧ (IsI (x403_2.column.length : Int)) (a'.get 38) k' ∧ (IsI 0) (a'.get 39) k' ∧ True) ?_ hQ ?_
   ·intro Q428 hQQ428 hp429
    refine gS 7 (_ :: _ :: _ :: _ :: _ :: _ :: ⟨some (IsI 0), []⟩ :: []) hs (by kernel_rfl) ⟨mu rfl i0, mu rfl i4, o1 [(33, some 0), (34, some 1)] rfl fun _ _ h n => ok_indexAddr rfl Try.underlying69 ty85 (IsV.rd n.1) n.2.1 hx403_2, o1 [(35, some 2)] rfl fun _ _ h n => ok_fieldAddr rfl fo85_2 (at_RegionStrip_2 _) n.1, o1 [(36, some 3)] rfl fun _ _ h n => ok_load rfl ty81 n.1, o1 [(37, some 4)] rfl fun _ _ h n => ok_len rfl rfl Try.underlying81 (IsV.rd n.1), ob1 rfl fun _ _ h n => ok_move rfl (cI rfl), trivial⟩ hQQ428 fun b q p => ?_
    exact tail_done (k := q) (hp429 _ _ ⟨Bs.post ⟨hg, hs, hd⟩ p, p.ke 0 rfl i0, p.ke 3 rfl i3, (by rw [p.old 3 rfl]; exact n3), p.ke 4 rfl i4, p.ke 5 rfl i5, p.ou 4 37 rfl, p.ou 5 38 rfl, p.ou 6 39 rfl, trivial⟩)
   rintro a k ⟨⟨hg, hs, hd⟩, i0, i3, n3, i4, i5, i37, i38, i39, _⟩
   refine wp_block ?_
   obtain ⟨f421, hf421, hr⟩ := bind_some hr
   refine cutFe f421 (fun s' a' k' => Bs noF k0 65 a' k' ∧ (IsV l_) (a'.get 0) k' ∧ IsOwn 0 30 s'.1 (a'.get 3) k' ∧ Lo k0 (obF (a'.get 3)) ∧ (IsV s384.2) (a'.get 4) k' ∧ (IsV s402) (a'.get 5) k' ∧ (IsV x403_2.column) (a'.get 37) k' ∧ (IsI (x403_2.column.length : Int)) (a'.get 38) k' ∧ (IsV s'.2) (a'.get 39) k' ∧ True) (fun i' s' a' k' => (i' = 4 ∧ Bs noF k0 65 a' k' ∧ (IsV l_) (a'.get 0) k' ∧ IsOwn 0 30 s'.1 (a'.get 3) k' ∧ Lo k0 (obF (a'.get 3)) ∧ (IsV s402) (a'.get 5) k' ∧ True)) (fun r' a' k' => bodyPost Try.prog Try.f45 (RetC noF k0 (IsV r')) .ret a' k'.w) ?_ hQ ?_ ?_ ?_
   ·intro Q427 hQQ427 hgo hex hret
    refine sim_loop ?_ _ _ _ _ _ hf421 ⟨⟨hg, hs, hd⟩, i0, i3, n3, i4, i5, i37, i38, i39, trivial⟩ Q427 hQQ427 hgo hex hret
    clear hr hf421 hgo hex hret hQQ427 hQ hg hs hd i0 i3 i37 i38 i39 i4 i5 n3
    intro s404 fl_ a k hr hS Q hQ hgo405 hex406 hret407
    obtain ⟨⟨hg, hs, hd⟩, i0, i3, n3, i4, i5, i37, i38, i39, _⟩ := hS
    unfold region_write_L2 at hr
    refine cutS (fun a' k' => Bs noF k0 65 a' k' ∧ (IsV l_) (a'.get 0) k' ∧ IsOwn 0 30 s404.1 (a'.get 3) k' ∧ Lo k0 (obF (a'.get 3)) ∧ (IsV s384.2) (a'.get 4) k' ∧ (IsV s402) (a'.get 5) k' ∧ (IsV x403_2.column) (a'.get 37) k' ∧ (IsI (x403_2.column.length : Int)) (a'.get 38) k' ∧ (IsV s404.2) (a'.get 39) k' ∧ (IsV (decide (s404.2 < (x403_2.column.length : Int)))) (a'.get 40) k' ∧ True) ?_ ?_
    ·intro Q419 hQQ419 hp420
     refine gS 1 (_ :: []) hs (by kernel_rfl) ⟨o1 [(39, none), (38, none)] rfl fun _ _ h n => ok_lss rfl (up i39 h n.1) (up i38 h n.2.1), trivial⟩ hQQ419 fun b q p => ?_
     exact tail_done (k := q) (hp420 _ _ ⟨Bs.post ⟨hg, hs, hd⟩ p, p.ke 0 rfl i0, p.ke 3 rfl i3, (by rw [p.old 3 rfl]; exact n3), p.ke 4 rfl i4, p.ke 5 rfl i5, p.ke 37 rfl i37, p.ke 38 rfl i38, p.ke 39 rfl i39, p.ou 0 40 rfl, trivial⟩)
    rintro a k ⟨⟨hg, hs, hd⟩, i0, i3, n3, i4, i5, i37, i38, i39, i40, _⟩
    refine wp_seq ?_
    refine wp_cond_split (isBool i40) (fun hc418 => ?_) (fun hc418 => ?_)
    ·rw [if_pos hc418] at hr
     refine wp_skip ?_
     refine wp_seq ?_
     refine wp_block ?_
     refine wp_seq ?_
     obtain ⟨x409_0, hx409_0, hr⟩ := bind_some hr
     refine cut (fun a' k' => Bs noF k0 65 a' k' ∧ (IsV l_) (a'.get 0) k' ∧ IsOwn 0 30 s404.1 (a'.get 3) k' ∧ Lo k0 (obF (a'.get 3)) ∧ (IsV s384.2) (a'.get 4) k' ∧ (IsV s402) (a'.get 5) k' ∧ (IsRef x409_0) (a'.get 7) k' ∧ (IsV x403_2.column) (a'.get 37) k' ∧ (IsI (x403_2.column.length : Int)) (a'.get 38) k' ∧ (IsV s404.2) (a'.get 39) k' ∧ True) ?_ hQ ?_
     ·intro Q416 hQQ416 hp417
      refine gS 3 (_ :: _ :: ⟨some (IsBox k.w.heap.size (⟨0, 0⟩ : RegionSpan)), []⟩ :: []) hs (by kernel_rfl) ⟨o1 [(37, none), (39, none)] rfl fun _ _ h n => ok_indexAddr rfl Try.underlying81 ty83 (IsV.rd (up i37 h n.1)) (up i39 h n.2.1) hx409_0, o1 [(41, some 0)] rfl fun _ _ h n => ok_load rfl ty83 n.1, ob1 rfl fun _ _ h n => ok_alloc _ h.size rfl z83, trivial⟩ hQQ416 fun b q p => ?_
      have hgq := hg.then p.grow
      have hsb := p.size.trans hs
      have hdb := p.defers.trans hd
      have j0 := p.ke 0 rfl i0
      have j3 := p.ke 3 rfl i3
      have y3 : Lo k0 (obF (b.get 3)) := by rw [p.old 3 rfl]; exact n3
      have j4 := p.ke 4 rfl i4
      have j5 := p.ke 5 rfl i5
      obtain ⟨b7, j7, x7, z7⟩ : (IsBox k.w.heap.size (⟨0, 0⟩ : RegionSpan)) (b.get 7) q := p.ou 2 7 rfl
      replace x7 : Lo k (Eq b7) := Lo.eq x7
      have y7 : Lo k0 (Eq b7) := x7.chg hg
      have j37 := p.ke 37 rfl i37
      have j38 := p.ke 38 rfl i38
      have j39 := p.ke 39 rfl i39
      have j42 : (IsV x409_0) (b.get 42) q := p.ou 1 42 rfl
      have w3_7 : Apart (obF (b.get 3)) (Eq b7) := Apart.new (by rw [p.old 3 rfl]; exact i3.ltF) x7
      have hns := z7.nshF
      refine tail_storeB (i := 3) rfl rfl rfl rfl szf83 (Upd.self (α := RegionSpan)) j7 z7 j42 fun q2 hch hz => ?_
      replace hgq := hgq.step hch y7.wr
      have hle := hch.le hns
      replace j0 := Pers.pers hle j0
      replace j3 := j3.keep hch w3_7 hns
      replace j4 := Pers.pers hle j4
      replace j5 := Pers.pers hle j5
      replace j37 := Pers.pers hle j37
      replace j38 := Pers.pers hle j38
      replace j39 := Pers.pers hle j39
      replace j42 := Pers.pers hle j42
      replace z7 := hz
      clear hns hle hch
      obtain ⟨q, hqq⟩ : ∃ q, q = q2 := ⟨q2, rfl⟩
      subst hqq
      obtain ⟨q2, hsh, jn⟩ := z7.give
      replace j0 := Pers.pers hsh.le j0
      replace j3 := j3.handed hsh w3_7
      replace j4 := Pers.pers hsh.le j4
      replace j5 := Pers.pers hsh.le j5
      replace j37 := Pers.pers hsh.le j37
      replace j38 := Pers.pers hsh.le j38
      replace j39 := Pers.pers hsh.le j39
      rw [← j7] at jn
      replace j7 := jn
      replace hgq := hgq.hand hsh y7.wr
      rw [← hsh.w]
      clear hsh
      obtain ⟨q, hqq⟩ : ∃ q, q = q2 := ⟨q2, rfl⟩
      subst hqq
      exact tail_done (k := q) (hp417 _ _ ⟨⟨hgq, hsb, hdb⟩, j0, j3, y3, j4, j5, j7, j37, j38, j39, trivial⟩)
     rintro a k ⟨⟨hg, hs, hd⟩, i0, i3, n3, i4, i5, i7, i37, i38, i39, _⟩
     obtain ⟨x410_3, hx410_3, hr⟩ := bind_some hr
     obtain ⟨x410_10, hx410_10, hr⟩ := bind_some hr
     obtain ⟨x410_11, hx410_11, hr⟩ := bind_some hr
     obtain ⟨x410_18, hx410_18, hr⟩ := bind_some hr
     refine cut (fun a' k' => Bs noF k0 65 a' k' ∧ (IsV l_) (a'.get 0) k' ∧ IsOwn 0 30 x410_18 (a'.get 3) k' ∧ Lo k0 (obF (a'.get 3)) ∧ (IsV s384.2) (a'.get 4) k' ∧ (IsV s402) (a'.get 5) k' ∧ (IsV x403_2.column) (a'.get 37) k' ∧ (IsI (x403_2.column.length : Int)) (a'.get 38) k' ∧ (IsV s404.2) (a'.get 39) k' ∧ True) ?_ hQ ?_
     ·intro Q414 hQQ414 hp415
      refine region (a0 := a) (k0 := k) (n := 65) (m := 18) (⟨some (OwnAt (a.get 3) 0 30 s404.1), [(3, none)]⟩ :: ⟨some (IsV l_), [(0, none)]⟩ :: ⟨some (IsV s384.2), [(4, none)]⟩ :: ⟨some (IsPtr x410_3), [(44, some 1), (45, some 2)]⟩ :: ⟨some (IsPtr x410_3.x0), [(46, some 3)]⟩ :: ⟨some (IsV x410_3.x0), [(47, some 4)]⟩ :: ⟨some (IsPtr x409_0.from_), [(7, none)]⟩ :: ⟨some (IsV x409_0.from_), [(49, some 6)]⟩ :: ⟨some (IsV l_), [(0, none)]⟩ :: ⟨some (IsV s402), [(5, none)]⟩ :: ⟨some (IsV x410_10), [(52, some 9)]⟩ :: ⟨some (IsPtr x410_11), [(51, some 8), (53, some 10)]⟩ :: ⟨some (IsPtr x410_11.x1), [(54, some 11)]⟩ :: ⟨some (IsV x410_11.x1), [(55, some 12)]⟩ :: ⟨some (IsPtr x409_0.to_), [(7, none)]⟩ :: ⟨some (IsV x409_0.to_), [(57, some 14)]⟩ :: ⟨some (IsV (⟨x410_3.x0, x409_0.from_, x410_11.x1, x409_0.to_⟩ : Rect)), [(48, some 5), (50, some 7), (56, some 13), (58, some 15)]⟩ :: ⟨some (IsV (α := (List Rect)) ([(⟨x410_3.x0, x409_0.from_, x410_11.x1, x409_0.to_⟩ : Rect)])), [(59, some 16)]⟩ :: []) hmix hs (by kernel_rfl) ⟨ob1 rfl fun b q hk hn => ok_moveOA (.inl rfl) (ownAt hn.1 (up i3 hk hn.1)), ob1 rfl fun b q hk hn => ok_move rfl (up i0 hk hn.1), ob1 rfl fun b q hk hn => ok_move rfl (up i4 hk hn.1), ob1 rfl fun b q hk hn => ok_indexAddr rfl Try.underlying69 ty85 (IsV.rd hn.1) hn.2.1 hx410_3, ob1 rfl fun b q hk hn => ok_fieldAddr rfl fo85_0 (at_RegionStrip_0 _) hn.1, ob1 rfl fun b q hk hn => ok_load rfl ty3 hn.1, ob1 rfl fun b q hk hn => ok_fieldAddr rfl fo83_0 (at_RegionSpan_0 _) ((up i7 hk hn.1)).ptr, ob1 rfl fun b q hk hn => ok_load rfl ty3 hn.1, ob1 rfl fun b q hk hn => ok_move rfl (up i0 hk hn.1), ob1 rfl fun b q hk hn => ok_move rfl (up i5 hk hn.1), ob1 rfl fun b q hk hn => ok_sub rfl hn.1 (isV_int.2 rfl) hx410_10, ob1 rfl fun b q hk hn => ok_indexAddr rfl Try.underlying69 ty85 (IsV.rd hn.1) hn.2.1 hx410_11, ob1 rfl fun b q hk hn => ok_fieldAddr rfl fo85_1 (at_RegionStrip_1 _) hn.1, ob1 rfl fun b q hk hn => ok_load rfl ty3 hn.1, ob1 rfl fun b q hk hn => ok_fieldAddr rfl fo83_1 (at_RegionSpan_1 _) ((up i7 hk hn.1)).ptr, ob1 rfl fun b q hk hn => ok_load rfl ty3 hn.1, ob1 rfl fun b q hk hn => ok_build rfl (bld30_0_1_2_3 hn.1 hn.2.1 hn.2.2.1 hn.2.2.2.1), ob1 rfl fun b q hk hn => ok_buildSlice rfl Try.underlying44 eo30 rfl (by decide) (by decide) ⟨rfl, hn.1, trivial⟩, trivial⟩ hQQ414 fun b q p => ?_
      have hgq := hg.then p.grow
      have hsb := p.size.trans hs
      have hdb := p.defers.trans hd
      have j0 := p.ke 0 rfl i0
      have j4 := p.ke 4 rfl i4
      have j5 := p.ke 5 rfl i5
      have j37 := p.ke 37 rfl i37
      have j38 := p.ke 38 rfl i38
      have j39 := p.ke 39 rfl i39
      have e43 : b.get 43 = a.get 3 := (p.ou 0 43 rfl).1
      have j43 : IsOwn 0 30 s404.1 (b.get 43) q := (p.ou 0 43 rfl).2
      have y43 : Lo k0 (obF (b.get 43)) := by rw [e43]; exact n3
      have j60 : (IsV (α := (List Rect)) ([(⟨x410_3.x0, x409_0.from_, x410_11.x1, x409_0.to_⟩ : Rect)])) (b.get 60) q := p.ou 17 60 rfl
      have hns := j43.nshF
      refine tail_appendS (i := 18) (d := 61) rfl rfl rfl rfl (by rw [hsb]; decide) (e := 30) Try.underlying44 eo30 j43 (IsV.rd j60) hx410_18 fun b2 q2 hsz hdf hoth hch hown hob => ?_
      have hle := hch.le hns
      have yn : Lo k0 (obF (b2.get 61)) := y43.app hgq hob
      replace j0 := Pers.pers hle j0
      replace j4 := Pers.pers hle j4
      replace j5 := Pers.pers hle j5
      replace j37 := Pers.pers hle j37
      replace j38 := Pers.pers hle j38
      replace j39 := Pers.pers hle j39
      replace j60 := Pers.pers hle j60
      replace hgq := hgq.step hch y43.wr
      rw [← hoth 0 (by decide)] at j0
      rw [← hoth 4 (by decide)] at j4
      rw [← hoth 5 (by decide)] at j5
      rw [← hoth 37 (by decide)] at j37
      rw [← hoth 38 (by decide)] at j38
      rw [← hoth 39 (by decide)] at j39
      rw [← hoth 60 (by decide)] at j60
      have j61 := hown
      have y61 := yn
      replace hsb := hsz.trans hsb
      replace hdb := hdf.trans hdb
      clear hle hch hown hob hns yn hsz hdf hoth
      obtain ⟨b, hbb⟩ : ∃ b, b = b2 := ⟨b2, rfl⟩
      subst hbb
      obtain ⟨q, hqq⟩ : ∃ q, q = q2 := ⟨q2, rfl⟩
      subst hqq
      refine tail_assign (i := 19) (d := 3) rfl rfl (.inl rfl) rfl (by rw [hsb]; decide) fun b2 hsz hdf hnew hoth => ?_
      have jn : (IsOwn 0 30 x410_18) (b2.get 3) q := by rw [hnew]; exact j61
      have yn : Lo k0 (obF (b2.get 3)) := by rw [hnew]; exact y61
      rw [← hoth 0 (by decide)] at j0
      rw [← hoth 4 (by decide)] at j4
      rw [← hoth 5 (by decide)] at j5
      rw [← hoth 37 (by decide)] at j37
      rw [← hoth 38 (by decide)] at j38
      rw [← hoth 39 (by decide)] at j39
      rw [← hoth 60 (by decide)] at j60
      have j3 := jn
      have y3 := yn
      replace hsb := hsz.trans hsb
      replace hdb := hdf.trans hdb
      clear hsz hdf hoth
      obtain ⟨b, hbb⟩ : ∃ b, b = b2 := ⟨b2, rfl⟩
      subst hbb
      exact tail_done (k := q) (hp415 _ _ ⟨⟨hgq, hsb, hdb⟩, j0, j3, y3, j4, j5, j37, j38, j39, trivial⟩)
     rintro a k ⟨⟨hg, hs, hd⟩, i0, i3, n3, i4, i5, i37, i38, i39, _⟩
     obtain ⟨x411_0, hx411_0, hr⟩ := bind_some hr
     refine cut (fun a' k' => Bs noF k0 65 a' k' ∧ (IsV l_) (a'.get 0) k' ∧ IsOwn 0 30 x410_18 (a'.get 3) k' ∧ Lo k0 (obF (a'.get 3)) ∧ (IsV s384.2) (a'.get 4) k' ∧ (IsV s402) (a'.get 5) k' ∧ (IsV x403_2.column) (a'.get 37) k' ∧ (IsI (x403_2.column.length : Int)) (a'.get 38) k' ∧ (IsV x411_0) (a'.get 39) k' ∧ True) ?_ hQ ?_
     ·intro Q412 hQQ412 hp413
      refine gS 2 (_ :: _ :: []) hs (by kernel_rfl) ⟨o1 [(39, none)] rfl fun _ _ h n => ok_add rfl (up i39 h n.1) (cI rfl) hx411_0, cm 0 rfl rfl, trivial⟩ hQQ412 fun b q p => ?_
      exact tail_done (k := q) (hp413 _ _ ⟨Bs.post ⟨hg, hs, hd⟩ p, p.ke 0 rfl i0, p.ke 3 rfl i3, (by rw [p.old 3 rfl]; exact n3), p.ke 4 rfl i4, p.ke 5 rfl i5, p.ke 37 rfl i37, p.ke 38 rfl i38, p.ou 1 39 rfl, trivial⟩)
     rintro a k ⟨⟨hg, hs, hd⟩, i0, i3, n3, i4, i5, i37, i38, i39, _⟩
     exact hgo405 _ _ _ (Option.some.inj hr).symm ⟨⟨hg, hs, hd⟩, i0, i3, n3, i4, i5, i37, i38, i39, trivial⟩
    rw [if_neg (by rw [hc418]; decide)] at hr
    refine wp_exit ?_
    exact hex406 _ _ _ _ (Option.some.inj hr).symm ⟨rfl, ⟨hg, hs, hd⟩, i0, i3, n3, i5, trivial⟩
   ·rintro r426 a k rfl hR
    dsimp only at hr
    exact hret387 _ _ _ (Option.some.inj hr).symm hR
   ·rintro _ _ _ rfl _
    simp at hr
   clear hf421
   rintro _ s422 a k rfl ⟨rfl, ⟨hg, hs, hd⟩, i0, i3, n3, i5, _⟩
   dsimp only at hr
   refine cut (fun a' k' => Bs noF k0 65 a' k' ∧ (IsV l_) (a'.get 0) k' ∧ IsOwn 0 30 s422.1 (a'.get 3) k' ∧ Lo k0 (obF (a'.get 3)) ∧ (IsV s402) (a'.get 4) k' ∧ True) ?_ hQ ?_
   ·intro Q424 hQQ424 hp425
    refine gS 2 (_ :: _ :: []) hs (by kernel_rfl) ⟨mu rfl i5, cp 0 rfl rfl, trivial⟩ hQQ424 fun b q p => ?_
    exact tail_done (k := q) (hp425 _ _ ⟨Bs.post ⟨hg, hs, hd⟩ p, p.ke 0 rfl i0, p.ke 3 rfl i3, (by rw [p.old 3 rfl]; exact n3), p.ou 1 4 rfl, trivial⟩)
   rintro a k ⟨⟨hg, hs, hd⟩, i0, i3, n3, i4, _⟩
   exact hgo385 _ _ _ (Option.some.inj hr).symm ⟨⟨hg, hs, hd⟩, i0, i3, n3, i4, trivial⟩
  rw [if_neg (by rw [hc435]; decide)] at hr
  refine wp_exit ?_
  obtain ⟨kk, sh434, ii3⟩ := i3.give
  replace i3 := ii3
  replace hg := hg.hand sh434 n3.wr
  rw [← sh434.w]
  clear sh434
  obtain ⟨k, hkk⟩ : ∃ k, k = kk := ⟨kk, rfl⟩
  subst hkk
  exact hex386 _ _ _ _ (Option.some.inj hr).symm ⟨rfl, ⟨hg, hs, hd⟩, i3, trivial⟩
 ·rintro r443 a k rfl hR
  dsimp only at hr
  obtain rfl := Option.some.inj hr
  exact hR
 ·rintro _ _ _ rfl _
  simp at hr
 clear hf438
 rintro _ s439 a k rfl ⟨rfl, ⟨hg, hs, hd⟩, i3, _⟩
 dsimp only at hr
 refine stepL 2 (_ :: _ :: []) rfl ⟨hg, hs, hd⟩ (by kernel_rfl) ⟨mu rfl i3, cp 0 rfl rfl, trivial⟩ [⟨_, _⟩] (fun b q p => ⟨p.ou 1 2 rfl, trivial⟩) ?_
 rintro a k ⟨⟨hg, hs, hd⟩, i2, _⟩
 refine wp_ret ?_
 obtain rfl := Option.some.inj hr
 exact retC1 rfl hd hg i2
def region_limited (l_ : (List Rect)) : Option ((List Rect) × Int) :=
 if (decide (200 < (l_.length : Int))) then
  some (([] : List Rect), 6)
 else
  some (l_, 0)
theorem region_limited_ok {k0 : K} {v0 : Value} {l_ : (List Rect)} {r : (List Rect) × Int} (i0 : (IsV l_) v0 k0) (hr : region_limited l_ = some r) :
  Calls Try.prog 44 #[v0] k0.w (Ret k0 (IsTup2 (IsV r.1) (IsV r.2))) := by
 unfold region_limited at hr
 refine Ret.ofC ?_
 refine enterK Try.func44 rfl Try.ntmps44 (show 1 ≤ 8 by decide) fun a k hk0 hs hd ha => ?_
 obtain ⟨e0, _⟩ := ha
 replace i0 : (IsV l_) (a.get 0) k := by rw [e0, hk0]; exact i0
 have hQ : Gb.LetsOut (bodyPost Try.prog Try.f44 (RetC noF k0 (IsTup2 (IsV r.1) (IsV r.2)))) := letsOutC
 have hg : Chg noF k0 k := by rw [hk0]; exact Chg.refl _ k0
 refine stepL 2 (⟨some IsE0, []⟩ :: ⟨some (IsI 0), []⟩ :: []) rfl ⟨hg, hs, hd⟩ (by kernel_rfl) ⟨ob1 rfl fun b q h n => ok_assign rfl isE0_nil, aI rfl rfl, trivial⟩ [⟨_, _⟩] (fun b q p => ⟨p.ke 0 rfl i0, trivial⟩) ?_
 rintro a k ⟨⟨hg, hs, hd⟩, i0, _⟩
 refine wp_seq ?_
 refine stepL 3 (_ :: _ :: _ :: []) rfl ⟨hg, hs, hd⟩ (by kernel_rfl) ⟨mu rfl i0, o1 [(4, some 0)] rfl fun _ _ h n => ok_len rfl rfl Try.underlying44 (IsV.rd n.1), o1 [(5, some 1)] rfl fun _ _ h n => ok_gtr rfl n.1 (cI rfl), trivial⟩ [⟨_, _⟩, ⟨_, _⟩] (fun b q p => ⟨p.ke 0 rfl i0, p.ou 2 6 rfl, trivial⟩) ?_
 rintro a k ⟨⟨hg, hs, hd⟩, i0, i6, _⟩
 refine wp_cond_split (isBool i6) (fun hc459 => ?_) (fun hc459 => ?_)
 ·rw [if_pos hc459] at hr
  refine cutL noF k0 8 [⟨2, IsV ([] : List Rect)⟩, ⟨3, IsI 6⟩] ?_ ?_
  ·intro Q454 hQQ454 hp455
   refine gS 2 (⟨some IsE0, []⟩ :: ⟨some (IsI 6), []⟩ :: []) hs (by kernel_rfl) ⟨ob1 rfl fun b q h n => ok_assign rfl isE0_nil, aI rfl rfl, trivial⟩ hQQ454 fun b q p => ?_
   have hgq := hg.then p.grow
   have hsb := p.size.trans hs
   have hdb := p.defers.trans hd
   have j2 : IsE0 (b.get 2) q := p.ou 0 2 rfl
   have j3 : (IsI 6) (b.get 3) q := p.ou 1 3 rfl
   replace j2 : IsV ([] : List Rect) (b.get 2) q := j2.isV
   exact tail_done (k := q) (hp455 _ _ ⟨⟨hgq, hsb, hdb⟩, j2, j3, trivial⟩)
  rintro a k ⟨⟨hg, hs, hd⟩, i2, i3, _⟩
  refine wp_ret ?_
  obtain rfl := Option.some.inj hr
  exact retC2 rfl hd hg i2 i3
 rw [if_neg (by rw [hc459]; decide)] at hr
 refine wp_skip ?_
 refine stepL 3 (_ :: _ :: ⟨some (IsI 0), []⟩ :: []) rfl ⟨hg, hs, hd⟩ (by kernel_rfl) ⟨mu rfl i0, cp 0 rfl rfl, aI rfl rfl, trivial⟩ [⟨_, _⟩, ⟨_, _⟩] (fun b q p => ⟨p.ou 1 2 rfl, p.ou 2 3 rfl, trivial⟩) ?_
 rintro a k ⟨⟨hg, hs, hd⟩, i2, i3, _⟩
 refine wp_ret ?_
 obtain rfl := Option.some.inj hr
 exact retC2 rfl hd hg i2 i3
def region_Of_L0 (l_ : (List Rect)) (s466 : Int) : Option (Flow (Int) ((List Rect) × Int)) :=
 if (decide (s466 < (l_.length : Int))) then
  (getI l_ s466).bind fun x471_0 =>
  (rect_Right x471_0).bind fun x472_1 =>
  if (!x472_1) then
   some (.ret (([] : List Rect), 1))
  else
   (addI s466 1).bind fun x476_0 =>
   some (.go x476_0)
 else
  some (.ex 0 s466)
def region_Of (l_ : (List Rect)) : Option ((List Rect) × Int) :=
 (iterL (region_Of_L0 l_) (l_.length + 1) 0).bind fun f487 => match f487 with
  | .go _ => none
  | .ex _ _ =>
   if (decide (400 < (l_.length : Int))) then
    some (([] : List Rect), 6)
   else
    (region_strips ([l_])).bind fun x493_2 =>
    (region_write x493_2).bind fun x493_3 =>
    (region_limited x493_3).bind fun x493_4 =>
    some (x493_4.1, x493_4.2)
  | .ret r499 => some r499
theorem region_Of_ok {k0 : K} {v0 : Value} {l_ : (List Rect)} {r : (List Rect) × Int} (i0 : (IsV l_) v0 k0) (hr : region_Of l_ = some r) :
  Calls Try.prog 24 #[v0] k0.w (Ret k0 (IsTup2 (IsV r.1) (IsV r.2))) := by
 unfold region_Of at hr
 refine Ret.ofC ?_
 refine enterK Try.func24 rfl Try.ntmps24 (show 1 ≤ 26 by decide) fun a k hk0 hs hd ha => ?_
 obtain ⟨e0, _⟩ := ha
 replace i0 : (IsV l_) (a.get 0) k := by rw [e0, hk0]; exact i0
 have hQ : Gb.LetsOut (bodyPost Try.prog Try.f24 (RetC noF k0 (IsTup2 (IsV r.1) (IsV r.2)))) := letsOutC
 have hg : Chg noF k0 k := by rw [hk0]; exact Chg.refl _ k0
 refine stepL 2 (⟨some IsE0, []⟩ :: ⟨some (IsI 0), []⟩ :: []) rfl ⟨hg, hs, hd⟩ (by kernel_rfl) ⟨ob1 rfl fun b q h n => ok_assign rfl isE0_nil, aI rfl rfl, trivial⟩ [⟨_, _⟩] (fun b q p => ⟨p.ke 0 rfl i0, trivial⟩) ?_
 rintro a k ⟨⟨hg, hs, hd⟩, i0, _⟩
 refine wp_seq ?_
 refine stepL 3 (_ :: _ :: ⟨some (IsI 0), []⟩ :: []) rfl ⟨hg, hs, hd⟩ (by kernel_rfl) ⟨mu rfl i0, o1 [(6, some 0)] rfl fun _ _ h n => ok_len rfl rfl Try.underlying44 (IsV.rd n.1), ob1 rfl fun _ _ h n => ok_move rfl (cI rfl), trivial⟩ [⟨_, _⟩, ⟨_, _⟩, ⟨_, _⟩, ⟨_, _⟩] (fun b q p => ⟨p.ke 0 rfl i0, p.ou 0 6 rfl, p.ou 1 7 rfl, p.ou 2 8 rfl, trivial⟩) ?_
 rintro a k ⟨⟨hg, hs, hd⟩, i0, i6, i7, i8, _⟩
 refine wp_block ?_
 obtain ⟨f487, hf487, hr⟩ := bind_some hr
 refine cutFe f487 (fun s' a' k' => Bs noF k0 26 a' k' ∧ (IsV l_) (a'.get 0) k' ∧ (IsV l_) (a'.get 6) k' ∧ (IsL l_) (a'.get 7) k' ∧ (IsV s') (a'.get 8) k' ∧ True) (fun i' s' a' k' => (i' = 0 ∧ Bs noF k0 26 a' k' ∧ (IsV l_) (a'.get 0) k' ∧ True)) (fun r' a' k' => bodyPost Try.prog Try.f24 (RetC noF k0 (IsTup2 (IsV r'.1) (IsV r'.2))) .ret a' k'.w) ?_ hQ ?_ ?_ ?_
 ·intro Q500 hQQ500 hgo hex hret
  refine sim_loop ?_ _ _ _ _ _ hf487 ⟨⟨hg, hs, hd⟩, i0, i6, i7, i8, trivial⟩ Q500 hQQ500 hgo hex hret
  clear hr hf487 hgo hex hret hQQ500 hQ hg hs hd i0 i6 i7 i8
  intro s466 fl_ a k hr hS Q hQ hgo467 hex468 hret469
  obtain ⟨⟨hg, hs, hd⟩, i0, i6, i7, i8, _⟩ := hS
  unfold region_Of_L0 at hr
  refine stepL 1 (_ :: []) rfl ⟨hg, hs, hd⟩ (by kernel_rfl) ⟨o1 [(8, none), (7, none)] rfl fun _ _ h n => ok_lss rfl (up i8 h n.1) (up i7 h n.2.1), trivial⟩ [⟨_, _⟩, ⟨_, _⟩, ⟨_, _⟩, ⟨_, _⟩, ⟨_, _⟩] (fun b q p => ⟨p.ke 0 rfl i0, p.ke 6 rfl i6, p.ke 7 rfl i7, p.ke 8 rfl i8, p.ou 0 9 rfl, trivial⟩) ?_
  rintro a k ⟨⟨hg, hs, hd⟩, i0, i6, i7, i8, i9, _⟩
  refine wp_seq ?_
  refine wp_cond_split (isBool i9) (fun hc484 => ?_) (fun hc484 => ?_)
  ·rw [if_pos hc484] at hr
   refine wp_skip ?_
   refine wp_seq ?_
   refine wp_block ?_
   refine wp_seq ?_
   obtain ⟨x471_0, hx471_0, hr⟩ := bind_some hr
   refine cut (fun a' k' => Bs noF k0 26 a' k' ∧ (IsV l_) (a'.get 0) k' ∧ (IsRef x471_0) (a'.get 5) k' ∧ (IsV l_) (a'.get 6) k' ∧ (IsL l_) (a'.get 7) k' ∧ (IsV s466) (a'.get 8) k' ∧ True) ?_ hQ ?_
   ·intro Q482 hQQ482 hp483
    refine gS 3 (_ :: _ :: ⟨some (IsBox k.w.heap.size (⟨0, 0, 0, 0⟩ : Rect)), []⟩ :: []) hs (by kernel_rfl) ⟨o1 [(6, none), (8, none)] rfl fun _ _ h n => ok_indexAddr rfl Try.underlying44 ty30 (IsV.rd (up i6 h n.1)) (up i8 h n.2.1) hx471_0, o1 [(10, some 0)] rfl fun _ _ h n => ok_load rfl ty30 n.1, ob1 rfl fun _ _ h n => ok_alloc _ h.size rfl z30, trivial⟩ hQQ482 fun b q p => ?_
    have hgq := hg.then p.grow
    have hsb := p.size.trans hs
    have hdb := p.defers.trans hd
    have j0 := p.ke 0 rfl i0
    obtain ⟨b5, j5, x5, z5⟩ : (IsBox k.w.heap.size (⟨0, 0, 0, 0⟩ : Rect)) (b.get 5) q := p.ou 2 5 rfl
    replace x5 : Lo k (Eq b5) := Lo.eq x5
    have y5 : Lo k0 (Eq b5) := x5.chg hg
    have j6 := p.ke 6 rfl i6
    have j7 := p.ke 7 rfl i7
    have j8 := p.ke 8 rfl i8
    have j11 : (IsV x471_0) (b.get 11) q := p.ou 1 11 rfl
    have hns := z5.nshF
    refine tail_storeB (i := 3) rfl rfl rfl rfl szf30 (Upd.self (α := Rect)) j5 z5 j11 fun q2 hch hz => ?_
    replace hgq := hgq.step hch y5.wr
    have hle := hch.le hns
    replace j0 := Pers.pers hle j0
    replace j6 := Pers.pers hle j6
    replace j7 := Pers.pers hle j7
    replace j8 := Pers.pers hle j8
    replace j11 := Pers.pers hle j11
    replace z5 := hz
    clear hns hle hch
    obtain ⟨q, hqq⟩ : ∃ q, q = q2 := ⟨q2, rfl⟩
    subst hqq
    obtain ⟨q2, hsh, jn⟩ := z5.give
    replace j0 := Pers.pers hsh.le j0
    replace j6 := Pers.pers hsh.le j6
    replace j7 := Pers.pers hsh.le j7
    replace j8 := Pers.pers hsh.le j8
    rw [← j5] at jn
    replace j5 := jn
    replace hgq := hgq.hand hsh y5.wr
    rw [← hsh.w]
    clear hsh
    obtain ⟨q, hqq⟩ : ∃ q, q = q2 := ⟨q2, rfl⟩
    subst hqq
    exact tail_done (k := q) (hp483 _ _ ⟨⟨hgq, hsb, hdb⟩, j0, j5, j6, j7, j8, trivial⟩)
   rintro a k ⟨⟨hg, hs, hd⟩, i0, i5, i6, i7, i8, _⟩
   refine wp_seq ?_
   obtain ⟨x472_1, hx472_1, hr⟩ := bind_some hr
   refine cut (fun a' k' => Bs noF k0 26 a' k' ∧ (IsV l_) (a'.get 0) k' ∧ (IsV l_) (a'.get 6) k' ∧ (IsL l_) (a'.get 7) k' ∧ (IsV s466) (a'.get 8) k' ∧ (IsV (!x472_1)) (a'.get 14) k' ∧ True) ?_ hQ ?_
   ·intro Q480 hQQ480 hp481
    refine gS 3 (_ :: _ :: _ :: []) hs (by kernel_rfl) ⟨o1 [(5, none)] rfl fun _ _ h n => ok_load rfl ty30 ((up i5 h n.1)).ptr, o1 [(12, some 0)] rfl fun _ _ h n => ok_call rfl Try.call29 (rect_Right_ok n.1 hx472_1), o1 [(13, some 1)] rfl fun _ _ h n => ok_not rfl n.1, trivial⟩ hQQ480 fun b q p => ?_
    exact tail_done (k := q) (hp481 _ _ ⟨Bs.post ⟨hg, hs, hd⟩ p, p.ke 0 rfl i0, p.ke 6 rfl i6, p.ke 7 rfl i7, p.ke 8 rfl i8, p.ou 2 14 rfl, trivial⟩)
   rintro a k ⟨⟨hg, hs, hd⟩, i0, i6, i7, i8, i14, _⟩
   refine wp_cond_split (isBool i14) (fun hc479 => ?_) (fun hc479 => ?_)
   ·rw [if_pos hc479] at hr
    refine cutL noF k0 26 [⟨2, IsV ([] : List Rect)⟩, ⟨3, IsI 1⟩] ?_ ?_
    ·intro Q474 hQQ474 hp475
     refine gS 2 (⟨some IsE0, []⟩ :: ⟨some (IsI 1), []⟩ :: []) hs (by kernel_rfl) ⟨ob1 rfl fun b q h n => ok_assign rfl isE0_nil, aI rfl rfl, trivial⟩ hQQ474 fun b q p => ?_
     have hgq := hg.then p.grow
     have hsb := p.size.trans hs
     have hdb := p.defers.trans hd
     have j2 : IsE0 (b.get 2) q := p.ou 0 2 rfl
     have j3 : (IsI 1) (b.get 3) q := p.ou 1 3 rfl
     replace j2 : IsV ([] : List Rect) (b.get 2) q := j2.isV
     exact tail_done (k := q) (hp475 _ _ ⟨⟨hgq, hsb, hdb⟩, j2, j3, trivial⟩)
    rintro a k ⟨⟨hg, hs, hd⟩, i2, i3, _⟩
    refine wp_ret ?_
    exact hret469 _ _ _ (Option.some.inj hr).symm (retC2 rfl hd hg i2 i3)
   rw [if_neg (by rw [hc479]; decide)] at hr
   refine wp_skip ?_
   obtain ⟨x476_0, hx476_0, hr⟩ := bind_some hr
   refine cut (fun a' k' => Bs noF k0 26 a' k' ∧ (IsV l_) (a'.get 0) k' ∧ (IsV l_) (a'.get 6) k' ∧ (IsL l_) (a'.get 7) k' ∧ (IsV x476_0) (a'.get 8) k' ∧ True) ?_ hQ ?_
   ·intro Q477 hQQ477 hp478
    refine gS 2 (_ :: _ :: []) hs (by kernel_rfl) ⟨o1 [(8, none)] rfl fun _ _ h n => ok_add rfl (up i8 h n.1) (cI rfl) hx476_0, cm 0 rfl rfl, trivial⟩ hQQ477 fun b q p => ?_
    exact tail_done (k := q) (hp478 _ _ ⟨Bs.post ⟨hg, hs, hd⟩ p, p.ke 0 rfl i0, p.ke 6 rfl i6, p.ke 7 rfl i7, p.ou 1 8 rfl, trivial⟩)
   rintro a k ⟨⟨hg, hs, hd⟩, i0, i6, i7, i8, _⟩
   exact hgo467 _ _ _ (Option.some.inj hr).symm ⟨⟨hg, hs, hd⟩, i0, i6, i7, i8, trivial⟩
  rw [if_neg (by rw [hc484]; decide)] at hr
  refine wp_exit ?_
  exact hex468 _ _ _ _ (Option.some.inj hr).symm ⟨rfl, ⟨hg, hs, hd⟩, i0, trivial⟩
 ·rintro r499 a k rfl hR
  dsimp only at hr
  obtain rfl := Option.some.inj hr
  exact hR
 ·rintro _ _ _ rfl _
  simp at hr
 clear hf487
 rintro _ s488 a k rfl ⟨rfl, ⟨hg, hs, hd⟩, i0, _⟩
 dsimp only at hr
 refine wp_seq ?_
 refine stepL 3 (_ :: _ :: _ :: []) rfl ⟨hg, hs, hd⟩ (by kernel_rfl) ⟨mu rfl i0, o1 [(16, some 0)] rfl fun _ _ h n => ok_len rfl rfl Try.underlying44 (IsV.rd n.1), o1 [(17, some 1)] rfl fun _ _ h n => ok_gtr rfl n.1 (cI rfl), trivial⟩ [⟨_, _⟩, ⟨_, _⟩] (fun b q p => ⟨p.ke 0 rfl i0, p.ou 2 18 rfl, trivial⟩) ?_
 rintro a k ⟨⟨hg, hs, hd⟩, i0, i18, _⟩
 refine wp_cond_split (isBool i18) (fun hc496 => ?_) (fun hc496 => ?_)
 ·rw [if_pos hc496] at hr
  refine cutL noF k0 26 [⟨2, IsV ([] : List Rect)⟩, ⟨3, IsI 6⟩] ?_ ?_
  ·intro Q491 hQQ491 hp492
   refine gS 2 (⟨some IsE0, []⟩ :: ⟨some (IsI 6), []⟩ :: []) hs (by kernel_rfl) ⟨ob1 rfl fun b q h n => ok_assign rfl isE0_nil, aI rfl rfl, trivial⟩ hQQ491 fun b q p => ?_
   have hgq := hg.then p.grow
   have hsb := p.size.trans hs
   have hdb := p.defers.trans hd
   have j2 : IsE0 (b.get 2) q := p.ou 0 2 rfl
   have j3 : (IsI 6) (b.get 3) q := p.ou 1 3 rfl
   replace j2 : IsV ([] : List Rect) (b.get 2) q := j2.isV
   exact tail_done (k := q) (hp492 _ _ ⟨⟨hgq, hsb, hdb⟩, j2, j3, trivial⟩)
  rintro a k ⟨⟨hg, hs, hd⟩, i2, i3, _⟩
  refine wp_ret ?_
  obtain rfl := Option.some.inj hr
  exact retC2 rfl hd hg i2 i3
 rw [if_neg (by rw [hc496]; decide)] at hr
 refine wp_skip ?_
 refine wp_seq ?_
 obtain ⟨x493_2, hx493_2, hr⟩ := bind_some hr
 obtain ⟨x493_3, hx493_3, hr⟩ := bind_some hr
 obtain ⟨x493_4, hx493_4, hr⟩ := bind_some hr
 refine cut (fun a' k' => Bs noF k0 26 a' k' ∧ (IsV x493_4.1) (a'.get 2) k' ∧ (IsV x493_4.2) (a'.get 3) k' ∧ True) ?_ hQ ?_
 ·intro Q494 hQQ494 hp495
  refine gS 9 (_ :: ⟨some (IsV (α := (List (List Rect))) ([l_])), [(19, some 0)]⟩ :: _ :: _ :: _ :: _ :: _ :: _ :: _ :: []) hs (by kernel_rfl) ⟨mu rfl i0, ob1 rfl fun _ _ h n => ok_buildSlice rfl Try.underlying86 eo44 rfl (by decide) (by decide) ⟨rfl, n.1, trivial⟩, o1 [(20, some 1)] rfl fun _ _ h n => ok_call rfl Try.call46 (region_strips_ok n.1 hx493_2), o1 [(21, some 2)] rfl fun _ _ h n => ok_call rfl Try.call45 (region_write_ok n.1 hx493_3), o1 [(22, some 3)] rfl fun _ _ h n => ok_call rfl Try.call44 (region_limited_ok n.1 hx493_4), o1 [(23, some 4)] rfl fun _ _ h n => ok_ext2_0 rfl n.1, o1 [(23, some 4)] rfl fun _ _ h n => ok_ext2_1 rfl n.1, cp 5 rfl rfl, cp 6 rfl rfl, trivial⟩ hQQ494 fun b q p => ?_
  exact tail_done (k := q) (hp495 _ _ ⟨Bs.post ⟨hg, hs, hd⟩ p, p.ou 7 2 rfl, p.ou 8 3 rfl, trivial⟩)
 rintro a k ⟨⟨hg, hs, hd⟩, i2, i3, _⟩
 refine wp_ret ?_
 obtain rfl := Option.some.inj hr
 exact retC2 rfl hd hg i2 i3
def slices_Equal_Rect_L0 (s1_ : (List Rect)) (s2_ : (List Rect)) (s511 : Int) : Option (Flow (Int) (Bool)) :=
 if (decide (s511 < (s1_.length : Int))) then
  (getI s1_ s511).bind fun x517_2 =>
  (getI s2_ s511).bind fun x517_6 =>
  if (!decide (x517_2 = x517_6)) then
   some (.ret false)
  else
   (addI s511 1).bind fun x521_0 =>
   some (.go x521_0)
 else
  some (.ex 0 s511)
def slices_Equal_Rect (s1_ : (List Rect)) (s2_ : (List Rect)) : Option (Bool) :=
 if ((s1_.length : Int) != (s2_.length : Int)) then
  some false
 else
  (iterL (slices_Equal_Rect_L0 s1_ s2_) (s1_.length + 1) 0).bind fun f532 => match f532 with
   | .go _ => none
   | .ex _ _ =>
    some true
   | .ret r537 => some r537
theorem slices_Equal_Rect_ok {k0 : K} {v0 v1 : Value} {s1_ : (List Rect)} {s2_ : (List Rect)} {r : Bool} (i0 : (IsV s1_) v0 k0) (i1 : (IsV s2_) v1 k0) (hr : slices_Equal_Rect s1_ s2_ = some r) :
  Calls Try.prog 53 #[v0, v1] k0.w (Ret k0 (IsV r)) := by
 unfold slices_Equal_Rect at hr
 refine Ret.ofC ?_
 refine enterK Try.func53 rfl Try.ntmps53 (show 2 ≤ 26 by decide) fun a k hk0 hs hd ha => ?_
 obtain ⟨e0, e1, _⟩ := ha
 replace i0 : (IsV s1_) (a.get 0) k := by rw [e0, hk0]; exact i0
 replace i1 : (IsV s2_) (a.get 1) k := by rw [e1, hk0]; exact i1
 have hQ : Gb.LetsOut (bodyPost Try.prog Try.f53 (RetC noF k0 (IsV r))) := letsOutC
 have hg : Chg noF k0 k := by rw [hk0]; exact Chg.refl _ k0
 refine stepL 1 (⟨some (IsV false), []⟩ :: []) rfl ⟨hg, hs, hd⟩ (by kernel_rfl) ⟨ob1 rfl fun _ _ h n => ok_assign rfl (isV_bool.2 rfl), trivial⟩ [⟨_, _⟩, ⟨_, _⟩] (fun b q p => ⟨p.ke 0 rfl i0, p.ke 1 rfl i1, trivial⟩) ?_
 rintro a k ⟨⟨hg, hs, hd⟩, i0, i1, _⟩
 refine wp_seq ?_
 refine stepL 5 (_ :: _ :: _ :: _ :: ⟨some (IsV ((s1_.length : Int) != (s2_.length : Int))), [(7, some 1), (9, some 3)]⟩ :: []) rfl ⟨hg, hs, hd⟩ (by kernel_rfl) ⟨mu rfl i0, o1 [(6, some 0)] rfl fun _ _ h n => ok_len rfl rfl Try.underlying44 (IsV.rd n.1), mu rfl i1, o1 [(8, some 2)] rfl fun _ _ h n => ok_len rfl rfl Try.underlying44 (IsV.rd n.1), ob1 rfl fun _ _ h n => ok_neI rfl n.1 n.2.1, trivial⟩ [⟨_, _⟩, ⟨_, _⟩, ⟨_, _⟩] (fun b q p => ⟨p.ke 0 rfl i0, p.ke 1 rfl i1, p.ou 4 10 rfl, trivial⟩) ?_
 rintro a k ⟨⟨hg, hs, hd⟩, i0, i1, i10, _⟩
 refine wp_cond_split (isBool i10) (fun hc541 => ?_) (fun hc541 => ?_)
 ·rw [if_pos hc541] at hr
  refine stepL 1 (⟨some (IsV false), []⟩ :: []) rfl ⟨hg, hs, hd⟩ (by kernel_rfl) ⟨ob1 rfl fun _ _ h n => ok_assign rfl (isV_bool.2 rfl), trivial⟩ [⟨_, _⟩] (fun b q p => ⟨p.ou 0 4 rfl, trivial⟩) ?_
  rintro a k ⟨⟨hg, hs, hd⟩, i4, _⟩
  refine wp_ret ?_
  obtain rfl := Option.some.inj hr
  exact retC1 rfl hd hg i4
 rw [if_neg (by rw [hc541]; decide)] at hr
 refine wp_skip ?_
 refine wp_seq ?_
 refine stepL 3 (_ :: _ :: ⟨some (IsI 0), []⟩ :: []) rfl ⟨hg, hs, hd⟩ (by kernel_rfl) ⟨mu rfl i0, o1 [(11, some 0)] rfl fun _ _ h n => ok_len rfl rfl Try.underlying44 (IsV.rd n.1), ob1 rfl fun _ _ h n => ok_move rfl (cI rfl), trivial⟩ [⟨_, _⟩, ⟨_, _⟩, ⟨_, _⟩, ⟨_, _⟩] (fun b q p => ⟨p.ke 0 rfl i0, p.ke 1 rfl i1, p.ou 1 12 rfl, p.ou 2 13 rfl, trivial⟩) ?_
 rintro a k ⟨⟨hg, hs, hd⟩, i0, i1, i12, i13, _⟩
 refine wp_block ?_
 obtain ⟨f532, hf532, hr⟩ := bind_some hr
 refine cutFe f532 (fun s' a' k' => Bs noF k0 26 a' k' ∧ (IsV s1_) (a'.get 0) k' ∧ (IsV s2_) (a'.get 1) k' ∧ (IsL s1_) (a'.get 12) k' ∧ (IsV s') (a'.get 13) k' ∧ True) (fun i' s' a' k' => (i' = 0 ∧ Bs noF k0 26 a' k' ∧ True)) (fun r' a' k' => bodyPost Try.prog Try.f53 (RetC noF k0 (IsV r')) .ret a' k'.w) ?_ hQ ?_ ?_ ?_
 ·intro Q538 hQQ538 hgo hex hret
  refine sim_loop ?_ _ _ _ _ _ hf532 ⟨⟨hg, hs, hd⟩, i0, i1, i12, i13, trivial⟩ Q538 hQQ538 hgo hex hret
  clear hr hf532 hgo hex hret hQQ538 hQ hg hs hd i0 i1 i12 i13
  intro s511 fl_ a k hr hS Q hQ hgo512 hex513 hret514
  obtain ⟨⟨hg, hs, hd⟩, i0, i1, i12, i13, _⟩ := hS
  unfold slices_Equal_Rect_L0 at hr
  refine stepL 1 (_ :: []) rfl ⟨hg, hs, hd⟩ (by kernel_rfl) ⟨o1 [(13, none), (12, none)] rfl fun _ _ h n => ok_lss rfl (up i13 h n.1) (up i12 h n.2.1), trivial⟩ [⟨_, _⟩, ⟨_, _⟩, ⟨_, _⟩, ⟨_, _⟩, ⟨_, _⟩] (fun b q p => ⟨p.ke 0 rfl i0, p.ke 1 rfl i1, p.ke 12 rfl i12, p.ke 13 rfl i13, p.ou 0 14 rfl, trivial⟩) ?_
  rintro a k ⟨⟨hg, hs, hd⟩, i0, i1, i12, i13, i14, _⟩
  refine wp_seq ?_
  refine wp_cond_split (isBool i14) (fun hc529 => ?_) (fun hc529 => ?_)
  ·rw [if_pos hc529] at hr
   refine wp_skip ?_
   refine wp_seq ?_
   refine wp_block ?_
   refine stepL 2 (_ :: _ :: []) rfl ⟨hg, hs, hd⟩ (by kernel_rfl) ⟨mu rfl i13, cp 0 rfl rfl, trivial⟩ [⟨_, _⟩, ⟨_, _⟩, ⟨_, _⟩, ⟨_, _⟩, ⟨_, _⟩] (fun b q p => ⟨p.ke 0 rfl i0, p.ke 1 rfl i1, p.ou 1 5 rfl, p.ke 12 rfl i12, p.ke 13 rfl i13, trivial⟩) ?_
   rintro a k ⟨⟨hg, hs, hd⟩, i0, i1, i5, i12, i13, _⟩
   refine wp_seq ?_
   obtain ⟨x517_2, hx517_2, hr⟩ := bind_some hr
   obtain ⟨x517_6, hx517_6, hr⟩ := bind_some hr
   refine cut (fun a' k' => Bs noF k0 26 a' k' ∧ (IsV s1_) (a'.get 0) k' ∧ (IsV s2_) (a'.get 1) k' ∧ (IsL s1_) (a'.get 12) k' ∧ (IsV s511) (a'.get 13) k' ∧ (IsV (!decide (x517_2 = x517_6))) (a'.get 24) k' ∧ True) ?_ hQ ?_
   ·intro Q525 hQQ525 hp526
    refine region (a0 := a) (k0 := k) (n := 26) (m := 9) (⟨some (IsV s1_), [(0, none)]⟩ :: ⟨some (IsV s511), [(5, none)]⟩ :: ⟨some (IsPtr x517_2), [(16, some 0), (17, some 1)]⟩ :: ⟨some (IsV x517_2), [(18, some 2)]⟩ :: ⟨some (IsV s2_), [(1, none)]⟩ :: ⟨some (IsV s511), [(5, none)]⟩ :: ⟨some (IsPtr x517_6), [(20, some 4), (21, some 5)]⟩ :: ⟨some (IsV x517_6), [(22, some 6)]⟩ :: ⟨some (IsV (!decide (x517_2 = x517_6))), [(19, some 3), (23, some 7)]⟩ :: []) hmix hs (by kernel_rfl) ⟨ob1 rfl fun b q hk hn => ok_move rfl (up i0 hk hn.1), ob1 rfl fun b q hk hn => ok_move rfl (up i5 hk hn.1), ob1 rfl fun b q hk hn => ok_indexAddr rfl Try.underlying44 ty30 (IsV.rd hn.1) hn.2.1 hx517_2, ob1 rfl fun b q hk hn => ok_load rfl ty30 hn.1, ob1 rfl fun b q hk hn => ok_move rfl (up i1 hk hn.1), ob1 rfl fun b q hk hn => ok_move rfl (up i5 hk hn.1), ob1 rfl fun b q hk hn => ok_indexAddr rfl Try.underlying44 ty30 (IsV.rd hn.1) hn.2.1 hx517_6, ob1 rfl fun b q hk hn => ok_load rfl ty30 hn.1, ob1 rfl fun b q hk hn => ok_neA rfl eq30 hn.1 hn.2.1, trivial⟩ hQQ525 fun b q p => ?_
    exact tail_done (k := q) (hp526 _ _ ⟨Bs.post ⟨hg, hs, hd⟩ p, p.ke 0 rfl i0, p.ke 1 rfl i1, p.ke 12 rfl i12, p.ke 13 rfl i13, p.ou 8 24 rfl, trivial⟩)
   rintro a k ⟨⟨hg, hs, hd⟩, i0, i1, i12, i13, i24, _⟩
   refine wp_cond_split (isBool i24) (fun hc524 => ?_) (fun hc524 => ?_)
   ·rw [if_pos hc524] at hr
    refine stepL 1 (⟨some (IsV false), []⟩ :: []) rfl ⟨hg, hs, hd⟩ (by kernel_rfl) ⟨ob1 rfl fun _ _ h n => ok_assign rfl (isV_bool.2 rfl), trivial⟩ [⟨_, _⟩] (fun b q p => ⟨p.ou 0 4 rfl, trivial⟩) ?_
    rintro a k ⟨⟨hg, hs, hd⟩, i4, _⟩
    refine wp_ret ?_
    exact hret514 _ _ _ (Option.some.inj hr).symm (retC1 rfl hd hg i4)
   rw [if_neg (by rw [hc524]; decide)] at hr
   refine wp_skip ?_
   obtain ⟨x521_0, hx521_0, hr⟩ := bind_some hr
   refine cut (fun a' k' => Bs noF k0 26 a' k' ∧ (IsV s1_) (a'.get 0) k' ∧ (IsV s2_) (a'.get 1) k' ∧ (IsL s1_) (a'.get 12) k' ∧ (IsV x521_0) (a'.get 13) k' ∧ True) ?_ hQ ?_
   ·intro Q522 hQQ522 hp523
    refine gS 2 (_ :: _ :: []) hs (by kernel_rfl) ⟨o1 [(13, none)] rfl fun _ _ h n => ok_add rfl (up i13 h n.1) (cI rfl) hx521_0, cm 0 rfl rfl, trivial⟩ hQQ522 fun b q p => ?_
    exact tail_done (k := q) (hp523 _ _ ⟨Bs.post ⟨hg, hs, hd⟩ p, p.ke 0 rfl i0, p.ke 1 rfl i1, p.ke 12 rfl i12, p.ou 1 13 rfl, trivial⟩)
   rintro a k ⟨⟨hg, hs, hd⟩, i0, i1, i12, i13, _⟩
   exact hgo512 _ _ _ (Option.some.inj hr).symm ⟨⟨hg, hs, hd⟩, i0, i1, i12, i13, trivial⟩
  rw [if_neg (by rw [hc529]; decide)] at hr
  refine wp_exit ?_
  exact hex513 _ _ _ _ (Option.some.inj hr).symm ⟨rfl, ⟨hg, hs, hd⟩, trivial⟩
 ·rintro r537 a k rfl hR
  dsimp only at hr
  obtain rfl := Option.some.inj hr
  exact hR
 ·rintro _ _ _ rfl _
  simp at hr
 clear hf532
 rintro _ s533 a k rfl ⟨rfl, ⟨hg, hs, hd⟩, _⟩
 dsimp only at hr
 refine stepL 1 (⟨some (IsV true), []⟩ :: []) rfl ⟨hg, hs, hd⟩ (by kernel_rfl) ⟨ob1 rfl fun _ _ h n => ok_assign rfl (isV_bool.2 rfl), trivial⟩ [⟨_, _⟩] (fun b q p => ⟨p.ou 0 4 rfl, trivial⟩) ?_
 rintro a k ⟨⟨hg, hs, hd⟩, i4, _⟩
 refine wp_ret ?_
 obtain rfl := Option.some.inj hr
 exact retC1 rfl hd hg i4
def region_Same (a_ : (List Rect)) (b_ : (List Rect)) : Option (Bool) :=
 (slices_Equal_Rect a_ b_).bind fun x547_2 =>
 some x547_2
theorem region_Same_ok {k0 : K} {v0 v1 : Value} {a_ : (List Rect)} {b_ : (List Rect)} {r : Bool} (i0 : (IsV a_) v0 k0) (i1 : (IsV b_) v1 k0) (hr : region_Same a_ b_ = some r) :
  Calls Try.prog 35 #[v0, v1] k0.w (Ret k0 (IsV r)) := by
 unfold region_Same at hr
 refine Ret.ofC ?_
 refine enterK Try.func35 rfl Try.ntmps35 (show 2 ≤ 8 by decide) fun a k hk0 hs hd ha => ?_
 obtain ⟨e0, e1, _⟩ := ha
 replace i0 : (IsV a_) (a.get 0) k := by rw [e0, hk0]; exact i0
 replace i1 : (IsV b_) (a.get 1) k := by rw [e1, hk0]; exact i1
 have hQ : Gb.LetsOut (bodyPost Try.prog Try.f35 (RetC noF k0 (IsV r))) := letsOutC
 have hg : Chg noF k0 k := by rw [hk0]; exact Chg.refl _ k0
 refine stepL 1 (⟨some (IsV false), []⟩ :: []) rfl ⟨hg, hs, hd⟩ (by kernel_rfl) ⟨ob1 rfl fun _ _ h n => ok_assign rfl (isV_bool.2 rfl), trivial⟩ [⟨_, _⟩, ⟨_, _⟩] (fun b q p => ⟨p.ke 0 rfl i0, p.ke 1 rfl i1, trivial⟩) ?_
 rintro a k ⟨⟨hg, hs, hd⟩, i0, i1, _⟩
 refine wp_seq ?_
 obtain ⟨x547_2, hx547_2, hr⟩ := bind_some hr
 refine cut (fun a' k' => Bs noF k0 8 a' k' ∧ (IsV x547_2) (a'.get 4) k' ∧ True) ?_ hQ ?_
 ·intro Q548 hQQ548 hp549
  refine gS 4 (_ :: _ :: _ :: _ :: []) hs (by kernel_rfl) ⟨mu rfl i0, mu rfl i1, o1 [(5, some 0), (6, some 1)] rfl fun _ _ h n => ok_call rfl Try.call53 (slices_Equal_Rect_ok n.1 n.2.1 hx547_2), cp 2 rfl rfl, trivial⟩ hQQ548 fun b q p => ?_
  exact tail_done (k := q) (hp549 _ _ ⟨Bs.post ⟨hg, hs, hd⟩ p, p.ou 3 4 rfl, trivial⟩)
 rintro a k ⟨⟨hg, hs, hd⟩, i4, _⟩
 refine wp_ret ?_
 obtain rfl := Option.some.inj hr
 exact retC1 rfl hd hg i4
end Go.Proofs.Ytmniloampanhfaa
