/- What the functions of calendar compute, part 2 -/
import Derived.Test.YtdpekblabnfjnaaT1
namespace Go.Proofs.Ytdpekblabnfjnaa
open Go.Gb
set_option linter.unusedVariables false
set_option linter.unusedSimpArgs false
section
open Go.Proofs Go.RowKit Go.Lib Go.Sort Go.Shelf
def Try.sortStaysL_ren : Go.Shelf.Ren := ⟨fun | 6 => 39 | 15 => 47 | 14 => 46 | 28 => 58 | 29 => 59 | 20 => 50 | 21 => 51 | 22 => 52 | 23 => 53 | 24 => 54 | 25 => 55 | 26 => 56 | 27 => 57 | 46 => 60 | 47 => 61 | 48 => 62 | 49 => 63 | 50 => 64 | 57 => 65 | n => n, fun | 22 => 23 | 24 => 38 | 25 => 53 | 3 => 3 | 39 => 54 | 0 => 0 | 53 => 69 | 55 => 71 | 4 => 4 | 46 => 63 | 45 => 62 | 50 => 46 | 5 => 5 | 9 => 9 | 66 => 72 | 70 => 76 | 76 => 78 | 77 => 79 | n => n, fun | n => n⟩
theorem Try.sortStaysL : Go.Proofs.SlLaysF0.n6 Try.prog Try.sortStaysL_ren := {
  mixed := by kernel_rfl,
  f6 := ⟨Try.f39.name, by decide, Try.func39.trans (congrArg some (by kernel_rfl))⟩,
  f14 := ⟨Try.f46.name, by decide, Try.func46.trans (congrArg some (by kernel_rfl))⟩,
  f15 := Try.func47.trans (congrArg some (by kernel_rfl)),
  f20 := ⟨Try.f50.name, by decide, Try.func50.trans (congrArg some (by kernel_rfl))⟩,
  f21 := ⟨Try.f51.name, by decide, Try.func51.trans (congrArg some (by kernel_rfl))⟩,
  f22 := ⟨Try.f52.name, by decide, Try.func52.trans (congrArg some (by kernel_rfl))⟩,
  f23 := ⟨Try.f53.name, by decide, Try.func53.trans (congrArg some (by kernel_rfl))⟩,
  f24 := ⟨Try.f54.name, by decide, Try.func54.trans (congrArg some (by kernel_rfl))⟩,
  f25 := ⟨Try.f55.name, by decide, Try.func55.trans (congrArg some (by kernel_rfl))⟩,
  f26 := ⟨Try.f56.name, by decide, Try.func56.trans (congrArg some (by kernel_rfl))⟩,
  f27 := ⟨Try.f57.name, by decide, Try.func57.trans (congrArg some (by kernel_rfl))⟩,
  f28 := Try.func58.trans (congrArg some (by kernel_rfl)),
  f29 := Try.func59.trans (congrArg some (by kernel_rfl)),
  f46 := ⟨Try.f60.name, by decide, Try.func60.trans (congrArg some (by kernel_rfl))⟩,
  f47 := Try.func61.trans (congrArg some (by kernel_rfl)),
  f48 := Try.func62.trans (congrArg some (by kernel_rfl)),
  f49 := ⟨Try.f63.name, by decide, Try.func63.trans (congrArg some (by kernel_rfl))⟩,
  f50 := ⟨Try.f64.name, by decide, Try.func64.trans (congrArg some (by kernel_rfl))⟩,
  f57 := ⟨Try.f65.name, by decide, Try.func65.trans (congrArg some (by kernel_rfl))⟩,
  t0 := Try.underlying0,
  a0 := Try.isAgg0,
  z0 := Try.sizeOf0,
  v0 := Try.zeroValue0,
  t3 := Try.underlying3,
  a3 := Try.isAgg3,
  z3 := Try.sizeOf3,
  v3 := Try.zeroValue3,
  t4 := Try.underlying4,
  a4 := Try.isAgg4,
  z4 := Try.sizeOf4,
  v4 := Try.zeroValue4,
  t5 := Try.underlying5,
  a5 := Try.isAgg5,
  z5 := Try.sizeOf5,
  v5 := Try.zeroValue5,
  t9 := Try.underlying9,
  a9 := Try.isAgg9,
  z9 := Try.sizeOf9,
  v9 := Try.zeroValue9,
  t22 := Try.underlying23,
  a22 := Try.isAgg23,
  z22 := Try.sizeOf23,
  v22 := Try.zeroValue23,
  t25 := Try.underlying53,
  a25 := Try.isAgg53,
  z25 := Try.sizeOf53,
  v25 := Try.zeroValue53,
  t39 := Try.underlying54,
  a39 := Try.isAgg54,
  z39 := Try.sizeOf54,
  v39 := Try.zeroValue54,
  t45 := Try.underlying62,
  a45 := Try.isAgg62,
  z45 := Try.sizeOf62,
  v45 := Try.zeroValue62,
  t46 := Try.underlying63,
  a46 := Try.isAgg63,
  z46 := Try.sizeOf63,
  v46 := Try.zeroValue63,
  t50 := Try.underlying46,
  a50 := Try.isAgg46,
  z50 := Try.sizeOf46,
  v50 := Try.zeroValue46,
  t53 := Try.underlying69,
  a53 := Try.isAgg69,
  z53 := Try.sizeOf69,
  v53 := Try.zeroValue69,
  t55 := Try.underlying71,
  a55 := Try.isAgg71,
  z55 := Try.sizeOf71,
  v55 := Try.zeroValue71,
  t66 := Try.underlying72,
  a66 := Try.isAgg72,
  z66 := Try.sizeOf72,
  v66 := Try.zeroValue72,
  t70 := Try.underlying76,
  a70 := Try.isAgg76,
  z70 := Try.sizeOf76,
  v70 := Try.zeroValue76,
  t76 := Try.underlying78,
  a76 := Try.isAgg78,
  z76 := Try.sizeOf78,
  v76 := Try.zeroValue78,
  t77 := Try.underlying79,
  a77 := Try.isAgg79,
  z77 := Try.sizeOf79,
  v77 := Try.zeroValue79 }
def Try.bitsLenL_ren : Go.Shelf.Ren := ⟨fun | 125 => 47 | 128 => 58 | 129 => 59 | n => n, fun | 46 => 54 | 3 => 3 | 51 => 69 | 53 => 71 | 4 => 4 | 5 => 5 | 9 => 9 | n => n, fun | n => n⟩
theorem Try.bitsLenL : Go.Proofs.Lays.n125 Try.prog Try.bitsLenL_ren := {
  mixed := by kernel_rfl,
  f125 := Try.func47.trans (congrArg some (by kernel_rfl)),
  f128 := Try.func58.trans (congrArg some (by kernel_rfl)),
  f129 := Try.func59.trans (congrArg some (by kernel_rfl)),
  t3 := Try.underlying3,
  a3 := Try.isAgg3,
  z3 := Try.sizeOf3,
  v3 := Try.zeroValue3,
  t4 := Try.underlying4,
  a4 := Try.isAgg4,
  z4 := Try.sizeOf4,
  v4 := Try.zeroValue4,
  t5 := Try.underlying5,
  a5 := Try.isAgg5,
  z5 := Try.sizeOf5,
  v5 := Try.zeroValue5,
  t9 := Try.underlying9,
  a9 := Try.isAgg9,
  z9 := Try.sizeOf9,
  v9 := Try.zeroValue9,
  t46 := Try.underlying54,
  a46 := Try.isAgg54,
  z46 := Try.sizeOf54,
  v46 := Try.zeroValue54,
  t51 := Try.underlying69,
  a51 := Try.isAgg69,
  z51 := Try.sizeOf69,
  v51 := Try.zeroValue69,
  t53 := Try.underlying71,
  a53 := Try.isAgg71,
  z53 := Try.sizeOf71,
  v53 := Try.zeroValue71 }
instance : FlatE Stay := FlatE.ofMap fun x : Stay => (x.From, x.To)
/-- What the comparison of two stays hands back. -/
def stayCmp (x y : Stay) : Int := wrap64 (x.From - y.From)
def sortStays (l : List Stay) : Option (List Stay) := if l.length ≤ 12 then some (Sort.insertionSort (ltOf stayCmp) l.toArray 0 l.toArray.size).toList else none
set_option maxHeartbeats 1000000 in
theorem closure40 (x y : Stay) (W : World) : Calls Try.prog 40 #[.agg #[.int .i64 x.From, .int .i64 x.To], .agg #[.int .i64 y.From, .int .i64 y.To]] W fun e w' => e = .returned (.int .i64 (stayCmp x y)) ∧ ∃ q os', w' = grow (W.drewN q) os' := by
  unfold stayCmp
  go_enter Try.func40, Try.ntmps40
  go_wp2
  go_ret
  exact ⟨rfl, 0, _, by rw [alloc_eq_grow, alloc_eq_grow, grow_grow]; rfl⟩
set_option maxHeartbeats 2000000 in
theorem sortStays_ok {k0 : K} {v0 : Value} {l r : List Stay} (i0 : IsOwn 0 38 l v0 k0) (hr : sortStays l = some r) :
    Calls Try.prog 39 #[v0, .func (.func 40) #[] #[]] k0.w (RetC (obF v0) k0 fun _ k' => IsOwn 0 38 r v0 k') := by
  unfold sortStays at hr
  split at hr
  · rename_i h12
    obtain rfl := Option.some.inj hr
    refine sort_own (S := fun d => Sort.insertionSort (ltOf stayCmp) d 0 d.size) (fun d => Go.Gb.insertionSort_size _ d _ _) (fun p cap w => ?_) (fun blk off cap w hH hblk => ?_) i0
    · have hcon := AnyF.slices_SortFunc_none { Try.sortStaysL with } p cap (.func (.func 40) #[] #[]) w
      change Calls Try.prog 39 _ _ _ at hcon
      exact hcon
    · have hcon := AnyQ.slices_SortFunc_small Try.sortStaysL 2 Try.isAgg38 Try.sizeOf38 (FlatE.enc (α := Stay)) (fun _ => rfl) (fun x v hv => flat_one k0 x v hv) stayCmp 40 #[] blk off cap l.toArray w (enters_of Try.func40 (by kernel_rfl) rfl) (fun _ _ _ _ x y => closure40 x y _) hH hblk (by simpa using h12)
        (fun n W h => (Any.bits_Len Try.bitsLenL n W (by omega) (by omega)).mono fun _ _ ⟨he, hw⟩ => ⟨⟨_, he⟩, hw⟩)
      change Calls Try.prog 39 _ _ _ at hcon
      exact hcon
  · simp at hr
end

def isDay (n_ : Int) : Option (Bool) :=
  some ((decide (0 ≤ n_)) && (decide (n_ ≤ 1073741824)))
theorem isDay_ok {k0 : K} {v0 : Value} {n_ : Int} {r : Bool} (i0 : (IsV n_) v0 k0) (hr : isDay n_ = some r) :
    Calls Try.prog 26 #[v0] k0.w (Ret k0 (IsV r)) := by
  unfold isDay at hr
  refine Ret.ofC ?_
  refine enterK Try.func26 rfl Try.ntmps26 (show 1 ≤ 9 by decide) fun a k hk0 hs hd ha => ?_
  obtain ⟨e0, _⟩ := ha
  replace i0 : (IsV n_) (a.get 0) k := by rw [e0, hk0]; exact i0
  have hQ : Gb.LetsOut (bodyPost Try.prog Try.f26 (RetC noF k0 (IsV r))) := letsOutC
  have hg : Chg noF k0 k := by rw [hk0]; exact Chg.refl _ k0
  refine wp_seq ?_
  refine cut (fun a' k' => Bs noF k0 9 a' k' ∧ (IsV n_) (a'.get 0) k' ∧ True) ?_ hQ ?_
  · intro Q5 hQQ5 hp6
    refine regionS (a0 := a) (k0 := k) (n := 9) (m := 1) (⟨some (IsV false), []⟩ :: []) hs (by kernel_rfl) ⟨ob1 rfl fun b q hk hn => ok_assign rfl (isV_bool.2 rfl), trivial⟩ hQQ5 fun b q p => ?_
    exact tail_done (k := q) (hp6 _ _ ⟨Bs.post ⟨hg, hs, hd⟩ p, keep p 0 rfl i0, trivial⟩)
  rintro a k ⟨⟨hg, hs, hd⟩, i0, _⟩
  refine wp_seq ?_
  refine cut (fun a' k' => Bs noF k0 9 a' k' ∧ (IsV ((decide (0 ≤ n_)) && (decide (n_ ≤ 1073741824)))) (a'.get 2) k' ∧ True) ?_ hQ ?_
  · intro Q3 hQQ3 hp4
    refine regionS (a0 := a) (k0 := k) (n := 9) (m := 7) (⟨some (IsV n_), [(0, none)]⟩ :: ⟨some (IsV (decide (0 ≤ n_))), [(3, some 0)]⟩ :: ⟨some (IsV (decide (0 ≤ n_))), [(4, some 1)]⟩ :: ⟨some (Gd ((decide (0 ≤ n_)) = true) (IsV n_)), [(0, none)]⟩ :: ⟨some (Gd ((decide (0 ≤ n_)) = true) (IsV (decide (n_ ≤ 1073741824)))), [(6, some 3)]⟩ :: ⟨some (IsV ((decide (0 ≤ n_)) && (decide (n_ ≤ 1073741824)))), [(5, some 2), (7, some 4)]⟩ :: ⟨some (IsV ((decide (0 ≤ n_)) && (decide (n_ ≤ 1073741824)))), [(8, some 5)]⟩ :: []) hs (by kernel_rfl) ⟨ob1 rfl fun b q hk hn => ok_move rfl (up i0 hk hn.1), ob1 rfl fun b q hk hn => ok_leq rfl (isV_int.2 rfl) hn.1, ob1 rfl fun b q hk hn => ok_move rfl hn.1, gdT rfl rfl fun hp b q hk hn => ok_move rfl (up i0 hk hn.1), gdT rfl rfl fun hp b q hk hn => ok_leq rfl (Gd.get hn.1 hp) (isV_int.2 rfl), ob1 rfl fun b q hk hn => ok_pickAnd rfl hn.1 (fun hm => (Gd.get hn.2.1 hm)) (fun _ => (isV_bool.2 rfl)), ob1 rfl fun b q hk hn => ok_assign rfl hn.1, trivial⟩ hQQ3 fun b q p => ?_
    exact tail_done (k := q) (hp4 _ _ ⟨Bs.post ⟨hg, hs, hd⟩ p, out p 6 2 _ rfl rfl rfl, trivial⟩)
  rintro a k ⟨⟨hg, hs, hd⟩, i2, _⟩
  refine wp_ret ?_
  obtain rfl := Option.some.inj hr
  exact retC1 rfl hd hg i2
def calRight_L0 (holidays : (List Int)) (s13 : Int) : Option (Flow (Int) (Bool)) :=
  if (decide (s13 < (holidays.length : Int))) then
    (getI holidays s13).bind fun x18_1 =>
    (isDay x18_1).bind fun x19_1 =>
    (if (!x19_1) then
      some true
    else
      (if (decide (0 < s13)) then
        (subI s13 1).bind fun x19_10 =>
        (getI holidays x19_10).bind fun x19_11 =>
        some (decide (x18_1 ≤ x19_11))
      else
        some false).bind fun x19_14 =>
      some x19_14).bind fun x19_15 =>
    if x19_15 then
      some (.ret false)
    else
      (addI s13 1).bind fun x23_0 =>
      some (.go x23_0)
  else
    some (.ex 0 s13)
def calRight (holidays : (List Int)) : Option (Bool) :=
  if (decide (1000 < (holidays.length : Int))) then
    some false
  else
    (iterL (calRight_L0 holidays) (holidays.length + 1) 0).bind fun f34 => match f34 with
      | .go _ => none
      | .ex _ _ =>
        some true
      | .ret r39 => some r39
theorem calRight_ok {k0 : K} {v0 : Value} {holidays : (List Int)} {r : Bool} (i0 : (IsV holidays) v0 k0) (hr : calRight holidays = some r) :
    Calls Try.prog 13 #[v0] k0.w (Ret k0 (IsV r)) := by
  unfold calRight at hr
  refine Ret.ofC ?_
  refine enterK Try.func13 rfl Try.ntmps13 (show 1 ≤ 32 by decide) fun a k hk0 hs hd ha => ?_
  obtain ⟨e0, _⟩ := ha
  replace i0 : (IsV holidays) (a.get 0) k := by rw [e0, hk0]; exact i0
  have hQ : Gb.LetsOut (bodyPost Try.prog Try.f13 (RetC noF k0 (IsV r))) := letsOutC
  have hg : Chg noF k0 k := by rw [hk0]; exact Chg.refl _ k0
  refine wp_seq ?_
  refine cut (fun a' k' => Bs noF k0 32 a' k' ∧ (IsV holidays) (a'.get 0) k' ∧ True) ?_ hQ ?_
  · intro Q46 hQQ46 hp47
    refine regionS (a0 := a) (k0 := k) (n := 32) (m := 1) (⟨some (IsV false), []⟩ :: []) hs (by kernel_rfl) ⟨ob1 rfl fun b q hk hn => ok_assign rfl (isV_bool.2 rfl), trivial⟩ hQQ46 fun b q p => ?_
    exact tail_done (k := q) (hp47 _ _ ⟨Bs.post ⟨hg, hs, hd⟩ p, keep p 0 rfl i0, trivial⟩)
  rintro a k ⟨⟨hg, hs, hd⟩, i0, _⟩
  refine wp_seq ?_
  refine wp_seq ?_
  refine cut (fun a' k' => Bs noF k0 32 a' k' ∧ (IsV holidays) (a'.get 0) k' ∧ (IsV (decide (1000 < (holidays.length : Int)))) (a'.get 7) k' ∧ True) ?_ hQ ?_
  · intro Q44 hQQ44 hp45
    refine regionS (a0 := a) (k0 := k) (n := 32) (m := 3) (⟨some (IsV holidays), [(0, none)]⟩ :: ⟨some (IsV (α := Int) (holidays.length : Int)), [(5, some 0)]⟩ :: ⟨some (IsV (decide (1000 < (holidays.length : Int)))), [(6, some 1)]⟩ :: []) hs (by kernel_rfl) ⟨ob1 rfl fun b q hk hn => ok_move rfl (up i0 hk hn.1), ob1 rfl fun b q hk hn => ok_len rfl rfl Try.underlying22 (IsV.rd hn.1), ob1 rfl fun b q hk hn => ok_gtr rfl hn.1 (isV_int.2 rfl), trivial⟩ hQQ44 fun b q p => ?_
    exact tail_done (k := q) (hp45 _ _ ⟨Bs.post ⟨hg, hs, hd⟩ p, keep p 0 rfl i0, out p 2 7 _ rfl rfl rfl, trivial⟩)
  rintro a k ⟨⟨hg, hs, hd⟩, i0, i7, _⟩
  refine wp_cond_split (isBool i7) (fun hc43 => ?_) (fun hc43 => ?_)
  · rw [if_pos hc43] at hr
    refine wp_seq ?_
    refine cut (fun a' k' => Bs noF k0 32 a' k' ∧ (IsV false) (a'.get 2) k' ∧ True) ?_ hQ ?_
    · intro Q10 hQQ10 hp11
      refine regionS (a0 := a) (k0 := k) (n := 32) (m := 1) (⟨some (IsV false), []⟩ :: []) hs (by kernel_rfl) ⟨ob1 rfl fun b q hk hn => ok_assign rfl (isV_bool.2 rfl), trivial⟩ hQQ10 fun b q p => ?_
      exact tail_done (k := q) (hp11 _ _ ⟨Bs.post ⟨hg, hs, hd⟩ p, out p 0 2 _ rfl rfl rfl, trivial⟩)
    rintro a k ⟨⟨hg, hs, hd⟩, i2, _⟩
    refine wp_ret ?_
    obtain rfl := Option.some.inj hr
    exact retC1 rfl hd hg i2
  rw [if_neg (by rw [hc43]; decide)] at hr
  refine wp_skip ?_
  refine wp_seq ?_
  refine wp_seq ?_
  refine cut (fun a' k' => Bs noF k0 32 a' k' ∧ (IsV holidays) (a'.get 0) k' ∧ (IsV holidays) (a'.get 8) k' ∧ (IsV (α := Int) (holidays.length : Int)) (a'.get 9) k' ∧ (IsV (α := Int) 0) (a'.get 10) k' ∧ True) ?_ hQ ?_
  · intro Q41 hQQ41 hp42
    refine regionS (a0 := a) (k0 := k) (n := 32) (m := 3) (⟨some (IsV holidays), [(0, none)]⟩ :: ⟨some (IsV (α := Int) (holidays.length : Int)), [(8, some 0)]⟩ :: ⟨some (IsV (α := Int) 0), []⟩ :: []) hs (by kernel_rfl) ⟨ob1 rfl fun b q hk hn => ok_move rfl (up i0 hk hn.1), ob1 rfl fun b q hk hn => ok_len rfl rfl Try.underlying22 (IsV.rd hn.1), ob1 rfl fun b q hk hn => ok_move rfl (isV_int.2 rfl), trivial⟩ hQQ41 fun b q p => ?_
    exact tail_done (k := q) (hp42 _ _ ⟨Bs.post ⟨hg, hs, hd⟩ p, keep p 0 rfl i0, out p 0 8 _ rfl rfl rfl, out p 1 9 _ rfl rfl rfl, out p 2 10 _ rfl rfl rfl, trivial⟩)
  rintro a k ⟨⟨hg, hs, hd⟩, i0, i8, i9, i10, _⟩
  refine wp_block ?_
  obtain ⟨f34, hf34, hr⟩ := bind_some hr
  refine cutFe f34 (fun s' a' k' => Bs noF k0 32 a' k' ∧ (IsV holidays) (a'.get 0) k' ∧ (IsV holidays) (a'.get 8) k' ∧ (IsV (α := Int) (holidays.length : Int)) (a'.get 9) k' ∧ (IsV s') (a'.get 10) k' ∧ True) (fun i' s' a' k' => (i' = 0 ∧ Bs noF k0 32 a' k' ∧ True)) (fun r' a' k' => bodyPost Try.prog Try.f13 (RetC noF k0 (IsV r')) .ret a' k'.w) ?_ hQ ?_ ?_ ?_
  · intro Q40 hQQ40 hgo hex hret
    refine sim_loop ?_ _ _ _ _ _ hf34 ⟨⟨hg, hs, hd⟩, i0, i8, i9, i10, trivial⟩ Q40 hQQ40 hgo hex hret
    clear hr hf34 hgo hex hret hQQ40 hQ hg hs hd i0 i10 i8 i9
    intro s13 fl_ a k hr hS Q hQ hgo14 hex15 hret16
    obtain ⟨⟨hg, hs, hd⟩, i0, i8, i9, i10, _⟩ := hS
    unfold calRight_L0 at hr
    refine wp_seq ?_
    refine cut (fun a' k' => Bs noF k0 32 a' k' ∧ (IsV holidays) (a'.get 0) k' ∧ (IsV holidays) (a'.get 8) k' ∧ (IsV (α := Int) (holidays.length : Int)) (a'.get 9) k' ∧ (IsV s13) (a'.get 10) k' ∧ (IsV (decide (s13 < (holidays.length : Int)))) (a'.get 11) k' ∧ True) ?_ hQ ?_
    · intro Q32 hQQ32 hp33
      refine regionS (a0 := a) (k0 := k) (n := 32) (m := 1) (⟨some (IsV (decide (s13 < (holidays.length : Int)))), [(10, none), (9, none)]⟩ :: []) hs (by kernel_rfl) ⟨ob1 rfl fun b q hk hn => ok_lss rfl (up i10 hk hn.1) (up i9 hk hn.2.1), trivial⟩ hQQ32 fun b q p => ?_
      exact tail_done (k := q) (hp33 _ _ ⟨Bs.post ⟨hg, hs, hd⟩ p, keep p 0 rfl i0, keep p 8 rfl i8, keep p 9 rfl i9, keep p 10 rfl i10, out p 0 11 _ rfl rfl rfl, trivial⟩)
    rintro a k ⟨⟨hg, hs, hd⟩, i0, i8, i9, i10, i11, _⟩
    refine wp_seq ?_
    refine wp_cond_split (isBool i11) (fun hc31 => ?_) (fun hc31 => ?_)
    · rw [if_pos hc31] at hr
      refine wp_skip ?_
      refine wp_seq ?_
      refine wp_block ?_
      refine wp_seq ?_
      obtain ⟨x18_1, hx18_1, hr⟩ := bind_some hr
      refine cut (fun a' k' => Bs noF k0 32 a' k' ∧ (IsV holidays) (a'.get 0) k' ∧ (IsV s13) (a'.get 3) k' ∧ (IsV x18_1) (a'.get 4) k' ∧ (IsV holidays) (a'.get 8) k' ∧ (IsV (α := Int) (holidays.length : Int)) (a'.get 9) k' ∧ (IsV s13) (a'.get 10) k' ∧ True) ?_ hQ ?_
      · intro Q29 hQQ29 hp30
        refine regionS (a0 := a) (k0 := k) (n := 32) (m := 5) (⟨some (IsV s13), [(10, none)]⟩ :: ⟨some (IsPtr x18_1), [(8, none), (10, none)]⟩ :: ⟨some (IsV x18_1), [(13, some 1)]⟩ :: ⟨some (IsV s13), [(12, some 0)]⟩ :: ⟨some (IsV x18_1), [(14, some 2)]⟩ :: []) hs (by kernel_rfl) ⟨ob1 rfl fun b q hk hn => ok_move rfl (up i10 hk hn.1), ob1 rfl fun b q hk hn => ok_indexAddr rfl Try.underlying22 ty3 (IsV.rd (up i8 hk hn.1)) (up i10 hk hn.2.1) hx18_1, ob1 rfl fun b q hk hn => ok_load rfl ty3 hn.1, ob1 rfl fun b q hk hn => ok_assign rfl hn.1, ob1 rfl fun b q hk hn => ok_assign rfl hn.1, trivial⟩ hQQ29 fun b q p => ?_
        exact tail_done (k := q) (hp30 _ _ ⟨Bs.post ⟨hg, hs, hd⟩ p, keep p 0 rfl i0, out p 3 3 _ rfl rfl rfl, out p 4 4 _ rfl rfl rfl, keep p 8 rfl i8, keep p 9 rfl i9, keep p 10 rfl i10, trivial⟩)
      rintro a k ⟨⟨hg, hs, hd⟩, i0, i3, i4, i8, i9, i10, _⟩
      refine wp_seq ?_
      obtain ⟨x19_1, hx19_1, hr⟩ := bind_some hr
      obtain ⟨x19_15, hx19_15, hr⟩ := bind_some hr
      obtain ⟨x19_14, hx19_14, hx19_15⟩ := ite_bindF hx19_15
      obtain ⟨x19_10, hx19_10, hx19_14⟩ := ite_bindP hx19_14
      obtain ⟨x19_11, hx19_11, hx19_14⟩ := ite_bindP hx19_14
      refine cut (fun a' k' => Bs noF k0 32 a' k' ∧ (IsV holidays) (a'.get 0) k' ∧ (IsV holidays) (a'.get 8) k' ∧ (IsV (α := Int) (holidays.length : Int)) (a'.get 9) k' ∧ (IsV s13) (a'.get 10) k' ∧ (IsV x19_15) (a'.get 30) k' ∧ True) ?_ hQ ?_
      · intro Q27 hQQ27 hp28
        refine regionS (a0 := a) (k0 := k) (n := 32) (m := 16) (⟨some (IsV x18_1), [(4, none)]⟩ :: ⟨some (IsV x19_1), [(15, some 0)]⟩ :: ⟨some (IsV (!x19_1)), [(16, some 1)]⟩ :: ⟨some (IsV (!x19_1)), [(17, some 2)]⟩ :: ⟨some (Gd ((!x19_1) = false) (IsV s13)), [(3, none)]⟩ :: ⟨some (Gd ((!x19_1) = false) (IsV (decide (0 < s13)))), [(19, some 4)]⟩ :: ⟨some (Gd ((!x19_1) = false) (IsV (decide (0 < s13)))), [(20, some 5)]⟩ :: ⟨some (Gd (((!x19_1) = false) ∧ (decide (0 < s13)) = true) (IsV x18_1)), [(4, none)]⟩ :: ⟨some (Gd (((!x19_1) = false) ∧ (decide (0 < s13)) = true) (IsV holidays)), [(0, none)]⟩ :: ⟨some (Gd (((!x19_1) = false) ∧ (decide (0 < s13)) = true) (IsV s13)), [(3, none)]⟩ :: ⟨some (Gd (((!x19_1) = false) ∧ (decide (0 < s13)) = true) (IsV x19_10)), [(24, some 9)]⟩ :: ⟨some (Gd (((!x19_1) = false) ∧ (decide (0 < s13)) = true) (IsPtr x19_11)), [(23, some 8), (25, some 10)]⟩ :: ⟨some (Gd (((!x19_1) = false) ∧ (decide (0 < s13)) = true) (IsV x19_11)), [(26, some 11)]⟩ :: ⟨some (Gd (((!x19_1) = false) ∧ (decide (0 < s13)) = true) (IsV (decide (x18_1 ≤ x19_11)))), [(22, some 7), (27, some 12)]⟩ :: ⟨some (Gd ((!x19_1) = false) (IsV x19_14)), [(21, some 6), (28, some 13)]⟩ :: ⟨some (IsV x19_15), [(18, some 3), (29, some 14)]⟩ :: []) hs (by kernel_rfl) ⟨ob1 rfl fun b q hk hn => ok_move rfl (up i4 hk hn.1), ob1 rfl fun b q hk hn => ok_call rfl Try.call26 (isDay_ok hn.1 hx19_1), ob1 rfl fun b q hk hn => ok_not rfl hn.1, ob1 rfl fun b q hk hn => ok_move rfl hn.1, gdF rfl rfl fun hp b q hk hn => ok_move rfl (up i3 hk hn.1), gdF rfl rfl fun hp b q hk hn => ok_gtr rfl (Gd.get hn.1 hp) (isV_int.2 rfl), gdF rfl rfl fun hp b q hk hn => ok_move rfl (Gd.get hn.1 hp), gdTT rfl rfl fun hp b q hk hn => ok_move rfl (up i4 hk hn.1), gdTT rfl rfl fun hp b q hk hn => ok_move rfl (up i0 hk hn.1), gdTT rfl rfl fun hp b q hk hn => ok_move rfl (up i3 hk hn.1), gdTT rfl rfl fun hp b q hk hn => ok_sub rfl (Gd.get hn.1 hp) (isV_int.2 rfl) (hx19_10 hp), gdTT rfl rfl fun hp b q hk hn => ok_indexAddr rfl Try.underlying22 ty3 (IsV.rd (Gd.get hn.1 hp)) (Gd.get hn.2.1 hp) (hx19_11 hp), gdTT rfl rfl fun hp b q hk hn => ok_load rfl ty3 (Gd.get hn.1 hp), gdTT rfl rfl fun hp b q hk hn => ok_leq rfl (Gd.get hn.1 hp) (Gd.get hn.2.1 hp), gdF rfl rfl fun hp b q hk hn => ok_pickM rfl (Gd.get hn.1 hp) (hx19_14 hp) (fun hm => (Gd.get hn.2.1 ⟨hp, hm⟩)) (fun _ => (isV_bool.2 rfl)), ob1 rfl fun b q hk hn => ok_pickM rfl hn.1 hx19_15 (fun _ => (isV_bool.2 rfl)) (fun hm => (Gd.get hn.2.1 hm)), trivial⟩ hQQ27 fun b q p => ?_
        exact tail_done (k := q) (hp28 _ _ ⟨Bs.post ⟨hg, hs, hd⟩ p, keep p 0 rfl i0, keep p 8 rfl i8, keep p 9 rfl i9, keep p 10 rfl i10, out p 15 30 _ rfl rfl rfl, trivial⟩)
      rintro a k ⟨⟨hg, hs, hd⟩, i0, i8, i9, i10, i30, _⟩
      refine wp_cond_split (isBool i30) (fun hc26 => ?_) (fun hc26 => ?_)
      · rw [if_pos hc26] at hr
        refine wp_seq ?_
        refine cut (fun a' k' => Bs noF k0 32 a' k' ∧ (IsV false) (a'.get 2) k' ∧ True) ?_ hQ ?_
        · intro Q21 hQQ21 hp22
          refine regionS (a0 := a) (k0 := k) (n := 32) (m := 1) (⟨some (IsV false), []⟩ :: []) hs (by kernel_rfl) ⟨ob1 rfl fun b q hk hn => ok_assign rfl (isV_bool.2 rfl), trivial⟩ hQQ21 fun b q p => ?_
          exact tail_done (k := q) (hp22 _ _ ⟨Bs.post ⟨hg, hs, hd⟩ p, out p 0 2 _ rfl rfl rfl, trivial⟩)
        rintro a k ⟨⟨hg, hs, hd⟩, i2, _⟩
        refine wp_ret ?_
        exact hret16 _ _ _ (Option.some.inj hr).symm (retC1 rfl hd hg i2)
      rw [if_neg (by rw [hc26]; decide)] at hr
      refine wp_skip ?_
      obtain ⟨x23_0, hx23_0, hr⟩ := bind_some hr
      refine cut (fun a' k' => Bs noF k0 32 a' k' ∧ (IsV holidays) (a'.get 0) k' ∧ (IsV holidays) (a'.get 8) k' ∧ (IsV (α := Int) (holidays.length : Int)) (a'.get 9) k' ∧ (IsV x23_0) (a'.get 10) k' ∧ True) ?_ hQ ?_
      · intro Q24 hQQ24 hp25
        refine regionS (a0 := a) (k0 := k) (n := 32) (m := 2) (⟨some (IsV x23_0), [(10, none)]⟩ :: ⟨some (IsV x23_0), [(31, some 0)]⟩ :: []) hs (by kernel_rfl) ⟨ob1 rfl fun b q hk hn => ok_add rfl (up i10 hk hn.1) (isV_int.2 rfl) hx23_0, ob1 rfl fun b q hk hn => ok_move rfl hn.1, trivial⟩ hQQ24 fun b q p => ?_
        exact tail_done (k := q) (hp25 _ _ ⟨Bs.post ⟨hg, hs, hd⟩ p, keep p 0 rfl i0, keep p 8 rfl i8, keep p 9 rfl i9, out p 1 10 _ rfl rfl rfl, trivial⟩)
      rintro a k ⟨⟨hg, hs, hd⟩, i0, i8, i9, i10, _⟩
      exact hgo14 _ _ _ (Option.some.inj hr).symm ⟨⟨hg, hs, hd⟩, i0, i8, i9, i10, trivial⟩
    rw [if_neg (by rw [hc31]; decide)] at hr
    refine wp_exit ?_
    exact hex15 _ _ _ _ (Option.some.inj hr).symm ⟨rfl, ⟨hg, hs, hd⟩, trivial⟩
  · rintro r39 a k rfl hR
    dsimp only at hr
    obtain rfl := Option.some.inj hr
    exact hR
  · rintro _ _ _ rfl _
    simp at hr
  clear hf34
  rintro _ s35 a k rfl ⟨rfl, ⟨hg, hs, hd⟩, _⟩
  dsimp only at hr
  refine wp_seq ?_
  refine cut (fun a' k' => Bs noF k0 32 a' k' ∧ (IsV true) (a'.get 2) k' ∧ True) ?_ hQ ?_
  · intro Q37 hQQ37 hp38
    refine regionS (a0 := a) (k0 := k) (n := 32) (m := 1) (⟨some (IsV true), []⟩ :: []) hs (by kernel_rfl) ⟨ob1 rfl fun b q hk hn => ok_assign rfl (isV_bool.2 rfl), trivial⟩ hQQ37 fun b q p => ?_
    exact tail_done (k := q) (hp38 _ _ ⟨Bs.post ⟨hg, hs, hd⟩ p, out p 0 2 _ rfl rfl rfl, trivial⟩)
  rintro a k ⟨⟨hg, hs, hd⟩, i2, _⟩
  refine wp_ret ?_
  obtain rfl := Option.some.inj hr
  exact retC1 rfl hd hg i2
def few (holidays : (List Int)) (stays : (List Stay)) : Option (Bool) :=
  some ((decide ((holidays.length : Int) ≤ 30)) && (decide ((stays.length : Int) ≤ 10)))
theorem few_ok {k0 : K} {v0 v1 : Value} {holidays : (List Int)} {stays : (List Stay)} {r : Bool} (i0 : (IsV holidays) v0 k0) (i1 : (IsV stays) v1 k0) (hr : few holidays stays = some r) :
    Calls Try.prog 23 #[v0, v1] k0.w (Ret k0 (IsV r)) := by
  unfold few at hr
  refine Ret.ofC ?_
  refine enterK Try.func23 rfl Try.ntmps23 (show 2 ≤ 13 by decide) fun a k hk0 hs hd ha => ?_
  obtain ⟨e0, e1, _⟩ := ha
  replace i0 : (IsV holidays) (a.get 0) k := by rw [e0, hk0]; exact i0
  replace i1 : (IsV stays) (a.get 1) k := by rw [e1, hk0]; exact i1
  have hQ : Gb.LetsOut (bodyPost Try.prog Try.f23 (RetC noF k0 (IsV r))) := letsOutC
  have hg : Chg noF k0 k := by rw [hk0]; exact Chg.refl _ k0
  refine wp_seq ?_
  refine cut (fun a' k' => Bs noF k0 13 a' k' ∧ (IsV holidays) (a'.get 0) k' ∧ (IsV stays) (a'.get 1) k' ∧ True) ?_ hQ ?_
  · intro Q52 hQQ52 hp53
    refine regionS (a0 := a) (k0 := k) (n := 13) (m := 1) (⟨some (IsV false), []⟩ :: []) hs (by kernel_rfl) ⟨ob1 rfl fun b q hk hn => ok_assign rfl (isV_bool.2 rfl), trivial⟩ hQQ52 fun b q p => ?_
    exact tail_done (k := q) (hp53 _ _ ⟨Bs.post ⟨hg, hs, hd⟩ p, keep p 0 rfl i0, keep p 1 rfl i1, trivial⟩)
  rintro a k ⟨⟨hg, hs, hd⟩, i0, i1, _⟩
  refine wp_seq ?_
  refine cut (fun a' k' => Bs noF k0 13 a' k' ∧ (IsV ((decide ((holidays.length : Int) ≤ 30)) && (decide ((stays.length : Int) ≤ 10)))) (a'.get 4) k' ∧ True) ?_ hQ ?_
  · intro Q50 hQQ50 hp51
    refine regionS (a0 := a) (k0 := k) (n := 13) (m := 9) (⟨some (IsV holidays), [(0, none)]⟩ :: ⟨some (IsV (α := Int) (holidays.length : Int)), [(5, some 0)]⟩ :: ⟨some (IsV (decide ((holidays.length : Int) ≤ 30))), [(6, some 1)]⟩ :: ⟨some (IsV (decide ((holidays.length : Int) ≤ 30))), [(7, some 2)]⟩ :: ⟨some (Gd ((decide ((holidays.length : Int) ≤ 30)) = true) (IsV stays)), [(1, none)]⟩ :: ⟨some (Gd ((decide ((holidays.length : Int) ≤ 30)) = true) (IsV (α := Int) (stays.length : Int))), [(9, some 4)]⟩ :: ⟨some (Gd ((decide ((holidays.length : Int) ≤ 30)) = true) (IsV (decide ((stays.length : Int) ≤ 10)))), [(10, some 5)]⟩ :: ⟨some (IsV ((decide ((holidays.length : Int) ≤ 30)) && (decide ((stays.length : Int) ≤ 10)))), [(8, some 3), (11, some 6)]⟩ :: ⟨some (IsV ((decide ((holidays.length : Int) ≤ 30)) && (decide ((stays.length : Int) ≤ 10)))), [(12, some 7)]⟩ :: []) hs (by kernel_rfl) ⟨ob1 rfl fun b q hk hn => ok_move rfl (up i0 hk hn.1), ob1 rfl fun b q hk hn => ok_len rfl rfl Try.underlying22 (IsV.rd hn.1), ob1 rfl fun b q hk hn => ok_leq rfl hn.1 (isV_int.2 rfl), ob1 rfl fun b q hk hn => ok_move rfl hn.1, gdT rfl rfl fun hp b q hk hn => ok_move rfl (up i1 hk hn.1), gdT rfl rfl fun hp b q hk hn => ok_len rfl rfl Try.underlying23 (IsV.rd (Gd.get hn.1 hp)), gdT rfl rfl fun hp b q hk hn => ok_leq rfl (Gd.get hn.1 hp) (isV_int.2 rfl), ob1 rfl fun b q hk hn => ok_pickAnd rfl hn.1 (fun hm => (Gd.get hn.2.1 hm)) (fun _ => (isV_bool.2 rfl)), ob1 rfl fun b q hk hn => ok_assign rfl hn.1, trivial⟩ hQQ50 fun b q p => ?_
    exact tail_done (k := q) (hp51 _ _ ⟨Bs.post ⟨hg, hs, hd⟩ p, out p 8 4 _ rfl rfl rfl, trivial⟩)
  rintro a k ⟨⟨hg, hs, hd⟩, i4, _⟩
  refine wp_ret ?_
  obtain rfl := Option.some.inj hr
  exact retC1 rfl hd hg i4
def within (n_ : Int) (from_ : Int) (to_ : Int) : Option (Bool) :=
  some ((decide (from_ ≤ n_)) && (decide (n_ ≤ to_)))
theorem within_ok {k0 : K} {v0 v1 v2 : Value} {n_ : Int} {from_ : Int} {to_ : Int} {r : Bool} (i0 : (IsV n_) v0 k0) (i1 : (IsV from_) v1 k0) (i2 : (IsV to_) v2 k0) (hr : within n_ from_ to_ = some r) :
    Calls Try.prog 24 #[v0, v1, v2] k0.w (Ret k0 (IsV r)) := by
  unfold within at hr
  refine Ret.ofC ?_
  refine enterK Try.func24 rfl Try.ntmps24 (show 3 ≤ 15 by decide) fun a k hk0 hs hd ha => ?_
  obtain ⟨e0, e1, e2, _⟩ := ha
  replace i0 : (IsV n_) (a.get 0) k := by rw [e0, hk0]; exact i0
  replace i1 : (IsV from_) (a.get 1) k := by rw [e1, hk0]; exact i1
  replace i2 : (IsV to_) (a.get 2) k := by rw [e2, hk0]; exact i2
  have hQ : Gb.LetsOut (bodyPost Try.prog Try.f24 (RetC noF k0 (IsV r))) := letsOutC
  have hg : Chg noF k0 k := by rw [hk0]; exact Chg.refl _ k0
  refine wp_seq ?_
  refine cut (fun a' k' => Bs noF k0 15 a' k' ∧ (IsV n_) (a'.get 0) k' ∧ (IsV from_) (a'.get 1) k' ∧ (IsV to_) (a'.get 2) k' ∧ True) ?_ hQ ?_
  · intro Q58 hQQ58 hp59
    refine regionS (a0 := a) (k0 := k) (n := 15) (m := 1) (⟨some (IsV false), []⟩ :: []) hs (by kernel_rfl) ⟨ob1 rfl fun b q hk hn => ok_assign rfl (isV_bool.2 rfl), trivial⟩ hQQ58 fun b q p => ?_
    exact tail_done (k := q) (hp59 _ _ ⟨Bs.post ⟨hg, hs, hd⟩ p, keep p 0 rfl i0, keep p 1 rfl i1, keep p 2 rfl i2, trivial⟩)
  rintro a k ⟨⟨hg, hs, hd⟩, i0, i1, i2, _⟩
  refine wp_seq ?_
  refine cut (fun a' k' => Bs noF k0 15 a' k' ∧ (IsV ((decide (from_ ≤ n_)) && (decide (n_ ≤ to_)))) (a'.get 6) k' ∧ True) ?_ hQ ?_
  · intro Q56 hQQ56 hp57
    refine regionS (a0 := a) (k0 := k) (n := 15) (m := 9) (⟨some (IsV n_), [(0, none)]⟩ :: ⟨some (IsV from_), [(1, none)]⟩ :: ⟨some (IsV (decide (from_ ≤ n_))), [(7, some 0), (8, some 1)]⟩ :: ⟨some (IsV (decide (from_ ≤ n_))), [(9, some 2)]⟩ :: ⟨some (Gd ((decide (from_ ≤ n_)) = true) (IsV n_)), [(0, none)]⟩ :: ⟨some (Gd ((decide (from_ ≤ n_)) = true) (IsV to_)), [(2, none)]⟩ :: ⟨some (Gd ((decide (from_ ≤ n_)) = true) (IsV (decide (n_ ≤ to_)))), [(11, some 4), (12, some 5)]⟩ :: ⟨some (IsV ((decide (from_ ≤ n_)) && (decide (n_ ≤ to_)))), [(10, some 3), (13, some 6)]⟩ :: ⟨some (IsV ((decide (from_ ≤ n_)) && (decide (n_ ≤ to_)))), [(14, some 7)]⟩ :: []) hs (by kernel_rfl) ⟨ob1 rfl fun b q hk hn => ok_move rfl (up i0 hk hn.1), ob1 rfl fun b q hk hn => ok_move rfl (up i1 hk hn.1), ob1 rfl fun b q hk hn => ok_geq rfl hn.1 hn.2.1, ob1 rfl fun b q hk hn => ok_move rfl hn.1, gdT rfl rfl fun hp b q hk hn => ok_move rfl (up i0 hk hn.1), gdT rfl rfl fun hp b q hk hn => ok_move rfl (up i2 hk hn.1), gdT rfl rfl fun hp b q hk hn => ok_leq rfl (Gd.get hn.1 hp) (Gd.get hn.2.1 hp), ob1 rfl fun b q hk hn => ok_pickAnd rfl hn.1 (fun hm => (Gd.get hn.2.1 hm)) (fun _ => (isV_bool.2 rfl)), ob1 rfl fun b q hk hn => ok_assign rfl hn.1, trivial⟩ hQQ56 fun b q p => ?_
    exact tail_done (k := q) (hp57 _ _ ⟨Bs.post ⟨hg, hs, hd⟩ p, out p 8 6 _ rfl rfl rfl, trivial⟩)
  rintro a k ⟨⟨hg, hs, hd⟩, i6, _⟩
  refine wp_ret ?_
  obtain rfl := Option.some.inj hr
  exact retC1 rfl hd hg i6
def indexFunc_L0 (s_ : (List Stay)) (f_ : (Stay → Option (Bool))) (s62 : Int) : Option (Flow (Int) (Int)) :=
  if (decide (s62 < (s_.length : Int))) then
    (getI s_ s62).bind fun x68_3 =>
    (f_ x68_3).bind fun x68_5 =>
    if x68_5 then
      some (.ret s62)
    else
      (addI s62 1).bind fun x72_0 =>
      some (.go x72_0)
  else
    some (.ex 0 s62)
def indexFunc (s_ : (List Stay)) (f_ : (Stay → Option (Bool))) : Option (Int) :=
  (iterL (indexFunc_L0 s_ f_) (s_.length + 1) 0).bind fun f83 => match f83 with
    | .go _ => none
    | .ex _ _ =>
      some (-1)
    | .ret r88 => some r88
theorem indexFunc_ok {k0 : K} {v0 v1 : Value} {s_ : (List Stay)} {f_ : (Stay → Option (Bool))} {r : Int} (i0 : (IsV s_) v0 k0) (i1 : (IsFn1 Try.prog f_) v1 k0) (hr : indexFunc s_ f_ = some r) :
    Calls Try.prog 45 #[v0, v1] k0.w (Ret k0 (IsV r)) := by
  unfold indexFunc at hr
  refine Ret.ofC ?_
  refine enterK Try.func45 rfl Try.ntmps45 (show 2 ≤ 19 by decide) fun a k hk0 hs hd ha => ?_
  obtain ⟨e0, e1, _⟩ := ha
  replace i0 : (IsV s_) (a.get 0) k := by rw [e0, hk0]; exact i0
  replace i1 : (IsFn1 Try.prog f_) (a.get 1) k := by rw [e1, hk0]; exact i1
  have hQ : Gb.LetsOut (bodyPost Try.prog Try.f45 (RetC noF k0 (IsV r))) := letsOutC
  have hg : Chg noF k0 k := by rw [hk0]; exact Chg.refl _ k0
  refine wp_seq ?_
  refine cut (fun a' k' => Bs noF k0 19 a' k' ∧ (IsV s_) (a'.get 0) k' ∧ (IsFn1 Try.prog f_) (a'.get 1) k' ∧ True) ?_ hQ ?_
  · intro Q92 hQQ92 hp93
    refine regionS (a0 := a) (k0 := k) (n := 19) (m := 1) (⟨some (IsV (α := Int) 0), []⟩ :: []) hs (by kernel_rfl) ⟨ob1 rfl fun b q hk hn => ok_assign rfl (isV_int.2 rfl), trivial⟩ hQQ92 fun b q p => ?_
    exact tail_done (k := q) (hp93 _ _ ⟨Bs.post ⟨hg, hs, hd⟩ p, keep p 0 rfl i0, keep p 1 rfl i1, trivial⟩)
  rintro a k ⟨⟨hg, hs, hd⟩, i0, i1, _⟩
  refine wp_seq ?_
  refine wp_seq ?_
  refine cut (fun a' k' => Bs noF k0 19 a' k' ∧ (IsV s_) (a'.get 0) k' ∧ (IsFn1 Try.prog f_) (a'.get 1) k' ∧ (IsV (α := Int) (s_.length : Int)) (a'.get 7) k' ∧ (IsV (α := Int) 0) (a'.get 8) k' ∧ True) ?_ hQ ?_
  · intro Q90 hQQ90 hp91
    refine regionS (a0 := a) (k0 := k) (n := 19) (m := 3) (⟨some (IsV s_), [(0, none)]⟩ :: ⟨some (IsV (α := Int) (s_.length : Int)), [(6, some 0)]⟩ :: ⟨some (IsV (α := Int) 0), []⟩ :: []) hs (by kernel_rfl) ⟨ob1 rfl fun b q hk hn => ok_move rfl (up i0 hk hn.1), ob1 rfl fun b q hk hn => ok_len rfl rfl Try.underlying23 (IsV.rd hn.1), ob1 rfl fun b q hk hn => ok_move rfl (isV_int.2 rfl), trivial⟩ hQQ90 fun b q p => ?_
    exact tail_done (k := q) (hp91 _ _ ⟨Bs.post ⟨hg, hs, hd⟩ p, keep p 0 rfl i0, keep p 1 rfl i1, out p 1 7 _ rfl rfl rfl, out p 2 8 _ rfl rfl rfl, trivial⟩)
  rintro a k ⟨⟨hg, hs, hd⟩, i0, i1, i7, i8, _⟩
  refine wp_block ?_
  obtain ⟨f83, hf83, hr⟩ := bind_some hr
  refine cutFe f83 (fun s' a' k' => Bs noF k0 19 a' k' ∧ (IsV s_) (a'.get 0) k' ∧ (IsFn1 Try.prog f_) (a'.get 1) k' ∧ (IsV (α := Int) (s_.length : Int)) (a'.get 7) k' ∧ (IsV s') (a'.get 8) k' ∧ True) (fun i' s' a' k' => (i' = 0 ∧ Bs noF k0 19 a' k' ∧ True)) (fun r' a' k' => bodyPost Try.prog Try.f45 (RetC noF k0 (IsV r')) .ret a' k'.w) ?_ hQ ?_ ?_ ?_
  · intro Q89 hQQ89 hgo hex hret
    refine sim_loop ?_ _ _ _ _ _ hf83 ⟨⟨hg, hs, hd⟩, i0, i1, i7, i8, trivial⟩ Q89 hQQ89 hgo hex hret
    clear hr hf83 hgo hex hret hQQ89 hQ hg hs hd i0 i1 i7 i8
    intro s62 fl_ a k hr hS Q hQ hgo63 hex64 hret65
    obtain ⟨⟨hg, hs, hd⟩, i0, i1, i7, i8, _⟩ := hS
    unfold indexFunc_L0 at hr
    refine wp_seq ?_
    refine cut (fun a' k' => Bs noF k0 19 a' k' ∧ (IsV s_) (a'.get 0) k' ∧ (IsFn1 Try.prog f_) (a'.get 1) k' ∧ (IsV (α := Int) (s_.length : Int)) (a'.get 7) k' ∧ (IsV s62) (a'.get 8) k' ∧ (IsV (decide (s62 < (s_.length : Int)))) (a'.get 9) k' ∧ True) ?_ hQ ?_
    · intro Q81 hQQ81 hp82
      refine regionS (a0 := a) (k0 := k) (n := 19) (m := 1) (⟨some (IsV (decide (s62 < (s_.length : Int)))), [(8, none), (7, none)]⟩ :: []) hs (by kernel_rfl) ⟨ob1 rfl fun b q hk hn => ok_lss rfl (up i8 hk hn.1) (up i7 hk hn.2.1), trivial⟩ hQQ81 fun b q p => ?_
      exact tail_done (k := q) (hp82 _ _ ⟨Bs.post ⟨hg, hs, hd⟩ p, keep p 0 rfl i0, keep p 1 rfl i1, keep p 7 rfl i7, keep p 8 rfl i8, out p 0 9 _ rfl rfl rfl, trivial⟩)
    rintro a k ⟨⟨hg, hs, hd⟩, i0, i1, i7, i8, i9, _⟩
    refine wp_seq ?_
    refine wp_cond_split (isBool i9) (fun hc80 => ?_) (fun hc80 => ?_)
    · rw [if_pos hc80] at hr
      refine wp_skip ?_
      refine wp_seq ?_
      refine wp_block ?_
      refine wp_seq ?_
      refine cut (fun a' k' => Bs noF k0 19 a' k' ∧ (IsV s_) (a'.get 0) k' ∧ (IsFn1 Try.prog f_) (a'.get 1) k' ∧ (IsV s62) (a'.get 5) k' ∧ (IsV (α := Int) (s_.length : Int)) (a'.get 7) k' ∧ (IsV s62) (a'.get 8) k' ∧ True) ?_ hQ ?_
      · intro Q78 hQQ78 hp79
        refine regionS (a0 := a) (k0 := k) (n := 19) (m := 2) (⟨some (IsV s62), [(8, none)]⟩ :: ⟨some (IsV s62), [(10, some 0)]⟩ :: []) hs (by kernel_rfl) ⟨ob1 rfl fun b q hk hn => ok_move rfl (up i8 hk hn.1), ob1 rfl fun b q hk hn => ok_assign rfl hn.1, trivial⟩ hQQ78 fun b q p => ?_
        exact tail_done (k := q) (hp79 _ _ ⟨Bs.post ⟨hg, hs, hd⟩ p, keep p 0 rfl i0, keep p 1 rfl i1, out p 1 5 _ rfl rfl rfl, keep p 7 rfl i7, keep p 8 rfl i8, trivial⟩)
      rintro a k ⟨⟨hg, hs, hd⟩, i0, i1, i5, i7, i8, _⟩
      refine wp_seq ?_
      obtain ⟨x68_3, hx68_3, hr⟩ := bind_some hr
      obtain ⟨x68_5, hx68_5, hr⟩ := bind_some hr
      refine cut (fun a' k' => Bs noF k0 19 a' k' ∧ (IsV s_) (a'.get 0) k' ∧ (IsFn1 Try.prog f_) (a'.get 1) k' ∧ (IsV s62) (a'.get 5) k' ∧ (IsV (α := Int) (s_.length : Int)) (a'.get 7) k' ∧ (IsV s62) (a'.get 8) k' ∧ (IsV x68_5) (a'.get 16) k' ∧ True) ?_ hQ ?_
      · intro Q76 hQQ76 hp77
        refine regionS (a0 := a) (k0 := k) (n := 19) (m := 6) (⟨some (IsFn1 Try.prog f_), [(1, none)]⟩ :: ⟨some (IsV s_), [(0, none)]⟩ :: ⟨some (IsV s62), [(5, none)]⟩ :: ⟨some (IsPtr x68_3), [(12, some 1), (13, some 2)]⟩ :: ⟨some (IsV x68_3), [(14, some 3)]⟩ :: ⟨some (IsV x68_5), [(11, some 0), (15, some 4)]⟩ :: []) hs (by kernel_rfl) ⟨ob1 rfl fun b q hk hn => ok_move rfl (up i1 hk hn.1), ob1 rfl fun b q hk hn => ok_move rfl (up i0 hk hn.1), ob1 rfl fun b q hk hn => ok_move rfl (up i5 hk hn.1), ob1 rfl fun b q hk hn => ok_indexAddr rfl Try.underlying23 ty38 (IsV.rd hn.1) hn.2.1 hx68_3, ob1 rfl fun b q hk hn => ok_load rfl ty38 hn.1, ob1 rfl fun b q hk hn => ok_callF1 rfl hn.1 hn.2.1 hx68_5, trivial⟩ hQQ76 fun b q p => ?_
        exact tail_done (k := q) (hp77 _ _ ⟨Bs.post ⟨hg, hs, hd⟩ p, keep p 0 rfl i0, keep p 1 rfl i1, keep p 5 rfl i5, keep p 7 rfl i7, keep p 8 rfl i8, out p 5 16 _ rfl rfl rfl, trivial⟩)
      rintro a k ⟨⟨hg, hs, hd⟩, i0, i1, i5, i7, i8, i16, _⟩
      refine wp_cond_split (isBool i16) (fun hc75 => ?_) (fun hc75 => ?_)
      · rw [if_pos hc75] at hr
        refine wp_seq ?_
        refine cut (fun a' k' => Bs noF k0 19 a' k' ∧ (IsV s62) (a'.get 4) k' ∧ True) ?_ hQ ?_
        · intro Q70 hQQ70 hp71
          refine regionS (a0 := a) (k0 := k) (n := 19) (m := 2) (⟨some (IsV s62), [(5, none)]⟩ :: ⟨some (IsV s62), [(17, some 0)]⟩ :: []) hs (by kernel_rfl) ⟨ob1 rfl fun b q hk hn => ok_move rfl (up i5 hk hn.1), ob1 rfl fun b q hk hn => ok_assign rfl hn.1, trivial⟩ hQQ70 fun b q p => ?_
          exact tail_done (k := q) (hp71 _ _ ⟨Bs.post ⟨hg, hs, hd⟩ p, out p 1 4 _ rfl rfl rfl, trivial⟩)
        rintro a k ⟨⟨hg, hs, hd⟩, i4, _⟩
        refine wp_ret ?_
        exact hret65 _ _ _ (Option.some.inj hr).symm (retC1 rfl hd hg i4)
      rw [if_neg (by rw [hc75]; decide)] at hr
      refine wp_skip ?_
      obtain ⟨x72_0, hx72_0, hr⟩ := bind_some hr
      refine cut (fun a' k' => Bs noF k0 19 a' k' ∧ (IsV s_) (a'.get 0) k' ∧ (IsFn1 Try.prog f_) (a'.get 1) k' ∧ (IsV (α := Int) (s_.length : Int)) (a'.get 7) k' ∧ (IsV x72_0) (a'.get 8) k' ∧ True) ?_ hQ ?_
      · intro Q73 hQQ73 hp74
        refine regionS (a0 := a) (k0 := k) (n := 19) (m := 2) (⟨some (IsV x72_0), [(8, none)]⟩ :: ⟨some (IsV x72_0), [(18, some 0)]⟩ :: []) hs (by kernel_rfl) ⟨ob1 rfl fun b q hk hn => ok_add rfl (up i8 hk hn.1) (isV_int.2 rfl) hx72_0, ob1 rfl fun b q hk hn => ok_move rfl hn.1, trivial⟩ hQQ73 fun b q p => ?_
        exact tail_done (k := q) (hp74 _ _ ⟨Bs.post ⟨hg, hs, hd⟩ p, keep p 0 rfl i0, keep p 1 rfl i1, keep p 7 rfl i7, out p 1 8 _ rfl rfl rfl, trivial⟩)
      rintro a k ⟨⟨hg, hs, hd⟩, i0, i1, i7, i8, _⟩
      exact hgo63 _ _ _ (Option.some.inj hr).symm ⟨⟨hg, hs, hd⟩, i0, i1, i7, i8, trivial⟩
    rw [if_neg (by rw [hc80]; decide)] at hr
    refine wp_exit ?_
    exact hex64 _ _ _ _ (Option.some.inj hr).symm ⟨rfl, ⟨hg, hs, hd⟩, trivial⟩
  · rintro r88 a k rfl hR
    dsimp only at hr
    obtain rfl := Option.some.inj hr
    exact hR
  · rintro _ _ _ rfl _
    simp at hr
  clear hf83
  rintro _ s84 a k rfl ⟨rfl, ⟨hg, hs, hd⟩, _⟩
  dsimp only at hr
  refine wp_seq ?_
  refine cut (fun a' k' => Bs noF k0 19 a' k' ∧ (IsV (α := Int) (-1)) (a'.get 4) k' ∧ True) ?_ hQ ?_
  · intro Q86 hQQ86 hp87
    refine regionS (a0 := a) (k0 := k) (n := 19) (m := 1) (⟨some (IsV (α := Int) (-1)), []⟩ :: []) hs (by kernel_rfl) ⟨ob1 rfl fun b q hk hn => ok_assign rfl (isV_int.2 rfl), trivial⟩ hQQ86 fun b q p => ?_
    exact tail_done (k := q) (hp87 _ _ ⟨Bs.post ⟨hg, hs, hd⟩ p, out p 0 4 _ rfl rfl rfl, trivial⟩)
  rintro a k ⟨⟨hg, hs, hd⟩, i4, _⟩
  refine wp_ret ?_
  obtain rfl := Option.some.inj hr
  exact retC1 rfl hd hg i4
def containsFunc (s_ : (List Stay)) (f_ : (Stay → Option (Bool))) : Option (Bool) :=
  (indexFunc s_ f_).bind fun x95_2 =>
  some (decide (0 ≤ x95_2))
theorem containsFunc_ok {k0 : K} {v0 v1 : Value} {s_ : (List Stay)} {f_ : (Stay → Option (Bool))} {r : Bool} (i0 : (IsV s_) v0 k0) (i1 : (IsFn1 Try.prog f_) v1 k0) (hr : containsFunc s_ f_ = some r) :
    Calls Try.prog 35 #[v0, v1] k0.w (Ret k0 (IsV r)) := by
  unfold containsFunc at hr
  refine Ret.ofC ?_
  refine enterK Try.func35 rfl Try.ntmps35 (show 2 ≤ 9 by decide) fun a k hk0 hs hd ha => ?_
  obtain ⟨e0, e1, _⟩ := ha
  replace i0 : (IsV s_) (a.get 0) k := by rw [e0, hk0]; exact i0
  replace i1 : (IsFn1 Try.prog f_) (a.get 1) k := by rw [e1, hk0]; exact i1
  have hQ : Gb.LetsOut (bodyPost Try.prog Try.f35 (RetC noF k0 (IsV r))) := letsOutC
  have hg : Chg noF k0 k := by rw [hk0]; exact Chg.refl _ k0
  refine wp_seq ?_
  refine cut (fun a' k' => Bs noF k0 9 a' k' ∧ (IsV s_) (a'.get 0) k' ∧ (IsFn1 Try.prog f_) (a'.get 1) k' ∧ True) ?_ hQ ?_
  · intro Q98 hQQ98 hp99
    refine regionS (a0 := a) (k0 := k) (n := 9) (m := 1) (⟨some (IsV false), []⟩ :: []) hs (by kernel_rfl) ⟨ob1 rfl fun b q hk hn => ok_assign rfl (isV_bool.2 rfl), trivial⟩ hQQ98 fun b q p => ?_
    exact tail_done (k := q) (hp99 _ _ ⟨Bs.post ⟨hg, hs, hd⟩ p, keep p 0 rfl i0, keep p 1 rfl i1, trivial⟩)
  rintro a k ⟨⟨hg, hs, hd⟩, i0, i1, _⟩
  refine wp_seq ?_
  obtain ⟨x95_2, hx95_2, hr⟩ := bind_some hr
  refine cut (fun a' k' => Bs noF k0 9 a' k' ∧ (IsV (decide (0 ≤ x95_2))) (a'.get 4) k' ∧ True) ?_ hQ ?_
  · intro Q96 hQQ96 hp97
    refine regionS (a0 := a) (k0 := k) (n := 9) (m := 5) (⟨some (IsV s_), [(0, none)]⟩ :: ⟨some (IsFn1 Try.prog f_), [(1, none)]⟩ :: ⟨some (IsV x95_2), [(5, some 0), (6, some 1)]⟩ :: ⟨some (IsV (decide (0 ≤ x95_2))), [(7, some 2)]⟩ :: ⟨some (IsV (decide (0 ≤ x95_2))), [(8, some 3)]⟩ :: []) hs (by kernel_rfl) ⟨ob1 rfl fun b q hk hn => ok_move rfl (up i0 hk hn.1), ob1 rfl fun b q hk hn => ok_move rfl (up i1 hk hn.1), ob1 rfl fun b q hk hn => ok_call rfl Try.call45 (indexFunc_ok hn.1 hn.2.1 hx95_2), ob1 rfl fun b q hk hn => ok_geq rfl hn.1 (isV_int.2 rfl), ob1 rfl fun b q hk hn => ok_assign rfl hn.1, trivial⟩ hQQ96 fun b q p => ?_
    exact tail_done (k := q) (hp97 _ _ ⟨Bs.post ⟨hg, hs, hd⟩ p, out p 4 4 _ rfl rfl rfl, trivial⟩)
  rintro a k ⟨⟨hg, hs, hd⟩, i4, _⟩
  refine wp_ret ?_
  obtain rfl := Option.some.inj hr
  exact retC1 rfl hd hg i4
def cIsNaN (x_ : Int) : Option (Bool) :=
  some (x_ != x_)
theorem cIsNaN_ok {k0 : K} {v0 : Value} {x_ : Int} {r : Bool} (i0 : (IsV x_) v0 k0) (hr : cIsNaN x_ = some r) :
    Calls Try.prog 49 #[v0] k0.w (Ret k0 (IsV r)) := by
  unfold cIsNaN at hr
  refine Ret.ofC ?_
  refine enterK Try.func49 rfl Try.ntmps49 (show 1 ≤ 6 by decide) fun a k hk0 hs hd ha => ?_
  obtain ⟨e0, _⟩ := ha
  replace i0 : (IsV x_) (a.get 0) k := by rw [e0, hk0]; exact i0
  have hQ : Gb.LetsOut (bodyPost Try.prog Try.f49 (RetC noF k0 (IsV r))) := letsOutC
  have hg : Chg noF k0 k := by rw [hk0]; exact Chg.refl _ k0
  refine wp_seq ?_
  refine cut (fun a' k' => Bs noF k0 6 a' k' ∧ (IsV x_) (a'.get 0) k' ∧ True) ?_ hQ ?_
  · intro Q104 hQQ104 hp105
    refine regionS (a0 := a) (k0 := k) (n := 6) (m := 1) (⟨some (IsV false), []⟩ :: []) hs (by kernel_rfl) ⟨ob1 rfl fun b q hk hn => ok_assign rfl (isV_bool.2 rfl), trivial⟩ hQQ104 fun b q p => ?_
    exact tail_done (k := q) (hp105 _ _ ⟨Bs.post ⟨hg, hs, hd⟩ p, keep p 0 rfl i0, trivial⟩)
  rintro a k ⟨⟨hg, hs, hd⟩, i0, _⟩
  refine wp_seq ?_
  refine cut (fun a' k' => Bs noF k0 6 a' k' ∧ (IsV (x_ != x_)) (a'.get 2) k' ∧ True) ?_ hQ ?_
  · intro Q102 hQQ102 hp103
    refine regionS (a0 := a) (k0 := k) (n := 6) (m := 4) (⟨some (IsV x_), [(0, none)]⟩ :: ⟨some (IsV x_), [(0, none)]⟩ :: ⟨some (IsV (x_ != x_)), [(3, some 0), (4, some 1)]⟩ :: ⟨some (IsV (x_ != x_)), [(5, some 2)]⟩ :: []) hs (by kernel_rfl) ⟨ob1 rfl fun b q hk hn => ok_move rfl (up i0 hk hn.1), ob1 rfl fun b q hk hn => ok_move rfl (up i0 hk hn.1), ob1 rfl fun b q hk hn => ok_neI rfl hn.1 hn.2.1, ob1 rfl fun b q hk hn => ok_assign rfl hn.1, trivial⟩ hQQ102 fun b q p => ?_
    exact tail_done (k := q) (hp103 _ _ ⟨Bs.post ⟨hg, hs, hd⟩ p, out p 3 2 _ rfl rfl rfl, trivial⟩)
  rintro a k ⟨⟨hg, hs, hd⟩, i2, _⟩
  refine wp_ret ?_
  obtain rfl := Option.some.inj hr
  exact retC1 rfl hd hg i2
def sIsNaN (x_ : Int) : Option (Bool) :=
  some (x_ != x_)
theorem sIsNaN_ok {k0 : K} {v0 : Value} {x_ : Int} {r : Bool} (i0 : (IsV x_) v0 k0) (hr : sIsNaN x_ = some r) :
    Calls Try.prog 44 #[v0] k0.w (Ret k0 (IsV r)) := by
  unfold sIsNaN at hr
  refine Ret.ofC ?_
  refine enterK Try.func44 rfl Try.ntmps44 (show 1 ≤ 6 by decide) fun a k hk0 hs hd ha => ?_
  obtain ⟨e0, _⟩ := ha
  replace i0 : (IsV x_) (a.get 0) k := by rw [e0, hk0]; exact i0
  have hQ : Gb.LetsOut (bodyPost Try.prog Try.f44 (RetC noF k0 (IsV r))) := letsOutC
  have hg : Chg noF k0 k := by rw [hk0]; exact Chg.refl _ k0
  refine wp_seq ?_
  refine cut (fun a' k' => Bs noF k0 6 a' k' ∧ (IsV x_) (a'.get 0) k' ∧ True) ?_ hQ ?_
  · intro Q110 hQQ110 hp111
    refine regionS (a0 := a) (k0 := k) (n := 6) (m := 1) (⟨some (IsV false), []⟩ :: []) hs (by kernel_rfl) ⟨ob1 rfl fun b q hk hn => ok_assign rfl (isV_bool.2 rfl), trivial⟩ hQQ110 fun b q p => ?_
    exact tail_done (k := q) (hp111 _ _ ⟨Bs.post ⟨hg, hs, hd⟩ p, keep p 0 rfl i0, trivial⟩)
  rintro a k ⟨⟨hg, hs, hd⟩, i0, _⟩
  refine wp_seq ?_
  refine cut (fun a' k' => Bs noF k0 6 a' k' ∧ (IsV (x_ != x_)) (a'.get 2) k' ∧ True) ?_ hQ ?_
  · intro Q108 hQQ108 hp109
    refine regionS (a0 := a) (k0 := k) (n := 6) (m := 4) (⟨some (IsV x_), [(0, none)]⟩ :: ⟨some (IsV x_), [(0, none)]⟩ :: ⟨some (IsV (x_ != x_)), [(3, some 0), (4, some 1)]⟩ :: ⟨some (IsV (x_ != x_)), [(5, some 2)]⟩ :: []) hs (by kernel_rfl) ⟨ob1 rfl fun b q hk hn => ok_move rfl (up i0 hk hn.1), ob1 rfl fun b q hk hn => ok_move rfl (up i0 hk hn.1), ob1 rfl fun b q hk hn => ok_neI rfl hn.1 hn.2.1, ob1 rfl fun b q hk hn => ok_assign rfl hn.1, trivial⟩ hQQ108 fun b q p => ?_
    exact tail_done (k := q) (hp109 _ _ ⟨Bs.post ⟨hg, hs, hd⟩ p, out p 3 2 _ rfl rfl rfl, trivial⟩)
  rintro a k ⟨⟨hg, hs, hd⟩, i2, _⟩
  refine wp_ret ?_
  obtain rfl := Option.some.inj hr
  exact retC1 rfl hd hg i2
def cLess (x_ : Int) (y_ : Int) : Option (Bool) :=
  (cIsNaN x_).bind fun x113_1 =>
  (if x113_1 then
    (cIsNaN y_).bind fun x113_4 =>
    some (!x113_4)
  else
    some false).bind fun x113_6 =>
  some (x113_6 || (decide (x_ < y_)))
theorem cLess_ok {k0 : K} {v0 v1 : Value} {x_ : Int} {y_ : Int} {r : Bool} (i0 : (IsV x_) v0 k0) (i1 : (IsV y_) v1 k0) (hr : cLess x_ y_ = some r) :
    Calls Try.prog 43 #[v0, v1] k0.w (Ret k0 (IsV r)) := by
  unfold cLess at hr
  refine Ret.ofC ?_
  refine enterK Try.func43 rfl Try.ntmps43 (show 2 ≤ 17 by decide) fun a k hk0 hs hd ha => ?_
  obtain ⟨e0, e1, _⟩ := ha
  replace i0 : (IsV x_) (a.get 0) k := by rw [e0, hk0]; exact i0
  replace i1 : (IsV y_) (a.get 1) k := by rw [e1, hk0]; exact i1
  have hQ : Gb.LetsOut (bodyPost Try.prog Try.f43 (RetC noF k0 (IsV r))) := letsOutC
  have hg : Chg noF k0 k := by rw [hk0]; exact Chg.refl _ k0
  refine wp_seq ?_
  refine cut (fun a' k' => Bs noF k0 17 a' k' ∧ (IsV x_) (a'.get 0) k' ∧ (IsV y_) (a'.get 1) k' ∧ True) ?_ hQ ?_
  · intro Q116 hQQ116 hp117
    refine regionS (a0 := a) (k0 := k) (n := 17) (m := 1) (⟨some (IsV false), []⟩ :: []) hs (by kernel_rfl) ⟨ob1 rfl fun b q hk hn => ok_assign rfl (isV_bool.2 rfl), trivial⟩ hQQ116 fun b q p => ?_
    exact tail_done (k := q) (hp117 _ _ ⟨Bs.post ⟨hg, hs, hd⟩ p, keep p 0 rfl i0, keep p 1 rfl i1, trivial⟩)
  rintro a k ⟨⟨hg, hs, hd⟩, i0, i1, _⟩
  refine wp_seq ?_
  obtain ⟨x113_1, hx113_1, hr⟩ := bind_some hr
  obtain ⟨x113_6, hx113_6, hr⟩ := bind_some hr
  obtain ⟨x113_4, hx113_4, hx113_6⟩ := ite_bind hx113_6
  refine cut (fun a' k' => Bs noF k0 17 a' k' ∧ (IsV (x113_6 || (decide (x_ < y_)))) (a'.get 4) k' ∧ True) ?_ hQ ?_
  · intro Q114 hQQ114 hp115
    refine regionS (a0 := a) (k0 := k) (n := 17) (m := 13) (⟨some (IsV x_), [(0, none)]⟩ :: ⟨some (IsV x113_1), [(5, some 0)]⟩ :: ⟨some (IsV x113_1), [(6, some 1)]⟩ :: ⟨some (Gd (x113_1 = true) (IsV y_)), [(1, none)]⟩ :: ⟨some (Gd (x113_1 = true) (IsV x113_4)), [(8, some 3)]⟩ :: ⟨some (Gd (x113_1 = true) (IsV (!x113_4))), [(9, some 4)]⟩ :: ⟨some (IsV x113_6), [(7, some 2), (10, some 5)]⟩ :: ⟨some (IsV x113_6), [(11, some 6)]⟩ :: ⟨some (Gd (x113_6 = false) (IsV x_)), [(0, none)]⟩ :: ⟨some (Gd (x113_6 = false) (IsV y_)), [(1, none)]⟩ :: ⟨some (Gd (x113_6 = false) (IsV (decide (x_ < y_)))), [(13, some 8), (14, some 9)]⟩ :: ⟨some (IsV (x113_6 || (decide (x_ < y_)))), [(12, some 7), (15, some 10)]⟩ :: ⟨some (IsV (x113_6 || (decide (x_ < y_)))), [(16, some 11)]⟩ :: []) hs (by kernel_rfl) ⟨ob1 rfl fun b q hk hn => ok_move rfl (up i0 hk hn.1), ob1 rfl fun b q hk hn => ok_call rfl Try.call49 (cIsNaN_ok hn.1 hx113_1), ob1 rfl fun b q hk hn => ok_move rfl hn.1, gdT rfl rfl fun hp b q hk hn => ok_move rfl (up i1 hk hn.1), gdT rfl rfl fun hp b q hk hn => ok_call rfl Try.call49 (cIsNaN_ok (Gd.get hn.1 hp) (hx113_4 hp)), gdT rfl rfl fun hp b q hk hn => ok_not rfl (Gd.get hn.1 hp), ob1 rfl fun b q hk hn => ok_pickM rfl hn.1 hx113_6 (fun hm => (Gd.get hn.2.1 hm)) (fun _ => (isV_bool.2 rfl)), ob1 rfl fun b q hk hn => ok_move rfl hn.1, gdF rfl rfl fun hp b q hk hn => ok_move rfl (up i0 hk hn.1), gdF rfl rfl fun hp b q hk hn => ok_move rfl (up i1 hk hn.1), gdF rfl rfl fun hp b q hk hn => ok_lss rfl (Gd.get hn.1 hp) (Gd.get hn.2.1 hp), ob1 rfl fun b q hk hn => ok_pickOr rfl hn.1 (fun _ => (isV_bool.2 rfl)) (fun hm => (Gd.get hn.2.1 hm)), ob1 rfl fun b q hk hn => ok_assign rfl hn.1, trivial⟩ hQQ114 fun b q p => ?_
    exact tail_done (k := q) (hp115 _ _ ⟨Bs.post ⟨hg, hs, hd⟩ p, out p 12 4 _ rfl rfl rfl, trivial⟩)
  rintro a k ⟨⟨hg, hs, hd⟩, i4, _⟩
  refine wp_ret ?_
  obtain rfl := Option.some.inj hr
  exact retC1 rfl hd hg i4
def binSearch_L0 (x_ : (List Int)) (target : Int) (s121 : Int × Int) : Option (Flow (Int × Int) (Int × Bool)) :=
  if (decide (s121.1 < s121.2)) then
    (addI s121.1 s121.2).bind fun x126_2 =>
    (getI x_ (IntKind.i64.wrap (IK.shr (IK.mk (IntKind.u64.wrap x126_2) : IK .u64) 1).n)).bind fun x127_2 =>
    (cLess x127_2 target).bind fun x127_5 =>
    (if x127_5 then
      (addI (IntKind.i64.wrap (IK.shr (IK.mk (IntKind.u64.wrap x126_2) : IK .u64) 1).n) 1).bind fun x130_1 =>
      some (x130_1, s121.2)
    else
      some (s121.1, (IntKind.i64.wrap (IK.shr (IK.mk (IntKind.u64.wrap x126_2) : IK .u64) 1).n))).bind fun s128 =>
    some (.go (s128.1, s128.2))
  else
    some (.ex 0 (s121.1, s121.2))
def binSearch (x_ : (List Int)) (target : Int) : Option (Int × Bool) :=
  (iterL (binSearch_L0 x_ target) (x_.length + 1) (0, (x_.length : Int))).bind fun f145 => match f145 with
    | .go _ => none
    | .ex _ s146 =>
      (if (decide (s146.1 < (x_.length : Int))) then
        (getI x_ s146.1).bind fun x147_7 =>
        (if (x147_7 == target) then
          some true
        else
          (getI x_ s146.1).bind fun x147_14 =>
          (sIsNaN x147_14).bind fun x147_16 =>
          (if x147_16 then
            (sIsNaN target).bind fun x147_19 =>
            some x147_19
          else
            some false).bind fun x147_20 =>
          some x147_20).bind fun x147_21 =>
        some x147_21
      else
        some false).bind fun x147_22 =>
      some (s146.1, x147_22)
    | .ret r150 => some r150
theorem binSearch_ok {k0 : K} {v0 v1 : Value} {x_ : (List Int)} {target : Int} {r : Int × Bool} (i0 : (IsV x_) v0 k0) (i1 : (IsV target) v1 k0) (hr : binSearch x_ target = some r) :
    Calls Try.prog 34 #[v0, v1] k0.w (Ret k0 (IsTup2 (IsV r.1) (IsV r.2))) := by
  unfold binSearch at hr
  refine Ret.ofC ?_
  refine enterK Try.func34 rfl Try.ntmps34 (show 2 ≤ 54 by decide) fun a k hk0 hs hd ha => ?_
  obtain ⟨e0, e1, _⟩ := ha
  replace i0 : (IsV x_) (a.get 0) k := by rw [e0, hk0]; exact i0
  replace i1 : (IsV target) (a.get 1) k := by rw [e1, hk0]; exact i1
  have hQ : Gb.LetsOut (bodyPost Try.prog Try.f34 (RetC noF k0 (IsTup2 (IsV r.1) (IsV r.2)))) := letsOutC
  have hg : Chg noF k0 k := by rw [hk0]; exact Chg.refl _ k0
  refine wp_seq ?_
  refine cut (fun a' k' => Bs noF k0 54 a' k' ∧ (IsV x_) (a'.get 0) k' ∧ (IsV target) (a'.get 1) k' ∧ True) ?_ hQ ?_
  · intro Q156 hQQ156 hp157
    refine regionS (a0 := a) (k0 := k) (n := 54) (m := 2) (⟨some (IsV (α := Int) 0), []⟩ :: ⟨some (IsV false), []⟩ :: []) hs (by kernel_rfl) ⟨ob1 rfl fun b q hk hn => ok_assign rfl (isV_int.2 rfl), ob1 rfl fun b q hk hn => ok_assign rfl (isV_bool.2 rfl), trivial⟩ hQQ156 fun b q p => ?_
    exact tail_done (k := q) (hp157 _ _ ⟨Bs.post ⟨hg, hs, hd⟩ p, keep p 0 rfl i0, keep p 1 rfl i1, trivial⟩)
  rintro a k ⟨⟨hg, hs, hd⟩, i0, i1, _⟩
  refine wp_seq ?_
  refine cut (fun a' k' => Bs noF k0 54 a' k' ∧ (IsV x_) (a'.get 0) k' ∧ (IsV target) (a'.get 1) k' ∧ (IsV (α := Int) (x_.length : Int)) (a'.get 6) k' ∧ True) ?_ hQ ?_
  · intro Q154 hQQ154 hp155
    refine regionS (a0 := a) (k0 := k) (n := 54) (m := 3) (⟨some (IsV x_), [(0, none)]⟩ :: ⟨some (IsV (α := Int) (x_.length : Int)), [(10, some 0)]⟩ :: ⟨some (IsV (α := Int) (x_.length : Int)), [(11, some 1)]⟩ :: []) hs (by kernel_rfl) ⟨ob1 rfl fun b q hk hn => ok_move rfl (up i0 hk hn.1), ob1 rfl fun b q hk hn => ok_len rfl rfl Try.underlying22 (IsV.rd hn.1), ob1 rfl fun b q hk hn => ok_assign rfl hn.1, trivial⟩ hQQ154 fun b q p => ?_
    exact tail_done (k := q) (hp155 _ _ ⟨Bs.post ⟨hg, hs, hd⟩ p, keep p 0 rfl i0, keep p 1 rfl i1, out p 2 6 _ rfl rfl rfl, trivial⟩)
  rintro a k ⟨⟨hg, hs, hd⟩, i0, i1, i6, _⟩
  refine wp_seq ?_
  refine cut (fun a' k' => Bs noF k0 54 a' k' ∧ (IsV x_) (a'.get 0) k' ∧ (IsV target) (a'.get 1) k' ∧ (IsV (α := Int) (x_.length : Int)) (a'.get 6) k' ∧ (IsV (α := Int) 0) (a'.get 7) k' ∧ (IsV (α := Int) (x_.length : Int)) (a'.get 8) k' ∧ True) ?_ hQ ?_
  · intro Q152 hQQ152 hp153
    refine regionS (a0 := a) (k0 := k) (n := 54) (m := 3) (⟨some (IsV (α := Int) (x_.length : Int)), [(6, none)]⟩ :: ⟨some (IsV (α := Int) 0), []⟩ :: ⟨some (IsV (α := Int) (x_.length : Int)), [(12, some 0)]⟩ :: []) hs (by kernel_rfl) ⟨ob1 rfl fun b q hk hn => ok_move rfl (up i6 hk hn.1), ob1 rfl fun b q hk hn => ok_assign rfl (isV_int.2 rfl), ob1 rfl fun b q hk hn => ok_assign rfl hn.1, trivial⟩ hQQ152 fun b q p => ?_
    exact tail_done (k := q) (hp153 _ _ ⟨Bs.post ⟨hg, hs, hd⟩ p, keep p 0 rfl i0, keep p 1 rfl i1, keep p 6 rfl i6, out p 1 7 _ rfl rfl rfl, out p 2 8 _ rfl rfl rfl, trivial⟩)
  rintro a k ⟨⟨hg, hs, hd⟩, i0, i1, i6, i7, i8, _⟩
  refine wp_seq ?_
  refine wp_block ?_
  obtain ⟨f145, hf145, hr⟩ := bind_some hr
  refine cutFe f145 (fun s' a' k' => Bs noF k0 54 a' k' ∧ (IsV x_) (a'.get 0) k' ∧ (IsV target) (a'.get 1) k' ∧ (IsV (α := Int) (x_.length : Int)) (a'.get 6) k' ∧ (IsV s'.1) (a'.get 7) k' ∧ (IsV s'.2) (a'.get 8) k' ∧ True) (fun i' s' a' k' => (i' = 0 ∧ Bs noF k0 54 a' k' ∧ (IsV x_) (a'.get 0) k' ∧ (IsV target) (a'.get 1) k' ∧ (IsV (α := Int) (x_.length : Int)) (a'.get 6) k' ∧ (IsV s'.1) (a'.get 7) k' ∧ True)) (fun r' a' k' => bodyPost Try.prog Try.f34 (RetC noF k0 (IsTup2 (IsV r'.1) (IsV r'.2))) .ret a' k'.w) ?_ hQ ?_ ?_ ?_
  · intro Q151 hQQ151 hgo hex hret
    refine sim_loop ?_ _ _ _ _ _ hf145 ⟨⟨hg, hs, hd⟩, i0, i1, i6, i7, i8, trivial⟩ Q151 hQQ151 hgo hex hret
    clear hr hf145 hgo hex hret hQQ151 hQ hg hs hd i0 i1 i6 i7 i8
    intro s121 fl_ a k hr hS Q hQ hgo122 hex123 hret124
    obtain ⟨⟨hg, hs, hd⟩, i0, i1, i6, i7, i8, _⟩ := hS
    unfold binSearch_L0 at hr
    refine wp_seq ?_
    refine wp_seq ?_
    refine cut (fun a' k' => Bs noF k0 54 a' k' ∧ (IsV x_) (a'.get 0) k' ∧ (IsV target) (a'.get 1) k' ∧ (IsV (α := Int) (x_.length : Int)) (a'.get 6) k' ∧ (IsV s121.1) (a'.get 7) k' ∧ (IsV s121.2) (a'.get 8) k' ∧ (IsV (decide (s121.1 < s121.2))) (a'.get 15) k' ∧ True) ?_ hQ ?_
    · intro Q143 hQQ143 hp144
      refine regionS (a0 := a) (k0 := k) (n := 54) (m := 3) (⟨some (IsV s121.1), [(7, none)]⟩ :: ⟨some (IsV s121.2), [(8, none)]⟩ :: ⟨some (IsV (decide (s121.1 < s121.2))), [(13, some 0), (14, some 1)]⟩ :: []) hs (by kernel_rfl) ⟨ob1 rfl fun b q hk hn => ok_move rfl (up i7 hk hn.1), ob1 rfl fun b q hk hn => ok_move rfl (up i8 hk hn.1), ob1 rfl fun b q hk hn => ok_lss rfl hn.1 hn.2.1, trivial⟩ hQQ143 fun b q p => ?_
      exact tail_done (k := q) (hp144 _ _ ⟨Bs.post ⟨hg, hs, hd⟩ p, keep p 0 rfl i0, keep p 1 rfl i1, keep p 6 rfl i6, keep p 7 rfl i7, keep p 8 rfl i8, out p 2 15 _ rfl rfl rfl, trivial⟩)
    rintro a k ⟨⟨hg, hs, hd⟩, i0, i1, i6, i7, i8, i15, _⟩
    refine wp_cond_split (isBool i15) (fun hc142 => ?_) (fun hc142 => ?_)
    · rw [if_pos hc142] at hr
      refine wp_skip ?_
      refine wp_block ?_
      refine wp_seq ?_
      obtain ⟨x126_2, hx126_2, hr⟩ := bind_some hr
      refine cut (fun a' k' => Bs noF k0 54 a' k' ∧ (IsV x_) (a'.get 0) k' ∧ (IsV target) (a'.get 1) k' ∧ (IsV (α := Int) (x_.length : Int)) (a'.get 6) k' ∧ (IsV s121.1) (a'.get 7) k' ∧ (IsV s121.2) (a'.get 8) k' ∧ (IsV (α := Int) (IntKind.i64.wrap (IK.shr (IK.mk (IntKind.u64.wrap x126_2) : IK .u64) 1).n)) (a'.get 9) k' ∧ True) ?_ hQ ?_
      · intro Q140 hQQ140 hp141
        refine regionS (a0 := a) (k0 := k) (n := 54) (m := 7) (⟨some (IsV s121.1), [(7, none)]⟩ :: ⟨some (IsV s121.2), [(8, none)]⟩ :: ⟨some (IsV x126_2), [(16, some 0), (17, some 1)]⟩ :: ⟨some (IsV (IK.mk (IntKind.u64.wrap x126_2) : IK .u64)), [(18, some 2)]⟩ :: ⟨some (IsV (IK.shr (IK.mk (IntKind.u64.wrap x126_2) : IK .u64) 1)), [(19, some 3)]⟩ :: ⟨some (IsV (α := Int) (IntKind.i64.wrap (IK.shr (IK.mk (IntKind.u64.wrap x126_2) : IK .u64) 1).n)), [(20, some 4)]⟩ :: ⟨some (IsV (α := Int) (IntKind.i64.wrap (IK.shr (IK.mk (IntKind.u64.wrap x126_2) : IK .u64) 1).n)), [(21, some 5)]⟩ :: []) hs (by kernel_rfl) ⟨ob1 rfl fun b q hk hn => ok_move rfl (up i7 hk hn.1), ob1 rfl fun b q hk hn => ok_move rfl (up i8 hk hn.1), ob1 rfl fun b q hk hn => ok_add rfl hn.1 hn.2.1 hx126_2, ob1 rfl fun b q hk hn => ok_conv_ik rfl (by rw [Try.underlying3]; rfl) Try.underlying54 hn.1, ob1 rfl fun b q hk hn => ok_shrK rfl hn.1 (by decide) (by decide), ob1 rfl fun b q hk hn => ok_conv_ki rfl (by rw [Try.underlying54]; rfl) Try.underlying3 hn.1, ob1 rfl fun b q hk hn => ok_assign rfl hn.1, trivial⟩ hQQ140 fun b q p => ?_
        exact tail_done (k := q) (hp141 _ _ ⟨Bs.post ⟨hg, hs, hd⟩ p, keep p 0 rfl i0, keep p 1 rfl i1, keep p 6 rfl i6, keep p 7 rfl i7, keep p 8 rfl i8, out p 6 9 _ rfl rfl rfl, trivial⟩)
      rintro a k ⟨⟨hg, hs, hd⟩, i0, i1, i6, i7, i8, i9, _⟩
      refine wp_seq ?_
      obtain ⟨x127_2, hx127_2, hr⟩ := bind_some hr
      obtain ⟨x127_5, hx127_5, hr⟩ := bind_some hr
      refine cut (fun a' k' => Bs noF k0 54 a' k' ∧ (IsV x_) (a'.get 0) k' ∧ (IsV target) (a'.get 1) k' ∧ (IsV (α := Int) (x_.length : Int)) (a'.get 6) k' ∧ (IsV s121.1) (a'.get 7) k' ∧ (IsV s121.2) (a'.get 8) k' ∧ (IsV (α := Int) (IntKind.i64.wrap (IK.shr (IK.mk (IntKind.u64.wrap x126_2) : IK .u64) 1).n)) (a'.get 9) k' ∧ (IsV x127_5) (a'.get 27) k' ∧ True) ?_ hQ ?_
      · intro Q138 hQQ138 hp139
        refine regionS (a0 := a) (k0 := k) (n := 54) (m := 6) (⟨some (IsV x_), [(0, none)]⟩ :: ⟨some (IsV (α := Int) (IntKind.i64.wrap (IK.shr (IK.mk (IntKind.u64.wrap x126_2) : IK .u64) 1).n)), [(9, none)]⟩ :: ⟨some (IsPtr x127_2), [(22, some 0), (23, some 1)]⟩ :: ⟨some (IsV x127_2), [(24, some 2)]⟩ :: ⟨some (IsV target), [(1, none)]⟩ :: ⟨some (IsV x127_5), [(25, some 3), (26, some 4)]⟩ :: []) hs (by kernel_rfl) ⟨ob1 rfl fun b q hk hn => ok_move rfl (up i0 hk hn.1), ob1 rfl fun b q hk hn => ok_move rfl (up i9 hk hn.1), ob1 rfl fun b q hk hn => ok_indexAddr rfl Try.underlying22 ty3 (IsV.rd hn.1) hn.2.1 hx127_2, ob1 rfl fun b q hk hn => ok_load rfl ty3 hn.1, ob1 rfl fun b q hk hn => ok_move rfl (up i1 hk hn.1), ob1 rfl fun b q hk hn => ok_call rfl Try.call43 (cLess_ok hn.1 hn.2.1 hx127_5), trivial⟩ hQQ138 fun b q p => ?_
        exact tail_done (k := q) (hp139 _ _ ⟨Bs.post ⟨hg, hs, hd⟩ p, keep p 0 rfl i0, keep p 1 rfl i1, keep p 6 rfl i6, keep p 7 rfl i7, keep p 8 rfl i8, keep p 9 rfl i9, out p 5 27 _ rfl rfl rfl, trivial⟩)
      rintro a k ⟨⟨hg, hs, hd⟩, i0, i1, i6, i7, i8, i9, i27, _⟩
      obtain ⟨s128, hs128, hr⟩ := bind_some hr
      refine cut (fun a' k' => Bs noF k0 54 a' k' ∧ (IsV x_) (a'.get 0) k' ∧ (IsV target) (a'.get 1) k' ∧ (IsV (α := Int) (x_.length : Int)) (a'.get 6) k' ∧ (IsV s128.1) (a'.get 7) k' ∧ (IsV s128.2) (a'.get 8) k' ∧ True) ?_ hQ ?_
      · intro Q137 hQQ137 hp129
        replace hr := hs128
        clear hQ
        have hQ := hQQ137
        refine wp_cond_split (isBool i27) (fun hc136 => ?_) (fun hc136 => ?_)
        · rw [if_pos hc136] at hr
          obtain ⟨x130_1, hx130_1, hr⟩ := bind_some hr
          refine cut (fun a' k' => Bs noF k0 54 a' k' ∧ (IsV x_) (a'.get 0) k' ∧ (IsV target) (a'.get 1) k' ∧ (IsV (α := Int) (x_.length : Int)) (a'.get 6) k' ∧ (IsV x130_1) (a'.get 7) k' ∧ (IsV s121.2) (a'.get 8) k' ∧ True) ?_ hQ ?_
          · intro Q131 hQQ131 hp132
            refine regionS (a0 := a) (k0 := k) (n := 54) (m := 3) (⟨some (IsV (α := Int) (IntKind.i64.wrap (IK.shr (IK.mk (IntKind.u64.wrap x126_2) : IK .u64) 1).n)), [(9, none)]⟩ :: ⟨some (IsV x130_1), [(28, some 0)]⟩ :: ⟨some (IsV x130_1), [(29, some 1)]⟩ :: []) hs (by kernel_rfl) ⟨ob1 rfl fun b q hk hn => ok_move rfl (up i9 hk hn.1), ob1 rfl fun b q hk hn => ok_add rfl hn.1 (isV_int.2 rfl) hx130_1, ob1 rfl fun b q hk hn => ok_assign rfl hn.1, trivial⟩ hQQ131 fun b q p => ?_
            exact tail_done (k := q) (hp132 _ _ ⟨Bs.post ⟨hg, hs, hd⟩ p, keep p 0 rfl i0, keep p 1 rfl i1, keep p 6 rfl i6, out p 2 7 _ rfl rfl rfl, keep p 8 rfl i8, trivial⟩)
          rintro a k ⟨⟨hg, hs, hd⟩, i0, i1, i6, i7, i8, _⟩
          obtain rfl := Option.some.inj hr
          exact hp129 _ _ ⟨⟨hg, hs, hd⟩, i0, i1, i6, i7, i8, trivial⟩
        rw [if_neg (by rw [hc136]; decide)] at hr
        refine cut (fun a' k' => Bs noF k0 54 a' k' ∧ (IsV x_) (a'.get 0) k' ∧ (IsV target) (a'.get 1) k' ∧ (IsV (α := Int) (x_.length : Int)) (a'.get 6) k' ∧ (IsV s121.1) (a'.get 7) k' ∧ (IsV (α := Int) (IntKind.i64.wrap (IK.shr (IK.mk (IntKind.u64.wrap x126_2) : IK .u64) 1).n)) (a'.get 8) k' ∧ True) ?_ hQ ?_
        · intro Q134 hQQ134 hp135
          refine regionS (a0 := a) (k0 := k) (n := 54) (m := 2) (⟨some (IsV (α := Int) (IntKind.i64.wrap (IK.shr (IK.mk (IntKind.u64.wrap x126_2) : IK .u64) 1).n)), [(9, none)]⟩ :: ⟨some (IsV (α := Int) (IntKind.i64.wrap (IK.shr (IK.mk (IntKind.u64.wrap x126_2) : IK .u64) 1).n)), [(30, some 0)]⟩ :: []) hs (by kernel_rfl) ⟨ob1 rfl fun b q hk hn => ok_move rfl (up i9 hk hn.1), ob1 rfl fun b q hk hn => ok_assign rfl hn.1, trivial⟩ hQQ134 fun b q p => ?_
          exact tail_done (k := q) (hp135 _ _ ⟨Bs.post ⟨hg, hs, hd⟩ p, keep p 0 rfl i0, keep p 1 rfl i1, keep p 6 rfl i6, keep p 7 rfl i7, out p 1 8 _ rfl rfl rfl, trivial⟩)
        rintro a k ⟨⟨hg, hs, hd⟩, i0, i1, i6, i7, i8, _⟩
        obtain rfl := Option.some.inj hr
        exact hp129 _ _ ⟨⟨hg, hs, hd⟩, i0, i1, i6, i7, i8, trivial⟩
      clear hs128
      rintro a k ⟨⟨hg, hs, hd⟩, i0, i1, i6, i7, i8, _⟩
      exact hgo122 _ _ _ (Option.some.inj hr).symm ⟨⟨hg, hs, hd⟩, i0, i1, i6, i7, i8, trivial⟩
    rw [if_neg (by rw [hc142]; decide)] at hr
    refine wp_exit ?_
    exact hex123 _ _ _ _ (Option.some.inj hr).symm ⟨rfl, ⟨hg, hs, hd⟩, i0, i1, i6, i7, trivial⟩
  · rintro r150 a k rfl hR
    dsimp only at hr
    obtain rfl := Option.some.inj hr
    exact hR
  · rintro _ _ _ rfl _
    simp at hr
  clear hf145
  rintro _ s146 a k rfl ⟨rfl, ⟨hg, hs, hd⟩, i0, i1, i6, i7, _⟩
  dsimp only at hr
  refine wp_seq ?_
  obtain ⟨x147_22, hx147_22, hr⟩ := bind_some hr
  obtain ⟨x147_7, hx147_7, hx147_22⟩ := ite_bind hx147_22
  obtain ⟨x147_21, hx147_21, hx147_22⟩ := ite_bind hx147_22
  obtain ⟨x147_14, hx147_14, hx147_21⟩ := ite_bindFP hx147_21
  obtain ⟨x147_16, hx147_16, hx147_21⟩ := ite_bindFP hx147_21
  obtain ⟨x147_20, hx147_20, hx147_21⟩ := ite_bindFP hx147_21
  obtain ⟨x147_19, hx147_19, hx147_20⟩ := ite_bindP hx147_20
  refine cut (fun a' k' => Bs noF k0 54 a' k' ∧ (IsV s146.1) (a'.get 4) k' ∧ (IsV x147_22) (a'.get 5) k' ∧ True) ?_ hQ ?_
  · intro Q148 hQQ148 hp149
    refine regionS (a0 := a) (k0 := k) (n := 54) (m := 25) (⟨some (IsV s146.1), [(7, none)]⟩ :: ⟨some (IsV s146.1), [(7, none)]⟩ :: ⟨some (IsV (α := Int) (x_.length : Int)), [(6, none)]⟩ :: ⟨some (IsV (decide (s146.1 < (x_.length : Int)))), [(32, some 1), (33, some 2)]⟩ :: ⟨some (IsV (decide (s146.1 < (x_.length : Int)))), [(34, some 3)]⟩ :: ⟨some (Gd ((decide (s146.1 < (x_.length : Int))) = true) (IsV x_)), [(0, none)]⟩ :: ⟨some (Gd ((decide (s146.1 < (x_.length : Int))) = true) (IsV s146.1)), [(7, none)]⟩ :: ⟨some (Gd ((decide (s146.1 < (x_.length : Int))) = true) (IsPtr x147_7)), [(36, some 5), (37, some 6)]⟩ :: ⟨some (Gd ((decide (s146.1 < (x_.length : Int))) = true) (IsV x147_7)), [(38, some 7)]⟩ :: ⟨some (Gd ((decide (s146.1 < (x_.length : Int))) = true) (IsV target)), [(1, none)]⟩ :: ⟨some (Gd ((decide (s146.1 < (x_.length : Int))) = true) (IsV (x147_7 == target))), [(39, some 8), (40, some 9)]⟩ :: ⟨some (Gd ((decide (s146.1 < (x_.length : Int))) = true) (IsV (x147_7 == target))), [(41, some 10)]⟩ :: ⟨some (Gd (((decide (s146.1 < (x_.length : Int))) = true) ∧ (x147_7 == target) = false) (IsV x_)), [(0, none)]⟩ :: ⟨some (Gd (((decide (s146.1 < (x_.length : Int))) = true) ∧ (x147_7 == target) = false) (IsV s146.1)), [(7, none)]⟩ :: ⟨some (Gd (((decide (s146.1 < (x_.length : Int))) = true) ∧ (x147_7 == target) = false) (IsPtr x147_14)), [(43, some 12), (44, some 13)]⟩ :: ⟨some (Gd (((decide (s146.1 < (x_.length : Int))) = true) ∧ (x147_7 == target) = false) (IsV x147_14)), [(45, some 14)]⟩ :: ⟨some (Gd (((decide (s146.1 < (x_.length : Int))) = true) ∧ (x147_7 == target) = false) (IsV x147_16)), [(46, some 15)]⟩ :: ⟨some (Gd (((decide (s146.1 < (x_.length : Int))) = true) ∧ (x147_7 == target) = false) (IsV x147_16)), [(47, some 16)]⟩ :: ⟨some (Gd ((((decide (s146.1 < (x_.length : Int))) = true) ∧ (x147_7 == target) = false) ∧ x147_16 = true) (IsV target)), [(1, none)]⟩ :: ⟨some (Gd ((((decide (s146.1 < (x_.length : Int))) = true) ∧ (x147_7 == target) = false) ∧ x147_16 = true) (IsV x147_19)), [(49, some 18)]⟩ :: ⟨some (Gd (((decide (s146.1 < (x_.length : Int))) = true) ∧ (x147_7 == target) = false) (IsV x147_20)), [(48, some 17), (50, some 19)]⟩ :: ⟨some (Gd ((decide (s146.1 < (x_.length : Int))) = true) (IsV x147_21)), [(42, some 11), (51, some 20)]⟩ :: ⟨some (IsV x147_22), [(35, some 4), (52, some 21)]⟩ :: ⟨some (IsV s146.1), [(31, some 0)]⟩ :: ⟨some (IsV x147_22), [(53, some 22)]⟩ :: []) hs (by kernel_rfl) ⟨ob1 rfl fun b q hk hn => ok_move rfl (up i7 hk hn.1), ob1 rfl fun b q hk hn => ok_move rfl (up i7 hk hn.1), ob1 rfl fun b q hk hn => ok_move rfl (up i6 hk hn.1), ob1 rfl fun b q hk hn => ok_lss rfl hn.1 hn.2.1, ob1 rfl fun b q hk hn => ok_move rfl hn.1, gdT rfl rfl fun hp b q hk hn => ok_move rfl (up i0 hk hn.1), gdT rfl rfl fun hp b q hk hn => ok_move rfl (up i7 hk hn.1), gdT rfl rfl fun hp b q hk hn => ok_indexAddr rfl Try.underlying22 ty3 (IsV.rd (Gd.get hn.1 hp)) (Gd.get hn.2.1 hp) (hx147_7 hp), gdT rfl rfl fun hp b q hk hn => ok_load rfl ty3 (Gd.get hn.1 hp), gdT rfl rfl fun hp b q hk hn => ok_move rfl (up i1 hk hn.1), gdT rfl rfl fun hp b q hk hn => ok_eqI rfl (Gd.get hn.1 hp) (Gd.get hn.2.1 hp), gdT rfl rfl fun hp b q hk hn => ok_move rfl (Gd.get hn.1 hp), gdTF rfl rfl fun hp b q hk hn => ok_move rfl (up i0 hk hn.1), gdTF rfl rfl fun hp b q hk hn => ok_move rfl (up i7 hk hn.1), gdTF rfl rfl fun hp b q hk hn => ok_indexAddr rfl Try.underlying22 ty3 (IsV.rd (Gd.get hn.1 hp)) (Gd.get hn.2.1 hp) (hx147_14 hp), gdTF rfl rfl fun hp b q hk hn => ok_load rfl ty3 (Gd.get hn.1 hp), gdTF rfl rfl fun hp b q hk hn => ok_call rfl Try.call44 (sIsNaN_ok (Gd.get hn.1 hp) (hx147_16 hp)), gdTF rfl rfl fun hp b q hk hn => ok_move rfl (Gd.get hn.1 hp), gdTT rfl rfl fun hp b q hk hn => ok_move rfl (up i1 hk hn.1), gdTT rfl rfl fun hp b q hk hn => ok_call rfl Try.call44 (sIsNaN_ok (Gd.get hn.1 hp) (hx147_19 hp)), gdTF rfl rfl fun hp b q hk hn => ok_pickM rfl (Gd.get hn.1 hp) (hx147_20 hp) (fun hm => (Gd.get hn.2.1 ⟨hp, hm⟩)) (fun _ => (isV_bool.2 rfl)), gdT rfl rfl fun hp b q hk hn => ok_pickM rfl (Gd.get hn.1 hp) (hx147_21 hp) (fun _ => (isV_bool.2 rfl)) (fun hm => (Gd.get hn.2.1 ⟨hp, hm⟩)), ob1 rfl fun b q hk hn => ok_pickM rfl hn.1 hx147_22 (fun hm => (Gd.get hn.2.1 hm)) (fun _ => (isV_bool.2 rfl)), ob1 rfl fun b q hk hn => ok_assign rfl hn.1, ob1 rfl fun b q hk hn => ok_assign rfl hn.1, trivial⟩ hQQ148 fun b q p => ?_
    exact tail_done (k := q) (hp149 _ _ ⟨Bs.post ⟨hg, hs, hd⟩ p, out p 23 4 _ rfl rfl rfl, out p 24 5 _ rfl rfl rfl, trivial⟩)
  rintro a k ⟨⟨hg, hs, hd⟩, i4, i5, _⟩
  refine wp_ret ?_
  obtain rfl := Option.some.inj hr
  exact retC2 rfl hd hg i4 i5
def search_L0 (f_ : (Int → Option (Bool))) (s160 : Int × Int) : Option (Flow (Int × Int) (Int)) :=
  if (decide (s160.1 < s160.2)) then
    (addI s160.1 s160.2).bind fun x165_2 =>
    (f_ (IntKind.i64.wrap (IK.shr (IK.mk (IntKind.u64.wrap x165_2) : IK .u64) 1).n)).bind fun x166_2 =>
    (if (!x166_2) then
      (addI (IntKind.i64.wrap (IK.shr (IK.mk (IntKind.u64.wrap x165_2) : IK .u64) 1).n) 1).bind fun x169_1 =>
      some (x169_1, s160.2)
    else
      some (s160.1, (IntKind.i64.wrap (IK.shr (IK.mk (IntKind.u64.wrap x165_2) : IK .u64) 1).n))).bind fun s167 =>
    some (.go (s167.1, s167.2))
  else
    some (.ex 0 (s160.1, s160.2))
def search (n_ : Int) (f_ : (Int → Option (Bool))) : Option (Int) :=
  (iterL (search_L0 f_) (n_.toNat + 1) (0, n_)).bind fun f184 => match f184 with
    | .go _ => none
    | .ex _ s185 =>
      some s185.1
    | .ret r189 => some r189
theorem search_ok {k0 : K} {v0 v1 : Value} {n_ : Int} {f_ : (Int → Option (Bool))} {r : Int} (i0 : (IsV n_) v0 k0) (i1 : (IsFn1 Try.prog f_) v1 k0) (hr : search n_ f_ = some r) :
    Calls Try.prog 27 #[v0, v1] k0.w (Ret k0 (IsV r)) := by
  unfold search at hr
  refine Ret.ofC ?_
  refine enterK Try.func27 rfl Try.ntmps27 (show 2 ≤ 26 by decide) fun a k hk0 hs hd ha => ?_
  obtain ⟨e0, e1, _⟩ := ha
  replace i0 : (IsV n_) (a.get 0) k := by rw [e0, hk0]; exact i0
  replace i1 : (IsFn1 Try.prog f_) (a.get 1) k := by rw [e1, hk0]; exact i1
  have hQ : Gb.LetsOut (bodyPost Try.prog Try.f27 (RetC noF k0 (IsV r))) := letsOutC
  have hg : Chg noF k0 k := by rw [hk0]; exact Chg.refl _ k0
  refine wp_seq ?_
  refine cut (fun a' k' => Bs noF k0 26 a' k' ∧ (IsV n_) (a'.get 0) k' ∧ (IsFn1 Try.prog f_) (a'.get 1) k' ∧ True) ?_ hQ ?_
  · intro Q193 hQQ193 hp194
    refine regionS (a0 := a) (k0 := k) (n := 26) (m := 1) (⟨some (IsV (α := Int) 0), []⟩ :: []) hs (by kernel_rfl) ⟨ob1 rfl fun b q hk hn => ok_assign rfl (isV_int.2 rfl), trivial⟩ hQQ193 fun b q p => ?_
    exact tail_done (k := q) (hp194 _ _ ⟨Bs.post ⟨hg, hs, hd⟩ p, keep p 0 rfl i0, keep p 1 rfl i1, trivial⟩)
  rintro a k ⟨⟨hg, hs, hd⟩, i0, i1, _⟩
  refine wp_seq ?_
  refine cut (fun a' k' => Bs noF k0 26 a' k' ∧ (IsFn1 Try.prog f_) (a'.get 1) k' ∧ (IsV (α := Int) 0) (a'.get 5) k' ∧ (IsV n_) (a'.get 6) k' ∧ True) ?_ hQ ?_
  · intro Q191 hQQ191 hp192
    refine regionS (a0 := a) (k0 := k) (n := 26) (m := 3) (⟨some (IsV n_), [(0, none)]⟩ :: ⟨some (IsV (α := Int) 0), []⟩ :: ⟨some (IsV n_), [(8, some 0)]⟩ :: []) hs (by kernel_rfl) ⟨ob1 rfl fun b q hk hn => ok_move rfl (up i0 hk hn.1), ob1 rfl fun b q hk hn => ok_assign rfl (isV_int.2 rfl), ob1 rfl fun b q hk hn => ok_assign rfl hn.1, trivial⟩ hQQ191 fun b q p => ?_
    exact tail_done (k := q) (hp192 _ _ ⟨Bs.post ⟨hg, hs, hd⟩ p, keep p 1 rfl i1, out p 1 5 _ rfl rfl rfl, out p 2 6 _ rfl rfl rfl, trivial⟩)
  rintro a k ⟨⟨hg, hs, hd⟩, i1, i5, i6, _⟩
  refine wp_seq ?_
  refine wp_block ?_
  obtain ⟨f184, hf184, hr⟩ := bind_some hr
  refine cutFe f184 (fun s' a' k' => Bs noF k0 26 a' k' ∧ (IsFn1 Try.prog f_) (a'.get 1) k' ∧ (IsV s'.1) (a'.get 5) k' ∧ (IsV s'.2) (a'.get 6) k' ∧ True) (fun i' s' a' k' => (i' = 0 ∧ Bs noF k0 26 a' k' ∧ (IsV s'.1) (a'.get 5) k' ∧ True)) (fun r' a' k' => bodyPost Try.prog Try.f27 (RetC noF k0 (IsV r')) .ret a' k'.w) ?_ hQ ?_ ?_ ?_
  · intro Q190 hQQ190 hgo hex hret
    refine sim_loop ?_ _ _ _ _ _ hf184 ⟨⟨hg, hs, hd⟩, i1, i5, i6, trivial⟩ Q190 hQQ190 hgo hex hret
    clear hr hf184 hgo hex hret hQQ190 hQ hg hs hd i1 i5 i6
    intro s160 fl_ a k hr hS Q hQ hgo161 hex162 hret163
    obtain ⟨⟨hg, hs, hd⟩, i1, i5, i6, _⟩ := hS
    unfold search_L0 at hr
    refine wp_seq ?_
    refine wp_seq ?_
    refine cut (fun a' k' => Bs noF k0 26 a' k' ∧ (IsFn1 Try.prog f_) (a'.get 1) k' ∧ (IsV s160.1) (a'.get 5) k' ∧ (IsV s160.2) (a'.get 6) k' ∧ (IsV (decide (s160.1 < s160.2))) (a'.get 11) k' ∧ True) ?_ hQ ?_
    · intro Q182 hQQ182 hp183
      refine regionS (a0 := a) (k0 := k) (n := 26) (m := 3) (⟨some (IsV s160.1), [(5, none)]⟩ :: ⟨some (IsV s160.2), [(6, none)]⟩ :: ⟨some (IsV (decide (s160.1 < s160.2))), [(9, some 0), (10, some 1)]⟩ :: []) hs (by kernel_rfl) ⟨ob1 rfl fun b q hk hn => ok_move rfl (up i5 hk hn.1), ob1 rfl fun b q hk hn => ok_move rfl (up i6 hk hn.1), ob1 rfl fun b q hk hn => ok_lss rfl hn.1 hn.2.1, trivial⟩ hQQ182 fun b q p => ?_
      exact tail_done (k := q) (hp183 _ _ ⟨Bs.post ⟨hg, hs, hd⟩ p, keep p 1 rfl i1, keep p 5 rfl i5, keep p 6 rfl i6, out p 2 11 _ rfl rfl rfl, trivial⟩)
    rintro a k ⟨⟨hg, hs, hd⟩, i1, i5, i6, i11, _⟩
    refine wp_cond_split (isBool i11) (fun hc181 => ?_) (fun hc181 => ?_)
    · rw [if_pos hc181] at hr
      refine wp_skip ?_
      refine wp_block ?_
      refine wp_seq ?_
      obtain ⟨x165_2, hx165_2, hr⟩ := bind_some hr
      refine cut (fun a' k' => Bs noF k0 26 a' k' ∧ (IsFn1 Try.prog f_) (a'.get 1) k' ∧ (IsV s160.1) (a'.get 5) k' ∧ (IsV s160.2) (a'.get 6) k' ∧ (IsV (α := Int) (IntKind.i64.wrap (IK.shr (IK.mk (IntKind.u64.wrap x165_2) : IK .u64) 1).n)) (a'.get 7) k' ∧ True) ?_ hQ ?_
      · intro Q179 hQQ179 hp180
        refine regionS (a0 := a) (k0 := k) (n := 26) (m := 7) (⟨some (IsV s160.1), [(5, none)]⟩ :: ⟨some (IsV s160.2), [(6, none)]⟩ :: ⟨some (IsV x165_2), [(12, some 0), (13, some 1)]⟩ :: ⟨some (IsV (IK.mk (IntKind.u64.wrap x165_2) : IK .u64)), [(14, some 2)]⟩ :: ⟨some (IsV (IK.shr (IK.mk (IntKind.u64.wrap x165_2) : IK .u64) 1)), [(15, some 3)]⟩ :: ⟨some (IsV (α := Int) (IntKind.i64.wrap (IK.shr (IK.mk (IntKind.u64.wrap x165_2) : IK .u64) 1).n)), [(16, some 4)]⟩ :: ⟨some (IsV (α := Int) (IntKind.i64.wrap (IK.shr (IK.mk (IntKind.u64.wrap x165_2) : IK .u64) 1).n)), [(17, some 5)]⟩ :: []) hs (by kernel_rfl) ⟨ob1 rfl fun b q hk hn => ok_move rfl (up i5 hk hn.1), ob1 rfl fun b q hk hn => ok_move rfl (up i6 hk hn.1), ob1 rfl fun b q hk hn => ok_add rfl hn.1 hn.2.1 hx165_2, ob1 rfl fun b q hk hn => ok_conv_ik rfl (by rw [Try.underlying3]; rfl) Try.underlying54 hn.1, ob1 rfl fun b q hk hn => ok_shrK rfl hn.1 (by decide) (by decide), ob1 rfl fun b q hk hn => ok_conv_ki rfl (by rw [Try.underlying54]; rfl) Try.underlying3 hn.1, ob1 rfl fun b q hk hn => ok_assign rfl hn.1, trivial⟩ hQQ179 fun b q p => ?_
        exact tail_done (k := q) (hp180 _ _ ⟨Bs.post ⟨hg, hs, hd⟩ p, keep p 1 rfl i1, keep p 5 rfl i5, keep p 6 rfl i6, out p 6 7 _ rfl rfl rfl, trivial⟩)
      rintro a k ⟨⟨hg, hs, hd⟩, i1, i5, i6, i7, _⟩
      refine wp_seq ?_
      obtain ⟨x166_2, hx166_2, hr⟩ := bind_some hr
      refine cut (fun a' k' => Bs noF k0 26 a' k' ∧ (IsFn1 Try.prog f_) (a'.get 1) k' ∧ (IsV s160.1) (a'.get 5) k' ∧ (IsV s160.2) (a'.get 6) k' ∧ (IsV (α := Int) (IntKind.i64.wrap (IK.shr (IK.mk (IntKind.u64.wrap x165_2) : IK .u64) 1).n)) (a'.get 7) k' ∧ (IsV (!x166_2)) (a'.get 21) k' ∧ True) ?_ hQ ?_
      · intro Q177 hQQ177 hp178
        refine regionS (a0 := a) (k0 := k) (n := 26) (m := 4) (⟨some (IsFn1 Try.prog f_), [(1, none)]⟩ :: ⟨some (IsV (α := Int) (IntKind.i64.wrap (IK.shr (IK.mk (IntKind.u64.wrap x165_2) : IK .u64) 1).n)), [(7, none)]⟩ :: ⟨some (IsV x166_2), [(18, some 0), (19, some 1)]⟩ :: ⟨some (IsV (!x166_2)), [(20, some 2)]⟩ :: []) hs (by kernel_rfl) ⟨ob1 rfl fun b q hk hn => ok_move rfl (up i1 hk hn.1), ob1 rfl fun b q hk hn => ok_move rfl (up i7 hk hn.1), ob1 rfl fun b q hk hn => ok_callF1 rfl hn.1 hn.2.1 hx166_2, ob1 rfl fun b q hk hn => ok_not rfl hn.1, trivial⟩ hQQ177 fun b q p => ?_
        exact tail_done (k := q) (hp178 _ _ ⟨Bs.post ⟨hg, hs, hd⟩ p, keep p 1 rfl i1, keep p 5 rfl i5, keep p 6 rfl i6, keep p 7 rfl i7, out p 3 21 _ rfl rfl rfl, trivial⟩)
      rintro a k ⟨⟨hg, hs, hd⟩, i1, i5, i6, i7, i21, _⟩
      obtain ⟨s167, hs167, hr⟩ := bind_some hr
      refine cut (fun a' k' => Bs noF k0 26 a' k' ∧ (IsFn1 Try.prog f_) (a'.get 1) k' ∧ (IsV s167.1) (a'.get 5) k' ∧ (IsV s167.2) (a'.get 6) k' ∧ True) ?_ hQ ?_
      · intro Q176 hQQ176 hp168
        replace hr := hs167
        clear hQ
        have hQ := hQQ176
        refine wp_cond_split (isBool i21) (fun hc175 => ?_) (fun hc175 => ?_)
        · rw [if_pos hc175] at hr
          obtain ⟨x169_1, hx169_1, hr⟩ := bind_some hr
          refine cut (fun a' k' => Bs noF k0 26 a' k' ∧ (IsFn1 Try.prog f_) (a'.get 1) k' ∧ (IsV x169_1) (a'.get 5) k' ∧ (IsV s160.2) (a'.get 6) k' ∧ True) ?_ hQ ?_
          · intro Q170 hQQ170 hp171
            refine regionS (a0 := a) (k0 := k) (n := 26) (m := 3) (⟨some (IsV (α := Int) (IntKind.i64.wrap (IK.shr (IK.mk (IntKind.u64.wrap x165_2) : IK .u64) 1).n)), [(7, none)]⟩ :: ⟨some (IsV x169_1), [(22, some 0)]⟩ :: ⟨some (IsV x169_1), [(23, some 1)]⟩ :: []) hs (by kernel_rfl) ⟨ob1 rfl fun b q hk hn => ok_move rfl (up i7 hk hn.1), ob1 rfl fun b q hk hn => ok_add rfl hn.1 (isV_int.2 rfl) hx169_1, ob1 rfl fun b q hk hn => ok_assign rfl hn.1, trivial⟩ hQQ170 fun b q p => ?_
            exact tail_done (k := q) (hp171 _ _ ⟨Bs.post ⟨hg, hs, hd⟩ p, keep p 1 rfl i1, out p 2 5 _ rfl rfl rfl, keep p 6 rfl i6, trivial⟩)
          rintro a k ⟨⟨hg, hs, hd⟩, i1, i5, i6, _⟩
          obtain rfl := Option.some.inj hr
          exact hp168 _ _ ⟨⟨hg, hs, hd⟩, i1, i5, i6, trivial⟩
        rw [if_neg (by rw [hc175]; decide)] at hr
        refine cut (fun a' k' => Bs noF k0 26 a' k' ∧ (IsFn1 Try.prog f_) (a'.get 1) k' ∧ (IsV s160.1) (a'.get 5) k' ∧ (IsV (α := Int) (IntKind.i64.wrap (IK.shr (IK.mk (IntKind.u64.wrap x165_2) : IK .u64) 1).n)) (a'.get 6) k' ∧ True) ?_ hQ ?_
        · intro Q173 hQQ173 hp174
          refine regionS (a0 := a) (k0 := k) (n := 26) (m := 2) (⟨some (IsV (α := Int) (IntKind.i64.wrap (IK.shr (IK.mk (IntKind.u64.wrap x165_2) : IK .u64) 1).n)), [(7, none)]⟩ :: ⟨some (IsV (α := Int) (IntKind.i64.wrap (IK.shr (IK.mk (IntKind.u64.wrap x165_2) : IK .u64) 1).n)), [(24, some 0)]⟩ :: []) hs (by kernel_rfl) ⟨ob1 rfl fun b q hk hn => ok_move rfl (up i7 hk hn.1), ob1 rfl fun b q hk hn => ok_assign rfl hn.1, trivial⟩ hQQ173 fun b q p => ?_
          exact tail_done (k := q) (hp174 _ _ ⟨Bs.post ⟨hg, hs, hd⟩ p, keep p 1 rfl i1, keep p 5 rfl i5, out p 1 6 _ rfl rfl rfl, trivial⟩)
        rintro a k ⟨⟨hg, hs, hd⟩, i1, i5, i6, _⟩
        obtain rfl := Option.some.inj hr
        exact hp168 _ _ ⟨⟨hg, hs, hd⟩, i1, i5, i6, trivial⟩
      clear hs167
      rintro a k ⟨⟨hg, hs, hd⟩, i1, i5, i6, _⟩
      exact hgo161 _ _ _ (Option.some.inj hr).symm ⟨⟨hg, hs, hd⟩, i1, i5, i6, trivial⟩
    rw [if_neg (by rw [hc181]; decide)] at hr
    refine wp_exit ?_
    exact hex162 _ _ _ _ (Option.some.inj hr).symm ⟨rfl, ⟨hg, hs, hd⟩, i5, trivial⟩
  · rintro r189 a k rfl hR
    dsimp only at hr
    obtain rfl := Option.some.inj hr
    exact hR
  · rintro _ _ _ rfl _
    simp at hr
  clear hf184
  rintro _ s185 a k rfl ⟨rfl, ⟨hg, hs, hd⟩, i5, _⟩
  dsimp only at hr
  refine wp_seq ?_
  refine cut (fun a' k' => Bs noF k0 26 a' k' ∧ (IsV s185.1) (a'.get 4) k' ∧ True) ?_ hQ ?_
  · intro Q187 hQQ187 hp188
    refine regionS (a0 := a) (k0 := k) (n := 26) (m := 2) (⟨some (IsV s185.1), [(5, none)]⟩ :: ⟨some (IsV s185.1), [(25, some 0)]⟩ :: []) hs (by kernel_rfl) ⟨ob1 rfl fun b q hk hn => ok_move rfl (up i5 hk hn.1), ob1 rfl fun b q hk hn => ok_assign rfl hn.1, trivial⟩ hQQ187 fun b q p => ?_
    exact tail_done (k := q) (hp188 _ _ ⟨Bs.post ⟨hg, hs, hd⟩ p, out p 1 4 _ rfl rfl rfl, trivial⟩)
  rintro a k ⟨⟨hg, hs, hd⟩, i4, _⟩
  refine wp_ret ?_
  obtain rfl := Option.some.inj hr
  exact retC1 rfl hd hg i4
def upTo_L0 (holidays : (List Int)) (day : Int) (s198 : Int × Int) : Option (Flow (Int × Int) (Int)) :=
  if (decide (s198.2 < (holidays.length : Int))) then
    (getI holidays s198.2).bind fun x203_0 =>
    (if (decide (x203_0 < day)) then
      (remI x203_0 7).bind fun x204_5 =>
      some (decide (x204_5 < 5))
    else
      some false).bind fun x204_7 =>
    (if x204_7 then
      (subI s198.1 1).bind fun x207_1 =>
      some x207_1
    else
      some s198.1).bind fun s205 =>
    (addI s198.2 1).bind fun x211_0 =>
    some (.go (s205, x211_0))
  else
    some (.ex 0 (s198.1, s198.2))
def upTo (holidays : (List Int)) (day : Int) : Option (Int) :=
  (quoI day 7).bind fun x196_1 =>
  (mulI x196_1 5).bind fun x196_2 =>
  (remI day 7).bind fun x196_4 =>
  (addI x196_2 (min x196_4 5)).bind fun x196_6 =>
  (iterL (upTo_L0 holidays day) (holidays.length + 1) (x196_6, 0)).bind fun f222 => match f222 with
    | .go _ => none
    | .ex _ s223 =>
      some s223.1
    | .ret r227 => some r227
theorem upTo_ok {k0 : K} {v0 v1 : Value} {holidays : (List Int)} {day : Int} {r : Int} (i0 : (IsV holidays) v0 k0) (i1 : (IsV day) v1 k0) (hr : upTo holidays day = some r) :
    Calls Try.prog 41 #[v0, v1] k0.w (Ret k0 (IsV r)) := by
  unfold upTo at hr
  refine Ret.ofC ?_
  refine enterK Try.func41 rfl Try.ntmps41 (show 2 ≤ 33 by decide) fun a k hk0 hs hd ha => ?_
  obtain ⟨e0, e1, _⟩ := ha
  replace i0 : (IsV holidays) (a.get 0) k := by rw [e0, hk0]; exact i0
  replace i1 : (IsV day) (a.get 1) k := by rw [e1, hk0]; exact i1
  have hQ : Gb.LetsOut (bodyPost Try.prog Try.f41 (RetC noF k0 (IsV r))) := letsOutC
  have hg : Chg noF k0 k := by rw [hk0]; exact Chg.refl _ k0
  refine wp_seq ?_
  refine cut (fun a' k' => Bs noF k0 33 a' k' ∧ (IsV holidays) (a'.get 0) k' ∧ (IsV day) (a'.get 1) k' ∧ True) ?_ hQ ?_
  · intro Q233 hQQ233 hp234
    refine regionS (a0 := a) (k0 := k) (n := 33) (m := 1) (⟨some (IsV (α := Int) 0), []⟩ :: []) hs (by kernel_rfl) ⟨ob1 rfl fun b q hk hn => ok_assign rfl (isV_int.2 rfl), trivial⟩ hQQ233 fun b q p => ?_
    exact tail_done (k := q) (hp234 _ _ ⟨Bs.post ⟨hg, hs, hd⟩ p, keep p 0 rfl i0, keep p 1 rfl i1, trivial⟩)
  rintro a k ⟨⟨hg, hs, hd⟩, i0, i1, _⟩
  refine wp_seq ?_
  obtain ⟨x196_1, hx196_1, hr⟩ := bind_some hr
  obtain ⟨x196_2, hx196_2, hr⟩ := bind_some hr
  obtain ⟨x196_4, hx196_4, hr⟩ := bind_some hr
  obtain ⟨x196_6, hx196_6, hr⟩ := bind_some hr
  refine cut (fun a' k' => Bs noF k0 33 a' k' ∧ (IsV holidays) (a'.get 0) k' ∧ (IsV day) (a'.get 1) k' ∧ (IsV x196_6) (a'.get 5) k' ∧ True) ?_ hQ ?_
  · intro Q231 hQQ231 hp232
    refine regionS (a0 := a) (k0 := k) (n := 33) (m := 8) (⟨some (IsV day), [(1, none)]⟩ :: ⟨some (IsV x196_1), [(8, some 0)]⟩ :: ⟨some (IsV x196_2), [(9, some 1)]⟩ :: ⟨some (IsV day), [(1, none)]⟩ :: ⟨some (IsV x196_4), [(11, some 3)]⟩ :: ⟨some (IsV (α := Int) (min x196_4 5)), [(12, some 4)]⟩ :: ⟨some (IsV x196_6), [(10, some 2), (13, some 5)]⟩ :: ⟨some (IsV x196_6), [(14, some 6)]⟩ :: []) hs (by kernel_rfl) ⟨ob1 rfl fun b q hk hn => ok_move rfl (up i1 hk hn.1), ob1 rfl fun b q hk hn => ok_quo rfl hn.1 (isV_int.2 rfl) hx196_1, ob1 rfl fun b q hk hn => ok_mul rfl hn.1 (isV_int.2 rfl) hx196_2, ob1 rfl fun b q hk hn => ok_move rfl (up i1 hk hn.1), ob1 rfl fun b q hk hn => ok_rem rfl hn.1 (isV_int.2 rfl) hx196_4, ob1 rfl fun b q hk hn => ok_min2 rfl hn.1 (isV_int.2 rfl), ob1 rfl fun b q hk hn => ok_add rfl hn.1 hn.2.1 hx196_6, ob1 rfl fun b q hk hn => ok_assign rfl hn.1, trivial⟩ hQQ231 fun b q p => ?_
    exact tail_done (k := q) (hp232 _ _ ⟨Bs.post ⟨hg, hs, hd⟩ p, keep p 0 rfl i0, keep p 1 rfl i1, out p 7 5 _ rfl rfl rfl, trivial⟩)
  rintro a k ⟨⟨hg, hs, hd⟩, i0, i1, i5, _⟩
  refine wp_seq ?_
  refine wp_seq ?_
  refine cut (fun a' k' => Bs noF k0 33 a' k' ∧ (IsV day) (a'.get 1) k' ∧ (IsV x196_6) (a'.get 5) k' ∧ (IsV holidays) (a'.get 15) k' ∧ (IsV (α := Int) (holidays.length : Int)) (a'.get 16) k' ∧ (IsV (α := Int) 0) (a'.get 17) k' ∧ True) ?_ hQ ?_
  · intro Q229 hQQ229 hp230
    refine regionS (a0 := a) (k0 := k) (n := 33) (m := 3) (⟨some (IsV holidays), [(0, none)]⟩ :: ⟨some (IsV (α := Int) (holidays.length : Int)), [(15, some 0)]⟩ :: ⟨some (IsV (α := Int) 0), []⟩ :: []) hs (by kernel_rfl) ⟨ob1 rfl fun b q hk hn => ok_move rfl (up i0 hk hn.1), ob1 rfl fun b q hk hn => ok_len rfl rfl Try.underlying22 (IsV.rd hn.1), ob1 rfl fun b q hk hn => ok_move rfl (isV_int.2 rfl), trivial⟩ hQQ229 fun b q p => ?_
    exact tail_done (k := q) (hp230 _ _ ⟨Bs.post ⟨hg, hs, hd⟩ p, keep p 1 rfl i1, keep p 5 rfl i5, out p 0 15 _ rfl rfl rfl, out p 1 16 _ rfl rfl rfl, out p 2 17 _ rfl rfl rfl, trivial⟩)
  rintro a k ⟨⟨hg, hs, hd⟩, i1, i5, i15, i16, i17, _⟩
  refine wp_block ?_
  obtain ⟨f222, hf222, hr⟩ := bind_some hr
  refine cutFe f222 (fun s' a' k' => Bs noF k0 33 a' k' ∧ (IsV day) (a'.get 1) k' ∧ (IsV s'.1) (a'.get 5) k' ∧ (IsV holidays) (a'.get 15) k' ∧ (IsV (α := Int) (holidays.length : Int)) (a'.get 16) k' ∧ (IsV s'.2) (a'.get 17) k' ∧ True) (fun i' s' a' k' => (i' = 0 ∧ Bs noF k0 33 a' k' ∧ (IsV s'.1) (a'.get 5) k' ∧ True)) (fun r' a' k' => bodyPost Try.prog Try.f41 (RetC noF k0 (IsV r')) .ret a' k'.w) ?_ hQ ?_ ?_ ?_
  · intro Q228 hQQ228 hgo hex hret
    refine sim_loop ?_ _ _ _ _ _ hf222 ⟨⟨hg, hs, hd⟩, i1, i5, i15, i16, i17, trivial⟩ Q228 hQQ228 hgo hex hret
    clear hr hf222 hgo hex hret hQQ228 hQ hg hs hd i1 i15 i16 i17 i5
    intro s198 fl_ a k hr hS Q hQ hgo199 hex200 hret201
    obtain ⟨⟨hg, hs, hd⟩, i1, i5, i15, i16, i17, _⟩ := hS
    unfold upTo_L0 at hr
    refine wp_seq ?_
    refine cut (fun a' k' => Bs noF k0 33 a' k' ∧ (IsV day) (a'.get 1) k' ∧ (IsV s198.1) (a'.get 5) k' ∧ (IsV holidays) (a'.get 15) k' ∧ (IsV (α := Int) (holidays.length : Int)) (a'.get 16) k' ∧ (IsV s198.2) (a'.get 17) k' ∧ (IsV (decide (s198.2 < (holidays.length : Int)))) (a'.get 18) k' ∧ True) ?_ hQ ?_
    · intro Q220 hQQ220 hp221
      refine regionS (a0 := a) (k0 := k) (n := 33) (m := 1) (⟨some (IsV (decide (s198.2 < (holidays.length : Int)))), [(17, none), (16, none)]⟩ :: []) hs (by kernel_rfl) ⟨ob1 rfl fun b q hk hn => ok_lss rfl (up i17 hk hn.1) (up i16 hk hn.2.1), trivial⟩ hQQ220 fun b q p => ?_
      exact tail_done (k := q) (hp221 _ _ ⟨Bs.post ⟨hg, hs, hd⟩ p, keep p 1 rfl i1, keep p 5 rfl i5, keep p 15 rfl i15, keep p 16 rfl i16, keep p 17 rfl i17, out p 0 18 _ rfl rfl rfl, trivial⟩)
    rintro a k ⟨⟨hg, hs, hd⟩, i1, i5, i15, i16, i17, i18, _⟩
    refine wp_seq ?_
    refine wp_cond_split (isBool i18) (fun hc219 => ?_) (fun hc219 => ?_)
    · rw [if_pos hc219] at hr
      refine wp_skip ?_
      refine wp_seq ?_
      refine wp_block ?_
      refine wp_seq ?_
      obtain ⟨x203_0, hx203_0, hr⟩ := bind_some hr
      refine cut (fun a' k' => Bs noF k0 33 a' k' ∧ (IsV day) (a'.get 1) k' ∧ (IsV s198.1) (a'.get 5) k' ∧ (IsV x203_0) (a'.get 7) k' ∧ (IsV holidays) (a'.get 15) k' ∧ (IsV (α := Int) (holidays.length : Int)) (a'.get 16) k' ∧ (IsV s198.2) (a'.get 17) k' ∧ True) ?_ hQ ?_
      · intro Q217 hQQ217 hp218
        refine regionS (a0 := a) (k0 := k) (n := 33) (m := 3) (⟨some (IsPtr x203_0), [(15, none), (17, none)]⟩ :: ⟨some (IsV x203_0), [(19, some 0)]⟩ :: ⟨some (IsV x203_0), [(20, some 1)]⟩ :: []) hs (by kernel_rfl) ⟨ob1 rfl fun b q hk hn => ok_indexAddr rfl Try.underlying22 ty3 (IsV.rd (up i15 hk hn.1)) (up i17 hk hn.2.1) hx203_0, ob1 rfl fun b q hk hn => ok_load rfl ty3 hn.1, ob1 rfl fun b q hk hn => ok_assign rfl hn.1, trivial⟩ hQQ217 fun b q p => ?_
        exact tail_done (k := q) (hp218 _ _ ⟨Bs.post ⟨hg, hs, hd⟩ p, keep p 1 rfl i1, keep p 5 rfl i5, out p 2 7 _ rfl rfl rfl, keep p 15 rfl i15, keep p 16 rfl i16, keep p 17 rfl i17, trivial⟩)
      rintro a k ⟨⟨hg, hs, hd⟩, i1, i5, i7, i15, i16, i17, _⟩
      refine wp_seq ?_
      obtain ⟨x204_7, hx204_7, hr⟩ := bind_some hr
      obtain ⟨x204_5, hx204_5, hx204_7⟩ := ite_bind hx204_7
      refine cut (fun a' k' => Bs noF k0 33 a' k' ∧ (IsV day) (a'.get 1) k' ∧ (IsV s198.1) (a'.get 5) k' ∧ (IsV holidays) (a'.get 15) k' ∧ (IsV (α := Int) (holidays.length : Int)) (a'.get 16) k' ∧ (IsV s198.2) (a'.get 17) k' ∧ (IsV x204_7) (a'.get 28) k' ∧ True) ?_ hQ ?_
      · intro Q215 hQQ215 hp216
        refine regionS (a0 := a) (k0 := k) (n := 33) (m := 8) (⟨some (IsV x203_0), [(7, none)]⟩ :: ⟨some (IsV day), [(1, none)]⟩ :: ⟨some (IsV (decide (x203_0 < day))), [(21, some 0), (22, some 1)]⟩ :: ⟨some (IsV (decide (x203_0 < day))), [(23, some 2)]⟩ :: ⟨some (Gd ((decide (x203_0 < day)) = true) (IsV x203_0)), [(7, none)]⟩ :: ⟨some (Gd ((decide (x203_0 < day)) = true) (IsV x204_5)), [(25, some 4)]⟩ :: ⟨some (Gd ((decide (x203_0 < day)) = true) (IsV (decide (x204_5 < 5)))), [(26, some 5)]⟩ :: ⟨some (IsV x204_7), [(24, some 3), (27, some 6)]⟩ :: []) hs (by kernel_rfl) ⟨ob1 rfl fun b q hk hn => ok_move rfl (up i7 hk hn.1), ob1 rfl fun b q hk hn => ok_move rfl (up i1 hk hn.1), ob1 rfl fun b q hk hn => ok_lss rfl hn.1 hn.2.1, ob1 rfl fun b q hk hn => ok_move rfl hn.1, gdT rfl rfl fun hp b q hk hn => ok_move rfl (up i7 hk hn.1), gdT rfl rfl fun hp b q hk hn => ok_rem rfl (Gd.get hn.1 hp) (isV_int.2 rfl) (hx204_5 hp), gdT rfl rfl fun hp b q hk hn => ok_lss rfl (Gd.get hn.1 hp) (isV_int.2 rfl), ob1 rfl fun b q hk hn => ok_pickM rfl hn.1 hx204_7 (fun hm => (Gd.get hn.2.1 hm)) (fun _ => (isV_bool.2 rfl)), trivial⟩ hQQ215 fun b q p => ?_
        exact tail_done (k := q) (hp216 _ _ ⟨Bs.post ⟨hg, hs, hd⟩ p, keep p 1 rfl i1, keep p 5 rfl i5, keep p 15 rfl i15, keep p 16 rfl i16, keep p 17 rfl i17, out p 7 28 _ rfl rfl rfl, trivial⟩)
      rintro a k ⟨⟨hg, hs, hd⟩, i1, i5, i15, i16, i17, i28, _⟩
      obtain ⟨s205, hs205, hr⟩ := bind_some hr
      refine cut (fun a' k' => Bs noF k0 33 a' k' ∧ (IsV day) (a'.get 1) k' ∧ (IsV s205) (a'.get 5) k' ∧ (IsV holidays) (a'.get 15) k' ∧ (IsV (α := Int) (holidays.length : Int)) (a'.get 16) k' ∧ (IsV s198.2) (a'.get 17) k' ∧ True) ?_ hQ ?_
      · intro Q214 hQQ214 hp206
        replace hr := hs205
        clear hQ
        have hQ := hQQ214
        refine wp_cond_split (isBool i28) (fun hc210 => ?_) (fun hc210 => ?_)
        · rw [if_pos hc210] at hr
          obtain ⟨x207_1, hx207_1, hr⟩ := bind_some hr
          refine cut (fun a' k' => Bs noF k0 33 a' k' ∧ (IsV day) (a'.get 1) k' ∧ (IsV x207_1) (a'.get 5) k' ∧ (IsV holidays) (a'.get 15) k' ∧ (IsV (α := Int) (holidays.length : Int)) (a'.get 16) k' ∧ (IsV s198.2) (a'.get 17) k' ∧ True) ?_ hQ ?_
          · intro Q208 hQQ208 hp209
            refine regionS (a0 := a) (k0 := k) (n := 33) (m := 3) (⟨some (IsV s198.1), [(5, none)]⟩ :: ⟨some (IsV x207_1), [(29, some 0)]⟩ :: ⟨some (IsV x207_1), [(30, some 1)]⟩ :: []) hs (by kernel_rfl) ⟨ob1 rfl fun b q hk hn => ok_move rfl (up i5 hk hn.1), ob1 rfl fun b q hk hn => ok_sub rfl hn.1 (isV_int.2 rfl) hx207_1, ob1 rfl fun b q hk hn => ok_assign rfl hn.1, trivial⟩ hQQ208 fun b q p => ?_
            exact tail_done (k := q) (hp209 _ _ ⟨Bs.post ⟨hg, hs, hd⟩ p, keep p 1 rfl i1, out p 2 5 _ rfl rfl rfl, keep p 15 rfl i15, keep p 16 rfl i16, keep p 17 rfl i17, trivial⟩)
          rintro a k ⟨⟨hg, hs, hd⟩, i1, i5, i15, i16, i17, _⟩
          obtain rfl := Option.some.inj hr
          exact hp206 _ _ ⟨⟨hg, hs, hd⟩, i1, i5, i15, i16, i17, trivial⟩
        rw [if_neg (by rw [hc210]; decide)] at hr
        refine wp_skip ?_
        obtain rfl := Option.some.inj hr
        exact hp206 _ _ ⟨⟨hg, hs, hd⟩, i1, i5, i15, i16, i17, trivial⟩
      clear hs205
      rintro a k ⟨⟨hg, hs, hd⟩, i1, i5, i15, i16, i17, _⟩
      obtain ⟨x211_0, hx211_0, hr⟩ := bind_some hr
      refine cut (fun a' k' => Bs noF k0 33 a' k' ∧ (IsV day) (a'.get 1) k' ∧ (IsV s205) (a'.get 5) k' ∧ (IsV holidays) (a'.get 15) k' ∧ (IsV (α := Int) (holidays.length : Int)) (a'.get 16) k' ∧ (IsV x211_0) (a'.get 17) k' ∧ True) ?_ hQ ?_
      · intro Q212 hQQ212 hp213
        refine regionS (a0 := a) (k0 := k) (n := 33) (m := 2) (⟨some (IsV x211_0), [(17, none)]⟩ :: ⟨some (IsV x211_0), [(31, some 0)]⟩ :: []) hs (by kernel_rfl) ⟨ob1 rfl fun b q hk hn => ok_add rfl (up i17 hk hn.1) (isV_int.2 rfl) hx211_0, ob1 rfl fun b q hk hn => ok_move rfl hn.1, trivial⟩ hQQ212 fun b q p => ?_
        exact tail_done (k := q) (hp213 _ _ ⟨Bs.post ⟨hg, hs, hd⟩ p, keep p 1 rfl i1, keep p 5 rfl i5, keep p 15 rfl i15, keep p 16 rfl i16, out p 1 17 _ rfl rfl rfl, trivial⟩)
      rintro a k ⟨⟨hg, hs, hd⟩, i1, i5, i15, i16, i17, _⟩
      exact hgo199 _ _ _ (Option.some.inj hr).symm ⟨⟨hg, hs, hd⟩, i1, i5, i15, i16, i17, trivial⟩
    rw [if_neg (by rw [hc219]; decide)] at hr
    refine wp_exit ?_
    exact hex200 _ _ _ _ (Option.some.inj hr).symm ⟨rfl, ⟨hg, hs, hd⟩, i5, trivial⟩
  · rintro r227 a k rfl hR
    dsimp only at hr
    obtain rfl := Option.some.inj hr
    exact hR
  · rintro _ _ _ rfl _
    simp at hr
  clear hf222
  rintro _ s223 a k rfl ⟨rfl, ⟨hg, hs, hd⟩, i5, _⟩
  dsimp only at hr
  refine wp_seq ?_
  refine cut (fun a' k' => Bs noF k0 33 a' k' ∧ (IsV s223.1) (a'.get 4) k' ∧ True) ?_ hQ ?_
  · intro Q225 hQQ225 hp226
    refine regionS (a0 := a) (k0 := k) (n := 33) (m := 2) (⟨some (IsV s223.1), [(5, none)]⟩ :: ⟨some (IsV s223.1), [(32, some 0)]⟩ :: []) hs (by kernel_rfl) ⟨ob1 rfl fun b q hk hn => ok_move rfl (up i5 hk hn.1), ob1 rfl fun b q hk hn => ok_assign rfl hn.1, trivial⟩ hQQ225 fun b q p => ?_
    exact tail_done (k := q) (hp226 _ _ ⟨Bs.post ⟨hg, hs, hd⟩ p, out p 1 4 _ rfl rfl rfl, trivial⟩)
  rintro a k ⟨⟨hg, hs, hd⟩, i4, _⟩
  refine wp_ret ?_
  obtain rfl := Option.some.inj hr
  exact retC1 rfl hd hg i4
def calCountG_L0 (holidays : (List Int)) (calm : (List Stay)) (a_ : Int) (b_ : Int) (s238 : Int × Int) : Option (Flow (Int × Int) (Int)) :=
  if (decide (s238.2 < (calm.length : Int))) then
    (getI calm s238.2).bind fun x243_0 =>
    (addI a_ 1).bind fun x244_3 =>
    (if (decide ((max x243_0.From x244_3) ≤ (min x243_0.To b_))) then
      (addI (min x243_0.To b_) 1).bind fun x248_3 =>
      (upTo holidays x248_3).bind fun x248_4 =>
      (upTo holidays (max x243_0.From x244_3)).bind fun x248_7 =>
      (subI x248_4 x248_7).bind fun x248_8 =>
      (subI s238.1 x248_8).bind fun x248_9 =>
      some x248_9
    else
      some s238.1).bind fun s246 =>
    (addI s238.2 1).bind fun x252_0 =>
    some (.go (s246, x252_0))
  else
    some (.ex 0 (s238.1, s238.2))
def calCountG (holidays : (List Int)) (calm : (List Stay)) (a_ : Int) (b_ : Int) : Option (Int) :=
  (addI b_ 1).bind fun x236_2 =>
  (upTo holidays x236_2).bind fun x236_3 =>
  (addI a_ 1).bind fun x236_6 =>
  (upTo holidays x236_6).bind fun x236_7 =>
  (subI x236_3 x236_7).bind fun x236_8 =>
  (iterL (calCountG_L0 holidays calm a_ b_) (calm.length + 1) (x236_8, 0)).bind fun f265 => match f265 with
    | .go _ => none
    | .ex _ s266 =>
      some s266.1
    | .ret r270 => some r270
theorem calCountG_ok {k0 : K} {v0 v1 v2 v3 : Value} {holidays : (List Int)} {calm : (List Stay)} {a_ : Int} {b_ : Int} {r : Int} (i0 : (IsV holidays) v0 k0) (i1 : (IsV calm) v1 k0) (i2 : (IsV a_) v2 k0) (i3 : (IsV b_) v3 k0) (hr : calCountG holidays calm a_ b_ = some r) :
    Calls Try.prog 29 #[v0, v1, v2, v3] k0.w (Ret k0 (IsV r)) := by
  unfold calCountG at hr
  refine Ret.ofC ?_
  refine enterK Try.func29 rfl Try.ntmps29 (show 4 ≤ 53 by decide) fun a k hk0 hs hd ha => ?_
  obtain ⟨e0, e1, e2, e3, _⟩ := ha
  replace i0 : (IsV holidays) (a.get 0) k := by rw [e0, hk0]; exact i0
  replace i1 : (IsV calm) (a.get 1) k := by rw [e1, hk0]; exact i1
  replace i2 : (IsV a_) (a.get 2) k := by rw [e2, hk0]; exact i2
  replace i3 : (IsV b_) (a.get 3) k := by rw [e3, hk0]; exact i3
  have hQ : Gb.LetsOut (bodyPost Try.prog Try.f29 (RetC noF k0 (IsV r))) := letsOutC
  have hg : Chg noF k0 k := by rw [hk0]; exact Chg.refl _ k0
  refine wp_seq ?_
  refine cut (fun a' k' => Bs noF k0 53 a' k' ∧ (IsV holidays) (a'.get 0) k' ∧ (IsV calm) (a'.get 1) k' ∧ (IsV a_) (a'.get 2) k' ∧ (IsV b_) (a'.get 3) k' ∧ True) ?_ hQ ?_
  · intro Q276 hQQ276 hp277
    refine regionS (a0 := a) (k0 := k) (n := 53) (m := 1) (⟨some (IsV (α := Int) 0), []⟩ :: []) hs (by kernel_rfl) ⟨ob1 rfl fun b q hk hn => ok_assign rfl (isV_int.2 rfl), trivial⟩ hQQ276 fun b q p => ?_
    exact tail_done (k := q) (hp277 _ _ ⟨Bs.post ⟨hg, hs, hd⟩ p, keep p 0 rfl i0, keep p 1 rfl i1, keep p 2 rfl i2, keep p 3 rfl i3, trivial⟩)
  rintro a k ⟨⟨hg, hs, hd⟩, i0, i1, i2, i3, _⟩
  refine wp_seq ?_
  obtain ⟨x236_2, hx236_2, hr⟩ := bind_some hr
  obtain ⟨x236_3, hx236_3, hr⟩ := bind_some hr
  obtain ⟨x236_6, hx236_6, hr⟩ := bind_some hr
  obtain ⟨x236_7, hx236_7, hr⟩ := bind_some hr
  obtain ⟨x236_8, hx236_8, hr⟩ := bind_some hr
  refine cut (fun a' k' => Bs noF k0 53 a' k' ∧ (IsV holidays) (a'.get 0) k' ∧ (IsV calm) (a'.get 1) k' ∧ (IsV a_) (a'.get 2) k' ∧ (IsV b_) (a'.get 3) k' ∧ (IsV x236_8) (a'.get 9) k' ∧ True) ?_ hQ ?_
  · intro Q274 hQQ274 hp275
    refine regionS (a0 := a) (k0 := k) (n := 53) (m := 10) (⟨some (IsV holidays), [(0, none)]⟩ :: ⟨some (IsV b_), [(3, none)]⟩ :: ⟨some (IsV x236_2), [(15, some 1)]⟩ :: ⟨some (IsV x236_3), [(14, some 0), (16, some 2)]⟩ :: ⟨some (IsV holidays), [(0, none)]⟩ :: ⟨some (IsV a_), [(2, none)]⟩ :: ⟨some (IsV x236_6), [(19, some 5)]⟩ :: ⟨some (IsV x236_7), [(18, some 4), (20, some 6)]⟩ :: ⟨some (IsV x236_8), [(17, some 3), (21, some 7)]⟩ :: ⟨some (IsV x236_8), [(22, some 8)]⟩ :: []) hs (by kernel_rfl) ⟨ob1 rfl fun b q hk hn => ok_move rfl (up i0 hk hn.1), ob1 rfl fun b q hk hn => ok_move rfl (up i3 hk hn.1), ob1 rfl fun b q hk hn => ok_add rfl hn.1 (isV_int.2 rfl) hx236_2, ob1 rfl fun b q hk hn => ok_call rfl Try.call41 (upTo_ok hn.1 hn.2.1 hx236_3), ob1 rfl fun b q hk hn => ok_move rfl (up i0 hk hn.1), ob1 rfl fun b q hk hn => ok_move rfl (up i2 hk hn.1), ob1 rfl fun b q hk hn => ok_add rfl hn.1 (isV_int.2 rfl) hx236_6, ob1 rfl fun b q hk hn => ok_call rfl Try.call41 (upTo_ok hn.1 hn.2.1 hx236_7), ob1 rfl fun b q hk hn => ok_sub rfl hn.1 hn.2.1 hx236_8, ob1 rfl fun b q hk hn => ok_assign rfl hn.1, trivial⟩ hQQ274 fun b q p => ?_
    exact tail_done (k := q) (hp275 _ _ ⟨Bs.post ⟨hg, hs, hd⟩ p, keep p 0 rfl i0, keep p 1 rfl i1, keep p 2 rfl i2, keep p 3 rfl i3, out p 9 9 _ rfl rfl rfl, trivial⟩)
  rintro a k ⟨⟨hg, hs, hd⟩, i0, i1, i2, i3, i9, _⟩
  refine wp_seq ?_
  refine wp_seq ?_
  refine cut (fun a' k' => Bs noF k0 53 a' k' ∧ (IsV holidays) (a'.get 0) k' ∧ (IsV a_) (a'.get 2) k' ∧ (IsV b_) (a'.get 3) k' ∧ (IsV x236_8) (a'.get 9) k' ∧ (IsV calm) (a'.get 23) k' ∧ (IsV (α := Int) (calm.length : Int)) (a'.get 24) k' ∧ (IsV (α := Int) 0) (a'.get 25) k' ∧ True) ?_ hQ ?_
  · intro Q272 hQQ272 hp273
    refine regionS (a0 := a) (k0 := k) (n := 53) (m := 3) (⟨some (IsV calm), [(1, none)]⟩ :: ⟨some (IsV (α := Int) (calm.length : Int)), [(23, some 0)]⟩ :: ⟨some (IsV (α := Int) 0), []⟩ :: []) hs (by kernel_rfl) ⟨ob1 rfl fun b q hk hn => ok_move rfl (up i1 hk hn.1), ob1 rfl fun b q hk hn => ok_len rfl rfl Try.underlying23 (IsV.rd hn.1), ob1 rfl fun b q hk hn => ok_move rfl (isV_int.2 rfl), trivial⟩ hQQ272 fun b q p => ?_
    exact tail_done (k := q) (hp273 _ _ ⟨Bs.post ⟨hg, hs, hd⟩ p, keep p 0 rfl i0, keep p 2 rfl i2, keep p 3 rfl i3, keep p 9 rfl i9, out p 0 23 _ rfl rfl rfl, out p 1 24 _ rfl rfl rfl, out p 2 25 _ rfl rfl rfl, trivial⟩)
  rintro a k ⟨⟨hg, hs, hd⟩, i0, i2, i3, i9, i23, i24, i25, _⟩
  refine wp_block ?_
  obtain ⟨f265, hf265, hr⟩ := bind_some hr
  refine cutFe f265 (fun s' a' k' => Bs noF k0 53 a' k' ∧ (IsV holidays) (a'.get 0) k' ∧ (IsV a_) (a'.get 2) k' ∧ (IsV b_) (a'.get 3) k' ∧ (IsV s'.1) (a'.get 9) k' ∧ (IsV calm) (a'.get 23) k' ∧ (IsV (α := Int) (calm.length : Int)) (a'.get 24) k' ∧ (IsV s'.2) (a'.get 25) k' ∧ True) (fun i' s' a' k' => (i' = 0 ∧ Bs noF k0 53 a' k' ∧ (IsV s'.1) (a'.get 9) k' ∧ True)) (fun r' a' k' => bodyPost Try.prog Try.f29 (RetC noF k0 (IsV r')) .ret a' k'.w) ?_ hQ ?_ ?_ ?_
  · intro Q271 hQQ271 hgo hex hret
    refine sim_loop ?_ _ _ _ _ _ hf265 ⟨⟨hg, hs, hd⟩, i0, i2, i3, i9, i23, i24, i25, trivial⟩ Q271 hQQ271 hgo hex hret
    clear hr hf265 hgo hex hret hQQ271 hQ hg hs hd i0 i2 i23 i24 i25 i3 i9
    intro s238 fl_ a k hr hS Q hQ hgo239 hex240 hret241
    obtain ⟨⟨hg, hs, hd⟩, i0, i2, i3, i9, i23, i24, i25, _⟩ := hS
    unfold calCountG_L0 at hr
    refine wp_seq ?_
    refine cut (fun a' k' => Bs noF k0 53 a' k' ∧ (IsV holidays) (a'.get 0) k' ∧ (IsV a_) (a'.get 2) k' ∧ (IsV b_) (a'.get 3) k' ∧ (IsV s238.1) (a'.get 9) k' ∧ (IsV calm) (a'.get 23) k' ∧ (IsV (α := Int) (calm.length : Int)) (a'.get 24) k' ∧ (IsV s238.2) (a'.get 25) k' ∧ (IsV (decide (s238.2 < (calm.length : Int)))) (a'.get 26) k' ∧ True) ?_ hQ ?_
    · intro Q263 hQQ263 hp264
      refine regionS (a0 := a) (k0 := k) (n := 53) (m := 1) (⟨some (IsV (decide (s238.2 < (calm.length : Int)))), [(25, none), (24, none)]⟩ :: []) hs (by kernel_rfl) ⟨ob1 rfl fun b q hk hn => ok_lss rfl (up i25 hk hn.1) (up i24 hk hn.2.1), trivial⟩ hQQ263 fun b q p => ?_
      exact tail_done (k := q) (hp264 _ _ ⟨Bs.post ⟨hg, hs, hd⟩ p, keep p 0 rfl i0, keep p 2 rfl i2, keep p 3 rfl i3, keep p 9 rfl i9, keep p 23 rfl i23, keep p 24 rfl i24, keep p 25 rfl i25, out p 0 26 _ rfl rfl rfl, trivial⟩)
    rintro a k ⟨⟨hg, hs, hd⟩, i0, i2, i3, i9, i23, i24, i25, i26, _⟩
    refine wp_seq ?_
    refine wp_cond_split (isBool i26) (fun hc262 => ?_) (fun hc262 => ?_)
    · rw [if_pos hc262] at hr
      refine wp_skip ?_
      refine wp_seq ?_
      refine wp_block ?_
      refine wp_seq ?_
      obtain ⟨x243_0, hx243_0, hr⟩ := bind_some hr
      refine cut (fun a' k' => Bs noF k0 53 a' k' ∧ (IsV holidays) (a'.get 0) k' ∧ (IsV a_) (a'.get 2) k' ∧ (IsV b_) (a'.get 3) k' ∧ (IsV s238.1) (a'.get 9) k' ∧ (IsRef x243_0) (a'.get 11) k' ∧ (IsV calm) (a'.get 23) k' ∧ (IsV (α := Int) (calm.length : Int)) (a'.get 24) k' ∧ (IsV s238.2) (a'.get 25) k' ∧ True) ?_ hQ ?_
      · intro Q260 hQQ260 hp261
        refine regionS (a0 := a) (k0 := k) (n := 53) (m := 3) (⟨some (IsPtr x243_0), [(23, none), (25, none)]⟩ :: ⟨some (IsV x243_0), [(27, some 0)]⟩ :: ⟨some (IsBox k.w.heap.size (⟨0, 0⟩ : Stay)), []⟩ :: []) hs (by kernel_rfl) ⟨ob1 rfl fun b q hk hn => ok_indexAddr rfl Try.underlying23 ty38 (IsV.rd (up i23 hk hn.1)) (up i25 hk hn.2.1) hx243_0, ob1 rfl fun b q hk hn => ok_load rfl ty38 hn.1, ob1 rfl fun b q hk hn => ok_alloc _ hk.size rfl z38, trivial⟩ hQQ260 fun b q p => ?_
        have hgq := hg.then p.grow
        have hsb := p.size.trans hs
        have hdb := p.defers.trans hd
        have j0 := keep p 0 rfl i0
        have j2 := keep p 2 rfl i2
        have j3 := keep p 3 rfl i3
        have j9 := keep p 9 rfl i9
        obtain ⟨b11, j11, x11, z11⟩ : (IsBox k.w.heap.size (⟨0, 0⟩ : Stay)) (b.get 11) q := out p 2 11 _ rfl rfl rfl
        replace x11 : Lo k (Eq b11) := Lo.eq x11
        have y11 : Lo k0 (Eq b11) := x11.chg hg
        have j23 := keep p 23 rfl i23
        have j24 := keep p 24 rfl i24
        have j25 := keep p 25 rfl i25
        have j28 : (IsV x243_0) (b.get 28) q := out p 1 28 _ rfl rfl rfl
        have hns := z11.nshF
        refine tail_storeB (i := 3) rfl rfl rfl rfl szf38 (Upd.self (α := Stay)) j11 z11 j28 fun q2 hch hz => ?_
        replace hgq := hgq.step hch y11.wr
        have hle := hch.le hns
        replace j0 := Pers.pers hle j0
        replace j2 := Pers.pers hle j2
        replace j3 := Pers.pers hle j3
        replace j9 := Pers.pers hle j9
        replace j23 := Pers.pers hle j23
        replace j24 := Pers.pers hle j24
        replace j25 := Pers.pers hle j25
        replace j28 := Pers.pers hle j28
        replace z11 := hz
        clear hns hle hch
        obtain ⟨q, hqq⟩ : ∃ q, q = q2 := ⟨q2, rfl⟩
        subst hqq
        obtain ⟨q2, hsh, jn⟩ := z11.give
        replace j0 := Pers.pers hsh.le j0
        replace j2 := Pers.pers hsh.le j2
        replace j3 := Pers.pers hsh.le j3
        replace j9 := Pers.pers hsh.le j9
        replace j23 := Pers.pers hsh.le j23
        replace j24 := Pers.pers hsh.le j24
        replace j25 := Pers.pers hsh.le j25
        rw [← j11] at jn
        replace j11 := jn
        replace hgq := hgq.hand hsh y11.wr
        rw [← hsh.w]
        clear hsh
        obtain ⟨q, hqq⟩ : ∃ q, q = q2 := ⟨q2, rfl⟩
        subst hqq
        exact tail_done (k := q) (hp261 _ _ ⟨⟨hgq, hsb, hdb⟩, j0, j2, j3, j9, j11, j23, j24, j25, trivial⟩)
      rintro a k ⟨⟨hg, hs, hd⟩, i0, i2, i3, i9, i11, i23, i24, i25, _⟩
      refine wp_seq ?_
      obtain ⟨x244_3, hx244_3, hr⟩ := bind_some hr
      refine cut (fun a' k' => Bs noF k0 53 a' k' ∧ (IsV holidays) (a'.get 0) k' ∧ (IsV a_) (a'.get 2) k' ∧ (IsV b_) (a'.get 3) k' ∧ (IsV s238.1) (a'.get 9) k' ∧ (IsV (α := Int) (max x243_0.From x244_3)) (a'.get 12) k' ∧ (IsV (α := Int) (min x243_0.To b_)) (a'.get 13) k' ∧ (IsV calm) (a'.get 23) k' ∧ (IsV (α := Int) (calm.length : Int)) (a'.get 24) k' ∧ (IsV s238.2) (a'.get 25) k' ∧ True) ?_ hQ ?_
      · intro Q258 hQQ258 hp259
        refine region (a0 := a) (k0 := k) (n := 53) (m := 11) (⟨some (IsPtr x243_0.From), [(11, none)]⟩ :: ⟨some (IsV x243_0.From), [(29, some 0)]⟩ :: ⟨some (IsV a_), [(2, none)]⟩ :: ⟨some (IsV x244_3), [(31, some 2)]⟩ :: ⟨some (IsV (α := Int) (max x243_0.From x244_3)), [(30, some 1), (32, some 3)]⟩ :: ⟨some (IsPtr x243_0.To), [(11, none)]⟩ :: ⟨some (IsV x243_0.To), [(34, some 5)]⟩ :: ⟨some (IsV b_), [(3, none)]⟩ :: ⟨some (IsV (α := Int) (min x243_0.To b_)), [(35, some 6), (36, some 7)]⟩ :: ⟨some (IsV (α := Int) (max x243_0.From x244_3)), [(33, some 4)]⟩ :: ⟨some (IsV (α := Int) (min x243_0.To b_)), [(37, some 8)]⟩ :: []) hmix hs (by kernel_rfl) ⟨ob1 rfl fun b q hk hn => ok_fieldAddr rfl fo38_0 (at_Stay_0 _) ((up i11 hk hn.1)).ptr, ob1 rfl fun b q hk hn => ok_load rfl ty3 hn.1, ob1 rfl fun b q hk hn => ok_move rfl (up i2 hk hn.1), ob1 rfl fun b q hk hn => ok_add rfl hn.1 (isV_int.2 rfl) hx244_3, ob1 rfl fun b q hk hn => ok_max2 rfl hn.1 hn.2.1, ob1 rfl fun b q hk hn => ok_fieldAddr rfl fo38_1 (at_Stay_1 _) ((up i11 hk hn.1)).ptr, ob1 rfl fun b q hk hn => ok_load rfl ty3 hn.1, ob1 rfl fun b q hk hn => ok_move rfl (up i3 hk hn.1), ob1 rfl fun b q hk hn => ok_min2 rfl hn.1 hn.2.1, ob1 rfl fun b q hk hn => ok_assign rfl hn.1, ob1 rfl fun b q hk hn => ok_assign rfl hn.1, trivial⟩ hQQ258 fun b q p => ?_
        exact tail_done (k := q) (hp259 _ _ ⟨Bs.post ⟨hg, hs, hd⟩ p, keep p 0 rfl i0, keep p 2 rfl i2, keep p 3 rfl i3, keep p 9 rfl i9, out p 9 12 _ rfl rfl rfl, out p 10 13 _ rfl rfl rfl, keep p 23 rfl i23, keep p 24 rfl i24, keep p 25 rfl i25, trivial⟩)
      rintro a k ⟨⟨hg, hs, hd⟩, i0, i2, i3, i9, i12, i13, i23, i24, i25, _⟩
      refine wp_seq ?_
      refine cut (fun a' k' => Bs noF k0 53 a' k' ∧ (IsV holidays) (a'.get 0) k' ∧ (IsV a_) (a'.get 2) k' ∧ (IsV b_) (a'.get 3) k' ∧ (IsV s238.1) (a'.get 9) k' ∧ (IsV (α := Int) (max x243_0.From x244_3)) (a'.get 12) k' ∧ (IsV (α := Int) (min x243_0.To b_)) (a'.get 13) k' ∧ (IsV calm) (a'.get 23) k' ∧ (IsV (α := Int) (calm.length : Int)) (a'.get 24) k' ∧ (IsV s238.2) (a'.get 25) k' ∧ (IsV (decide ((max x243_0.From x244_3) ≤ (min x243_0.To b_)))) (a'.get 40) k' ∧ True) ?_ hQ ?_
      · intro Q256 hQQ256 hp257
        refine regionS (a0 := a) (k0 := k) (n := 53) (m := 3) (⟨some (IsV (α := Int) (max x243_0.From x244_3)), [(12, none)]⟩ :: ⟨some (IsV (α := Int) (min x243_0.To b_)), [(13, none)]⟩ :: ⟨some (IsV (decide ((max x243_0.From x244_3) ≤ (min x243_0.To b_)))), [(38, some 0), (39, some 1)]⟩ :: []) hs (by kernel_rfl) ⟨ob1 rfl fun b q hk hn => ok_move rfl (up i12 hk hn.1), ob1 rfl fun b q hk hn => ok_move rfl (up i13 hk hn.1), ob1 rfl fun b q hk hn => ok_leq rfl hn.1 hn.2.1, trivial⟩ hQQ256 fun b q p => ?_
        exact tail_done (k := q) (hp257 _ _ ⟨Bs.post ⟨hg, hs, hd⟩ p, keep p 0 rfl i0, keep p 2 rfl i2, keep p 3 rfl i3, keep p 9 rfl i9, keep p 12 rfl i12, keep p 13 rfl i13, keep p 23 rfl i23, keep p 24 rfl i24, keep p 25 rfl i25, out p 2 40 _ rfl rfl rfl, trivial⟩)
      rintro a k ⟨⟨hg, hs, hd⟩, i0, i2, i3, i9, i12, i13, i23, i24, i25, i40, _⟩
      obtain ⟨s246, hs246, hr⟩ := bind_some hr
      refine cut (fun a' k' => Bs noF k0 53 a' k' ∧ (IsV holidays) (a'.get 0) k' ∧ (IsV a_) (a'.get 2) k' ∧ (IsV b_) (a'.get 3) k' ∧ (IsV s246) (a'.get 9) k' ∧ (IsV calm) (a'.get 23) k' ∧ (IsV (α := Int) (calm.length : Int)) (a'.get 24) k' ∧ (IsV s238.2) (a'.get 25) k' ∧ True) ?_ hQ ?_
      · intro Q255 hQQ255 hp247
        replace hr := hs246
        clear hQ
        have hQ := hQQ255
        refine wp_cond_split (isBool i40) (fun hc251 => ?_) (fun hc251 => ?_)
        · rw [if_pos hc251] at hr
          obtain ⟨x248_3, hx248_3, hr⟩ := bind_some hr
          obtain ⟨x248_4, hx248_4, hr⟩ := bind_some hr
          obtain ⟨x248_7, hx248_7, hr⟩ := bind_some hr
          obtain ⟨x248_8, hx248_8, hr⟩ := bind_some hr
          obtain ⟨x248_9, hx248_9, hr⟩ := bind_some hr
          refine cut (fun a' k' => Bs noF k0 53 a' k' ∧ (IsV holidays) (a'.get 0) k' ∧ (IsV a_) (a'.get 2) k' ∧ (IsV b_) (a'.get 3) k' ∧ (IsV x248_9) (a'.get 9) k' ∧ (IsV calm) (a'.get 23) k' ∧ (IsV (α := Int) (calm.length : Int)) (a'.get 24) k' ∧ (IsV s238.2) (a'.get 25) k' ∧ True) ?_ hQ ?_
          · intro Q249 hQQ249 hp250
            refine regionS (a0 := a) (k0 := k) (n := 53) (m := 11) (⟨some (IsV s238.1), [(9, none)]⟩ :: ⟨some (IsV holidays), [(0, none)]⟩ :: ⟨some (IsV (α := Int) (min x243_0.To b_)), [(13, none)]⟩ :: ⟨some (IsV x248_3), [(43, some 2)]⟩ :: ⟨some (IsV x248_4), [(42, some 1), (44, some 3)]⟩ :: ⟨some (IsV holidays), [(0, none)]⟩ :: ⟨some (IsV (α := Int) (max x243_0.From x244_3)), [(12, none)]⟩ :: ⟨some (IsV x248_7), [(46, some 5), (47, some 6)]⟩ :: ⟨some (IsV x248_8), [(45, some 4), (48, some 7)]⟩ :: ⟨some (IsV x248_9), [(41, some 0), (49, some 8)]⟩ :: ⟨some (IsV x248_9), [(50, some 9)]⟩ :: []) hs (by kernel_rfl) ⟨ob1 rfl fun b q hk hn => ok_move rfl (up i9 hk hn.1), ob1 rfl fun b q hk hn => ok_move rfl (up i0 hk hn.1), ob1 rfl fun b q hk hn => ok_move rfl (up i13 hk hn.1), ob1 rfl fun b q hk hn => ok_add rfl hn.1 (isV_int.2 rfl) hx248_3, ob1 rfl fun b q hk hn => ok_call rfl Try.call41 (upTo_ok hn.1 hn.2.1 hx248_4), ob1 rfl fun b q hk hn => ok_move rfl (up i0 hk hn.1), ob1 rfl fun b q hk hn => ok_move rfl (up i12 hk hn.1), ob1 rfl fun b q hk hn => ok_call rfl Try.call41 (upTo_ok hn.1 hn.2.1 hx248_7), ob1 rfl fun b q hk hn => ok_sub rfl hn.1 hn.2.1 hx248_8, ob1 rfl fun b q hk hn => ok_sub rfl hn.1 hn.2.1 hx248_9, ob1 rfl fun b q hk hn => ok_assign rfl hn.1, trivial⟩ hQQ249 fun b q p => ?_
            exact tail_done (k := q) (hp250 _ _ ⟨Bs.post ⟨hg, hs, hd⟩ p, keep p 0 rfl i0, keep p 2 rfl i2, keep p 3 rfl i3, out p 10 9 _ rfl rfl rfl, keep p 23 rfl i23, keep p 24 rfl i24, keep p 25 rfl i25, trivial⟩)
          rintro a k ⟨⟨hg, hs, hd⟩, i0, i2, i3, i9, i23, i24, i25, _⟩
          obtain rfl := Option.some.inj hr
          exact hp247 _ _ ⟨⟨hg, hs, hd⟩, i0, i2, i3, i9, i23, i24, i25, trivial⟩
        rw [if_neg (by rw [hc251]; decide)] at hr
        refine wp_skip ?_
        obtain rfl := Option.some.inj hr
        exact hp247 _ _ ⟨⟨hg, hs, hd⟩, i0, i2, i3, i9, i23, i24, i25, trivial⟩
      clear hs246
      rintro a k ⟨⟨hg, hs, hd⟩, i0, i2, i3, i9, i23, i24, i25, _⟩
      obtain ⟨x252_0, hx252_0, hr⟩ := bind_some hr
      refine cut (fun a' k' => Bs noF k0 53 a' k' ∧ (IsV holidays) (a'.get 0) k' ∧ (IsV a_) (a'.get 2) k' ∧ (IsV b_) (a'.get 3) k' ∧ (IsV s246) (a'.get 9) k' ∧ (IsV calm) (a'.get 23) k' ∧ (IsV (α := Int) (calm.length : Int)) (a'.get 24) k' ∧ (IsV x252_0) (a'.get 25) k' ∧ True) ?_ hQ ?_
      · intro Q253 hQQ253 hp254
        refine regionS (a0 := a) (k0 := k) (n := 53) (m := 2) (⟨some (IsV x252_0), [(25, none)]⟩ :: ⟨some (IsV x252_0), [(51, some 0)]⟩ :: []) hs (by kernel_rfl) ⟨ob1 rfl fun b q hk hn => ok_add rfl (up i25 hk hn.1) (isV_int.2 rfl) hx252_0, ob1 rfl fun b q hk hn => ok_move rfl hn.1, trivial⟩ hQQ253 fun b q p => ?_
        exact tail_done (k := q) (hp254 _ _ ⟨Bs.post ⟨hg, hs, hd⟩ p, keep p 0 rfl i0, keep p 2 rfl i2, keep p 3 rfl i3, keep p 9 rfl i9, keep p 23 rfl i23, keep p 24 rfl i24, out p 1 25 _ rfl rfl rfl, trivial⟩)
      rintro a k ⟨⟨hg, hs, hd⟩, i0, i2, i3, i9, i23, i24, i25, _⟩
      exact hgo239 _ _ _ (Option.some.inj hr).symm ⟨⟨hg, hs, hd⟩, i0, i2, i3, i9, i23, i24, i25, trivial⟩
    rw [if_neg (by rw [hc262]; decide)] at hr
    refine wp_exit ?_
    exact hex240 _ _ _ _ (Option.some.inj hr).symm ⟨rfl, ⟨hg, hs, hd⟩, i9, trivial⟩
  · rintro r270 a k rfl hR
    dsimp only at hr
    obtain rfl := Option.some.inj hr
    exact hR
  · rintro _ _ _ rfl _
    simp at hr
  clear hf265
  rintro _ s266 a k rfl ⟨rfl, ⟨hg, hs, hd⟩, i9, _⟩
  dsimp only at hr
  refine wp_seq ?_
  refine cut (fun a' k' => Bs noF k0 53 a' k' ∧ (IsV s266.1) (a'.get 8) k' ∧ True) ?_ hQ ?_
  · intro Q268 hQQ268 hp269
    refine regionS (a0 := a) (k0 := k) (n := 53) (m := 2) (⟨some (IsV s266.1), [(9, none)]⟩ :: ⟨some (IsV s266.1), [(52, some 0)]⟩ :: []) hs (by kernel_rfl) ⟨ob1 rfl fun b q hk hn => ok_move rfl (up i9 hk hn.1), ob1 rfl fun b q hk hn => ok_assign rfl hn.1, trivial⟩ hQQ268 fun b q p => ?_
    exact tail_done (k := q) (hp269 _ _ ⟨Bs.post ⟨hg, hs, hd⟩ p, out p 1 8 _ rfl rfl rfl, trivial⟩)
  rintro a k ⟨⟨hg, hs, hd⟩, i8, _⟩
  refine wp_ret ?_
  obtain rfl := Option.some.inj hr
  exact retC1 rfl hd hg i8
def cloneStays (s_ : (List Stay)) : Option ((List Stay)) :=
  (appI [] s_).bind fun x283_2 =>
  some x283_2
theorem cloneStays_okO {k0 : K} {v0 : Value} {s_ : (List Stay)} {r : (List Stay)} (i0 : (IsV s_) v0 k0) (hr : cloneStays s_ = some r) :
    Calls Try.prog 38 #[v0] k0.w (Ret k0 (IsOwn k0.w.heap.size 38 r)) := by
  unfold cloneStays at hr
  refine Ret.ofC ?_
  refine enterK Try.func38 rfl Try.ntmps38 (show 1 ≤ 8 by decide) fun a k hk0 hs hd ha => ?_
  obtain ⟨e0, _⟩ := ha
  replace i0 : (IsV s_) (a.get 0) k := by rw [e0, hk0]; exact i0
  have hQ : Gb.LetsOut (bodyPost Try.prog Try.f38 (RetC noF k0 (IsOwn k0.w.heap.size 38 r))) := letsOutC
  have hg : Chg noF k0 k := by rw [hk0]; exact Chg.refl _ k0
  refine wp_seq ?_
  refine cut (fun a' k' => Bs noF k0 8 a' k' ∧ (IsV s_) (a'.get 0) k' ∧ True) ?_ hQ ?_
  · intro Q289 hQQ289 hp290
    refine regionS (a0 := a) (k0 := k) (n := 8) (m := 1) (⟨some IsE0, []⟩ :: []) hs (by kernel_rfl) ⟨ob1 rfl fun b q hk hn => ok_assign rfl isE0_nil, trivial⟩ hQQ289 fun b q p => ?_
    exact tail_done (k := q) (hp290 _ _ ⟨Bs.post ⟨hg, hs, hd⟩ p, keep p 0 rfl i0, trivial⟩)
  rintro a k ⟨⟨hg, hs, hd⟩, i0, _⟩
  refine wp_seq ?_
  refine wp_seq ?_
  refine cut (fun a' k' => Bs noF k0 8 a' k' ∧ (IsV s_) (a'.get 0) k' ∧ (IsNT s_) (a'.get 4) k' ∧ True) ?_ hQ ?_
  · intro Q287 hQQ287 hp288
    refine regionS (a0 := a) (k0 := k) (n := 8) (m := 2) (⟨some (IsV s_), [(0, none)]⟩ :: ⟨some (IsNT s_), [(3, some 0)]⟩ :: []) hs (by kernel_rfl) ⟨ob1 rfl fun b q hk hn => ok_move rfl (up i0 hk hn.1), ob1 rfl fun b q hk hn => ok_eqNil rfl Try.underlying23 (IsV.rd hn.1), trivial⟩ hQQ287 fun b q p => ?_
    exact tail_done (k := q) (hp288 _ _ ⟨Bs.post ⟨hg, hs, hd⟩ p, keep p 0 rfl i0, out p 1 4 _ rfl rfl rfl, trivial⟩)
  rintro a k ⟨⟨hg, hs, hd⟩, i0, i4, _⟩
  obtain ⟨bb, hbb, hnil⟩ := i4
  refine wp_cond_split hbb (fun hc286 => ?_) (fun hc286 => ?_)
  · replace hr : some ([] : List Stay) = some r := by rw [hnil hc286] at hr; simpa [appI] using hr
    refine wp_seq ?_
    refine cut (fun a' k' => Bs noF k0 8 a' k' ∧ IsOwn 0 38 ([] : List Stay) (a'.get 2) k' ∧ Lo k0 (obF (a'.get 2)) ∧ True) ?_ hQ ?_
    · intro Q281 hQQ281 hp282
      refine regionS (a0 := a) (k0 := k) (n := 8) (m := 1) (⟨some IsE0, []⟩ :: []) hs (by kernel_rfl) ⟨ob1 rfl fun b q hk hn => ok_assign rfl isE0_nil, trivial⟩ hQQ281 fun b q p => ?_
      have hgq := hg.then p.grow
      have hsb := p.size.trans hs
      have hdb := p.defers.trans hd
      have j2 : IsE0 (b.get 2) q := out p 0 2 _ rfl rfl rfl
      have y2 : Lo k0 (obF (b.get 2)) := j2.lo
      replace j2 : IsOwn 0 38 ([] : List Stay) (b.get 2) q := j2.own0
      exact tail_done (k := q) (hp282 _ _ ⟨⟨hgq, hsb, hdb⟩, j2, y2, trivial⟩)
    rintro a k ⟨⟨hg, hs, hd⟩, i2, n2, _⟩
    refine wp_ret ?_
    obtain rfl := Option.some.inj hr
    exact retC1 rfl hd hg (show ResOk _ _ _ (.tmp 2) _ from IsOwn.raise (k0 := k0) i2 n2)
  · skip
    refine wp_skip ?_
    refine wp_seq ?_
    obtain ⟨x283_2, hx283_2, hr⟩ := bind_some hr
    refine cut (fun a' k' => Bs noF k0 8 a' k' ∧ IsOwn 0 38 x283_2 (a'.get 2) k' ∧ Lo k0 (obF (a'.get 2)) ∧ True) ?_ hQ ?_
    · intro Q284 hQQ284 hp285
      refine regionS (a0 := a) (k0 := k) (n := 8) (m := 4) (⟨some IsE0, []⟩ :: ⟨some (IsV s_), [(0, none)]⟩ :: ⟨some (IsOwn k.w.heap.size 38 x283_2), [(5, some 0), (6, some 1)]⟩ :: ⟨some (IsOwn k.w.heap.size 38 x283_2), [(7, some 2)]⟩ :: []) hs (by kernel_rfl) ⟨ob1 rfl fun b q hk hn => ok_buildSlice0 rfl Try.underlying23 eo38, ob1 rfl fun b q hk hn => ok_move rfl (up i0 hk hn.1), ob1 rfl fun b q hk hn => ok_append0 rfl Try.underlying23 eo38 hk.size hn.1 (IsV.rd hn.2.1) hx283_2, ob1 rfl fun b q hk hn => ok_assign rfl hn.1, trivial⟩ hQQ284 fun b q p => ?_
      have hgq := hg.then p.grow
      have hsb := p.size.trans hs
      have hdb := p.defers.trans hd
      have j2 : (IsOwn k.w.heap.size 38 x283_2) (b.get 2) q := out p 3 2 _ rfl rfl rfl
      have x2 : Lo k (obF (b.get 2)) := j2.loF
      have y2 := x2.chg hg
      replace j2 := j2.weaken (Nat.zero_le _)
      exact tail_done (k := q) (hp285 _ _ ⟨⟨hgq, hsb, hdb⟩, j2, y2, trivial⟩)
    rintro a k ⟨⟨hg, hs, hd⟩, i2, n2, _⟩
    refine wp_ret ?_
    obtain rfl := Option.some.inj hr
    exact retC1 rfl hd hg (show ResOk _ _ _ (.tmp 2) _ from IsOwn.raise (k0 := k0) i2 n2)
theorem cloneStays_ok {k0 : K} {v0 : Value} {s_ : (List Stay)} {r : (List Stay)} (i0 : (IsV s_) v0 k0) (hr : cloneStays s_ = some r) :
    Calls Try.prog 38 #[v0] k0.w (Ret k0 (IsV r)) :=
  ret_give (cloneStays_okO i0 hr)
def calm_L0 (stays : (List Stay)) (s301 : Int) : Option (Flow (Int) ((List Stay) × Bool)) :=
  if (decide (s301 < (stays.length : Int))) then
    (getI stays s301).bind fun x306_0 =>
    if (((decide (x306_0.From < 0)) || (decide (x306_0.To < x306_0.From))) || (decide (1073741824 < x306_0.To))) then
      some (.ret (([] : List Stay), false))
    else
      (addI s301 1).bind fun x311_0 =>
      some (.go x311_0)
  else
    some (.ex 0 s301)
def calm_L1 (x297_1 : (List Stay)) (s325 : (List Stay) × Int) : Option (Flow ((List Stay) × Int) ((List Stay) × Bool)) :=
  if (decide (s325.2 < (x297_1.length : Int))) then
    ((getI x297_1 s325.2).bind fun x332_0 =>
    (subI (s325.1.length : Int) 1).bind fun x333_2 =>
    (if (decide (0 ≤ x333_2)) then
      (getI s325.1 x333_2).bind fun x334_7 =>
      some (decide (x332_0.From ≤ x334_7.To))
    else
      some false).bind fun x334_11 =>
    if x334_11 then
      (getI s325.1 x333_2).bind fun x335_4 =>
      (getI s325.1 x333_2).bind fun x335_10 =>
      (some (s325.1.set (x333_2).toNat ({ x335_10 with To := (max x335_4.To x332_0.To) }))).bind fun x335_12 =>
      some x335_12
    else
      (appI s325.1 ([x332_0])).bind fun x338_3 =>
      some x338_3).bind fun s330 =>
    (addI s325.2 1).bind fun x348_0 =>
    some (.go (s330, x348_0))
  else
    some (.ex 2 (s325.1, s325.2))
def calm (stays : (List Stay)) : Option ((List Stay) × Bool) :=
  if (decide (100 < (stays.length : Int))) then
    some (([] : List Stay), false)
  else
    (cloneStays stays).bind fun x296_1 =>
    (sortStays x296_1).bind fun x297_1 =>
    (iterL (calm_L0 stays) (stays.length + 1) 0).bind fun f322 => match f322 with
      | .go _ => none
      | .ex _ _ =>
        (iterL (calm_L1 x297_1) (x297_1.length + 1) (([] : List Stay), 0)).bind fun f356 => match f356 with
          | .go _ => none
          | .ex _ s357 =>
            some (s357.1, true)
          | .ret r361 => some r361
      | .ret r365 => some r365
theorem calm_ok {k0 : K} {v0 : Value} {stays : (List Stay)} {r : (List Stay) × Bool} (i0 : (IsV stays) v0 k0) (hr : calm stays = some r) :
    Calls Try.prog 25 #[v0] k0.w (Ret k0 (IsTup2 (IsV r.1) (IsV r.2))) := by
  unfold calm at hr
  refine Ret.ofC ?_
  refine enterK Try.func25 rfl Try.ntmps25 (show 1 ≤ 79 by decide) fun a k hk0 hs hd ha => ?_
  obtain ⟨e0, _⟩ := ha
  replace i0 : (IsV stays) (a.get 0) k := by rw [e0, hk0]; exact i0
  have hQ : Gb.LetsOut (bodyPost Try.prog Try.f25 (RetC noF k0 (IsTup2 (IsV r.1) (IsV r.2)))) := letsOutC
  have hg : Chg noF k0 k := by rw [hk0]; exact Chg.refl _ k0
  refine wp_seq ?_
  refine cut (fun a' k' => Bs noF k0 79 a' k' ∧ (IsV stays) (a'.get 0) k' ∧ True) ?_ hQ ?_
  · intro Q378 hQQ378 hp379
    refine regionS (a0 := a) (k0 := k) (n := 79) (m := 2) (⟨some IsE0, []⟩ :: ⟨some (IsV false), []⟩ :: []) hs (by kernel_rfl) ⟨ob1 rfl fun b q hk hn => ok_assign rfl isE0_nil, ob1 rfl fun b q hk hn => ok_assign rfl (isV_bool.2 rfl), trivial⟩ hQQ378 fun b q p => ?_
    exact tail_done (k := q) (hp379 _ _ ⟨Bs.post ⟨hg, hs, hd⟩ p, keep p 0 rfl i0, trivial⟩)
  rintro a k ⟨⟨hg, hs, hd⟩, i0, _⟩
  refine wp_seq ?_
  refine wp_seq ?_
  refine cut (fun a' k' => Bs noF k0 79 a' k' ∧ (IsV stays) (a'.get 0) k' ∧ (IsV (decide (100 < (stays.length : Int)))) (a'.get 13) k' ∧ True) ?_ hQ ?_
  · intro Q376 hQQ376 hp377
    refine regionS (a0 := a) (k0 := k) (n := 79) (m := 3) (⟨some (IsV stays), [(0, none)]⟩ :: ⟨some (IsV (α := Int) (stays.length : Int)), [(11, some 0)]⟩ :: ⟨some (IsV (decide (100 < (stays.length : Int)))), [(12, some 1)]⟩ :: []) hs (by kernel_rfl) ⟨ob1 rfl fun b q hk hn => ok_move rfl (up i0 hk hn.1), ob1 rfl fun b q hk hn => ok_len rfl rfl Try.underlying23 (IsV.rd hn.1), ob1 rfl fun b q hk hn => ok_gtr rfl hn.1 (isV_int.2 rfl), trivial⟩ hQQ376 fun b q p => ?_
    exact tail_done (k := q) (hp377 _ _ ⟨Bs.post ⟨hg, hs, hd⟩ p, keep p 0 rfl i0, out p 2 13 _ rfl rfl rfl, trivial⟩)
  rintro a k ⟨⟨hg, hs, hd⟩, i0, i13, _⟩
  refine wp_cond_split (isBool i13) (fun hc375 => ?_) (fun hc375 => ?_)
  · rw [if_pos hc375] at hr
    refine wp_seq ?_
    refine cut (fun a' k' => Bs noF k0 79 a' k' ∧ (IsV ([] : List Stay)) (a'.get 2) k' ∧ (IsV false) (a'.get 3) k' ∧ True) ?_ hQ ?_
    · intro Q294 hQQ294 hp295
      refine regionS (a0 := a) (k0 := k) (n := 79) (m := 2) (⟨some IsE0, []⟩ :: ⟨some (IsV false), []⟩ :: []) hs (by kernel_rfl) ⟨ob1 rfl fun b q hk hn => ok_assign rfl isE0_nil, ob1 rfl fun b q hk hn => ok_assign rfl (isV_bool.2 rfl), trivial⟩ hQQ294 fun b q p => ?_
      have hgq := hg.then p.grow
      have hsb := p.size.trans hs
      have hdb := p.defers.trans hd
      have j2 : IsE0 (b.get 2) q := out p 0 2 _ rfl rfl rfl
      have j3 : (IsV false) (b.get 3) q := out p 1 3 _ rfl rfl rfl
      replace j2 : IsV ([] : List Stay) (b.get 2) q := j2.isV
      exact tail_done (k := q) (hp295 _ _ ⟨⟨hgq, hsb, hdb⟩, j2, j3, trivial⟩)
    rintro a k ⟨⟨hg, hs, hd⟩, i2, i3, _⟩
    refine wp_ret ?_
    obtain rfl := Option.some.inj hr
    exact retC2 rfl hd hg i2 i3
  rw [if_neg (by rw [hc375]; decide)] at hr
  refine wp_skip ?_
  refine wp_seq ?_
  obtain ⟨x296_1, hx296_1, hr⟩ := bind_some hr
  refine cut (fun a' k' => Bs noF k0 79 a' k' ∧ (IsV stays) (a'.get 0) k' ∧ IsOwn 0 38 x296_1 (a'.get 4) k' ∧ Lo k0 (obF (a'.get 4)) ∧ True) ?_ hQ ?_
  · intro Q373 hQQ373 hp374
    refine regionS (a0 := a) (k0 := k) (n := 79) (m := 3) (⟨some (IsV stays), [(0, none)]⟩ :: ⟨some (IsOwn k.w.heap.size 38 x296_1), [(14, some 0)]⟩ :: ⟨some (IsOwn k.w.heap.size 38 x296_1), [(15, some 1)]⟩ :: []) hs (by kernel_rfl) ⟨ob1 rfl fun b q hk hn => ok_move rfl (up i0 hk hn.1), ob1 rfl fun b q hk hn => ok_call rfl Try.call38 (ret_weaken hk.size (cloneStays_okO hn.1 hx296_1)), ob1 rfl fun b q hk hn => ok_assign rfl hn.1, trivial⟩ hQQ373 fun b q p => ?_
    have hgq := hg.then p.grow
    have hsb := p.size.trans hs
    have hdb := p.defers.trans hd
    have j0 := keep p 0 rfl i0
    have j4 : (IsOwn k.w.heap.size 38 x296_1) (b.get 4) q := out p 2 4 _ rfl rfl rfl
    have x4 : Lo k (obF (b.get 4)) := j4.loF
    have y4 := x4.chg hg
    replace j4 := j4.weaken (Nat.zero_le _)
    exact tail_done (k := q) (hp374 _ _ ⟨⟨hgq, hsb, hdb⟩, j0, j4, y4, trivial⟩)
  rintro a k ⟨⟨hg, hs, hd⟩, i0, i4, n4, _⟩
  refine wp_seq ?_
  obtain ⟨x297_1, hx297_1, hr⟩ := bind_some hr
  refine cut (fun a' k' => Bs noF k0 79 a' k' ∧ (IsV stays) (a'.get 0) k' ∧ IsOwn 0 38 x297_1 (a'.get 4) k' ∧ Lo k0 (obF (a'.get 4)) ∧ True) ?_ hQ ?_
  · intro Q371 hQQ371 hp372
    refine regionS (a0 := a) (k0 := k) (n := 79) (m := 1) (⟨some (OwnAt (a.get 4) 0 38 x296_1), [(4, none)]⟩ :: []) hs (by kernel_rfl) ⟨ob1 rfl fun b q hk hn => ok_moveOA (.inl rfl) ⟨hn.1, up i4 hk hn.1⟩, trivial⟩ hQQ371 fun b q p => ?_
    have hgq := hg.then p.grow
    have hsb := p.size.trans hs
    have hdb := p.defers.trans hd
    have j0 := keep p 0 rfl i0
    have j4 := keep p 4 rfl i4
    have y4 : Lo k0 (obF (b.get 4)) := by rw [p.old 4 rfl]; exact n4
    have e16 : b.get 16 = a.get 4 := (out p 0 16 _ rfl rfl rfl).1
    have j16 : IsOwn 0 38 x296_1 (b.get 16) q := (out p 0 16 _ rfl rfl rfl).2
    have y16 : Lo k0 (obF (b.get 16)) := by rw [e16]; exact n4
    have hns := j16.nshF
    have eS : b.get 4 = b.get 16 := (p.old 4 rfl).trans e16.symm
    refine tail_call (F := obF (b.get 16)) (i := 1) (d := 17) rfl rfl rfl rfl (by rw [hsb]; decide) Try.call39 hQQ371 (sortStays_ok j16 hx297_1) fun b2 q2 hsz hdf hoth hch hres => ?_
    have hle := hch.le hns
    replace j0 := Pers.pers hle j0
    replace hgq := hgq.step hch y16.wr
    replace j4 : IsOwn 0 38 x297_1 (b.get 4) q2 := by rw [eS]; exact hres
    clear hres eS
    rw [← hoth 0 (by decide)] at j0
    rw [← hoth 4 (by decide)] at j4
    rw [← hoth 4 (by decide)] at y4
    replace hsb := hsz.trans hsb
    replace hdb := hdf.trans hdb
    clear hle hch hns hsz hdf hoth
    obtain ⟨b, hbb⟩ : ∃ b, b = b2 := ⟨b2, rfl⟩
    subst hbb
    obtain ⟨q, hqq⟩ : ∃ q, q = q2 := ⟨q2, rfl⟩
    subst hqq
    exact tail_done (k := q) (hp372 _ _ ⟨⟨hgq, hsb, hdb⟩, j0, j4, y4, trivial⟩)
  rintro a k ⟨⟨hg, hs, hd⟩, i0, i4, n4, _⟩
  refine wp_seq ?_
  obtain ⟨kk, sh298, ii4⟩ := i4.give
  replace i0 := Pers.pers sh298.le i0
  replace i4 := ii4
  replace hg := hg.hand sh298 n4.wr
  rw [← sh298.w]
  clear sh298
  obtain ⟨k, hkk⟩ : ∃ k, k = kk := ⟨kk, rfl⟩
  subst hkk
  refine cut (fun a' k' => Bs noF k0 79 a' k' ∧ (IsV stays) (a'.get 0) k' ∧ (IsV x297_1) (a'.get 4) k' ∧ IsOwn 0 38 ([] : List Stay) (a'.get 5) k' ∧ Lo k0 (obF (a'.get 5)) ∧ True) ?_ hQ ?_
  · intro Q369 hQQ369 hp370
    refine regionS (a0 := a) (k0 := k) (n := 79) (m := 1) (⟨some IsE0, []⟩ :: []) hs (by kernel_rfl) ⟨ob1 rfl fun b q hk hn => ok_assign rfl isE0_nil, trivial⟩ hQQ369 fun b q p => ?_
    have hgq := hg.then p.grow
    have hsb := p.size.trans hs
    have hdb := p.defers.trans hd
    have j0 := keep p 0 rfl i0
    have j4 := keep p 4 rfl i4
    have j5 : IsE0 (b.get 5) q := out p 0 5 _ rfl rfl rfl
    have y5 : Lo k0 (obF (b.get 5)) := j5.lo
    replace j5 : IsOwn 0 38 ([] : List Stay) (b.get 5) q := j5.own0
    exact tail_done (k := q) (hp370 _ _ ⟨⟨hgq, hsb, hdb⟩, j0, j4, j5, y5, trivial⟩)
  rintro a k ⟨⟨hg, hs, hd⟩, i0, i4, i5, n5, _⟩
  refine wp_seq ?_
  refine wp_seq ?_
  refine cut (fun a' k' => Bs noF k0 79 a' k' ∧ (IsV x297_1) (a'.get 4) k' ∧ IsOwn 0 38 ([] : List Stay) (a'.get 5) k' ∧ Lo k0 (obF (a'.get 5)) ∧ (IsV stays) (a'.get 18) k' ∧ (IsV (α := Int) (stays.length : Int)) (a'.get 19) k' ∧ (IsV (α := Int) 0) (a'.get 20) k' ∧ True) ?_ hQ ?_
  · intro Q367 hQQ367 hp368
    refine regionS (a0 := a) (k0 := k) (n := 79) (m := 3) (⟨some (IsV stays), [(0, none)]⟩ :: ⟨some (IsV (α := Int) (stays.length : Int)), [(18, some 0)]⟩ :: ⟨some (IsV (α := Int) 0), []⟩ :: []) hs (by kernel_rfl) ⟨ob1 rfl fun b q hk hn => ok_move rfl (up i0 hk hn.1), ob1 rfl fun b q hk hn => ok_len rfl rfl Try.underlying23 (IsV.rd hn.1), ob1 rfl fun b q hk hn => ok_move rfl (isV_int.2 rfl), trivial⟩ hQQ367 fun b q p => ?_
    exact tail_done (k := q) (hp368 _ _ ⟨Bs.post ⟨hg, hs, hd⟩ p, keep p 4 rfl i4, keep p 5 rfl i5, (by rw [p.old 5 rfl]; exact n5), out p 0 18 _ rfl rfl rfl, out p 1 19 _ rfl rfl rfl, out p 2 20 _ rfl rfl rfl, trivial⟩)
  rintro a k ⟨⟨hg, hs, hd⟩, i4, i5, n5, i18, i19, i20, _⟩
  refine wp_block ?_
  obtain ⟨f322, hf322, hr⟩ := bind_some hr
  refine cutFe f322 (fun s' a' k' => Bs noF k0 79 a' k' ∧ (IsV x297_1) (a'.get 4) k' ∧ IsOwn 0 38 ([] : List Stay) (a'.get 5) k' ∧ Lo k0 (obF (a'.get 5)) ∧ (IsV stays) (a'.get 18) k' ∧ (IsV (α := Int) (stays.length : Int)) (a'.get 19) k' ∧ (IsV s') (a'.get 20) k' ∧ True) (fun i' s' a' k' => (i' = 0 ∧ Bs noF k0 79 a' k' ∧ (IsV x297_1) (a'.get 4) k' ∧ IsOwn 0 38 ([] : List Stay) (a'.get 5) k' ∧ Lo k0 (obF (a'.get 5)) ∧ True)) (fun r' a' k' => bodyPost Try.prog Try.f25 (RetC noF k0 (IsTup2 (IsV r'.1) (IsV r'.2))) .ret a' k'.w) ?_ hQ ?_ ?_ ?_
  · intro Q366 hQQ366 hgo hex hret
    refine sim_loop ?_ _ _ _ _ _ hf322 ⟨⟨hg, hs, hd⟩, i4, i5, n5, i18, i19, i20, trivial⟩ Q366 hQQ366 hgo hex hret
    clear hr hf322 hgo hex hret hQQ366 hQ hg hs hd i18 i19 i20 i4 i5 n5
    intro s301 fl_ a k hr hS Q hQ hgo302 hex303 hret304
    obtain ⟨⟨hg, hs, hd⟩, i4, i5, n5, i18, i19, i20, _⟩ := hS
    unfold calm_L0 at hr
    refine wp_seq ?_
    refine cut (fun a' k' => Bs noF k0 79 a' k' ∧ (IsV x297_1) (a'.get 4) k' ∧ IsOwn 0 38 ([] : List Stay) (a'.get 5) k' ∧ Lo k0 (obF (a'.get 5)) ∧ (IsV stays) (a'.get 18) k' ∧ (IsV (α := Int) (stays.length : Int)) (a'.get 19) k' ∧ (IsV s301) (a'.get 20) k' ∧ (IsV (decide (s301 < (stays.length : Int)))) (a'.get 21) k' ∧ True) ?_ hQ ?_
    · intro Q320 hQQ320 hp321
      refine regionS (a0 := a) (k0 := k) (n := 79) (m := 1) (⟨some (IsV (decide (s301 < (stays.length : Int)))), [(20, none), (19, none)]⟩ :: []) hs (by kernel_rfl) ⟨ob1 rfl fun b q hk hn => ok_lss rfl (up i20 hk hn.1) (up i19 hk hn.2.1), trivial⟩ hQQ320 fun b q p => ?_
      exact tail_done (k := q) (hp321 _ _ ⟨Bs.post ⟨hg, hs, hd⟩ p, keep p 4 rfl i4, keep p 5 rfl i5, (by rw [p.old 5 rfl]; exact n5), keep p 18 rfl i18, keep p 19 rfl i19, keep p 20 rfl i20, out p 0 21 _ rfl rfl rfl, trivial⟩)
    rintro a k ⟨⟨hg, hs, hd⟩, i4, i5, n5, i18, i19, i20, i21, _⟩
    refine wp_seq ?_
    refine wp_cond_split (isBool i21) (fun hc319 => ?_) (fun hc319 => ?_)
    · rw [if_pos hc319] at hr
      refine wp_skip ?_
      refine wp_seq ?_
      refine wp_block ?_
      refine wp_seq ?_
      obtain ⟨x306_0, hx306_0, hr⟩ := bind_some hr
      refine cut (fun a' k' => Bs noF k0 79 a' k' ∧ (IsV x297_1) (a'.get 4) k' ∧ IsOwn 0 38 ([] : List Stay) (a'.get 5) k' ∧ Lo k0 (obF (a'.get 5)) ∧ (IsRef x306_0) (a'.get 7) k' ∧ (IsV stays) (a'.get 18) k' ∧ (IsV (α := Int) (stays.length : Int)) (a'.get 19) k' ∧ (IsV s301) (a'.get 20) k' ∧ True) ?_ hQ ?_
      · intro Q317 hQQ317 hp318
        refine regionS (a0 := a) (k0 := k) (n := 79) (m := 3) (⟨some (IsPtr x306_0), [(18, none), (20, none)]⟩ :: ⟨some (IsV x306_0), [(22, some 0)]⟩ :: ⟨some (IsBox k.w.heap.size (⟨0, 0⟩ : Stay)), []⟩ :: []) hs (by kernel_rfl) ⟨ob1 rfl fun b q hk hn => ok_indexAddr rfl Try.underlying23 ty38 (IsV.rd (up i18 hk hn.1)) (up i20 hk hn.2.1) hx306_0, ob1 rfl fun b q hk hn => ok_load rfl ty38 hn.1, ob1 rfl fun b q hk hn => ok_alloc _ hk.size rfl z38, trivial⟩ hQQ317 fun b q p => ?_
        have hgq := hg.then p.grow
        have hsb := p.size.trans hs
        have hdb := p.defers.trans hd
        have j4 := keep p 4 rfl i4
        have j5 := keep p 5 rfl i5
        have y5 : Lo k0 (obF (b.get 5)) := by rw [p.old 5 rfl]; exact n5
        obtain ⟨b7, j7, x7, z7⟩ : (IsBox k.w.heap.size (⟨0, 0⟩ : Stay)) (b.get 7) q := out p 2 7 _ rfl rfl rfl
        replace x7 : Lo k (Eq b7) := Lo.eq x7
        have y7 : Lo k0 (Eq b7) := x7.chg hg
        have j18 := keep p 18 rfl i18
        have j19 := keep p 19 rfl i19
        have j20 := keep p 20 rfl i20
        have j23 : (IsV x306_0) (b.get 23) q := out p 1 23 _ rfl rfl rfl
        have w5_7 : Apart (obF (b.get 5)) (Eq b7) := Apart.new (by rw [p.old 5 rfl]; exact i5.ltF) x7
        have hns := z7.nshF
        refine tail_storeB (i := 3) rfl rfl rfl rfl szf38 (Upd.self (α := Stay)) j7 z7 j23 fun q2 hch hz => ?_
        replace hgq := hgq.step hch y7.wr
        have hle := hch.le hns
        replace j4 := Pers.pers hle j4
        replace j5 := j5.keep hch w5_7 hns
        replace j18 := Pers.pers hle j18
        replace j19 := Pers.pers hle j19
        replace j20 := Pers.pers hle j20
        replace j23 := Pers.pers hle j23
        replace z7 := hz
        clear hns hle hch
        obtain ⟨q, hqq⟩ : ∃ q, q = q2 := ⟨q2, rfl⟩
        subst hqq
        obtain ⟨q2, hsh, jn⟩ := z7.give
        replace j4 := Pers.pers hsh.le j4
        replace j5 := j5.handed hsh w5_7
        replace j18 := Pers.pers hsh.le j18
        replace j19 := Pers.pers hsh.le j19
        replace j20 := Pers.pers hsh.le j20
        rw [← j7] at jn
        replace j7 := jn
        replace hgq := hgq.hand hsh y7.wr
        rw [← hsh.w]
        clear hsh
        obtain ⟨q, hqq⟩ : ∃ q, q = q2 := ⟨q2, rfl⟩
        subst hqq
        exact tail_done (k := q) (hp318 _ _ ⟨⟨hgq, hsb, hdb⟩, j4, j5, y5, j7, j18, j19, j20, trivial⟩)
      rintro a k ⟨⟨hg, hs, hd⟩, i4, i5, n5, i7, i18, i19, i20, _⟩
      refine wp_seq ?_
      refine cut (fun a' k' => Bs noF k0 79 a' k' ∧ (IsV x297_1) (a'.get 4) k' ∧ IsOwn 0 38 ([] : List Stay) (a'.get 5) k' ∧ Lo k0 (obF (a'.get 5)) ∧ (IsV stays) (a'.get 18) k' ∧ (IsV (α := Int) (stays.length : Int)) (a'.get 19) k' ∧ (IsV s301) (a'.get 20) k' ∧ (IsV (((decide (x306_0.From < 0)) || (decide (x306_0.To < x306_0.From))) || (decide (1073741824 < x306_0.To)))) (a'.get 38) k' ∧ True) ?_ hQ ?_
      · intro Q315 hQQ315 hp316
        refine regionS (a0 := a) (k0 := k) (n := 79) (m := 15) (⟨some (IsPtr x306_0.From), [(7, none)]⟩ :: ⟨some (IsV x306_0.From), [(24, some 0)]⟩ :: ⟨some (IsV (decide (x306_0.From < 0))), [(25, some 1)]⟩ :: ⟨some (IsV (decide (x306_0.From < 0))), [(26, some 2)]⟩ :: ⟨some (Gd ((decide (x306_0.From < 0)) = false) (IsPtr x306_0.From)), [(7, none)]⟩ :: ⟨some (Gd ((decide (x306_0.From < 0)) = false) (IsV x306_0.From)), [(28, some 4)]⟩ :: ⟨some (Gd ((decide (x306_0.From < 0)) = false) (IsPtr x306_0.To)), [(7, none)]⟩ :: ⟨some (Gd ((decide (x306_0.From < 0)) = false) (IsV x306_0.To)), [(30, some 6)]⟩ :: ⟨some (Gd ((decide (x306_0.From < 0)) = false) (IsV (decide (x306_0.To < x306_0.From)))), [(29, some 5), (31, some 7)]⟩ :: ⟨some (IsV ((decide (x306_0.From < 0)) || (decide (x306_0.To < x306_0.From)))), [(27, some 3), (32, some 8)]⟩ :: ⟨some (IsV ((decide (x306_0.From < 0)) || (decide (x306_0.To < x306_0.From)))), [(33, some 9)]⟩ :: ⟨some (Gd (((decide (x306_0.From < 0)) || (decide (x306_0.To < x306_0.From))) = false) (IsPtr x306_0.To)), [(7, none)]⟩ :: ⟨some (Gd (((decide (x306_0.From < 0)) || (decide (x306_0.To < x306_0.From))) = false) (IsV x306_0.To)), [(35, some 11)]⟩ :: ⟨some (Gd (((decide (x306_0.From < 0)) || (decide (x306_0.To < x306_0.From))) = false) (IsV (decide (1073741824 < x306_0.To)))), [(36, some 12)]⟩ :: ⟨some (IsV (((decide (x306_0.From < 0)) || (decide (x306_0.To < x306_0.From))) || (decide (1073741824 < x306_0.To)))), [(34, some 10), (37, some 13)]⟩ :: []) hs (by kernel_rfl) ⟨ob1 rfl fun b q hk hn => ok_fieldAddr rfl fo38_0 (at_Stay_0 _) ((up i7 hk hn.1)).ptr, ob1 rfl fun b q hk hn => ok_load rfl ty3 hn.1, ob1 rfl fun b q hk hn => ok_lss rfl hn.1 (isV_int.2 rfl), ob1 rfl fun b q hk hn => ok_move rfl hn.1, gdF rfl rfl fun hp b q hk hn => ok_fieldAddr rfl fo38_0 (at_Stay_0 _) ((up i7 hk hn.1)).ptr, gdF rfl rfl fun hp b q hk hn => ok_load rfl ty3 (Gd.get hn.1 hp), gdF rfl rfl fun hp b q hk hn => ok_fieldAddr rfl fo38_1 (at_Stay_1 _) ((up i7 hk hn.1)).ptr, gdF rfl rfl fun hp b q hk hn => ok_load rfl ty3 (Gd.get hn.1 hp), gdF rfl rfl fun hp b q hk hn => ok_gtr rfl (Gd.get hn.1 hp) (Gd.get hn.2.1 hp), ob1 rfl fun b q hk hn => ok_pickOr rfl hn.1 (fun _ => (isV_bool.2 rfl)) (fun hm => (Gd.get hn.2.1 hm)), ob1 rfl fun b q hk hn => ok_move rfl hn.1, gdF rfl rfl fun hp b q hk hn => ok_fieldAddr rfl fo38_1 (at_Stay_1 _) ((up i7 hk hn.1)).ptr, gdF rfl rfl fun hp b q hk hn => ok_load rfl ty3 (Gd.get hn.1 hp), gdF rfl rfl fun hp b q hk hn => ok_gtr rfl (Gd.get hn.1 hp) (isV_int.2 rfl), ob1 rfl fun b q hk hn => ok_pickOr rfl hn.1 (fun _ => (isV_bool.2 rfl)) (fun hm => (Gd.get hn.2.1 hm)), trivial⟩ hQQ315 fun b q p => ?_
        exact tail_done (k := q) (hp316 _ _ ⟨Bs.post ⟨hg, hs, hd⟩ p, keep p 4 rfl i4, keep p 5 rfl i5, (by rw [p.old 5 rfl]; exact n5), keep p 18 rfl i18, keep p 19 rfl i19, keep p 20 rfl i20, out p 14 38 _ rfl rfl rfl, trivial⟩)
      rintro a k ⟨⟨hg, hs, hd⟩, i4, i5, n5, i18, i19, i20, i38, _⟩
      refine wp_cond_split (isBool i38) (fun hc314 => ?_) (fun hc314 => ?_)
      · rw [if_pos hc314] at hr
        refine wp_seq ?_
        refine cut (fun a' k' => Bs noF k0 79 a' k' ∧ (IsV ([] : List Stay)) (a'.get 2) k' ∧ (IsV false) (a'.get 3) k' ∧ True) ?_ hQ ?_
        · intro Q309 hQQ309 hp310
          refine regionS (a0 := a) (k0 := k) (n := 79) (m := 2) (⟨some IsE0, []⟩ :: ⟨some (IsV false), []⟩ :: []) hs (by kernel_rfl) ⟨ob1 rfl fun b q hk hn => ok_assign rfl isE0_nil, ob1 rfl fun b q hk hn => ok_assign rfl (isV_bool.2 rfl), trivial⟩ hQQ309 fun b q p => ?_
          have hgq := hg.then p.grow
          have hsb := p.size.trans hs
          have hdb := p.defers.trans hd
          have j2 : IsE0 (b.get 2) q := out p 0 2 _ rfl rfl rfl
          have j3 : (IsV false) (b.get 3) q := out p 1 3 _ rfl rfl rfl
          replace j2 : IsV ([] : List Stay) (b.get 2) q := j2.isV
          exact tail_done (k := q) (hp310 _ _ ⟨⟨hgq, hsb, hdb⟩, j2, j3, trivial⟩)
        rintro a k ⟨⟨hg, hs, hd⟩, i2, i3, _⟩
        refine wp_ret ?_
        exact hret304 _ _ _ (Option.some.inj hr).symm (retC2 rfl hd hg i2 i3)
      rw [if_neg (by rw [hc314]; decide)] at hr
      refine wp_skip ?_
      obtain ⟨x311_0, hx311_0, hr⟩ := bind_some hr
      refine cut (fun a' k' => Bs noF k0 79 a' k' ∧ (IsV x297_1) (a'.get 4) k' ∧ IsOwn 0 38 ([] : List Stay) (a'.get 5) k' ∧ Lo k0 (obF (a'.get 5)) ∧ (IsV stays) (a'.get 18) k' ∧ (IsV (α := Int) (stays.length : Int)) (a'.get 19) k' ∧ (IsV x311_0) (a'.get 20) k' ∧ True) ?_ hQ ?_
      · intro Q312 hQQ312 hp313
        refine regionS (a0 := a) (k0 := k) (n := 79) (m := 2) (⟨some (IsV x311_0), [(20, none)]⟩ :: ⟨some (IsV x311_0), [(39, some 0)]⟩ :: []) hs (by kernel_rfl) ⟨ob1 rfl fun b q hk hn => ok_add rfl (up i20 hk hn.1) (isV_int.2 rfl) hx311_0, ob1 rfl fun b q hk hn => ok_move rfl hn.1, trivial⟩ hQQ312 fun b q p => ?_
        exact tail_done (k := q) (hp313 _ _ ⟨Bs.post ⟨hg, hs, hd⟩ p, keep p 4 rfl i4, keep p 5 rfl i5, (by rw [p.old 5 rfl]; exact n5), keep p 18 rfl i18, keep p 19 rfl i19, out p 1 20 _ rfl rfl rfl, trivial⟩)
      rintro a k ⟨⟨hg, hs, hd⟩, i4, i5, n5, i18, i19, i20, _⟩
      exact hgo302 _ _ _ (Option.some.inj hr).symm ⟨⟨hg, hs, hd⟩, i4, i5, n5, i18, i19, i20, trivial⟩
    rw [if_neg (by rw [hc319]; decide)] at hr
    refine wp_exit ?_
    exact hex303 _ _ _ _ (Option.some.inj hr).symm ⟨rfl, ⟨hg, hs, hd⟩, i4, i5, n5, trivial⟩
  · rintro r365 a k rfl hR
    dsimp only at hr
    obtain rfl := Option.some.inj hr
    exact hR
  · rintro _ _ _ rfl _
    simp at hr
  clear hf322
  rintro _ s323 a k rfl ⟨rfl, ⟨hg, hs, hd⟩, i4, i5, n5, _⟩
  dsimp only at hr
  refine wp_seq ?_
  refine wp_seq ?_
  refine cut (fun a' k' => Bs noF k0 79 a' k' ∧ IsOwn 0 38 ([] : List Stay) (a'.get 5) k' ∧ Lo k0 (obF (a'.get 5)) ∧ (IsV x297_1) (a'.get 40) k' ∧ (IsV (α := Int) (x297_1.length : Int)) (a'.get 41) k' ∧ (IsV (α := Int) 0) (a'.get 42) k' ∧ True) ?_ hQ ?_
  · intro Q363 hQQ363 hp364
    refine regionS (a0 := a) (k0 := k) (n := 79) (m := 3) (⟨some (IsV x297_1), [(4, none)]⟩ :: ⟨some (IsV (α := Int) (x297_1.length : Int)), [(40, some 0)]⟩ :: ⟨some (IsV (α := Int) 0), []⟩ :: []) hs (by kernel_rfl) ⟨ob1 rfl fun b q hk hn => ok_move rfl (up i4 hk hn.1), ob1 rfl fun b q hk hn => ok_len rfl rfl Try.underlying23 (IsV.rd hn.1), ob1 rfl fun b q hk hn => ok_move rfl (isV_int.2 rfl), trivial⟩ hQQ363 fun b q p => ?_
    exact tail_done (k := q) (hp364 _ _ ⟨Bs.post ⟨hg, hs, hd⟩ p, keep p 5 rfl i5, (by rw [p.old 5 rfl]; exact n5), out p 0 40 _ rfl rfl rfl, out p 1 41 _ rfl rfl rfl, out p 2 42 _ rfl rfl rfl, trivial⟩)
  rintro a k ⟨⟨hg, hs, hd⟩, i5, n5, i40, i41, i42, _⟩
  refine wp_block ?_
  obtain ⟨f356, hf356, hr⟩ := bind_some hr
  refine cutFe f356 (fun s' a' k' => Bs noF k0 79 a' k' ∧ IsOwn 0 38 s'.1 (a'.get 5) k' ∧ Lo k0 (obF (a'.get 5)) ∧ (IsV x297_1) (a'.get 40) k' ∧ (IsV (α := Int) (x297_1.length : Int)) (a'.get 41) k' ∧ (IsV s'.2) (a'.get 42) k' ∧ True) (fun i' s' a' k' => (i' = 2 ∧ Bs noF k0 79 a' k' ∧ (IsV s'.1) (a'.get 5) k' ∧ True)) (fun r' a' k' => bodyPost Try.prog Try.f25 (RetC noF k0 (IsTup2 (IsV r'.1) (IsV r'.2))) .ret a' k'.w) ?_ hQ ?_ ?_ ?_
  · intro Q362 hQQ362 hgo hex hret
    refine sim_loop ?_ _ _ _ _ _ hf356 ⟨⟨hg, hs, hd⟩, i5, n5, i40, i41, i42, trivial⟩ Q362 hQQ362 hgo hex hret
    clear hr hf356 hgo hex hret hQQ362 hQ hg hs hd i40 i41 i42 i5 n5
    intro s325 fl_ a k hr hS Q hQ hgo326 hex327 hret328
    obtain ⟨⟨hg, hs, hd⟩, i5, n5, i40, i41, i42, _⟩ := hS
    unfold calm_L1 at hr
    refine wp_seq ?_
    refine cut (fun a' k' => Bs noF k0 79 a' k' ∧ IsOwn 0 38 s325.1 (a'.get 5) k' ∧ Lo k0 (obF (a'.get 5)) ∧ (IsV x297_1) (a'.get 40) k' ∧ (IsV (α := Int) (x297_1.length : Int)) (a'.get 41) k' ∧ (IsV s325.2) (a'.get 42) k' ∧ (IsV (decide (s325.2 < (x297_1.length : Int)))) (a'.get 43) k' ∧ True) ?_ hQ ?_
    · intro Q354 hQQ354 hp355
      refine regionS (a0 := a) (k0 := k) (n := 79) (m := 1) (⟨some (IsV (decide (s325.2 < (x297_1.length : Int)))), [(42, none), (41, none)]⟩ :: []) hs (by kernel_rfl) ⟨ob1 rfl fun b q hk hn => ok_lss rfl (up i42 hk hn.1) (up i41 hk hn.2.1), trivial⟩ hQQ354 fun b q p => ?_
      exact tail_done (k := q) (hp355 _ _ ⟨Bs.post ⟨hg, hs, hd⟩ p, keep p 5 rfl i5, (by rw [p.old 5 rfl]; exact n5), keep p 40 rfl i40, keep p 41 rfl i41, keep p 42 rfl i42, out p 0 43 _ rfl rfl rfl, trivial⟩)
    rintro a k ⟨⟨hg, hs, hd⟩, i5, n5, i40, i41, i42, i43, _⟩
    refine wp_seq ?_
    refine wp_cond_split (isBool i43) (fun hc353 => ?_) (fun hc353 => ?_)
    · rw [if_pos hc353] at hr
      refine wp_skip ?_
      refine wp_seq ?_
      obtain ⟨s330, hs330, hr⟩ := bind_some hr
      refine cut (fun a' k' => Bs noF k0 79 a' k' ∧ IsOwn 0 38 s330 (a'.get 5) k' ∧ Lo k0 (obF (a'.get 5)) ∧ (IsV x297_1) (a'.get 40) k' ∧ (IsV (α := Int) (x297_1.length : Int)) (a'.get 41) k' ∧ (IsV s325.2) (a'.get 42) k' ∧ True) ?_ hQ ?_
      · intro Q351 hQQ351 hp331
        replace hr := hs330
        clear hQ
        have hQ := hQQ351
        refine wp_block ?_
        refine wp_seq ?_
        obtain ⟨x332_0, hx332_0, hr⟩ := bind_some hr
        refine cut (fun a' k' => Bs noF k0 79 a' k' ∧ IsOwn 0 38 s325.1 (a'.get 5) k' ∧ Lo k0 (obF (a'.get 5)) ∧ (IsRef x332_0) (a'.get 9) k' ∧ (IsV x297_1) (a'.get 40) k' ∧ (IsV (α := Int) (x297_1.length : Int)) (a'.get 41) k' ∧ (IsV s325.2) (a'.get 42) k' ∧ True) ?_ hQ ?_
        · intro Q346 hQQ346 hp347
          refine regionS (a0 := a) (k0 := k) (n := 79) (m := 3) (⟨some (IsPtr x332_0), [(40, none), (42, none)]⟩ :: ⟨some (IsV x332_0), [(44, some 0)]⟩ :: ⟨some (IsBox k.w.heap.size (⟨0, 0⟩ : Stay)), []⟩ :: []) hs (by kernel_rfl) ⟨ob1 rfl fun b q hk hn => ok_indexAddr rfl Try.underlying23 ty38 (IsV.rd (up i40 hk hn.1)) (up i42 hk hn.2.1) hx332_0, ob1 rfl fun b q hk hn => ok_load rfl ty38 hn.1, ob1 rfl fun b q hk hn => ok_alloc _ hk.size rfl z38, trivial⟩ hQQ346 fun b q p => ?_
          have hgq := hg.then p.grow
          have hsb := p.size.trans hs
          have hdb := p.defers.trans hd
          have j5 := keep p 5 rfl i5
          have y5 : Lo k0 (obF (b.get 5)) := by rw [p.old 5 rfl]; exact n5
          obtain ⟨b9, j9, x9, z9⟩ : (IsBox k.w.heap.size (⟨0, 0⟩ : Stay)) (b.get 9) q := out p 2 9 _ rfl rfl rfl
          replace x9 : Lo k (Eq b9) := Lo.eq x9
          have y9 : Lo k0 (Eq b9) := x9.chg hg
          have j40 := keep p 40 rfl i40
          have j41 := keep p 41 rfl i41
          have j42 := keep p 42 rfl i42
          have j45 : (IsV x332_0) (b.get 45) q := out p 1 45 _ rfl rfl rfl
          have w5_9 : Apart (obF (b.get 5)) (Eq b9) := Apart.new (by rw [p.old 5 rfl]; exact i5.ltF) x9
          have hns := z9.nshF
          refine tail_storeB (i := 3) rfl rfl rfl rfl szf38 (Upd.self (α := Stay)) j9 z9 j45 fun q2 hch hz => ?_
          replace hgq := hgq.step hch y9.wr
          have hle := hch.le hns
          replace j5 := j5.keep hch w5_9 hns
          replace j40 := Pers.pers hle j40
          replace j41 := Pers.pers hle j41
          replace j42 := Pers.pers hle j42
          replace j45 := Pers.pers hle j45
          replace z9 := hz
          clear hns hle hch
          obtain ⟨q, hqq⟩ : ∃ q, q = q2 := ⟨q2, rfl⟩
          subst hqq
          obtain ⟨q2, hsh, jn⟩ := z9.give
          replace j5 := j5.handed hsh w5_9
          replace j40 := Pers.pers hsh.le j40
          replace j41 := Pers.pers hsh.le j41
          replace j42 := Pers.pers hsh.le j42
          rw [← j9] at jn
          replace j9 := jn
          replace hgq := hgq.hand hsh y9.wr
          rw [← hsh.w]
          clear hsh
          obtain ⟨q, hqq⟩ : ∃ q, q = q2 := ⟨q2, rfl⟩
          subst hqq
          exact tail_done (k := q) (hp347 _ _ ⟨⟨hgq, hsb, hdb⟩, j5, y5, j9, j40, j41, j42, trivial⟩)
        rintro a k ⟨⟨hg, hs, hd⟩, i5, n5, i9, i40, i41, i42, _⟩
        refine wp_seq ?_
        refine wp_seq ?_
        obtain ⟨x333_2, hx333_2, hr⟩ := bind_some hr
        refine cut (fun a' k' => Bs noF k0 79 a' k' ∧ IsOwn 0 38 s325.1 (a'.get 5) k' ∧ Lo k0 (obF (a'.get 5)) ∧ (IsRef x332_0) (a'.get 9) k' ∧ (IsV x333_2) (a'.get 10) k' ∧ (IsV x297_1) (a'.get 40) k' ∧ (IsV (α := Int) (x297_1.length : Int)) (a'.get 41) k' ∧ (IsV s325.2) (a'.get 42) k' ∧ True) ?_ hQ ?_
        · intro Q344 hQQ344 hp345
          refine regionS (a0 := a) (k0 := k) (n := 79) (m := 4) (⟨some (OwnAt (a.get 5) 0 38 s325.1), [(5, none)]⟩ :: ⟨some (IsV (α := Int) (s325.1.length : Int)), [(46, some 0)]⟩ :: ⟨some (IsV x333_2), [(47, some 1)]⟩ :: ⟨some (IsV x333_2), [(48, some 2)]⟩ :: []) hs (by kernel_rfl) ⟨ob1 rfl fun b q hk hn => ok_moveOA (.inl rfl) ⟨hn.1, up i5 hk hn.1⟩, ob1 rfl fun b q hk hn => ok_len rfl rfl Try.underlying23 (IsOwn.rd (hn.1).2), ob1 rfl fun b q hk hn => ok_sub rfl hn.1 (isV_int.2 rfl) hx333_2, ob1 rfl fun b q hk hn => ok_assign rfl hn.1, trivial⟩ hQQ344 fun b q p => ?_
          exact tail_done (k := q) (hp345 _ _ ⟨Bs.post ⟨hg, hs, hd⟩ p, keep p 5 rfl i5, (by rw [p.old 5 rfl]; exact n5), keep p 9 rfl i9, out p 3 10 _ rfl rfl rfl, keep p 40 rfl i40, keep p 41 rfl i41, keep p 42 rfl i42, trivial⟩)
        rintro a k ⟨⟨hg, hs, hd⟩, i5, n5, i9, i10, i40, i41, i42, _⟩
        refine wp_seq ?_
        obtain ⟨x334_11, hx334_11, hr⟩ := bind_some hr
        obtain ⟨x334_7, hx334_7, hx334_11⟩ := ite_bind hx334_11
        refine cut (fun a' k' => Bs noF k0 79 a' k' ∧ IsOwn 0 38 s325.1 (a'.get 5) k' ∧ Lo k0 (obF (a'.get 5)) ∧ (IsRef x332_0) (a'.get 9) k' ∧ (IsV x333_2) (a'.get 10) k' ∧ (IsV x297_1) (a'.get 40) k' ∧ (IsV (α := Int) (x297_1.length : Int)) (a'.get 41) k' ∧ (IsV s325.2) (a'.get 42) k' ∧ (IsV x334_11) (a'.get 60) k' ∧ True) ?_ hQ ?_
        · intro Q342 hQQ342 hp343
          refine region (a0 := a) (k0 := k) (n := 79) (m := 12) (⟨some (IsV x333_2), [(10, none)]⟩ :: ⟨some (IsV (decide (0 ≤ x333_2))), [(49, some 0)]⟩ :: ⟨some (IsV (decide (0 ≤ x333_2))), [(50, some 1)]⟩ :: ⟨some (Gd ((decide (0 ≤ x333_2)) = true) (IsPtr x332_0.From)), [(9, none)]⟩ :: ⟨some (Gd ((decide (0 ≤ x333_2)) = true) (IsV x332_0.From)), [(52, some 3)]⟩ :: ⟨some (Gd ((decide (0 ≤ x333_2)) = true) (OwnAt (a.get 5) 0 38 s325.1)), [(5, none)]⟩ :: ⟨some (Gd ((decide (0 ≤ x333_2)) = true) (IsV x333_2)), [(10, none)]⟩ :: ⟨some (Gd ((decide (0 ≤ x333_2)) = true) (IsPtr x334_7)), [(54, some 5), (55, some 6)]⟩ :: ⟨some (Gd ((decide (0 ≤ x333_2)) = true) (IsPtr x334_7.To)), [(56, some 7)]⟩ :: ⟨some (Gd ((decide (0 ≤ x333_2)) = true) (IsV x334_7.To)), [(57, some 8)]⟩ :: ⟨some (Gd ((decide (0 ≤ x333_2)) = true) (IsV (decide (x332_0.From ≤ x334_7.To)))), [(53, some 4), (58, some 9)]⟩ :: ⟨some (IsV x334_11), [(51, some 2), (59, some 10)]⟩ :: []) hmix hs (by kernel_rfl) ⟨ob1 rfl fun b q hk hn => ok_move rfl (up i10 hk hn.1), ob1 rfl fun b q hk hn => ok_geq rfl hn.1 (isV_int.2 rfl), ob1 rfl fun b q hk hn => ok_move rfl hn.1, gdT rfl rfl fun hp b q hk hn => ok_fieldAddr rfl fo38_0 (at_Stay_0 _) ((up i9 hk hn.1)).ptr, gdT rfl rfl fun hp b q hk hn => ok_load rfl ty3 (Gd.get hn.1 hp), gdT rfl rfl fun hp b q hk hn => ok_moveOA (.inl rfl) ⟨hn.1, up i5 hk hn.1⟩, gdT rfl rfl fun hp b q hk hn => ok_move rfl (up i10 hk hn.1), gdT rfl rfl fun hp b q hk hn => ok_indexAddr rfl Try.underlying23 ty38 (IsOwn.rd ((Gd.get hn.1 hp)).2) (Gd.get hn.2.1 hp) (hx334_7 hp), gdT rfl rfl fun hp b q hk hn => ok_fieldAddr rfl fo38_1 (at_Stay_1 _) (Gd.get hn.1 hp), gdT rfl rfl fun hp b q hk hn => ok_load rfl ty3 (Gd.get hn.1 hp), gdT rfl rfl fun hp b q hk hn => ok_leq rfl (Gd.get hn.1 hp) (Gd.get hn.2.1 hp), ob1 rfl fun b q hk hn => ok_pickM rfl hn.1 hx334_11 (fun hm => (Gd.get hn.2.1 hm)) (fun _ => (isV_bool.2 rfl)), trivial⟩ hQQ342 fun b q p => ?_
          exact tail_done (k := q) (hp343 _ _ ⟨Bs.post ⟨hg, hs, hd⟩ p, keep p 5 rfl i5, (by rw [p.old 5 rfl]; exact n5), keep p 9 rfl i9, keep p 10 rfl i10, keep p 40 rfl i40, keep p 41 rfl i41, keep p 42 rfl i42, out p 11 60 _ rfl rfl rfl, trivial⟩)
        rintro a k ⟨⟨hg, hs, hd⟩, i5, n5, i9, i10, i40, i41, i42, i60, _⟩
        refine wp_cond_split (isBool i60) (fun hc341 => ?_) (fun hc341 => ?_)
        · rw [if_pos hc341] at hr
          refine wp_seq ?_
          obtain ⟨x335_4, hx335_4, hr⟩ := bind_some hr
          obtain ⟨x335_10, hx335_10, hr⟩ := bind_some hr
          obtain ⟨x335_12, hx335_12, hr⟩ := bind_some hr
          refine cut (fun a' k' => Bs noF k0 79 a' k' ∧ IsOwn 0 38 x335_12 (a'.get 5) k' ∧ Lo k0 (obF (a'.get 5)) ∧ (IsV x297_1) (a'.get 40) k' ∧ (IsV (α := Int) (x297_1.length : Int)) (a'.get 41) k' ∧ (IsV s325.2) (a'.get 42) k' ∧ True) ?_ hQ ?_
          · intro Q336 hQQ336 hp337
            refine region (a0 := a) (k0 := k) (n := 79) (m := 12) (⟨some (OwnAt (a.get 5) 0 38 s325.1), [(5, none)]⟩ :: ⟨some (IsV x333_2), [(10, none)]⟩ :: ⟨some (OwnAt (a.get 5) 0 38 s325.1), [(5, none)]⟩ :: ⟨some (IsV x333_2), [(10, none)]⟩ :: ⟨some (IsPtr x335_4), [(63, some 2), (64, some 3)]⟩ :: ⟨some (IsPtr x335_4.To), [(65, some 4)]⟩ :: ⟨some (IsV x335_4.To), [(66, some 5)]⟩ :: ⟨some (IsPtr x332_0.To), [(9, none)]⟩ :: ⟨some (IsV x332_0.To), [(68, some 7)]⟩ :: ⟨some (IsV (α := Int) (max x335_4.To x332_0.To)), [(67, some 6), (69, some 8)]⟩ :: ⟨some (IsAdrO (a.get 5) ((x333_2).toNat * Enc.sz Stay)), [(61, some 0), (62, some 1)]⟩ :: ⟨some (IsAdrO (a.get 5) ((x333_2).toNat * Enc.sz Stay + 1)), [(71, some 10)]⟩ :: []) hmix hs (by kernel_rfl) ⟨ob1 rfl fun b q hk hn => ok_moveOA (.inl rfl) ⟨hn.1, up i5 hk hn.1⟩, ob1 rfl fun b q hk hn => ok_move rfl (up i10 hk hn.1), ob1 rfl fun b q hk hn => ok_moveOA (.inl rfl) ⟨hn.1, up i5 hk hn.1⟩, ob1 rfl fun b q hk hn => ok_move rfl (up i10 hk hn.1), ob1 rfl fun b q hk hn => ok_indexAddr rfl Try.underlying23 ty38 (IsOwn.rd (hn.1).2) hn.2.1 hx335_4, ob1 rfl fun b q hk hn => ok_fieldAddr rfl fo38_1 (at_Stay_1 _) hn.1, ob1 rfl fun b q hk hn => ok_load rfl ty3 hn.1, ob1 rfl fun b q hk hn => ok_fieldAddr rfl fo38_1 (at_Stay_1 _) ((up i9 hk hn.1)).ptr, ob1 rfl fun b q hk hn => ok_load rfl ty3 hn.1, ob1 rfl fun b q hk hn => ok_max2 rfl hn.1 hn.2.1, ob1 rfl fun b q hk hn => ok_indexO rfl Try.underlying23 ty38 hn.1 hn.2.1 hx335_10, ob1 rfl fun b q hk hn => ok_fieldAdrO rfl fo38_1 hn.1, trivial⟩ hQQ336 fun b q p => ?_
            have hgq := hg.then p.grow
            have hsb := p.size.trans hs
            have hdb := p.defers.trans hd
            have j5 := keep p 5 rfl i5
            have y5 : Lo k0 (obF (b.get 5)) := by rw [p.old 5 rfl]; exact n5
            have j40 := keep p 40 rfl i40
            have j41 := keep p 41 rfl i41
            have j42 := keep p 42 rfl i42
            have j70 : (IsV (α := Int) (max x335_4.To x332_0.To)) (b.get 70) q := out p 9 70 _ rfl rfl rfl
            have j72 : IsAdrO (a.get 5) ((x333_2).toNat * Enc.sz Stay + 1) (b.get 72) q := out p 11 72 _ rfl rfl rfl
            have eo : b.get 5 = a.get 5 := p.old 5 rfl
            have hns := j5.nshF
            refine tail_storeS (i := 12) (u := b.get 5) (m := (x333_2).toNat) (off := 0 + 1) rfl rfl rfl rfl szf3 upd_F38_1 (by rw [eo]; exact j72) j5 (getI_spec hx335_10).2.1 j70 fun q2 hch hz => ?_
            replace hgq := hgq.step hch y5.wr
            have hle := hch.le hns
            replace j40 := Pers.pers hle j40
            replace j41 := Pers.pers hle j41
            replace j42 := Pers.pers hle j42
            replace j70 := Pers.pers hle j70
            replace j72 := Pers.pers hle j72
            replace j5 := hz
            rw [Option.some.inj hx335_12] at j5
            clear hns hle hch eo hz
            obtain ⟨q, hqq⟩ : ∃ q, q = q2 := ⟨q2, rfl⟩
            subst hqq
            exact tail_done (k := q) (hp337 _ _ ⟨⟨hgq, hsb, hdb⟩, j5, y5, j40, j41, j42, trivial⟩)
          rintro a k ⟨⟨hg, hs, hd⟩, i5, n5, i40, i41, i42, _⟩
          refine wp_exit ?_
          obtain rfl := Option.some.inj hr
          exact hp331 _ _ ⟨⟨hg, hs, hd⟩, i5, n5, i40, i41, i42, trivial⟩
        rw [if_neg (by rw [hc341]; decide)] at hr
        refine wp_skip ?_
        obtain ⟨x338_3, hx338_3, hr⟩ := bind_some hr
        refine cut (fun a' k' => Bs noF k0 79 a' k' ∧ IsOwn 0 38 x338_3 (a'.get 5) k' ∧ Lo k0 (obF (a'.get 5)) ∧ (IsV x297_1) (a'.get 40) k' ∧ (IsV (α := Int) (x297_1.length : Int)) (a'.get 41) k' ∧ (IsV s325.2) (a'.get 42) k' ∧ True) ?_ hQ ?_
        · intro Q339 hQQ339 hp340
          refine regionS (a0 := a) (k0 := k) (n := 79) (m := 3) (⟨some (OwnAt (a.get 5) 0 38 s325.1), [(5, none)]⟩ :: ⟨some (IsV x332_0), [(9, none)]⟩ :: ⟨some (IsV ([x332_0])), [(74, some 1)]⟩ :: []) hs (by kernel_rfl) ⟨ob1 rfl fun b q hk hn => ok_moveOA (.inl rfl) ⟨hn.1, up i5 hk hn.1⟩, ob1 rfl fun b q hk hn => ok_load rfl ty38 ((up i9 hk hn.1)).ptr, ob1 rfl fun b q hk hn => ok_buildSlice rfl Try.underlying23 eo38 rfl (by decide) (by decide) ⟨rfl, hn.1, trivial⟩, trivial⟩ hQQ339 fun b q p => ?_
          have hgq := hg.then p.grow
          have hsb := p.size.trans hs
          have hdb := p.defers.trans hd
          have j40 := keep p 40 rfl i40
          have j41 := keep p 41 rfl i41
          have j42 := keep p 42 rfl i42
          have e73 : b.get 73 = a.get 5 := (out p 0 73 _ rfl rfl rfl).1
          have j73 : IsOwn 0 38 s325.1 (b.get 73) q := (out p 0 73 _ rfl rfl rfl).2
          have y73 : Lo k0 (obF (b.get 73)) := by rw [e73]; exact n5
          have j75 : (IsV ([x332_0])) (b.get 75) q := out p 2 75 _ rfl rfl rfl
          have hns := j73.nshF
          refine tail_appendS (i := 3) (d := 76) rfl rfl rfl rfl (by rw [hsb]; decide) (e := 38) Try.underlying23 eo38 j73 (IsV.rd j75) hx338_3 fun b2 q2 hsz hdf hoth hch hown hob => ?_
          have hle := hch.le hns
          have yn : Lo k0 (obF (b2.get 76)) := y73.app hgq hob
          replace j40 := Pers.pers hle j40
          replace j41 := Pers.pers hle j41
          replace j42 := Pers.pers hle j42
          replace j75 := Pers.pers hle j75
          replace hgq := hgq.step hch y73.wr
          rw [← hoth 40 (by decide)] at j40
          rw [← hoth 41 (by decide)] at j41
          rw [← hoth 42 (by decide)] at j42
          rw [← hoth 75 (by decide)] at j75
          have j76 := hown
          have y76 := yn
          replace hsb := hsz.trans hsb
          replace hdb := hdf.trans hdb
          clear hle hch hown hob hns yn hsz hdf hoth
          obtain ⟨b, hbb⟩ : ∃ b, b = b2 := ⟨b2, rfl⟩
          subst hbb
          obtain ⟨q, hqq⟩ : ∃ q, q = q2 := ⟨q2, rfl⟩
          subst hqq
          refine tail_assign (i := 4) (d := 5) rfl rfl (.inl rfl) rfl (by rw [hsb]; decide) fun b2 hsz hdf hnew hoth => ?_
          have jn : (IsOwn 0 38 x338_3) (b2.get 5) q := by rw [hnew]; exact j76
          have yn : Lo k0 (obF (b2.get 5)) := by rw [hnew]; exact y76
          rw [← hoth 40 (by decide)] at j40
          rw [← hoth 41 (by decide)] at j41
          rw [← hoth 42 (by decide)] at j42
          rw [← hoth 75 (by decide)] at j75
          have j5 := jn
          have y5 := yn
          replace hsb := hsz.trans hsb
          replace hdb := hdf.trans hdb
          clear hsz hdf hoth
          obtain ⟨b, hbb⟩ : ∃ b, b = b2 := ⟨b2, rfl⟩
          subst hbb
          exact tail_done (k := q) (hp340 _ _ ⟨⟨hgq, hsb, hdb⟩, j5, y5, j40, j41, j42, trivial⟩)
        rintro a k ⟨⟨hg, hs, hd⟩, i5, n5, i40, i41, i42, _⟩
        obtain rfl := Option.some.inj hr
        exact hp331 _ _ ⟨⟨hg, hs, hd⟩, i5, n5, i40, i41, i42, trivial⟩
      clear hs330
      rintro a k ⟨⟨hg, hs, hd⟩, i5, n5, i40, i41, i42, _⟩
      obtain ⟨x348_0, hx348_0, hr⟩ := bind_some hr
      refine cut (fun a' k' => Bs noF k0 79 a' k' ∧ IsOwn 0 38 s330 (a'.get 5) k' ∧ Lo k0 (obF (a'.get 5)) ∧ (IsV x297_1) (a'.get 40) k' ∧ (IsV (α := Int) (x297_1.length : Int)) (a'.get 41) k' ∧ (IsV x348_0) (a'.get 42) k' ∧ True) ?_ hQ ?_
      · intro Q349 hQQ349 hp350
        refine regionS (a0 := a) (k0 := k) (n := 79) (m := 2) (⟨some (IsV x348_0), [(42, none)]⟩ :: ⟨some (IsV x348_0), [(77, some 0)]⟩ :: []) hs (by kernel_rfl) ⟨ob1 rfl fun b q hk hn => ok_add rfl (up i42 hk hn.1) (isV_int.2 rfl) hx348_0, ob1 rfl fun b q hk hn => ok_move rfl hn.1, trivial⟩ hQQ349 fun b q p => ?_
        exact tail_done (k := q) (hp350 _ _ ⟨Bs.post ⟨hg, hs, hd⟩ p, keep p 5 rfl i5, (by rw [p.old 5 rfl]; exact n5), keep p 40 rfl i40, keep p 41 rfl i41, out p 1 42 _ rfl rfl rfl, trivial⟩)
      rintro a k ⟨⟨hg, hs, hd⟩, i5, n5, i40, i41, i42, _⟩
      exact hgo326 _ _ _ (Option.some.inj hr).symm ⟨⟨hg, hs, hd⟩, i5, n5, i40, i41, i42, trivial⟩
    rw [if_neg (by rw [hc353]; decide)] at hr
    refine wp_exit ?_
    obtain ⟨kk, sh352, ii5⟩ := i5.give
    replace i5 := ii5
    replace hg := hg.hand sh352 n5.wr
    rw [← sh352.w]
    clear sh352
    obtain ⟨k, hkk⟩ : ∃ k, k = kk := ⟨kk, rfl⟩
    subst hkk
    exact hex327 _ _ _ _ (Option.some.inj hr).symm ⟨rfl, ⟨hg, hs, hd⟩, i5, trivial⟩
  · rintro r361 a k rfl hR
    dsimp only at hr
    obtain rfl := Option.some.inj hr
    exact hR
  · rintro _ _ _ rfl _
    simp at hr
  clear hf356
  rintro _ s357 a k rfl ⟨rfl, ⟨hg, hs, hd⟩, i5, _⟩
  dsimp only at hr
  refine wp_seq ?_
  refine cut (fun a' k' => Bs noF k0 79 a' k' ∧ (IsV s357.1) (a'.get 2) k' ∧ (IsV true) (a'.get 3) k' ∧ True) ?_ hQ ?_
  · intro Q359 hQQ359 hp360
    refine regionS (a0 := a) (k0 := k) (n := 79) (m := 3) (⟨some (IsV s357.1), [(5, none)]⟩ :: ⟨some (IsV s357.1), [(78, some 0)]⟩ :: ⟨some (IsV true), []⟩ :: []) hs (by kernel_rfl) ⟨ob1 rfl fun b q hk hn => ok_move rfl (up i5 hk hn.1), ob1 rfl fun b q hk hn => ok_assign rfl hn.1, ob1 rfl fun b q hk hn => ok_assign rfl (isV_bool.2 rfl), trivial⟩ hQQ359 fun b q p => ?_
    exact tail_done (k := q) (hp360 _ _ ⟨Bs.post ⟨hg, hs, hd⟩ p, out p 1 2 _ rfl rfl rfl, out p 2 3 _ rfl rfl rfl, trivial⟩)
  rintro a k ⟨⟨hg, hs, hd⟩, i2, i3, _⟩
  refine wp_ret ?_
  obtain rfl := Option.some.inj hr
  exact retC2 rfl hd hg i2 i3
def calCounts_c36 (s_ : Stay) (p1_ : Int) : Option (Bool) :=
  some ((decide (s_.From ≤ p1_)) && (decide (p1_ ≤ s_.To)))
theorem calCounts_c36_ok {k0 : K} {v0 v1 : Value} {s_ : Stay} {p1_ : Int} {r : Bool} (i0 : (IsV s_) v0 k0) (i1 : (IsRef p1_) v1 k0) (hr : calCounts_c36 s_ p1_ = some r) :
    Calls Try.prog 36 #[v0, v1] k0.w (Ret k0 (IsV r)) := by
  unfold calCounts_c36 at hr
  refine Ret.ofC ?_
  refine enterK Try.func36 rfl Try.ntmps36 (show 2 ≤ 14 by decide) fun a k hk0 hs hd ha => ?_
  obtain ⟨e0, e1, _⟩ := ha
  replace i0 : (IsV s_) (a.get 0) k := by rw [e0, hk0]; exact i0
  replace i1 : (IsRef p1_) (a.get 1) k := by rw [e1, hk0]; exact i1
  have hQ : Gb.LetsOut (bodyPost Try.prog Try.f36 (RetC noF k0 (IsV r))) := letsOutC
  have hg : Chg noF k0 k := by rw [hk0]; exact Chg.refl _ k0
  refine wp_seq ?_
  refine cut (fun a' k' => Bs noF k0 14 a' k' ∧ (IsRef p1_) (a'.get 1) k' ∧ (IsRef s_) (a'.get 2) k' ∧ True) ?_ hQ ?_
  · intro Q396 hQQ396 hp397
    refine regionS (a0 := a) (k0 := k) (n := 14) (m := 2) (⟨some (IsRef s_), [(0, none)]⟩ :: ⟨some (IsV false), []⟩ :: []) hs (by kernel_rfl) ⟨ob1 rfl fun b q hk hn => ok_boxR rfl (up i0 hk hn.1), ob1 rfl fun b q hk hn => ok_assign rfl (isV_bool.2 rfl), trivial⟩ hQQ396 fun b q p => ?_
    exact tail_done (k := q) (hp397 _ _ ⟨Bs.post ⟨hg, hs, hd⟩ p, keep p 1 rfl i1, out p 0 2 _ rfl rfl rfl, trivial⟩)
  rintro a k ⟨⟨hg, hs, hd⟩, i1, i2, _⟩
  refine wp_seq ?_
  refine cut (fun a' k' => Bs noF k0 14 a' k' ∧ (IsV ((decide (s_.From ≤ p1_)) && (decide (p1_ ≤ s_.To)))) (a'.get 3) k' ∧ True) ?_ hQ ?_
  · intro Q394 hQQ394 hp395
    refine regionS (a0 := a) (k0 := k) (n := 14) (m := 11) (⟨some (IsPtr s_.From), [(2, none)]⟩ :: ⟨some (IsV s_.From), [(4, some 0)]⟩ :: ⟨some (IsV p1_), [(1, none)]⟩ :: ⟨some (IsV (decide (s_.From ≤ p1_))), [(5, some 1), (6, some 2)]⟩ :: ⟨some (IsV (decide (s_.From ≤ p1_))), [(7, some 3)]⟩ :: ⟨some (Gd ((decide (s_.From ≤ p1_)) = true) (IsV p1_)), [(1, none)]⟩ :: ⟨some (Gd ((decide (s_.From ≤ p1_)) = true) (IsPtr s_.To)), [(2, none)]⟩ :: ⟨some (Gd ((decide (s_.From ≤ p1_)) = true) (IsV s_.To)), [(10, some 6)]⟩ :: ⟨some (Gd ((decide (s_.From ≤ p1_)) = true) (IsV (decide (p1_ ≤ s_.To)))), [(9, some 5), (11, some 7)]⟩ :: ⟨some (IsV ((decide (s_.From ≤ p1_)) && (decide (p1_ ≤ s_.To)))), [(8, some 4), (12, some 8)]⟩ :: ⟨some (IsV ((decide (s_.From ≤ p1_)) && (decide (p1_ ≤ s_.To)))), [(13, some 9)]⟩ :: []) hs (by kernel_rfl) ⟨ob1 rfl fun b q hk hn => ok_fieldAddr rfl fo38_0 (at_Stay_0 _) ((up i2 hk hn.1)).ptr, ob1 rfl fun b q hk hn => ok_load rfl ty3 hn.1, ob1 rfl fun b q hk hn => ok_load rfl ty3 ((up i1 hk hn.1)).ptr, ob1 rfl fun b q hk hn => ok_leq rfl hn.1 hn.2.1, ob1 rfl fun b q hk hn => ok_move rfl hn.1, gdT rfl rfl fun hp b q hk hn => ok_load rfl ty3 ((up i1 hk hn.1)).ptr, gdT rfl rfl fun hp b q hk hn => ok_fieldAddr rfl fo38_1 (at_Stay_1 _) ((up i2 hk hn.1)).ptr, gdT rfl rfl fun hp b q hk hn => ok_load rfl ty3 (Gd.get hn.1 hp), gdT rfl rfl fun hp b q hk hn => ok_leq rfl (Gd.get hn.1 hp) (Gd.get hn.2.1 hp), ob1 rfl fun b q hk hn => ok_pickAnd rfl hn.1 (fun hm => (Gd.get hn.2.1 hm)) (fun _ => (isV_bool.2 rfl)), ob1 rfl fun b q hk hn => ok_assign rfl hn.1, trivial⟩ hQQ394 fun b q p => ?_
    exact tail_done (k := q) (hp395 _ _ ⟨Bs.post ⟨hg, hs, hd⟩ p, out p 10 3 _ rfl rfl rfl, trivial⟩)
  rintro a k ⟨⟨hg, hs, hd⟩, i3, _⟩
  refine wp_ret ?_
  obtain rfl := Option.some.inj hr
  exact retC1 rfl hd hg i3
def calCounts (holidays : (List Int)) (stays : (List Stay)) (day : Int) : Option (Bool) :=
  (calm stays).bind fun x381_1 =>
  (if (!x381_1.2) then
    some true
  else
    (calRight holidays).bind fun x382_4 =>
    some (!x382_4)).bind fun x382_6 =>
  (if x382_6 then
    some true
  else
    (isDay day).bind fun x382_9 =>
    some (!x382_9)).bind fun x382_11 =>
  (if x382_11 then
    some true
  else
    (remI day 7).bind fun x382_14 =>
    some (decide (5 ≤ x382_14))).bind fun x382_16 =>
  if x382_16 then
    some false
  else
    (binSearch holidays day).bind fun x386_2 =>
    if x386_2.2 then
      some false
    else
      (containsFunc stays (fun y0 => calCounts_c36 y0 day)).bind fun x391_2 =>
      some (!x391_2)
theorem calCounts_ok {k0 : K} {v0 v1 v2 : Value} {holidays : (List Int)} {stays : (List Stay)} {day : Int} {r : Bool} (i0 : (IsV holidays) v0 k0) (i1 : (IsV stays) v1 k0) (i2 : (IsV day) v2 k0) (hr : calCounts holidays stays day = some r) :
    Calls Try.prog 17 #[v0, v1, v2] k0.w (Ret k0 (IsV r)) := by
  unfold calCounts at hr
  refine Ret.ofC ?_
  refine enterK Try.func17 rfl Try.ntmps17 (show 3 ≤ 44 by decide) fun a k hk0 hs hd ha => ?_
  obtain ⟨e0, e1, e2, _⟩ := ha
  replace i0 : (IsV holidays) (a.get 0) k := by rw [e0, hk0]; exact i0
  replace i1 : (IsV stays) (a.get 1) k := by rw [e1, hk0]; exact i1
  replace i2 : (IsV day) (a.get 2) k := by rw [e2, hk0]; exact i2
  have hQ : Gb.LetsOut (bodyPost Try.prog Try.f17 (RetC noF k0 (IsV r))) := letsOutC
  have hg : Chg noF k0 k := by rw [hk0]; exact Chg.refl _ k0
  refine wp_seq ?_
  refine cut (fun a' k' => Bs noF k0 44 a' k' ∧ (IsV holidays) (a'.get 0) k' ∧ (IsV stays) (a'.get 1) k' ∧ (IsRef day) (a'.get 5) k' ∧ True) ?_ hQ ?_
  · intro Q410 hQQ410 hp411
    refine regionS (a0 := a) (k0 := k) (n := 44) (m := 2) (⟨some (IsRef day), [(2, none)]⟩ :: ⟨some (IsV false), []⟩ :: []) hs (by kernel_rfl) ⟨ob1 rfl fun b q hk hn => ok_boxR rfl (up i2 hk hn.1), ob1 rfl fun b q hk hn => ok_assign rfl (isV_bool.2 rfl), trivial⟩ hQQ410 fun b q p => ?_
    exact tail_done (k := q) (hp411 _ _ ⟨Bs.post ⟨hg, hs, hd⟩ p, keep p 0 rfl i0, keep p 1 rfl i1, out p 0 5 _ rfl rfl rfl, trivial⟩)
  rintro a k ⟨⟨hg, hs, hd⟩, i0, i1, i5, _⟩
  refine wp_seq ?_
  refine wp_seq ?_
  obtain ⟨x381_1, hx381_1, hr⟩ := bind_some hr
  refine cut (fun a' k' => Bs noF k0 44 a' k' ∧ (IsV holidays) (a'.get 0) k' ∧ (IsV stays) (a'.get 1) k' ∧ (IsRef day) (a'.get 5) k' ∧ (IsV x381_1.2) (a'.get 8) k' ∧ True) ?_ hQ ?_
  · intro Q408 hQQ408 hp409
    refine regionS (a0 := a) (k0 := k) (n := 44) (m := 7) (⟨some (IsV stays), [(1, none)]⟩ :: ⟨some (IsTup2 (IsV x381_1.1) (IsV x381_1.2)), [(12, some 0)]⟩ :: ⟨some (IsTup2 (IsV x381_1.1) (IsV x381_1.2)), [(13, some 1)]⟩ :: ⟨some (IsV x381_1.1), [(11, some 2)]⟩ :: ⟨some (IsV x381_1.2), [(11, some 2)]⟩ :: ⟨some (IsV x381_1.1), [(14, some 3)]⟩ :: ⟨some (IsV x381_1.2), [(15, some 4)]⟩ :: []) hs (by kernel_rfl) ⟨ob1 rfl fun b q hk hn => ok_move rfl (up i1 hk hn.1), ob1 rfl fun b q hk hn => ok_call rfl Try.call25 (calm_ok hn.1 hx381_1), ob1 rfl fun b q hk hn => ok_move rfl hn.1, ob1 rfl fun b q hk hn => ok_ext2_0 rfl hn.1, ob1 rfl fun b q hk hn => ok_ext2_1 rfl hn.1, ob1 rfl fun b q hk hn => ok_assign rfl hn.1, ob1 rfl fun b q hk hn => ok_assign rfl hn.1, trivial⟩ hQQ408 fun b q p => ?_
    exact tail_done (k := q) (hp409 _ _ ⟨Bs.post ⟨hg, hs, hd⟩ p, keep p 0 rfl i0, keep p 1 rfl i1, keep p 5 rfl i5, out p 6 8 _ rfl rfl rfl, trivial⟩)
  rintro a k ⟨⟨hg, hs, hd⟩, i0, i1, i5, i8, _⟩
  refine wp_seq ?_
  obtain ⟨x382_6, hx382_6, hr⟩ := bind_some hr
  obtain ⟨x382_4, hx382_4, hx382_6⟩ := ite_bindF hx382_6
  obtain ⟨x382_11, hx382_11, hr⟩ := bind_some hr
  obtain ⟨x382_9, hx382_9, hx382_11⟩ := ite_bindF hx382_11
  obtain ⟨x382_16, hx382_16, hr⟩ := bind_some hr
  obtain ⟨x382_14, hx382_14, hx382_16⟩ := ite_bindF hx382_16
  refine cut (fun a' k' => Bs noF k0 44 a' k' ∧ (IsV holidays) (a'.get 0) k' ∧ (IsV stays) (a'.get 1) k' ∧ (IsRef day) (a'.get 5) k' ∧ (IsV x382_16) (a'.get 32) k' ∧ True) ?_ hQ ?_
  · intro Q406 hQQ406 hp407
    refine regionS (a0 := a) (k0 := k) (n := 44) (m := 17) (⟨some (IsV x381_1.2), [(8, none)]⟩ :: ⟨some (IsV (!x381_1.2)), [(16, some 0)]⟩ :: ⟨some (IsV (!x381_1.2)), [(17, some 1)]⟩ :: ⟨some (Gd ((!x381_1.2) = false) (IsV holidays)), [(0, none)]⟩ :: ⟨some (Gd ((!x381_1.2) = false) (IsV x382_4)), [(19, some 3)]⟩ :: ⟨some (Gd ((!x381_1.2) = false) (IsV (!x382_4))), [(20, some 4)]⟩ :: ⟨some (IsV x382_6), [(18, some 2), (21, some 5)]⟩ :: ⟨some (IsV x382_6), [(22, some 6)]⟩ :: ⟨some (Gd (x382_6 = false) (IsV day)), [(5, none)]⟩ :: ⟨some (Gd (x382_6 = false) (IsV x382_9)), [(24, some 8)]⟩ :: ⟨some (Gd (x382_6 = false) (IsV (!x382_9))), [(25, some 9)]⟩ :: ⟨some (IsV x382_11), [(23, some 7), (26, some 10)]⟩ :: ⟨some (IsV x382_11), [(27, some 11)]⟩ :: ⟨some (Gd (x382_11 = false) (IsV day)), [(5, none)]⟩ :: ⟨some (Gd (x382_11 = false) (IsV x382_14)), [(29, some 13)]⟩ :: ⟨some (Gd (x382_11 = false) (IsV (decide (5 ≤ x382_14)))), [(30, some 14)]⟩ :: ⟨some (IsV x382_16), [(28, some 12), (31, some 15)]⟩ :: []) hs (by kernel_rfl) ⟨ob1 rfl fun b q hk hn => ok_move rfl (up i8 hk hn.1), ob1 rfl fun b q hk hn => ok_not rfl hn.1, ob1 rfl fun b q hk hn => ok_move rfl hn.1, gdF rfl rfl fun hp b q hk hn => ok_move rfl (up i0 hk hn.1), gdF rfl rfl fun hp b q hk hn => ok_call rfl Try.call13 (calRight_ok (Gd.get hn.1 hp) (hx382_4 hp)), gdF rfl rfl fun hp b q hk hn => ok_not rfl (Gd.get hn.1 hp), ob1 rfl fun b q hk hn => ok_pickM rfl hn.1 hx382_6 (fun _ => (isV_bool.2 rfl)) (fun hm => (Gd.get hn.2.1 hm)), ob1 rfl fun b q hk hn => ok_move rfl hn.1, gdF rfl rfl fun hp b q hk hn => ok_load rfl ty3 ((up i5 hk hn.1)).ptr, gdF rfl rfl fun hp b q hk hn => ok_call rfl Try.call26 (isDay_ok (Gd.get hn.1 hp) (hx382_9 hp)), gdF rfl rfl fun hp b q hk hn => ok_not rfl (Gd.get hn.1 hp), ob1 rfl fun b q hk hn => ok_pickM rfl hn.1 hx382_11 (fun _ => (isV_bool.2 rfl)) (fun hm => (Gd.get hn.2.1 hm)), ob1 rfl fun b q hk hn => ok_move rfl hn.1, gdF rfl rfl fun hp b q hk hn => ok_load rfl ty3 ((up i5 hk hn.1)).ptr, gdF rfl rfl fun hp b q hk hn => ok_rem rfl (Gd.get hn.1 hp) (isV_int.2 rfl) (hx382_14 hp), gdF rfl rfl fun hp b q hk hn => ok_geq rfl (Gd.get hn.1 hp) (isV_int.2 rfl), ob1 rfl fun b q hk hn => ok_pickM rfl hn.1 hx382_16 (fun _ => (isV_bool.2 rfl)) (fun hm => (Gd.get hn.2.1 hm)), trivial⟩ hQQ406 fun b q p => ?_
    exact tail_done (k := q) (hp407 _ _ ⟨Bs.post ⟨hg, hs, hd⟩ p, keep p 0 rfl i0, keep p 1 rfl i1, keep p 5 rfl i5, out p 16 32 _ rfl rfl rfl, trivial⟩)
  rintro a k ⟨⟨hg, hs, hd⟩, i0, i1, i5, i32, _⟩
  refine wp_cond_split (isBool i32) (fun hc405 => ?_) (fun hc405 => ?_)
  · rw [if_pos hc405] at hr
    refine wp_seq ?_
    refine cut (fun a' k' => Bs noF k0 44 a' k' ∧ (IsV false) (a'.get 6) k' ∧ True) ?_ hQ ?_
    · intro Q384 hQQ384 hp385
      refine regionS (a0 := a) (k0 := k) (n := 44) (m := 1) (⟨some (IsV false), []⟩ :: []) hs (by kernel_rfl) ⟨ob1 rfl fun b q hk hn => ok_assign rfl (isV_bool.2 rfl), trivial⟩ hQQ384 fun b q p => ?_
      exact tail_done (k := q) (hp385 _ _ ⟨Bs.post ⟨hg, hs, hd⟩ p, out p 0 6 _ rfl rfl rfl, trivial⟩)
    rintro a k ⟨⟨hg, hs, hd⟩, i6, _⟩
    refine wp_ret ?_
    obtain rfl := Option.some.inj hr
    exact retC1 rfl hd hg i6
  rw [if_neg (by rw [hc405]; decide)] at hr
  refine wp_skip ?_
  refine wp_seq ?_
  refine wp_seq ?_
  obtain ⟨x386_2, hx386_2, hr⟩ := bind_some hr
  refine cut (fun a' k' => Bs noF k0 44 a' k' ∧ (IsV stays) (a'.get 1) k' ∧ (IsRef day) (a'.get 5) k' ∧ (IsV x386_2.2) (a'.get 10) k' ∧ True) ?_ hQ ?_
  · intro Q403 hQQ403 hp404
    refine regionS (a0 := a) (k0 := k) (n := 44) (m := 8) (⟨some (IsV holidays), [(0, none)]⟩ :: ⟨some (IsV day), [(5, none)]⟩ :: ⟨some (IsTup2 (IsV x386_2.1) (IsV x386_2.2)), [(34, some 0), (35, some 1)]⟩ :: ⟨some (IsTup2 (IsV x386_2.1) (IsV x386_2.2)), [(36, some 2)]⟩ :: ⟨some (IsV x386_2.1), [(33, some 3)]⟩ :: ⟨some (IsV x386_2.2), [(33, some 3)]⟩ :: ⟨some (IsV x386_2.1), [(37, some 4)]⟩ :: ⟨some (IsV x386_2.2), [(38, some 5)]⟩ :: []) hs (by kernel_rfl) ⟨ob1 rfl fun b q hk hn => ok_move rfl (up i0 hk hn.1), ob1 rfl fun b q hk hn => ok_load rfl ty3 ((up i5 hk hn.1)).ptr, ob1 rfl fun b q hk hn => ok_call rfl Try.call34 (binSearch_ok hn.1 hn.2.1 hx386_2), ob1 rfl fun b q hk hn => ok_move rfl hn.1, ob1 rfl fun b q hk hn => ok_ext2_0 rfl hn.1, ob1 rfl fun b q hk hn => ok_ext2_1 rfl hn.1, ob1 rfl fun b q hk hn => ok_assign rfl hn.1, ob1 rfl fun b q hk hn => ok_assign rfl hn.1, trivial⟩ hQQ403 fun b q p => ?_
    exact tail_done (k := q) (hp404 _ _ ⟨Bs.post ⟨hg, hs, hd⟩ p, keep p 1 rfl i1, keep p 5 rfl i5, out p 7 10 _ rfl rfl rfl, trivial⟩)
  rintro a k ⟨⟨hg, hs, hd⟩, i1, i5, i10, _⟩
  refine wp_seq ?_
  refine cut (fun a' k' => Bs noF k0 44 a' k' ∧ (IsV stays) (a'.get 1) k' ∧ (IsRef day) (a'.get 5) k' ∧ (IsV x386_2.2) (a'.get 39) k' ∧ True) ?_ hQ ?_
  · intro Q401 hQQ401 hp402
    refine regionS (a0 := a) (k0 := k) (n := 44) (m := 1) (⟨some (IsV x386_2.2), [(10, none)]⟩ :: []) hs (by kernel_rfl) ⟨ob1 rfl fun b q hk hn => ok_move rfl (up i10 hk hn.1), trivial⟩ hQQ401 fun b q p => ?_
    exact tail_done (k := q) (hp402 _ _ ⟨Bs.post ⟨hg, hs, hd⟩ p, keep p 1 rfl i1, keep p 5 rfl i5, out p 0 39 _ rfl rfl rfl, trivial⟩)
  rintro a k ⟨⟨hg, hs, hd⟩, i1, i5, i39, _⟩
  refine wp_cond_split (isBool i39) (fun hc400 => ?_) (fun hc400 => ?_)
  · rw [if_pos hc400] at hr
    refine wp_seq ?_
    refine cut (fun a' k' => Bs noF k0 44 a' k' ∧ (IsV false) (a'.get 6) k' ∧ True) ?_ hQ ?_
    · intro Q389 hQQ389 hp390
      refine regionS (a0 := a) (k0 := k) (n := 44) (m := 1) (⟨some (IsV false), []⟩ :: []) hs (by kernel_rfl) ⟨ob1 rfl fun b q hk hn => ok_assign rfl (isV_bool.2 rfl), trivial⟩ hQQ389 fun b q p => ?_
      exact tail_done (k := q) (hp390 _ _ ⟨Bs.post ⟨hg, hs, hd⟩ p, out p 0 6 _ rfl rfl rfl, trivial⟩)
    rintro a k ⟨⟨hg, hs, hd⟩, i6, _⟩
    refine wp_ret ?_
    obtain rfl := Option.some.inj hr
    exact retC1 rfl hd hg i6
  rw [if_neg (by rw [hc400]; decide)] at hr
  refine wp_skip ?_
  refine wp_seq ?_
  obtain ⟨x391_2, hx391_2, hr⟩ := bind_some hr
  refine cut (fun a' k' => Bs noF k0 44 a' k' ∧ (IsV (!x391_2)) (a'.get 6) k' ∧ True) ?_ hQ ?_
  · intro Q398 hQQ398 hp399
    refine regionS (a0 := a) (k0 := k) (n := 44) (m := 5) (⟨some (IsV stays), [(1, none)]⟩ :: ⟨some (IsFn1 Try.prog (fun y0 => calCounts_c36 y0 day)), [(5, none)]⟩ :: ⟨some (IsV x391_2), [(40, some 0), (41, some 1)]⟩ :: ⟨some (IsV (!x391_2)), [(42, some 2)]⟩ :: ⟨some (IsV (!x391_2)), [(43, some 3)]⟩ :: []) hs (by kernel_rfl) ⟨ob1 rfl fun b q hk hn => ok_move rfl (up i1 hk hn.1), ob1 rfl fun b q hk hn => ok_makeFunc (first := []) (captured := [.tmp 5]) rfl ⟨36, _, _, rfl, Try.call36, fun k9 hk9 _ _ _ hx0 hy9 => by simpa [evalT] using calCounts_c36_ok hx0 (Pers.pers hk9 (up i5 hk hn.1)) hy9⟩, ob1 rfl fun b q hk hn => ok_call rfl Try.call35 (containsFunc_ok hn.1 hn.2.1 hx391_2), ob1 rfl fun b q hk hn => ok_not rfl hn.1, ob1 rfl fun b q hk hn => ok_assign rfl hn.1, trivial⟩ hQQ398 fun b q p => ?_
    exact tail_done (k := q) (hp399 _ _ ⟨Bs.post ⟨hg, hs, hd⟩ p, out p 4 6 _ rfl rfl rfl, trivial⟩)
  rintro a k ⟨⟨hg, hs, hd⟩, i6, _⟩
  refine wp_ret ?_
  obtain rfl := Option.some.inj hr
  exact retC1 rfl hd hg i6
def calDeadline_c28 (i_ : Int) (p1_ : (List Int)) (p2_ : (List Stay)) (p3_ : Int) (p4_ : Int) : Option (Bool) :=
  (addI p3_ 1).bind fun x425_4 =>
  (addI x425_4 i_).bind fun x425_6 =>
  (calCountG p1_ p2_ p3_ x425_6).bind fun x425_7 =>
  some (decide (p4_ ≤ x425_7))
theorem calDeadline_c28_ok {k0 : K} {v0 v1 v2 v3 v4 : Value} {i_ : Int} {p1_ : (List Int)} {p2_ : (List Stay)} {p3_ : Int} {p4_ : Int} {r : Bool} (i0 : (IsV i_) v0 k0) (i1 : (IsRef p1_) v1 k0) (i2 : (IsRef p2_) v2 k0) (i3 : (IsRef p3_) v3 k0) (i4 : (IsRef p4_) v4 k0) (hr : calDeadline_c28 i_ p1_ p2_ p3_ p4_ = some r) :
    Calls Try.prog 28 #[v0, v1, v2, v3, v4] k0.w (Ret k0 (IsV r)) := by
  unfold calDeadline_c28 at hr
  refine Ret.ofC ?_
  refine enterK Try.func28 rfl Try.ntmps28 (show 5 ≤ 17 by decide) fun a k hk0 hs hd ha => ?_
  obtain ⟨e0, e1, e2, e3, e4, _⟩ := ha
  replace i0 : (IsV i_) (a.get 0) k := by rw [e0, hk0]; exact i0
  replace i1 : (IsRef p1_) (a.get 1) k := by rw [e1, hk0]; exact i1
  replace i2 : (IsRef p2_) (a.get 2) k := by rw [e2, hk0]; exact i2
  replace i3 : (IsRef p3_) (a.get 3) k := by rw [e3, hk0]; exact i3
  replace i4 : (IsRef p4_) (a.get 4) k := by rw [e4, hk0]; exact i4
  have hQ : Gb.LetsOut (bodyPost Try.prog Try.f28 (RetC noF k0 (IsV r))) := letsOutC
  have hg : Chg noF k0 k := by rw [hk0]; exact Chg.refl _ k0
  refine wp_seq ?_
  refine cut (fun a' k' => Bs noF k0 17 a' k' ∧ (IsV i_) (a'.get 0) k' ∧ (IsRef p1_) (a'.get 1) k' ∧ (IsRef p2_) (a'.get 2) k' ∧ (IsRef p3_) (a'.get 3) k' ∧ (IsRef p4_) (a'.get 4) k' ∧ True) ?_ hQ ?_
  · intro Q428 hQQ428 hp429
    refine regionS (a0 := a) (k0 := k) (n := 17) (m := 1) (⟨some (IsV false), []⟩ :: []) hs (by kernel_rfl) ⟨ob1 rfl fun b q hk hn => ok_assign rfl (isV_bool.2 rfl), trivial⟩ hQQ428 fun b q p => ?_
    exact tail_done (k := q) (hp429 _ _ ⟨Bs.post ⟨hg, hs, hd⟩ p, keep p 0 rfl i0, keep p 1 rfl i1, keep p 2 rfl i2, keep p 3 rfl i3, keep p 4 rfl i4, trivial⟩)
  rintro a k ⟨⟨hg, hs, hd⟩, i0, i1, i2, i3, i4, _⟩
  refine wp_seq ?_
  obtain ⟨x425_4, hx425_4, hr⟩ := bind_some hr
  obtain ⟨x425_6, hx425_6, hr⟩ := bind_some hr
  obtain ⟨x425_7, hx425_7, hr⟩ := bind_some hr
  refine cut (fun a' k' => Bs noF k0 17 a' k' ∧ (IsV (decide (p4_ ≤ x425_7))) (a'.get 6) k' ∧ True) ?_ hQ ?_
  · intro Q426 hQQ426 hp427
    refine region (a0 := a) (k0 := k) (n := 17) (m := 11) (⟨some (IsV p1_), [(1, none)]⟩ :: ⟨some (IsV p2_), [(2, none)]⟩ :: ⟨some (IsV p3_), [(3, none)]⟩ :: ⟨some (IsV p3_), [(3, none)]⟩ :: ⟨some (IsV x425_4), [(10, some 3)]⟩ :: ⟨some (IsV i_), [(0, none)]⟩ :: ⟨some (IsV x425_6), [(11, some 4), (12, some 5)]⟩ :: ⟨some (IsV x425_7), [(7, some 0), (8, some 1), (9, some 2), (13, some 6)]⟩ :: ⟨some (IsV p4_), [(4, none)]⟩ :: ⟨some (IsV (decide (p4_ ≤ x425_7))), [(14, some 7), (15, some 8)]⟩ :: ⟨some (IsV (decide (p4_ ≤ x425_7))), [(16, some 9)]⟩ :: []) hmix hs (by kernel_rfl) ⟨ob1 rfl fun b q hk hn => ok_load rfl ty22 ((up i1 hk hn.1)).ptr, ob1 rfl fun b q hk hn => ok_load rfl ty23 ((up i2 hk hn.1)).ptr, ob1 rfl fun b q hk hn => ok_load rfl ty3 ((up i3 hk hn.1)).ptr, ob1 rfl fun b q hk hn => ok_load rfl ty3 ((up i3 hk hn.1)).ptr, ob1 rfl fun b q hk hn => ok_add rfl hn.1 (isV_int.2 rfl) hx425_4, ob1 rfl fun b q hk hn => ok_move rfl (up i0 hk hn.1), ob1 rfl fun b q hk hn => ok_add rfl hn.1 hn.2.1 hx425_6, ob1 rfl fun b q hk hn => ok_call rfl Try.call29 (calCountG_ok hn.1 hn.2.1 hn.2.2.1 hn.2.2.2.1 hx425_7), ob1 rfl fun b q hk hn => ok_load rfl ty3 ((up i4 hk hn.1)).ptr, ob1 rfl fun b q hk hn => ok_geq rfl hn.1 hn.2.1, ob1 rfl fun b q hk hn => ok_assign rfl hn.1, trivial⟩ hQQ426 fun b q p => ?_
    exact tail_done (k := q) (hp427 _ _ ⟨Bs.post ⟨hg, hs, hd⟩ p, out p 10 6 _ rfl rfl rfl, trivial⟩)
  rintro a k ⟨⟨hg, hs, hd⟩, i6, _⟩
  refine wp_ret ?_
  obtain rfl := Option.some.inj hr
  exact retC1 rfl hd hg i6
def calDeadline (holidays : (List Int)) (stays : (List Stay)) (day : Int) (n_ : Int) : Option (Int × Int) :=
  (calm stays).bind fun x413_1 =>
  (if (!x413_1.2) then
    some true
  else
    (calRight holidays).bind fun x414_4 =>
    some (!x414_4)).bind fun x414_6 =>
  (if x414_6 then
    some true
  else
    (isDay day).bind fun x414_9 =>
    some (!x414_9)).bind fun x414_11 =>
  (if x414_11 then
    some true
  else
    (isDay n_).bind fun x414_14 =>
    some (!x414_14)).bind fun x414_16 =>
  if x414_16 then
    some (0, 1)
  else
    if (n_ == 0) then
      some (day, 0)
    else
      (subI 1073741824 day).bind fun x422_1 =>
      (search x422_1 (fun y0 => calDeadline_c28 y0 holidays x413_1.1 day n_)).bind fun x423_2 =>
      if (x423_2 == x422_1) then
        some (0, 20)
      else
        (addI day 1).bind fun x434_1 =>
        (addI x434_1 x423_2).bind fun x434_3 =>
        some (x434_3, 0)
theorem calDeadline_ok {k0 : K} {v0 v1 v2 v3 : Value} {holidays : (List Int)} {stays : (List Stay)} {day : Int} {n_ : Int} {r : Int × Int} (i0 : (IsV holidays) v0 k0) (i1 : (IsV stays) v1 k0) (i2 : (IsV day) v2 k0) (i3 : (IsV n_) v3 k0) (hr : calDeadline holidays stays day n_ = some r) :
    Calls Try.prog 11 #[v0, v1, v2, v3] k0.w (Ret k0 (IsTup2 (IsV r.1) (IsV r.2))) := by
  unfold calDeadline at hr
  refine Ret.ofC ?_
  refine enterK Try.func11 rfl Try.ntmps11 (show 4 ≤ 51 by decide) fun a k hk0 hs hd ha => ?_
  obtain ⟨e0, e1, e2, e3, _⟩ := ha
  replace i0 : (IsV holidays) (a.get 0) k := by rw [e0, hk0]; exact i0
  replace i1 : (IsV stays) (a.get 1) k := by rw [e1, hk0]; exact i1
  replace i2 : (IsV day) (a.get 2) k := by rw [e2, hk0]; exact i2
  replace i3 : (IsV n_) (a.get 3) k := by rw [e3, hk0]; exact i3
  have hQ : Gb.LetsOut (bodyPost Try.prog Try.f11 (RetC noF k0 (IsTup2 (IsV r.1) (IsV r.2)))) := letsOutC
  have hg : Chg noF k0 k := by rw [hk0]; exact Chg.refl _ k0
  refine wp_seq ?_
  refine cut (fun a' k' => Bs noF k0 51 a' k' ∧ (IsV stays) (a'.get 1) k' ∧ (IsRef holidays) (a'.get 4) k' ∧ (IsRef day) (a'.get 6) k' ∧ (IsRef n_) (a'.get 7) k' ∧ True) ?_ hQ ?_
  · intro Q452 hQQ452 hp453
    refine regionS (a0 := a) (k0 := k) (n := 51) (m := 5) (⟨some (IsRef holidays), [(0, none)]⟩ :: ⟨some (IsRef day), [(2, none)]⟩ :: ⟨some (IsRef n_), [(3, none)]⟩ :: ⟨some (IsV (α := Int) 0), []⟩ :: ⟨some (IsV (α := Int) 0), []⟩ :: []) hs (by kernel_rfl) ⟨ob1 rfl fun b q hk hn => ok_boxR rfl (up i0 hk hn.1), ob1 rfl fun b q hk hn => ok_boxR rfl (up i2 hk hn.1), ob1 rfl fun b q hk hn => ok_boxR rfl (up i3 hk hn.1), ob1 rfl fun b q hk hn => ok_assign rfl (isV_int.2 rfl), ob1 rfl fun b q hk hn => ok_assign rfl (isV_int.2 rfl), trivial⟩ hQQ452 fun b q p => ?_
    exact tail_done (k := q) (hp453 _ _ ⟨Bs.post ⟨hg, hs, hd⟩ p, keep p 1 rfl i1, out p 0 4 _ rfl rfl rfl, out p 1 6 _ rfl rfl rfl, out p 2 7 _ rfl rfl rfl, trivial⟩)
  rintro a k ⟨⟨hg, hs, hd⟩, i1, i4, i6, i7, _⟩
  refine wp_seq ?_
  obtain ⟨x413_1, hx413_1, hr⟩ := bind_some hr
  refine cut (fun a' k' => Bs noF k0 51 a' k' ∧ (IsRef holidays) (a'.get 4) k' ∧ (IsRef day) (a'.get 6) k' ∧ (IsRef n_) (a'.get 7) k' ∧ (IsRef x413_1.1) (a'.get 10) k' ∧ (IsV x413_1.2) (a'.get 11) k' ∧ True) ?_ hQ ?_
  · intro Q450 hQQ450 hp451
    refine regionS (a0 := a) (k0 := k) (n := 51) (m := 6) (⟨some (IsV stays), [(1, none)]⟩ :: ⟨some (IsTup2 (IsV x413_1.1) (IsV x413_1.2)), [(15, some 0)]⟩ :: ⟨some (IsTup2 (IsV x413_1.1) (IsV x413_1.2)), [(16, some 1)]⟩ :: ⟨some (IsV x413_1.1), [(14, some 2)]⟩ :: ⟨some (IsV x413_1.2), [(14, some 2)]⟩ :: ⟨some (IsBox k.w.heap.size ([])), []⟩ :: []) hs (by kernel_rfl) ⟨ob1 rfl fun b q hk hn => ok_move rfl (up i1 hk hn.1), ob1 rfl fun b q hk hn => ok_call rfl Try.call25 (calm_ok hn.1 hx413_1), ob1 rfl fun b q hk hn => ok_move rfl hn.1, ob1 rfl fun b q hk hn => ok_ext2_0 rfl hn.1, ob1 rfl fun b q hk hn => ok_ext2_1 rfl hn.1, ob1 rfl fun b q hk hn => ok_alloc _ hk.size rfl z23, trivial⟩ hQQ450 fun b q p => ?_
    have hgq := hg.then p.grow
    have hsb := p.size.trans hs
    have hdb := p.defers.trans hd
    have j4 := keep p 4 rfl i4
    have j6 := keep p 6 rfl i6
    have j7 := keep p 7 rfl i7
    obtain ⟨b10, j10, x10, z10⟩ : (IsBox k.w.heap.size ([])) (b.get 10) q := out p 5 10 _ rfl rfl rfl
    replace x10 : Lo k (Eq b10) := Lo.eq x10
    have y10 : Lo k0 (Eq b10) := x10.chg hg
    have j17 : (IsV x413_1.1) (b.get 17) q := out p 3 17 _ rfl rfl rfl
    have j18 : (IsV x413_1.2) (b.get 18) q := out p 4 18 _ rfl rfl rfl
    have hns := z10.nshF
    refine tail_storeB (i := 6) rfl rfl rfl rfl szf23 (Upd.self (α := (List Stay))) j10 z10 j17 fun q2 hch hz => ?_
    replace hgq := hgq.step hch y10.wr
    have hle := hch.le hns
    replace j4 := Pers.pers hle j4
    replace j6 := Pers.pers hle j6
    replace j7 := Pers.pers hle j7
    replace j17 := Pers.pers hle j17
    replace j18 := Pers.pers hle j18
    replace z10 := hz
    clear hns hle hch
    obtain ⟨q, hqq⟩ : ∃ q, q = q2 := ⟨q2, rfl⟩
    subst hqq
    refine tail_assign (i := 7) (d := 11) rfl rfl (.inl rfl) rfl (by rw [hsb]; decide) fun b2 hsz hdf hnew hoth => ?_
    have jn : (IsV x413_1.2) (b2.get 11) q := by rw [hnew]; exact j18
    rw [← hoth 4 (by decide)] at j4
    rw [← hoth 6 (by decide)] at j6
    rw [← hoth 7 (by decide)] at j7
    rw [← hoth 10 (by decide)] at j10
    rw [← hoth 17 (by decide)] at j17
    rw [← hoth 18 (by decide)] at j18
    have j11 := jn
    replace hsb := hsz.trans hsb
    replace hdb := hdf.trans hdb
    clear hsz hdf hoth
    obtain ⟨b, hbb⟩ : ∃ b, b = b2 := ⟨b2, rfl⟩
    subst hbb
    obtain ⟨q2, hsh, jn⟩ := z10.give
    replace j4 := Pers.pers hsh.le j4
    replace j6 := Pers.pers hsh.le j6
    replace j7 := Pers.pers hsh.le j7
    replace j11 := Pers.pers hsh.le j11
    rw [← j10] at jn
    replace j10 := jn
    replace hgq := hgq.hand hsh y10.wr
    rw [← hsh.w]
    clear hsh
    obtain ⟨q, hqq⟩ : ∃ q, q = q2 := ⟨q2, rfl⟩
    subst hqq
    exact tail_done (k := q) (hp451 _ _ ⟨⟨hgq, hsb, hdb⟩, j4, j6, j7, j10, j11, trivial⟩)
  rintro a k ⟨⟨hg, hs, hd⟩, i4, i6, i7, i10, i11, _⟩
  refine wp_seq ?_
  refine wp_seq ?_
  obtain ⟨x414_6, hx414_6, hr⟩ := bind_some hr
  obtain ⟨x414_4, hx414_4, hx414_6⟩ := ite_bindF hx414_6
  obtain ⟨x414_11, hx414_11, hr⟩ := bind_some hr
  obtain ⟨x414_9, hx414_9, hx414_11⟩ := ite_bindF hx414_11
  obtain ⟨x414_16, hx414_16, hr⟩ := bind_some hr
  obtain ⟨x414_14, hx414_14, hx414_16⟩ := ite_bindF hx414_16
  refine cut (fun a' k' => Bs noF k0 51 a' k' ∧ (IsRef holidays) (a'.get 4) k' ∧ (IsRef day) (a'.get 6) k' ∧ (IsRef n_) (a'.get 7) k' ∧ (IsRef x413_1.1) (a'.get 10) k' ∧ (IsV x414_16) (a'.get 35) k' ∧ True) ?_ hQ ?_
  · intro Q448 hQQ448 hp449
    refine regionS (a0 := a) (k0 := k) (n := 51) (m := 17) (⟨some (IsV x413_1.2), [(11, none)]⟩ :: ⟨some (IsV (!x413_1.2)), [(19, some 0)]⟩ :: ⟨some (IsV (!x413_1.2)), [(20, some 1)]⟩ :: ⟨some (Gd ((!x413_1.2) = false) (IsV holidays)), [(4, none)]⟩ :: ⟨some (Gd ((!x413_1.2) = false) (IsV x414_4)), [(22, some 3)]⟩ :: ⟨some (Gd ((!x413_1.2) = false) (IsV (!x414_4))), [(23, some 4)]⟩ :: ⟨some (IsV x414_6), [(21, some 2), (24, some 5)]⟩ :: ⟨some (IsV x414_6), [(25, some 6)]⟩ :: ⟨some (Gd (x414_6 = false) (IsV day)), [(6, none)]⟩ :: ⟨some (Gd (x414_6 = false) (IsV x414_9)), [(27, some 8)]⟩ :: ⟨some (Gd (x414_6 = false) (IsV (!x414_9))), [(28, some 9)]⟩ :: ⟨some (IsV x414_11), [(26, some 7), (29, some 10)]⟩ :: ⟨some (IsV x414_11), [(30, some 11)]⟩ :: ⟨some (Gd (x414_11 = false) (IsV n_)), [(7, none)]⟩ :: ⟨some (Gd (x414_11 = false) (IsV x414_14)), [(32, some 13)]⟩ :: ⟨some (Gd (x414_11 = false) (IsV (!x414_14))), [(33, some 14)]⟩ :: ⟨some (IsV x414_16), [(31, some 12), (34, some 15)]⟩ :: []) hs (by kernel_rfl) ⟨ob1 rfl fun b q hk hn => ok_move rfl (up i11 hk hn.1), ob1 rfl fun b q hk hn => ok_not rfl hn.1, ob1 rfl fun b q hk hn => ok_move rfl hn.1, gdF rfl rfl fun hp b q hk hn => ok_load rfl ty22 ((up i4 hk hn.1)).ptr, gdF rfl rfl fun hp b q hk hn => ok_call rfl Try.call13 (calRight_ok (Gd.get hn.1 hp) (hx414_4 hp)), gdF rfl rfl fun hp b q hk hn => ok_not rfl (Gd.get hn.1 hp), ob1 rfl fun b q hk hn => ok_pickM rfl hn.1 hx414_6 (fun _ => (isV_bool.2 rfl)) (fun hm => (Gd.get hn.2.1 hm)), ob1 rfl fun b q hk hn => ok_move rfl hn.1, gdF rfl rfl fun hp b q hk hn => ok_load rfl ty3 ((up i6 hk hn.1)).ptr, gdF rfl rfl fun hp b q hk hn => ok_call rfl Try.call26 (isDay_ok (Gd.get hn.1 hp) (hx414_9 hp)), gdF rfl rfl fun hp b q hk hn => ok_not rfl (Gd.get hn.1 hp), ob1 rfl fun b q hk hn => ok_pickM rfl hn.1 hx414_11 (fun _ => (isV_bool.2 rfl)) (fun hm => (Gd.get hn.2.1 hm)), ob1 rfl fun b q hk hn => ok_move rfl hn.1, gdF rfl rfl fun hp b q hk hn => ok_load rfl ty3 ((up i7 hk hn.1)).ptr, gdF rfl rfl fun hp b q hk hn => ok_call rfl Try.call26 (isDay_ok (Gd.get hn.1 hp) (hx414_14 hp)), gdF rfl rfl fun hp b q hk hn => ok_not rfl (Gd.get hn.1 hp), ob1 rfl fun b q hk hn => ok_pickM rfl hn.1 hx414_16 (fun _ => (isV_bool.2 rfl)) (fun hm => (Gd.get hn.2.1 hm)), trivial⟩ hQQ448 fun b q p => ?_
    exact tail_done (k := q) (hp449 _ _ ⟨Bs.post ⟨hg, hs, hd⟩ p, keep p 4 rfl i4, keep p 6 rfl i6, keep p 7 rfl i7, keep p 10 rfl i10, out p 16 35 _ rfl rfl rfl, trivial⟩)
  rintro a k ⟨⟨hg, hs, hd⟩, i4, i6, i7, i10, i35, _⟩
  refine wp_cond_split (isBool i35) (fun hc447 => ?_) (fun hc447 => ?_)
  · rw [if_pos hc447] at hr
    refine wp_seq ?_
    refine cut (fun a' k' => Bs noF k0 51 a' k' ∧ (IsV (α := Int) 0) (a'.get 8) k' ∧ (IsV (α := Int) 1) (a'.get 9) k' ∧ True) ?_ hQ ?_
    · intro Q416 hQQ416 hp417
      refine regionS (a0 := a) (k0 := k) (n := 51) (m := 2) (⟨some (IsV (α := Int) 0), []⟩ :: ⟨some (IsV (α := Int) 1), []⟩ :: []) hs (by kernel_rfl) ⟨ob1 rfl fun b q hk hn => ok_assign rfl (isV_int.2 rfl), ob1 rfl fun b q hk hn => ok_assign rfl (isV_int.2 rfl), trivial⟩ hQQ416 fun b q p => ?_
      exact tail_done (k := q) (hp417 _ _ ⟨Bs.post ⟨hg, hs, hd⟩ p, out p 0 8 _ rfl rfl rfl, out p 1 9 _ rfl rfl rfl, trivial⟩)
    rintro a k ⟨⟨hg, hs, hd⟩, i8, i9, _⟩
    refine wp_ret ?_
    obtain rfl := Option.some.inj hr
    exact retC2 rfl hd hg i8 i9
  rw [if_neg (by rw [hc447]; decide)] at hr
  refine wp_skip ?_
  refine wp_seq ?_
  refine wp_seq ?_
  refine cut (fun a' k' => Bs noF k0 51 a' k' ∧ (IsRef holidays) (a'.get 4) k' ∧ (IsRef day) (a'.get 6) k' ∧ (IsRef n_) (a'.get 7) k' ∧ (IsRef x413_1.1) (a'.get 10) k' ∧ (IsV (n_ == 0)) (a'.get 37) k' ∧ True) ?_ hQ ?_
  · intro Q445 hQQ445 hp446
    refine regionS (a0 := a) (k0 := k) (n := 51) (m := 2) (⟨some (IsV n_), [(7, none)]⟩ :: ⟨some (IsV (n_ == 0)), [(36, some 0)]⟩ :: []) hs (by kernel_rfl) ⟨ob1 rfl fun b q hk hn => ok_load rfl ty3 ((up i7 hk hn.1)).ptr, ob1 rfl fun b q hk hn => ok_eqI rfl hn.1 (isV_int.2 rfl), trivial⟩ hQQ445 fun b q p => ?_
    exact tail_done (k := q) (hp446 _ _ ⟨Bs.post ⟨hg, hs, hd⟩ p, keep p 4 rfl i4, keep p 6 rfl i6, keep p 7 rfl i7, keep p 10 rfl i10, out p 1 37 _ rfl rfl rfl, trivial⟩)
  rintro a k ⟨⟨hg, hs, hd⟩, i4, i6, i7, i10, i37, _⟩
  refine wp_cond_split (isBool i37) (fun hc444 => ?_) (fun hc444 => ?_)
  · rw [if_pos hc444] at hr
    refine wp_seq ?_
    refine cut (fun a' k' => Bs noF k0 51 a' k' ∧ (IsV day) (a'.get 8) k' ∧ (IsV (α := Int) 0) (a'.get 9) k' ∧ True) ?_ hQ ?_
    · intro Q420 hQQ420 hp421
      refine regionS (a0 := a) (k0 := k) (n := 51) (m := 3) (⟨some (IsV day), [(6, none)]⟩ :: ⟨some (IsV day), [(38, some 0)]⟩ :: ⟨some (IsV (α := Int) 0), []⟩ :: []) hs (by kernel_rfl) ⟨ob1 rfl fun b q hk hn => ok_load rfl ty3 ((up i6 hk hn.1)).ptr, ob1 rfl fun b q hk hn => ok_assign rfl hn.1, ob1 rfl fun b q hk hn => ok_assign rfl (isV_int.2 rfl), trivial⟩ hQQ420 fun b q p => ?_
      exact tail_done (k := q) (hp421 _ _ ⟨Bs.post ⟨hg, hs, hd⟩ p, out p 1 8 _ rfl rfl rfl, out p 2 9 _ rfl rfl rfl, trivial⟩)
    rintro a k ⟨⟨hg, hs, hd⟩, i8, i9, _⟩
    refine wp_ret ?_
    obtain rfl := Option.some.inj hr
    exact retC2 rfl hd hg i8 i9
  rw [if_neg (by rw [hc444]; decide)] at hr
  refine wp_skip ?_
  refine wp_seq ?_
  obtain ⟨x422_1, hx422_1, hr⟩ := bind_some hr
  refine cut (fun a' k' => Bs noF k0 51 a' k' ∧ (IsRef holidays) (a'.get 4) k' ∧ (IsRef day) (a'.get 6) k' ∧ (IsRef n_) (a'.get 7) k' ∧ (IsRef x413_1.1) (a'.get 10) k' ∧ (IsV x422_1) (a'.get 12) k' ∧ True) ?_ hQ ?_
  · intro Q442 hQQ442 hp443
    refine regionS (a0 := a) (k0 := k) (n := 51) (m := 3) (⟨some (IsV day), [(6, none)]⟩ :: ⟨some (IsV x422_1), [(39, some 0)]⟩ :: ⟨some (IsV x422_1), [(40, some 1)]⟩ :: []) hs (by kernel_rfl) ⟨ob1 rfl fun b q hk hn => ok_load rfl ty3 ((up i6 hk hn.1)).ptr, ob1 rfl fun b q hk hn => ok_sub rfl (isV_int.2 rfl) hn.1 hx422_1, ob1 rfl fun b q hk hn => ok_assign rfl hn.1, trivial⟩ hQQ442 fun b q p => ?_
    exact tail_done (k := q) (hp443 _ _ ⟨Bs.post ⟨hg, hs, hd⟩ p, keep p 4 rfl i4, keep p 6 rfl i6, keep p 7 rfl i7, keep p 10 rfl i10, out p 2 12 _ rfl rfl rfl, trivial⟩)
  rintro a k ⟨⟨hg, hs, hd⟩, i4, i6, i7, i10, i12, _⟩
  refine wp_seq ?_
  obtain ⟨x423_2, hx423_2, hr⟩ := bind_some hr
  refine cut (fun a' k' => Bs noF k0 51 a' k' ∧ (IsRef day) (a'.get 6) k' ∧ (IsV x422_1) (a'.get 12) k' ∧ (IsV x423_2) (a'.get 13) k' ∧ True) ?_ hQ ?_
  · intro Q440 hQQ440 hp441
    refine regionS (a0 := a) (k0 := k) (n := 51) (m := 4) (⟨some (IsV x422_1), [(12, none)]⟩ :: ⟨some (IsFn1 Try.prog (fun y0 => calDeadline_c28 y0 holidays x413_1.1 day n_)), [(4, none), (10, none), (6, none), (7, none)]⟩ :: ⟨some (IsV x423_2), [(41, some 0), (42, some 1)]⟩ :: ⟨some (IsV x423_2), [(43, some 2)]⟩ :: []) hs (by kernel_rfl) ⟨ob1 rfl fun b q hk hn => ok_move rfl (up i12 hk hn.1), ob1 rfl fun b q hk hn => ok_makeFunc (first := []) (captured := [.tmp 4, .tmp 10, .tmp 6, .tmp 7]) rfl ⟨28, _, _, rfl, Try.call28, fun k9 hk9 _ _ _ hx0 hy9 => by simpa [evalT] using calDeadline_c28_ok hx0 (Pers.pers hk9 (up i4 hk hn.1)) (Pers.pers hk9 (up i10 hk hn.2.1)) (Pers.pers hk9 (up i6 hk hn.2.2.1)) (Pers.pers hk9 (up i7 hk hn.2.2.2.1)) hy9⟩, ob1 rfl fun b q hk hn => ok_call rfl Try.call27 (search_ok hn.1 hn.2.1 hx423_2), ob1 rfl fun b q hk hn => ok_assign rfl hn.1, trivial⟩ hQQ440 fun b q p => ?_
    exact tail_done (k := q) (hp441 _ _ ⟨Bs.post ⟨hg, hs, hd⟩ p, keep p 6 rfl i6, keep p 12 rfl i12, out p 3 13 _ rfl rfl rfl, trivial⟩)
  rintro a k ⟨⟨hg, hs, hd⟩, i6, i12, i13, _⟩
  refine wp_seq ?_
  refine wp_seq ?_
  refine cut (fun a' k' => Bs noF k0 51 a' k' ∧ (IsRef day) (a'.get 6) k' ∧ (IsV x423_2) (a'.get 13) k' ∧ (IsV (x423_2 == x422_1)) (a'.get 46) k' ∧ True) ?_ hQ ?_
  · intro Q438 hQQ438 hp439
    refine regionS (a0 := a) (k0 := k) (n := 51) (m := 3) (⟨some (IsV x423_2), [(13, none)]⟩ :: ⟨some (IsV x422_1), [(12, none)]⟩ :: ⟨some (IsV (x423_2 == x422_1)), [(44, some 0), (45, some 1)]⟩ :: []) hs (by kernel_rfl) ⟨ob1 rfl fun b q hk hn => ok_move rfl (up i13 hk hn.1), ob1 rfl fun b q hk hn => ok_move rfl (up i12 hk hn.1), ob1 rfl fun b q hk hn => ok_eqI rfl hn.1 hn.2.1, trivial⟩ hQQ438 fun b q p => ?_
    exact tail_done (k := q) (hp439 _ _ ⟨Bs.post ⟨hg, hs, hd⟩ p, keep p 6 rfl i6, keep p 13 rfl i13, out p 2 46 _ rfl rfl rfl, trivial⟩)
  rintro a k ⟨⟨hg, hs, hd⟩, i6, i13, i46, _⟩
  refine wp_cond_split (isBool i46) (fun hc437 => ?_) (fun hc437 => ?_)
  · rw [if_pos hc437] at hr
    refine wp_seq ?_
    refine cut (fun a' k' => Bs noF k0 51 a' k' ∧ (IsV (α := Int) 0) (a'.get 8) k' ∧ (IsV (α := Int) 20) (a'.get 9) k' ∧ True) ?_ hQ ?_
    · intro Q432 hQQ432 hp433
      refine regionS (a0 := a) (k0 := k) (n := 51) (m := 2) (⟨some (IsV (α := Int) 0), []⟩ :: ⟨some (IsV (α := Int) 20), []⟩ :: []) hs (by kernel_rfl) ⟨ob1 rfl fun b q hk hn => ok_assign rfl (isV_int.2 rfl), ob1 rfl fun b q hk hn => ok_assign rfl (isV_int.2 rfl), trivial⟩ hQQ432 fun b q p => ?_
      exact tail_done (k := q) (hp433 _ _ ⟨Bs.post ⟨hg, hs, hd⟩ p, out p 0 8 _ rfl rfl rfl, out p 1 9 _ rfl rfl rfl, trivial⟩)
    rintro a k ⟨⟨hg, hs, hd⟩, i8, i9, _⟩
    refine wp_ret ?_
    obtain rfl := Option.some.inj hr
    exact retC2 rfl hd hg i8 i9
  rw [if_neg (by rw [hc437]; decide)] at hr
  refine wp_skip ?_
  refine wp_seq ?_
  obtain ⟨x434_1, hx434_1, hr⟩ := bind_some hr
  obtain ⟨x434_3, hx434_3, hr⟩ := bind_some hr
  refine cut (fun a' k' => Bs noF k0 51 a' k' ∧ (IsV x434_3) (a'.get 8) k' ∧ (IsV (α := Int) 0) (a'.get 9) k' ∧ True) ?_ hQ ?_
  · intro Q435 hQQ435 hp436
    refine regionS (a0 := a) (k0 := k) (n := 51) (m := 6) (⟨some (IsV day), [(6, none)]⟩ :: ⟨some (IsV x434_1), [(47, some 0)]⟩ :: ⟨some (IsV x423_2), [(13, none)]⟩ :: ⟨some (IsV x434_3), [(48, some 1), (49, some 2)]⟩ :: ⟨some (IsV x434_3), [(50, some 3)]⟩ :: ⟨some (IsV (α := Int) 0), []⟩ :: []) hs (by kernel_rfl) ⟨ob1 rfl fun b q hk hn => ok_load rfl ty3 ((up i6 hk hn.1)).ptr, ob1 rfl fun b q hk hn => ok_add rfl hn.1 (isV_int.2 rfl) hx434_1, ob1 rfl fun b q hk hn => ok_move rfl (up i13 hk hn.1), ob1 rfl fun b q hk hn => ok_add rfl hn.1 hn.2.1 hx434_3, ob1 rfl fun b q hk hn => ok_assign rfl hn.1, ob1 rfl fun b q hk hn => ok_assign rfl (isV_int.2 rfl), trivial⟩ hQQ435 fun b q p => ?_
    exact tail_done (k := q) (hp436 _ _ ⟨Bs.post ⟨hg, hs, hd⟩ p, out p 4 8 _ rfl rfl rfl, out p 5 9 _ rfl rfl rfl, trivial⟩)
  rintro a k ⟨⟨hg, hs, hd⟩, i8, i9, _⟩
  refine wp_ret ?_
  obtain rfl := Option.some.inj hr
  exact retC2 rfl hd hg i8 i9
def calCount (holidays : (List Int)) (stays : (List Stay)) (a_ : Int) (b_ : Int) : Option (Int) :=
  (calm stays).bind fun x455_1 =>
  (if (!x455_1.2) then
    some true
  else
    (calRight holidays).bind fun x456_4 =>
    some (!x456_4)).bind fun x456_6 =>
  (if x456_6 then
    some true
  else
    (isDay a_).bind fun x456_9 =>
    some (!x456_9)).bind fun x456_11 =>
  (if x456_11 then
    some true
  else
    (isDay b_).bind fun x456_14 =>
    some (!x456_14)).bind fun x456_16 =>
  if (x456_16 || (decide (b_ ≤ a_))) then
    some 0
  else
    (calCountG holidays x455_1.1 a_ b_).bind fun x460_4 =>
    some x460_4
theorem calCount_ok {k0 : K} {v0 v1 v2 v3 : Value} {holidays : (List Int)} {stays : (List Stay)} {a_ : Int} {b_ : Int} {r : Int} (i0 : (IsV holidays) v0 k0) (i1 : (IsV stays) v1 k0) (i2 : (IsV a_) v2 k0) (i3 : (IsV b_) v3 k0) (hr : calCount holidays stays a_ b_ = some r) :
    Calls Try.prog 21 #[v0, v1, v2, v3] k0.w (Ret k0 (IsV r)) := by
  unfold calCount at hr
  refine Ret.ofC ?_
  refine enterK Try.func21 rfl Try.ntmps21 (show 4 ≤ 43 by decide) fun a k hk0 hs hd ha => ?_
  obtain ⟨e0, e1, e2, e3, _⟩ := ha
  replace i0 : (IsV holidays) (a.get 0) k := by rw [e0, hk0]; exact i0
  replace i1 : (IsV stays) (a.get 1) k := by rw [e1, hk0]; exact i1
  replace i2 : (IsV a_) (a.get 2) k := by rw [e2, hk0]; exact i2
  replace i3 : (IsV b_) (a.get 3) k := by rw [e3, hk0]; exact i3
  have hQ : Gb.LetsOut (bodyPost Try.prog Try.f21 (RetC noF k0 (IsV r))) := letsOutC
  have hg : Chg noF k0 k := by rw [hk0]; exact Chg.refl _ k0
  refine wp_seq ?_
  refine cut (fun a' k' => Bs noF k0 43 a' k' ∧ (IsV holidays) (a'.get 0) k' ∧ (IsV stays) (a'.get 1) k' ∧ (IsV a_) (a'.get 2) k' ∧ (IsV b_) (a'.get 3) k' ∧ True) ?_ hQ ?_
  · intro Q468 hQQ468 hp469
    refine regionS (a0 := a) (k0 := k) (n := 43) (m := 1) (⟨some (IsV (α := Int) 0), []⟩ :: []) hs (by kernel_rfl) ⟨ob1 rfl fun b q hk hn => ok_assign rfl (isV_int.2 rfl), trivial⟩ hQQ468 fun b q p => ?_
    exact tail_done (k := q) (hp469 _ _ ⟨Bs.post ⟨hg, hs, hd⟩ p, keep p 0 rfl i0, keep p 1 rfl i1, keep p 2 rfl i2, keep p 3 rfl i3, trivial⟩)
  rintro a k ⟨⟨hg, hs, hd⟩, i0, i1, i2, i3, _⟩
  refine wp_seq ?_
  obtain ⟨x455_1, hx455_1, hr⟩ := bind_some hr
  refine cut (fun a' k' => Bs noF k0 43 a' k' ∧ (IsV holidays) (a'.get 0) k' ∧ (IsV a_) (a'.get 2) k' ∧ (IsV b_) (a'.get 3) k' ∧ (IsV x455_1.1) (a'.get 9) k' ∧ (IsV x455_1.2) (a'.get 10) k' ∧ True) ?_ hQ ?_
  · intro Q466 hQQ466 hp467
    refine regionS (a0 := a) (k0 := k) (n := 43) (m := 7) (⟨some (IsV stays), [(1, none)]⟩ :: ⟨some (IsTup2 (IsV x455_1.1) (IsV x455_1.2)), [(12, some 0)]⟩ :: ⟨some (IsTup2 (IsV x455_1.1) (IsV x455_1.2)), [(13, some 1)]⟩ :: ⟨some (IsV x455_1.1), [(11, some 2)]⟩ :: ⟨some (IsV x455_1.2), [(11, some 2)]⟩ :: ⟨some (IsV x455_1.1), [(14, some 3)]⟩ :: ⟨some (IsV x455_1.2), [(15, some 4)]⟩ :: []) hs (by kernel_rfl) ⟨ob1 rfl fun b q hk hn => ok_move rfl (up i1 hk hn.1), ob1 rfl fun b q hk hn => ok_call rfl Try.call25 (calm_ok hn.1 hx455_1), ob1 rfl fun b q hk hn => ok_move rfl hn.1, ob1 rfl fun b q hk hn => ok_ext2_0 rfl hn.1, ob1 rfl fun b q hk hn => ok_ext2_1 rfl hn.1, ob1 rfl fun b q hk hn => ok_assign rfl hn.1, ob1 rfl fun b q hk hn => ok_assign rfl hn.1, trivial⟩ hQQ466 fun b q p => ?_
    exact tail_done (k := q) (hp467 _ _ ⟨Bs.post ⟨hg, hs, hd⟩ p, keep p 0 rfl i0, keep p 2 rfl i2, keep p 3 rfl i3, out p 5 9 _ rfl rfl rfl, out p 6 10 _ rfl rfl rfl, trivial⟩)
  rintro a k ⟨⟨hg, hs, hd⟩, i0, i2, i3, i9, i10, _⟩
  refine wp_seq ?_
  refine wp_seq ?_
  obtain ⟨x456_6, hx456_6, hr⟩ := bind_some hr
  obtain ⟨x456_4, hx456_4, hx456_6⟩ := ite_bindF hx456_6
  obtain ⟨x456_11, hx456_11, hr⟩ := bind_some hr
  obtain ⟨x456_9, hx456_9, hx456_11⟩ := ite_bindF hx456_11
  obtain ⟨x456_16, hx456_16, hr⟩ := bind_some hr
  obtain ⟨x456_14, hx456_14, hx456_16⟩ := ite_bindF hx456_16
  refine cut (fun a' k' => Bs noF k0 43 a' k' ∧ (IsV holidays) (a'.get 0) k' ∧ (IsV a_) (a'.get 2) k' ∧ (IsV b_) (a'.get 3) k' ∧ (IsV x455_1.1) (a'.get 9) k' ∧ (IsV (x456_16 || (decide (b_ ≤ a_)))) (a'.get 37) k' ∧ True) ?_ hQ ?_
  · intro Q464 hQQ464 hp465
    refine regionS (a0 := a) (k0 := k) (n := 43) (m := 22) (⟨some (IsV x455_1.2), [(10, none)]⟩ :: ⟨some (IsV (!x455_1.2)), [(16, some 0)]⟩ :: ⟨some (IsV (!x455_1.2)), [(17, some 1)]⟩ :: ⟨some (Gd ((!x455_1.2) = false) (IsV holidays)), [(0, none)]⟩ :: ⟨some (Gd ((!x455_1.2) = false) (IsV x456_4)), [(19, some 3)]⟩ :: ⟨some (Gd ((!x455_1.2) = false) (IsV (!x456_4))), [(20, some 4)]⟩ :: ⟨some (IsV x456_6), [(18, some 2), (21, some 5)]⟩ :: ⟨some (IsV x456_6), [(22, some 6)]⟩ :: ⟨some (Gd (x456_6 = false) (IsV a_)), [(2, none)]⟩ :: ⟨some (Gd (x456_6 = false) (IsV x456_9)), [(24, some 8)]⟩ :: ⟨some (Gd (x456_6 = false) (IsV (!x456_9))), [(25, some 9)]⟩ :: ⟨some (IsV x456_11), [(23, some 7), (26, some 10)]⟩ :: ⟨some (IsV x456_11), [(27, some 11)]⟩ :: ⟨some (Gd (x456_11 = false) (IsV b_)), [(3, none)]⟩ :: ⟨some (Gd (x456_11 = false) (IsV x456_14)), [(29, some 13)]⟩ :: ⟨some (Gd (x456_11 = false) (IsV (!x456_14))), [(30, some 14)]⟩ :: ⟨some (IsV x456_16), [(28, some 12), (31, some 15)]⟩ :: ⟨some (IsV x456_16), [(32, some 16)]⟩ :: ⟨some (Gd (x456_16 = false) (IsV a_)), [(2, none)]⟩ :: ⟨some (Gd (x456_16 = false) (IsV b_)), [(3, none)]⟩ :: ⟨some (Gd (x456_16 = false) (IsV (decide (b_ ≤ a_)))), [(34, some 18), (35, some 19)]⟩ :: ⟨some (IsV (x456_16 || (decide (b_ ≤ a_)))), [(33, some 17), (36, some 20)]⟩ :: []) hs (by kernel_rfl) ⟨ob1 rfl fun b q hk hn => ok_move rfl (up i10 hk hn.1), ob1 rfl fun b q hk hn => ok_not rfl hn.1, ob1 rfl fun b q hk hn => ok_move rfl hn.1, gdF rfl rfl fun hp b q hk hn => ok_move rfl (up i0 hk hn.1), gdF rfl rfl fun hp b q hk hn => ok_call rfl Try.call13 (calRight_ok (Gd.get hn.1 hp) (hx456_4 hp)), gdF rfl rfl fun hp b q hk hn => ok_not rfl (Gd.get hn.1 hp), ob1 rfl fun b q hk hn => ok_pickM rfl hn.1 hx456_6 (fun _ => (isV_bool.2 rfl)) (fun hm => (Gd.get hn.2.1 hm)), ob1 rfl fun b q hk hn => ok_move rfl hn.1, gdF rfl rfl fun hp b q hk hn => ok_move rfl (up i2 hk hn.1), gdF rfl rfl fun hp b q hk hn => ok_call rfl Try.call26 (isDay_ok (Gd.get hn.1 hp) (hx456_9 hp)), gdF rfl rfl fun hp b q hk hn => ok_not rfl (Gd.get hn.1 hp), ob1 rfl fun b q hk hn => ok_pickM rfl hn.1 hx456_11 (fun _ => (isV_bool.2 rfl)) (fun hm => (Gd.get hn.2.1 hm)), ob1 rfl fun b q hk hn => ok_move rfl hn.1, gdF rfl rfl fun hp b q hk hn => ok_move rfl (up i3 hk hn.1), gdF rfl rfl fun hp b q hk hn => ok_call rfl Try.call26 (isDay_ok (Gd.get hn.1 hp) (hx456_14 hp)), gdF rfl rfl fun hp b q hk hn => ok_not rfl (Gd.get hn.1 hp), ob1 rfl fun b q hk hn => ok_pickM rfl hn.1 hx456_16 (fun _ => (isV_bool.2 rfl)) (fun hm => (Gd.get hn.2.1 hm)), ob1 rfl fun b q hk hn => ok_move rfl hn.1, gdF rfl rfl fun hp b q hk hn => ok_move rfl (up i2 hk hn.1), gdF rfl rfl fun hp b q hk hn => ok_move rfl (up i3 hk hn.1), gdF rfl rfl fun hp b q hk hn => ok_geq rfl (Gd.get hn.1 hp) (Gd.get hn.2.1 hp), ob1 rfl fun b q hk hn => ok_pickOr rfl hn.1 (fun _ => (isV_bool.2 rfl)) (fun hm => (Gd.get hn.2.1 hm)), trivial⟩ hQQ464 fun b q p => ?_
    exact tail_done (k := q) (hp465 _ _ ⟨Bs.post ⟨hg, hs, hd⟩ p, keep p 0 rfl i0, keep p 2 rfl i2, keep p 3 rfl i3, keep p 9 rfl i9, out p 21 37 _ rfl rfl rfl, trivial⟩)
  rintro a k ⟨⟨hg, hs, hd⟩, i0, i2, i3, i9, i37, _⟩
  refine wp_cond_split (isBool i37) (fun hc463 => ?_) (fun hc463 => ?_)
  · rw [if_pos hc463] at hr
    refine wp_seq ?_
    refine cut (fun a' k' => Bs noF k0 43 a' k' ∧ (IsV (α := Int) 0) (a'.get 8) k' ∧ True) ?_ hQ ?_
    · intro Q458 hQQ458 hp459
      refine regionS (a0 := a) (k0 := k) (n := 43) (m := 1) (⟨some (IsV (α := Int) 0), []⟩ :: []) hs (by kernel_rfl) ⟨ob1 rfl fun b q hk hn => ok_assign rfl (isV_int.2 rfl), trivial⟩ hQQ458 fun b q p => ?_
      exact tail_done (k := q) (hp459 _ _ ⟨Bs.post ⟨hg, hs, hd⟩ p, out p 0 8 _ rfl rfl rfl, trivial⟩)
    rintro a k ⟨⟨hg, hs, hd⟩, i8, _⟩
    refine wp_ret ?_
    obtain rfl := Option.some.inj hr
    exact retC1 rfl hd hg i8
  rw [if_neg (by rw [hc463]; decide)] at hr
  refine wp_skip ?_
  refine wp_seq ?_
  obtain ⟨x460_4, hx460_4, hr⟩ := bind_some hr
  refine cut (fun a' k' => Bs noF k0 43 a' k' ∧ (IsV x460_4) (a'.get 8) k' ∧ True) ?_ hQ ?_
  · intro Q461 hQQ461 hp462
    refine regionS (a0 := a) (k0 := k) (n := 43) (m := 6) (⟨some (IsV holidays), [(0, none)]⟩ :: ⟨some (IsV x455_1.1), [(9, none)]⟩ :: ⟨some (IsV a_), [(2, none)]⟩ :: ⟨some (IsV b_), [(3, none)]⟩ :: ⟨some (IsV x460_4), [(38, some 0), (39, some 1), (40, some 2), (41, some 3)]⟩ :: ⟨some (IsV x460_4), [(42, some 4)]⟩ :: []) hs (by kernel_rfl) ⟨ob1 rfl fun b q hk hn => ok_move rfl (up i0 hk hn.1), ob1 rfl fun b q hk hn => ok_move rfl (up i9 hk hn.1), ob1 rfl fun b q hk hn => ok_move rfl (up i2 hk hn.1), ob1 rfl fun b q hk hn => ok_move rfl (up i3 hk hn.1), ob1 rfl fun b q hk hn => ok_call rfl Try.call29 (calCountG_ok hn.1 hn.2.1 hn.2.2.1 hn.2.2.2.1 hx460_4), ob1 rfl fun b q hk hn => ok_assign rfl hn.1, trivial⟩ hQQ461 fun b q p => ?_
    exact tail_done (k := q) (hp462 _ _ ⟨Bs.post ⟨hg, hs, hd⟩ p, out p 5 8 _ rfl rfl rfl, trivial⟩)
  rintro a k ⟨⟨hg, hs, hd⟩, i8, _⟩
  refine wp_ret ?_
  obtain rfl := Option.some.inj hr
  exact retC1 rfl hd hg i8
def calIsWork (holidays : (List Int)) (day : Int) : Option (Bool) :=
  (calCounts holidays ([] : List Stay) day).bind fun x471_2 =>
  some x471_2
theorem calIsWork_ok {k0 : K} {v0 v1 : Value} {holidays : (List Int)} {day : Int} {r : Bool} (i0 : (IsV holidays) v0 k0) (i1 : (IsV day) v1 k0) (hr : calIsWork holidays day = some r) :
    Calls Try.prog 15 #[v0, v1] k0.w (Ret k0 (IsV r)) := by
  unfold calIsWork at hr
  refine Ret.ofC ?_
  refine enterK Try.func15 rfl Try.ntmps15 (show 2 ≤ 8 by decide) fun a k hk0 hs hd ha => ?_
  obtain ⟨e0, e1, _⟩ := ha
  replace i0 : (IsV holidays) (a.get 0) k := by rw [e0, hk0]; exact i0
  replace i1 : (IsV day) (a.get 1) k := by rw [e1, hk0]; exact i1
  have hQ : Gb.LetsOut (bodyPost Try.prog Try.f15 (RetC noF k0 (IsV r))) := letsOutC
  have hg : Chg noF k0 k := by rw [hk0]; exact Chg.refl _ k0
  refine wp_seq ?_
  refine cut (fun a' k' => Bs noF k0 8 a' k' ∧ (IsV holidays) (a'.get 0) k' ∧ (IsV day) (a'.get 1) k' ∧ True) ?_ hQ ?_
  · intro Q474 hQQ474 hp475
    refine regionS (a0 := a) (k0 := k) (n := 8) (m := 1) (⟨some (IsV false), []⟩ :: []) hs (by kernel_rfl) ⟨ob1 rfl fun b q hk hn => ok_assign rfl (isV_bool.2 rfl), trivial⟩ hQQ474 fun b q p => ?_
    exact tail_done (k := q) (hp475 _ _ ⟨Bs.post ⟨hg, hs, hd⟩ p, keep p 0 rfl i0, keep p 1 rfl i1, trivial⟩)
  rintro a k ⟨⟨hg, hs, hd⟩, i0, i1, _⟩
  refine wp_seq ?_
  obtain ⟨x471_2, hx471_2, hr⟩ := bind_some hr
  refine cut (fun a' k' => Bs noF k0 8 a' k' ∧ (IsV x471_2) (a'.get 4) k' ∧ True) ?_ hQ ?_
  · intro Q472 hQQ472 hp473
    refine regionS (a0 := a) (k0 := k) (n := 8) (m := 4) (⟨some (IsV holidays), [(0, none)]⟩ :: ⟨some (IsV day), [(1, none)]⟩ :: ⟨some (IsV x471_2), [(5, some 0), (6, some 1)]⟩ :: ⟨some (IsV x471_2), [(7, some 2)]⟩ :: []) hs (by kernel_rfl) ⟨ob1 rfl fun b q hk hn => ok_move rfl (up i0 hk hn.1), ob1 rfl fun b q hk hn => ok_move rfl (up i1 hk hn.1), ob1 rfl fun b q hk hn => ok_call rfl Try.call17 (calCounts_ok hn.1 (isV_list.2 (.inl ⟨rfl, rfl⟩)) hn.2.1 hx471_2), ob1 rfl fun b q hk hn => ok_assign rfl hn.1, trivial⟩ hQQ472 fun b q p => ?_
    exact tail_done (k := q) (hp473 _ _ ⟨Bs.post ⟨hg, hs, hd⟩ p, out p 3 4 _ rfl rfl rfl, trivial⟩)
  rintro a k ⟨⟨hg, hs, hd⟩, i4, _⟩
  refine wp_ret ?_
  obtain rfl := Option.some.inj hr
  exact retC1 rfl hd hg i4
def calBetween (holidays : (List Int)) (a_ : Int) (b_ : Int) : Option (Int) :=
  (calCount holidays ([] : List Stay) a_ b_).bind fun x477_3 =>
  some x477_3
theorem calBetween_ok {k0 : K} {v0 v1 v2 : Value} {holidays : (List Int)} {a_ : Int} {b_ : Int} {r : Int} (i0 : (IsV holidays) v0 k0) (i1 : (IsV a_) v1 k0) (i2 : (IsV b_) v2 k0) (hr : calBetween holidays a_ b_ = some r) :
    Calls Try.prog 19 #[v0, v1, v2] k0.w (Ret k0 (IsV r)) := by
  unfold calBetween at hr
  refine Ret.ofC ?_
  refine enterK Try.func19 rfl Try.ntmps19 (show 3 ≤ 11 by decide) fun a k hk0 hs hd ha => ?_
  obtain ⟨e0, e1, e2, _⟩ := ha
  replace i0 : (IsV holidays) (a.get 0) k := by rw [e0, hk0]; exact i0
  replace i1 : (IsV a_) (a.get 1) k := by rw [e1, hk0]; exact i1
  replace i2 : (IsV b_) (a.get 2) k := by rw [e2, hk0]; exact i2
  have hQ : Gb.LetsOut (bodyPost Try.prog Try.f19 (RetC noF k0 (IsV r))) := letsOutC
  have hg : Chg noF k0 k := by rw [hk0]; exact Chg.refl _ k0
  refine wp_seq ?_
  refine cut (fun a' k' => Bs noF k0 11 a' k' ∧ (IsV holidays) (a'.get 0) k' ∧ (IsV a_) (a'.get 1) k' ∧ (IsV b_) (a'.get 2) k' ∧ True) ?_ hQ ?_
  · intro Q480 hQQ480 hp481
    refine regionS (a0 := a) (k0 := k) (n := 11) (m := 1) (⟨some (IsV (α := Int) 0), []⟩ :: []) hs (by kernel_rfl) ⟨ob1 rfl fun b q hk hn => ok_assign rfl (isV_int.2 rfl), trivial⟩ hQQ480 fun b q p => ?_
    exact tail_done (k := q) (hp481 _ _ ⟨Bs.post ⟨hg, hs, hd⟩ p, keep p 0 rfl i0, keep p 1 rfl i1, keep p 2 rfl i2, trivial⟩)
  rintro a k ⟨⟨hg, hs, hd⟩, i0, i1, i2, _⟩
  refine wp_seq ?_
  obtain ⟨x477_3, hx477_3, hr⟩ := bind_some hr
  refine cut (fun a' k' => Bs noF k0 11 a' k' ∧ (IsV x477_3) (a'.get 6) k' ∧ True) ?_ hQ ?_
  · intro Q478 hQQ478 hp479
    refine regionS (a0 := a) (k0 := k) (n := 11) (m := 5) (⟨some (IsV holidays), [(0, none)]⟩ :: ⟨some (IsV a_), [(1, none)]⟩ :: ⟨some (IsV b_), [(2, none)]⟩ :: ⟨some (IsV x477_3), [(7, some 0), (8, some 1), (9, some 2)]⟩ :: ⟨some (IsV x477_3), [(10, some 3)]⟩ :: []) hs (by kernel_rfl) ⟨ob1 rfl fun b q hk hn => ok_move rfl (up i0 hk hn.1), ob1 rfl fun b q hk hn => ok_move rfl (up i1 hk hn.1), ob1 rfl fun b q hk hn => ok_move rfl (up i2 hk hn.1), ob1 rfl fun b q hk hn => ok_call rfl Try.call21 (calCount_ok hn.1 (isV_list.2 (.inl ⟨rfl, rfl⟩)) hn.2.1 hn.2.2.1 hx477_3), ob1 rfl fun b q hk hn => ok_assign rfl hn.1, trivial⟩ hQQ478 fun b q p => ?_
    exact tail_done (k := q) (hp479 _ _ ⟨Bs.post ⟨hg, hs, hd⟩ p, out p 4 6 _ rfl rfl rfl, trivial⟩)
  rintro a k ⟨⟨hg, hs, hd⟩, i6, _⟩
  refine wp_ret ?_
  obtain rfl := Option.some.inj hr
  exact retC1 rfl hd hg i6
def calAdd (holidays : (List Int)) (day : Int) (n_ : Int) : Option (Int × Int) :=
  (calDeadline holidays ([] : List Stay) day n_).bind fun x483_3 =>
  some (x483_3.1, x483_3.2)
theorem calAdd_ok {k0 : K} {v0 v1 v2 : Value} {holidays : (List Int)} {day : Int} {n_ : Int} {r : Int × Int} (i0 : (IsV holidays) v0 k0) (i1 : (IsV day) v1 k0) (i2 : (IsV n_) v2 k0) (hr : calAdd holidays day n_ = some r) :
    Calls Try.prog 9 #[v0, v1, v2] k0.w (Ret k0 (IsTup2 (IsV r.1) (IsV r.2))) := by
  unfold calAdd at hr
  refine Ret.ofC ?_
  refine enterK Try.func9 rfl Try.ntmps9 (show 3 ≤ 14 by decide) fun a k hk0 hs hd ha => ?_
  obtain ⟨e0, e1, e2, _⟩ := ha
  replace i0 : (IsV holidays) (a.get 0) k := by rw [e0, hk0]; exact i0
  replace i1 : (IsV day) (a.get 1) k := by rw [e1, hk0]; exact i1
  replace i2 : (IsV n_) (a.get 2) k := by rw [e2, hk0]; exact i2
  have hQ : Gb.LetsOut (bodyPost Try.prog Try.f9 (RetC noF k0 (IsTup2 (IsV r.1) (IsV r.2)))) := letsOutC
  have hg : Chg noF k0 k := by rw [hk0]; exact Chg.refl _ k0
  refine wp_seq ?_
  refine cut (fun a' k' => Bs noF k0 14 a' k' ∧ (IsV holidays) (a'.get 0) k' ∧ (IsV day) (a'.get 1) k' ∧ (IsV n_) (a'.get 2) k' ∧ True) ?_ hQ ?_
  · intro Q486 hQQ486 hp487
    refine regionS (a0 := a) (k0 := k) (n := 14) (m := 2) (⟨some (IsV (α := Int) 0), []⟩ :: ⟨some (IsV (α := Int) 0), []⟩ :: []) hs (by kernel_rfl) ⟨ob1 rfl fun b q hk hn => ok_assign rfl (isV_int.2 rfl), ob1 rfl fun b q hk hn => ok_assign rfl (isV_int.2 rfl), trivial⟩ hQQ486 fun b q p => ?_
    exact tail_done (k := q) (hp487 _ _ ⟨Bs.post ⟨hg, hs, hd⟩ p, keep p 0 rfl i0, keep p 1 rfl i1, keep p 2 rfl i2, trivial⟩)
  rintro a k ⟨⟨hg, hs, hd⟩, i0, i1, i2, _⟩
  refine wp_seq ?_
  obtain ⟨x483_3, hx483_3, hr⟩ := bind_some hr
  refine cut (fun a' k' => Bs noF k0 14 a' k' ∧ (IsV x483_3.1) (a'.get 6) k' ∧ (IsV x483_3.2) (a'.get 7) k' ∧ True) ?_ hQ ?_
  · intro Q484 hQQ484 hp485
    refine regionS (a0 := a) (k0 := k) (n := 14) (m := 8) (⟨some (IsV holidays), [(0, none)]⟩ :: ⟨some (IsV day), [(1, none)]⟩ :: ⟨some (IsV n_), [(2, none)]⟩ :: ⟨some (IsTup2 (IsV x483_3.1) (IsV x483_3.2)), [(8, some 0), (9, some 1), (10, some 2)]⟩ :: ⟨some (IsV x483_3.1), [(11, some 3)]⟩ :: ⟨some (IsV x483_3.2), [(11, some 3)]⟩ :: ⟨some (IsV x483_3.1), [(12, some 4)]⟩ :: ⟨some (IsV x483_3.2), [(13, some 5)]⟩ :: []) hs (by kernel_rfl) ⟨ob1 rfl fun b q hk hn => ok_move rfl (up i0 hk hn.1), ob1 rfl fun b q hk hn => ok_move rfl (up i1 hk hn.1), ob1 rfl fun b q hk hn => ok_move rfl (up i2 hk hn.1), ob1 rfl fun b q hk hn => ok_call rfl Try.call11 (calDeadline_ok hn.1 (isV_list.2 (.inl ⟨rfl, rfl⟩)) hn.2.1 hn.2.2.1 hx483_3), ob1 rfl fun b q hk hn => ok_ext2_0 rfl hn.1, ob1 rfl fun b q hk hn => ok_ext2_1 rfl hn.1, ob1 rfl fun b q hk hn => ok_assign rfl hn.1, ob1 rfl fun b q hk hn => ok_assign rfl hn.1, trivial⟩ hQQ484 fun b q p => ?_
    exact tail_done (k := q) (hp485 _ _ ⟨Bs.post ⟨hg, hs, hd⟩ p, out p 6 6 _ rfl rfl rfl, out p 7 7 _ rfl rfl rfl, trivial⟩)
  rintro a k ⟨⟨hg, hs, hd⟩, i6, i7, _⟩
  refine wp_ret ?_
  obtain rfl := Option.some.inj hr
  exact retC2 rfl hd hg i6 i7
def small  : Option (Bool) :=
  (calAdd ([] : List Int) 0 5).bind fun x489_0 =>
  (calAdd ([4]) 0 4).bind fun x490_1 =>
  (calAdd ([] : List Int) 5 0).bind fun x491_0 =>
  (calDeadline ([] : List Int) ([(⟨1, 8⟩ : Stay)]) 0 1).bind fun x492_2 =>
  (calDeadline ([] : List Int) ([(⟨1, 2⟩ : Stay), (⟨2, 3⟩ : Stay)]) 0 2).bind fun x493_3 =>
  (calAdd ([] : List Int) 1073741824 1).bind fun x494_0 =>
  (calAdd ([] : List Int) 3 (-1)).bind fun x495_0 =>
  (calBetween ([] : List Int) 0 7).bind fun x496_0 =>
  (if (x496_0 == 5) then
    (calBetween ([2, 5]) 0 7).bind fun x496_4 =>
    some (x496_4 == 4)
  else
    some false).bind fun x496_6 =>
  (if x496_6 then
    (calBetween ([] : List Int) 7 7).bind fun x496_8 =>
    some (x496_8 == 0)
  else
    some false).bind fun x496_10 =>
  (if (((((((x496_10 && (x489_0.1 == 7)) && (x489_0.2 == 0)) && (x490_1.1 == 7)) && (x490_1.2 == 0)) && (x491_0.1 == 5)) && (x491_0.2 == 0)) && ((((((x492_2.1 == 9) && (x492_2.2 == 0)) && (x493_3.1 == 7)) && (x493_3.2 == 0)) && (x494_0.2 == 20)) && (x495_0.2 == 1))) then
    (calRight ([1, 2])).bind fun x498_6 =>
    some x498_6
  else
    some false).bind fun x498_7 =>
  (if x498_7 then
    (calRight ([2, 2])).bind fun x498_10 =>
    some (!x498_10)
  else
    some false).bind fun x498_12 =>
  (if x498_12 then
    (calIsWork ([] : List Int) 4).bind fun x498_14 =>
    some x498_14
  else
    some false).bind fun x498_15 =>
  (if x498_15 then
    (calIsWork ([] : List Int) 5).bind fun x498_17 =>
    some (!x498_17)
  else
    some false).bind fun x498_19 =>
  (if x498_19 then
    (calCounts ([] : List Int) ([(⟨4, 4⟩ : Stay)]) 4).bind fun x498_23 =>
    some (!x498_23)
  else
    some false).bind fun x498_25 =>
  some x498_25
theorem small_ok {k0 : K} {r : Bool} (hr : small = some r) :
    Calls Try.prog 8 #[] k0.w (Ret k0 (IsV r)) := by
  unfold small at hr
  refine Ret.ofC ?_
  refine enterK Try.func8 rfl Try.ntmps8 (show 0 ≤ 134 by decide) fun a k hk0 hs hd ha => ?_
  have hQ : Gb.LetsOut (bodyPost Try.prog Try.f8 (RetC noF k0 (IsV r))) := letsOutC
  have hg : Chg noF k0 k := by rw [hk0]; exact Chg.refl _ k0
  refine wp_seq ?_
  refine cut (fun a' k' => Bs noF k0 134 a' k' ∧ True) ?_ hQ ?_
  · intro Q519 hQQ519 hp520
    refine regionS (a0 := a) (k0 := k) (n := 134) (m := 1) (⟨some (IsV false), []⟩ :: []) hs (by kernel_rfl) ⟨ob1 rfl fun b q hk hn => ok_assign rfl (isV_bool.2 rfl), trivial⟩ hQQ519 fun b q p => ?_
    exact tail_done (k := q) (hp520 _ _ ⟨Bs.post ⟨hg, hs, hd⟩ p, trivial⟩)
  rintro a k ⟨⟨hg, hs, hd⟩, _⟩
  refine wp_seq ?_
  obtain ⟨x489_0, hx489_0, hr⟩ := bind_some hr
  refine cut (fun a' k' => Bs noF k0 134 a' k' ∧ (IsV x489_0.1) (a'.get 1) k' ∧ (IsV x489_0.2) (a'.get 2) k' ∧ True) ?_ hQ ?_
  · intro Q517 hQQ517 hp518
    refine regionS (a0 := a) (k0 := k) (n := 134) (m := 6) (⟨some (IsTup2 (IsV x489_0.1) (IsV x489_0.2)), []⟩ :: ⟨some (IsTup2 (IsV x489_0.1) (IsV x489_0.2)), [(18, some 0)]⟩ :: ⟨some (IsV x489_0.1), [(17, some 1)]⟩ :: ⟨some (IsV x489_0.2), [(17, some 1)]⟩ :: ⟨some (IsV x489_0.1), [(19, some 2)]⟩ :: ⟨some (IsV x489_0.2), [(20, some 3)]⟩ :: []) hs (by kernel_rfl) ⟨ob1 rfl fun b q hk hn => ok_call rfl Try.call9 (calAdd_ok (isV_list.2 (.inl ⟨rfl, rfl⟩)) (isV_int.2 rfl) (isV_int.2 rfl) hx489_0), ob1 rfl fun b q hk hn => ok_move rfl hn.1, ob1 rfl fun b q hk hn => ok_ext2_0 rfl hn.1, ob1 rfl fun b q hk hn => ok_ext2_1 rfl hn.1, ob1 rfl fun b q hk hn => ok_assign rfl hn.1, ob1 rfl fun b q hk hn => ok_assign rfl hn.1, trivial⟩ hQQ517 fun b q p => ?_
    exact tail_done (k := q) (hp518 _ _ ⟨Bs.post ⟨hg, hs, hd⟩ p, out p 4 1 _ rfl rfl rfl, out p 5 2 _ rfl rfl rfl, trivial⟩)
  rintro a k ⟨⟨hg, hs, hd⟩, i1, i2, _⟩
  refine wp_seq ?_
  obtain ⟨x490_1, hx490_1, hr⟩ := bind_some hr
  refine cut (fun a' k' => Bs noF k0 134 a' k' ∧ (IsV x489_0.1) (a'.get 1) k' ∧ (IsV x489_0.2) (a'.get 2) k' ∧ (IsV x490_1.1) (a'.get 3) k' ∧ (IsV x490_1.2) (a'.get 4) k' ∧ True) ?_ hQ ?_
  · intro Q515 hQQ515 hp516
    refine regionS (a0 := a) (k0 := k) (n := 134) (m := 7) (⟨some (IsV ([4])), []⟩ :: ⟨some (IsTup2 (IsV x490_1.1) (IsV x490_1.2)), [(22, some 0)]⟩ :: ⟨some (IsTup2 (IsV x490_1.1) (IsV x490_1.2)), [(23, some 1)]⟩ :: ⟨some (IsV x490_1.1), [(21, some 2)]⟩ :: ⟨some (IsV x490_1.2), [(21, some 2)]⟩ :: ⟨some (IsV x490_1.1), [(24, some 3)]⟩ :: ⟨some (IsV x490_1.2), [(25, some 4)]⟩ :: []) hs (by kernel_rfl) ⟨ob1 rfl fun b q hk hn => ok_buildSlice rfl Try.underlying22 eo3 rfl (by decide) (by decide) ⟨rfl, (isV_int.2 rfl), trivial⟩, ob1 rfl fun b q hk hn => ok_call rfl Try.call9 (calAdd_ok hn.1 (isV_int.2 rfl) (isV_int.2 rfl) hx490_1), ob1 rfl fun b q hk hn => ok_move rfl hn.1, ob1 rfl fun b q hk hn => ok_ext2_0 rfl hn.1, ob1 rfl fun b q hk hn => ok_ext2_1 rfl hn.1, ob1 rfl fun b q hk hn => ok_assign rfl hn.1, ob1 rfl fun b q hk hn => ok_assign rfl hn.1, trivial⟩ hQQ515 fun b q p => ?_
    exact tail_done (k := q) (hp516 _ _ ⟨Bs.post ⟨hg, hs, hd⟩ p, keep p 1 rfl i1, keep p 2 rfl i2, out p 5 3 _ rfl rfl rfl, out p 6 4 _ rfl rfl rfl, trivial⟩)
  rintro a k ⟨⟨hg, hs, hd⟩, i1, i2, i3, i4, _⟩
  refine wp_seq ?_
  obtain ⟨x491_0, hx491_0, hr⟩ := bind_some hr
  refine cut (fun a' k' => Bs noF k0 134 a' k' ∧ (IsV x489_0.1) (a'.get 1) k' ∧ (IsV x489_0.2) (a'.get 2) k' ∧ (IsV x490_1.1) (a'.get 3) k' ∧ (IsV x490_1.2) (a'.get 4) k' ∧ (IsV x491_0.1) (a'.get 5) k' ∧ (IsV x491_0.2) (a'.get 6) k' ∧ True) ?_ hQ ?_
  · intro Q513 hQQ513 hp514
    refine regionS (a0 := a) (k0 := k) (n := 134) (m := 6) (⟨some (IsTup2 (IsV x491_0.1) (IsV x491_0.2)), []⟩ :: ⟨some (IsTup2 (IsV x491_0.1) (IsV x491_0.2)), [(27, some 0)]⟩ :: ⟨some (IsV x491_0.1), [(26, some 1)]⟩ :: ⟨some (IsV x491_0.2), [(26, some 1)]⟩ :: ⟨some (IsV x491_0.1), [(28, some 2)]⟩ :: ⟨some (IsV x491_0.2), [(29, some 3)]⟩ :: []) hs (by kernel_rfl) ⟨ob1 rfl fun b q hk hn => ok_call rfl Try.call9 (calAdd_ok (isV_list.2 (.inl ⟨rfl, rfl⟩)) (isV_int.2 rfl) (isV_int.2 rfl) hx491_0), ob1 rfl fun b q hk hn => ok_move rfl hn.1, ob1 rfl fun b q hk hn => ok_ext2_0 rfl hn.1, ob1 rfl fun b q hk hn => ok_ext2_1 rfl hn.1, ob1 rfl fun b q hk hn => ok_assign rfl hn.1, ob1 rfl fun b q hk hn => ok_assign rfl hn.1, trivial⟩ hQQ513 fun b q p => ?_
    exact tail_done (k := q) (hp514 _ _ ⟨Bs.post ⟨hg, hs, hd⟩ p, keep p 1 rfl i1, keep p 2 rfl i2, keep p 3 rfl i3, keep p 4 rfl i4, out p 4 5 _ rfl rfl rfl, out p 5 6 _ rfl rfl rfl, trivial⟩)
  rintro a k ⟨⟨hg, hs, hd⟩, i1, i2, i3, i4, i5, i6, _⟩
  refine wp_seq ?_
  obtain ⟨x492_2, hx492_2, hr⟩ := bind_some hr
  refine cut (fun a' k' => Bs noF k0 134 a' k' ∧ (IsV x489_0.1) (a'.get 1) k' ∧ (IsV x489_0.2) (a'.get 2) k' ∧ (IsV x490_1.1) (a'.get 3) k' ∧ (IsV x490_1.2) (a'.get 4) k' ∧ (IsV x491_0.1) (a'.get 5) k' ∧ (IsV x491_0.2) (a'.get 6) k' ∧ (IsV x492_2.1) (a'.get 7) k' ∧ (IsV x492_2.2) (a'.get 8) k' ∧ True) ?_ hQ ?_
  · intro Q511 hQQ511 hp512
    refine regionS (a0 := a) (k0 := k) (n := 134) (m := 8) (⟨some (IsV (⟨1, 8⟩ : Stay)), []⟩ :: ⟨some (IsV ([(⟨1, 8⟩ : Stay)])), [(31, some 0)]⟩ :: ⟨some (IsTup2 (IsV x492_2.1) (IsV x492_2.2)), [(32, some 1)]⟩ :: ⟨some (IsTup2 (IsV x492_2.1) (IsV x492_2.2)), [(33, some 2)]⟩ :: ⟨some (IsV x492_2.1), [(30, some 3)]⟩ :: ⟨some (IsV x492_2.2), [(30, some 3)]⟩ :: ⟨some (IsV x492_2.1), [(34, some 4)]⟩ :: ⟨some (IsV x492_2.2), [(35, some 5)]⟩ :: []) hs (by kernel_rfl) ⟨ob1 rfl fun b q hk hn => ok_build rfl (bld38_0_1 (isV_int.2 rfl) (isV_int.2 rfl)), ob1 rfl fun b q hk hn => ok_buildSlice rfl Try.underlying23 eo38 rfl (by decide) (by decide) ⟨rfl, hn.1, trivial⟩, ob1 rfl fun b q hk hn => ok_call rfl Try.call11 (calDeadline_ok (isV_list.2 (.inl ⟨rfl, rfl⟩)) hn.1 (isV_int.2 rfl) (isV_int.2 rfl) hx492_2), ob1 rfl fun b q hk hn => ok_move rfl hn.1, ob1 rfl fun b q hk hn => ok_ext2_0 rfl hn.1, ob1 rfl fun b q hk hn => ok_ext2_1 rfl hn.1, ob1 rfl fun b q hk hn => ok_assign rfl hn.1, ob1 rfl fun b q hk hn => ok_assign rfl hn.1, trivial⟩ hQQ511 fun b q p => ?_
    exact tail_done (k := q) (hp512 _ _ ⟨Bs.post ⟨hg, hs, hd⟩ p, keep p 1 rfl i1, keep p 2 rfl i2, keep p 3 rfl i3, keep p 4 rfl i4, keep p 5 rfl i5, keep p 6 rfl i6, out p 6 7 _ rfl rfl rfl, out p 7 8 _ rfl rfl rfl, trivial⟩)
  rintro a k ⟨⟨hg, hs, hd⟩, i1, i2, i3, i4, i5, i6, i7, i8, _⟩
  refine wp_seq ?_
  obtain ⟨x493_3, hx493_3, hr⟩ := bind_some hr
  refine cut (fun a' k' => Bs noF k0 134 a' k' ∧ (IsV x489_0.1) (a'.get 1) k' ∧ (IsV x489_0.2) (a'.get 2) k' ∧ (IsV x490_1.1) (a'.get 3) k' ∧ (IsV x490_1.2) (a'.get 4) k' ∧ (IsV x491_0.1) (a'.get 5) k' ∧ (IsV x491_0.2) (a'.get 6) k' ∧ (IsV x492_2.1) (a'.get 7) k' ∧ (IsV x492_2.2) (a'.get 8) k' ∧ (IsV x493_3.1) (a'.get 9) k' ∧ (IsV x493_3.2) (a'.get 10) k' ∧ True) ?_ hQ ?_
  · intro Q509 hQQ509 hp510
    refine regionS (a0 := a) (k0 := k) (n := 134) (m := 9) (⟨some (IsV (⟨1, 2⟩ : Stay)), []⟩ :: ⟨some (IsV (⟨2, 3⟩ : Stay)), []⟩ :: ⟨some (IsV ([(⟨1, 2⟩ : Stay), (⟨2, 3⟩ : Stay)])), [(37, some 0), (38, some 1)]⟩ :: ⟨some (IsTup2 (IsV x493_3.1) (IsV x493_3.2)), [(39, some 2)]⟩ :: ⟨some (IsTup2 (IsV x493_3.1) (IsV x493_3.2)), [(40, some 3)]⟩ :: ⟨some (IsV x493_3.1), [(36, some 4)]⟩ :: ⟨some (IsV x493_3.2), [(36, some 4)]⟩ :: ⟨some (IsV x493_3.1), [(41, some 5)]⟩ :: ⟨some (IsV x493_3.2), [(42, some 6)]⟩ :: []) hs (by kernel_rfl) ⟨ob1 rfl fun b q hk hn => ok_build rfl (bld38_0_1 (isV_int.2 rfl) (isV_int.2 rfl)), ob1 rfl fun b q hk hn => ok_build rfl (bld38_0_1 (isV_int.2 rfl) (isV_int.2 rfl)), ob1 rfl fun b q hk hn => ok_buildSlice rfl Try.underlying23 eo38 rfl (by decide) (by decide) ⟨rfl, hn.1, rfl, hn.2.1, trivial⟩, ob1 rfl fun b q hk hn => ok_call rfl Try.call11 (calDeadline_ok (isV_list.2 (.inl ⟨rfl, rfl⟩)) hn.1 (isV_int.2 rfl) (isV_int.2 rfl) hx493_3), ob1 rfl fun b q hk hn => ok_move rfl hn.1, ob1 rfl fun b q hk hn => ok_ext2_0 rfl hn.1, ob1 rfl fun b q hk hn => ok_ext2_1 rfl hn.1, ob1 rfl fun b q hk hn => ok_assign rfl hn.1, ob1 rfl fun b q hk hn => ok_assign rfl hn.1, trivial⟩ hQQ509 fun b q p => ?_
    exact tail_done (k := q) (hp510 _ _ ⟨Bs.post ⟨hg, hs, hd⟩ p, keep p 1 rfl i1, keep p 2 rfl i2, keep p 3 rfl i3, keep p 4 rfl i4, keep p 5 rfl i5, keep p 6 rfl i6, keep p 7 rfl i7, keep p 8 rfl i8, out p 7 9 _ rfl rfl rfl, out p 8 10 _ rfl rfl rfl, trivial⟩)
  rintro a k ⟨⟨hg, hs, hd⟩, i1, i2, i3, i4, i5, i6, i7, i8, i9, i10, _⟩
  refine wp_seq ?_
  obtain ⟨x494_0, hx494_0, hr⟩ := bind_some hr
  refine cut (fun a' k' => Bs noF k0 134 a' k' ∧ (IsV x489_0.1) (a'.get 1) k' ∧ (IsV x489_0.2) (a'.get 2) k' ∧ (IsV x490_1.1) (a'.get 3) k' ∧ (IsV x490_1.2) (a'.get 4) k' ∧ (IsV x491_0.1) (a'.get 5) k' ∧ (IsV x491_0.2) (a'.get 6) k' ∧ (IsV x492_2.1) (a'.get 7) k' ∧ (IsV x492_2.2) (a'.get 8) k' ∧ (IsV x493_3.1) (a'.get 9) k' ∧ (IsV x493_3.2) (a'.get 10) k' ∧ (IsV x494_0.2) (a'.get 12) k' ∧ True) ?_ hQ ?_
  · intro Q507 hQQ507 hp508
    refine regionS (a0 := a) (k0 := k) (n := 134) (m := 6) (⟨some (IsTup2 (IsV x494_0.1) (IsV x494_0.2)), []⟩ :: ⟨some (IsTup2 (IsV x494_0.1) (IsV x494_0.2)), [(44, some 0)]⟩ :: ⟨some (IsV x494_0.1), [(43, some 1)]⟩ :: ⟨some (IsV x494_0.2), [(43, some 1)]⟩ :: ⟨some (IsV x494_0.1), [(45, some 2)]⟩ :: ⟨some (IsV x494_0.2), [(46, some 3)]⟩ :: []) hs (by kernel_rfl) ⟨ob1 rfl fun b q hk hn => ok_call rfl Try.call9 (calAdd_ok (isV_list.2 (.inl ⟨rfl, rfl⟩)) (isV_int.2 rfl) (isV_int.2 rfl) hx494_0), ob1 rfl fun b q hk hn => ok_move rfl hn.1, ob1 rfl fun b q hk hn => ok_ext2_0 rfl hn.1, ob1 rfl fun b q hk hn => ok_ext2_1 rfl hn.1, ob1 rfl fun b q hk hn => ok_assign rfl hn.1, ob1 rfl fun b q hk hn => ok_assign rfl hn.1, trivial⟩ hQQ507 fun b q p => ?_
    exact tail_done (k := q) (hp508 _ _ ⟨Bs.post ⟨hg, hs, hd⟩ p, keep p 1 rfl i1, keep p 2 rfl i2, keep p 3 rfl i3, keep p 4 rfl i4, keep p 5 rfl i5, keep p 6 rfl i6, keep p 7 rfl i7, keep p 8 rfl i8, keep p 9 rfl i9, keep p 10 rfl i10, out p 5 12 _ rfl rfl rfl, trivial⟩)
  rintro a k ⟨⟨hg, hs, hd⟩, i1, i2, i3, i4, i5, i6, i7, i8, i9, i10, i12, _⟩
  refine wp_seq ?_
  obtain ⟨x495_0, hx495_0, hr⟩ := bind_some hr
  refine cut (fun a' k' => Bs noF k0 134 a' k' ∧ (IsV x489_0.1) (a'.get 1) k' ∧ (IsV x489_0.2) (a'.get 2) k' ∧ (IsV x490_1.1) (a'.get 3) k' ∧ (IsV x490_1.2) (a'.get 4) k' ∧ (IsV x491_0.1) (a'.get 5) k' ∧ (IsV x491_0.2) (a'.get 6) k' ∧ (IsV x492_2.1) (a'.get 7) k' ∧ (IsV x492_2.2) (a'.get 8) k' ∧ (IsV x493_3.1) (a'.get 9) k' ∧ (IsV x493_3.2) (a'.get 10) k' ∧ (IsV x494_0.2) (a'.get 12) k' ∧ (IsV x495_0.2) (a'.get 14) k' ∧ True) ?_ hQ ?_
  · intro Q505 hQQ505 hp506
    refine regionS (a0 := a) (k0 := k) (n := 134) (m := 6) (⟨some (IsTup2 (IsV x495_0.1) (IsV x495_0.2)), []⟩ :: ⟨some (IsTup2 (IsV x495_0.1) (IsV x495_0.2)), [(48, some 0)]⟩ :: ⟨some (IsV x495_0.1), [(47, some 1)]⟩ :: ⟨some (IsV x495_0.2), [(47, some 1)]⟩ :: ⟨some (IsV x495_0.1), [(49, some 2)]⟩ :: ⟨some (IsV x495_0.2), [(50, some 3)]⟩ :: []) hs (by kernel_rfl) ⟨ob1 rfl fun b q hk hn => ok_call rfl Try.call9 (calAdd_ok (isV_list.2 (.inl ⟨rfl, rfl⟩)) (isV_int.2 rfl) (isV_int.2 rfl) hx495_0), ob1 rfl fun b q hk hn => ok_move rfl hn.1, ob1 rfl fun b q hk hn => ok_ext2_0 rfl hn.1, ob1 rfl fun b q hk hn => ok_ext2_1 rfl hn.1, ob1 rfl fun b q hk hn => ok_assign rfl hn.1, ob1 rfl fun b q hk hn => ok_assign rfl hn.1, trivial⟩ hQQ505 fun b q p => ?_
    exact tail_done (k := q) (hp506 _ _ ⟨Bs.post ⟨hg, hs, hd⟩ p, keep p 1 rfl i1, keep p 2 rfl i2, keep p 3 rfl i3, keep p 4 rfl i4, keep p 5 rfl i5, keep p 6 rfl i6, keep p 7 rfl i7, keep p 8 rfl i8, keep p 9 rfl i9, keep p 10 rfl i10, keep p 12 rfl i12, out p 5 14 _ rfl rfl rfl, trivial⟩)
  rintro a k ⟨⟨hg, hs, hd⟩, i1, i2, i3, i4, i5, i6, i7, i8, i9, i10, i12, i14, _⟩
  refine wp_seq ?_
  obtain ⟨x496_0, hx496_0, hr⟩ := bind_some hr
  obtain ⟨x496_6, hx496_6, hr⟩ := bind_some hr
  obtain ⟨x496_4, hx496_4, hx496_6⟩ := ite_bind hx496_6
  obtain ⟨x496_10, hx496_10, hr⟩ := bind_some hr
  obtain ⟨x496_8, hx496_8, hx496_10⟩ := ite_bind hx496_10
  refine cut (fun a' k' => Bs noF k0 134 a' k' ∧ (IsV x492_2.1) (a'.get 7) k' ∧ (IsV x492_2.2) (a'.get 8) k' ∧ (IsV x493_3.1) (a'.get 9) k' ∧ (IsV x493_3.2) (a'.get 10) k' ∧ (IsV x494_0.2) (a'.get 12) k' ∧ (IsV x495_0.2) (a'.get 14) k' ∧ (IsV ((((((x496_10 && (x489_0.1 == 7)) && (x489_0.2 == 0)) && (x490_1.1 == 7)) && (x490_1.2 == 0)) && (x491_0.1 == 5)) && (x491_0.2 == 0))) (a'.get 15) k' ∧ True) ?_ hQ ?_
  · intro Q503 hQQ503 hp504
    refine regionS (a0 := a) (k0 := k) (n := 134) (m := 36) (⟨some (IsV x496_0), []⟩ :: ⟨some (IsV (x496_0 == 5)), [(51, some 0)]⟩ :: ⟨some (IsV (x496_0 == 5)), [(52, some 1)]⟩ :: ⟨some (Gd ((x496_0 == 5) = true) (IsV ([2, 5]))), []⟩ :: ⟨some (Gd ((x496_0 == 5) = true) (IsV x496_4)), [(54, some 3)]⟩ :: ⟨some (Gd ((x496_0 == 5) = true) (IsV (x496_4 == 4))), [(55, some 4)]⟩ :: ⟨some (IsV x496_6), [(53, some 2), (56, some 5)]⟩ :: ⟨some (IsV x496_6), [(57, some 6)]⟩ :: ⟨some (Gd (x496_6 = true) (IsV x496_8)), []⟩ :: ⟨some (Gd (x496_6 = true) (IsV (x496_8 == 0))), [(59, some 8)]⟩ :: ⟨some (IsV x496_10), [(58, some 7), (60, some 9)]⟩ :: ⟨some (IsV x496_10), [(61, some 10)]⟩ :: ⟨some (Gd (x496_10 = true) (IsV x489_0.1)), [(1, none)]⟩ :: ⟨some (Gd (x496_10 = true) (IsV (x489_0.1 == 7))), [(63, some 12)]⟩ :: ⟨some (IsV (x496_10 && (x489_0.1 == 7))), [(62, some 11), (64, some 13)]⟩ :: ⟨some (IsV (x496_10 && (x489_0.1 == 7))), [(65, some 14)]⟩ :: ⟨some (Gd ((x496_10 && (x489_0.1 == 7)) = true) (IsV x489_0.2)), [(2, none)]⟩ :: ⟨some (Gd ((x496_10 && (x489_0.1 == 7)) = true) (IsV (x489_0.2 == 0))), [(67, some 16)]⟩ :: ⟨some (IsV ((x496_10 && (x489_0.1 == 7)) && (x489_0.2 == 0))), [(66, some 15), (68, some 17)]⟩ :: ⟨some (IsV ((x496_10 && (x489_0.1 == 7)) && (x489_0.2 == 0))), [(69, some 18)]⟩ :: ⟨some (Gd (((x496_10 && (x489_0.1 == 7)) && (x489_0.2 == 0)) = true) (IsV x490_1.1)), [(3, none)]⟩ :: ⟨some (Gd (((x496_10 && (x489_0.1 == 7)) && (x489_0.2 == 0)) = true) (IsV (x490_1.1 == 7))), [(71, some 20)]⟩ :: ⟨some (IsV (((x496_10 && (x489_0.1 == 7)) && (x489_0.2 == 0)) && (x490_1.1 == 7))), [(70, some 19), (72, some 21)]⟩ :: ⟨some (IsV (((x496_10 && (x489_0.1 == 7)) && (x489_0.2 == 0)) && (x490_1.1 == 7))), [(73, some 22)]⟩ :: ⟨some (Gd ((((x496_10 && (x489_0.1 == 7)) && (x489_0.2 == 0)) && (x490_1.1 == 7)) = true) (IsV x490_1.2)), [(4, none)]⟩ :: ⟨some (Gd ((((x496_10 && (x489_0.1 == 7)) && (x489_0.2 == 0)) && (x490_1.1 == 7)) = true) (IsV (x490_1.2 == 0))), [(75, some 24)]⟩ :: ⟨some (IsV ((((x496_10 && (x489_0.1 == 7)) && (x489_0.2 == 0)) && (x490_1.1 == 7)) && (x490_1.2 == 0))), [(74, some 23), (76, some 25)]⟩ :: ⟨some (IsV ((((x496_10 && (x489_0.1 == 7)) && (x489_0.2 == 0)) && (x490_1.1 == 7)) && (x490_1.2 == 0))), [(77, some 26)]⟩ :: ⟨some (Gd (((((x496_10 && (x489_0.1 == 7)) && (x489_0.2 == 0)) && (x490_1.1 == 7)) && (x490_1.2 == 0)) = true) (IsV x491_0.1)), [(5, none)]⟩ :: ⟨some (Gd (((((x496_10 && (x489_0.1 == 7)) && (x489_0.2 == 0)) && (x490_1.1 == 7)) && (x490_1.2 == 0)) = true) (IsV (x491_0.1 == 5))), [(79, some 28)]⟩ :: ⟨some (IsV (((((x496_10 && (x489_0.1 == 7)) && (x489_0.2 == 0)) && (x490_1.1 == 7)) && (x490_1.2 == 0)) && (x491_0.1 == 5))), [(78, some 27), (80, some 29)]⟩ :: ⟨some (IsV (((((x496_10 && (x489_0.1 == 7)) && (x489_0.2 == 0)) && (x490_1.1 == 7)) && (x490_1.2 == 0)) && (x491_0.1 == 5))), [(81, some 30)]⟩ :: ⟨some (Gd ((((((x496_10 && (x489_0.1 == 7)) && (x489_0.2 == 0)) && (x490_1.1 == 7)) && (x490_1.2 == 0)) && (x491_0.1 == 5)) = true) (IsV x491_0.2)), [(6, none)]⟩ :: ⟨some (Gd ((((((x496_10 && (x489_0.1 == 7)) && (x489_0.2 == 0)) && (x490_1.1 == 7)) && (x490_1.2 == 0)) && (x491_0.1 == 5)) = true) (IsV (x491_0.2 == 0))), [(83, some 32)]⟩ :: ⟨some (IsV ((((((x496_10 && (x489_0.1 == 7)) && (x489_0.2 == 0)) && (x490_1.1 == 7)) && (x490_1.2 == 0)) && (x491_0.1 == 5)) && (x491_0.2 == 0))), [(82, some 31), (84, some 33)]⟩ :: ⟨some (IsV ((((((x496_10 && (x489_0.1 == 7)) && (x489_0.2 == 0)) && (x490_1.1 == 7)) && (x490_1.2 == 0)) && (x491_0.1 == 5)) && (x491_0.2 == 0))), [(85, some 34)]⟩ :: []) hs (by kernel_rfl) ⟨ob1 rfl fun b q hk hn => ok_call rfl Try.call19 (calBetween_ok (isV_list.2 (.inl ⟨rfl, rfl⟩)) (isV_int.2 rfl) (isV_int.2 rfl) hx496_0), ob1 rfl fun b q hk hn => ok_eqI rfl hn.1 (isV_int.2 rfl), ob1 rfl fun b q hk hn => ok_move rfl hn.1, gdT rfl rfl fun hp b q hk hn => ok_buildSlice rfl Try.underlying22 eo3 rfl (by decide) (by decide) ⟨rfl, (isV_int.2 rfl), rfl, (isV_int.2 rfl), trivial⟩, gdT rfl rfl fun hp b q hk hn => ok_call rfl Try.call19 (calBetween_ok (Gd.get hn.1 hp) (isV_int.2 rfl) (isV_int.2 rfl) (hx496_4 hp)), gdT rfl rfl fun hp b q hk hn => ok_eqI rfl (Gd.get hn.1 hp) (isV_int.2 rfl), ob1 rfl fun b q hk hn => ok_pickM rfl hn.1 hx496_6 (fun hm => (Gd.get hn.2.1 hm)) (fun _ => (isV_bool.2 rfl)), ob1 rfl fun b q hk hn => ok_move rfl hn.1, gdT rfl rfl fun hp b q hk hn => ok_call rfl Try.call19 (calBetween_ok (isV_list.2 (.inl ⟨rfl, rfl⟩)) (isV_int.2 rfl) (isV_int.2 rfl) (hx496_8 hp)), gdT rfl rfl fun hp b q hk hn => ok_eqI rfl (Gd.get hn.1 hp) (isV_int.2 rfl), ob1 rfl fun b q hk hn => ok_pickM rfl hn.1 hx496_10 (fun hm => (Gd.get hn.2.1 hm)) (fun _ => (isV_bool.2 rfl)), ob1 rfl fun b q hk hn => ok_move rfl hn.1, gdT rfl rfl fun hp b q hk hn => ok_move rfl (up i1 hk hn.1), gdT rfl rfl fun hp b q hk hn => ok_eqI rfl (Gd.get hn.1 hp) (isV_int.2 rfl), ob1 rfl fun b q hk hn => ok_pickAnd rfl hn.1 (fun hm => (Gd.get hn.2.1 hm)) (fun _ => (isV_bool.2 rfl)), ob1 rfl fun b q hk hn => ok_move rfl hn.1, gdT rfl rfl fun hp b q hk hn => ok_move rfl (up i2 hk hn.1), gdT rfl rfl fun hp b q hk hn => ok_eqI rfl (Gd.get hn.1 hp) (isV_int.2 rfl), ob1 rfl fun b q hk hn => ok_pickAnd rfl hn.1 (fun hm => (Gd.get hn.2.1 hm)) (fun _ => (isV_bool.2 rfl)), ob1 rfl fun b q hk hn => ok_move rfl hn.1, gdT rfl rfl fun hp b q hk hn => ok_move rfl (up i3 hk hn.1), gdT rfl rfl fun hp b q hk hn => ok_eqI rfl (Gd.get hn.1 hp) (isV_int.2 rfl), ob1 rfl fun b q hk hn => ok_pickAnd rfl hn.1 (fun hm => (Gd.get hn.2.1 hm)) (fun _ => (isV_bool.2 rfl)), ob1 rfl fun b q hk hn => ok_move rfl hn.1, gdT rfl rfl fun hp b q hk hn => ok_move rfl (up i4 hk hn.1), gdT rfl rfl fun hp b q hk hn => ok_eqI rfl (Gd.get hn.1 hp) (isV_int.2 rfl), ob1 rfl fun b q hk hn => ok_pickAnd rfl hn.1 (fun hm => (Gd.get hn.2.1 hm)) (fun _ => (isV_bool.2 rfl)), ob1 rfl fun b q hk hn => ok_move rfl hn.1, gdT rfl rfl fun hp b q hk hn => ok_move rfl (up i5 hk hn.1), gdT rfl rfl fun hp b q hk hn => ok_eqI rfl (Gd.get hn.1 hp) (isV_int.2 rfl), ob1 rfl fun b q hk hn => ok_pickAnd rfl hn.1 (fun hm => (Gd.get hn.2.1 hm)) (fun _ => (isV_bool.2 rfl)), ob1 rfl fun b q hk hn => ok_move rfl hn.1, gdT rfl rfl fun hp b q hk hn => ok_move rfl (up i6 hk hn.1), gdT rfl rfl fun hp b q hk hn => ok_eqI rfl (Gd.get hn.1 hp) (isV_int.2 rfl), ob1 rfl fun b q hk hn => ok_pickAnd rfl hn.1 (fun hm => (Gd.get hn.2.1 hm)) (fun _ => (isV_bool.2 rfl)), ob1 rfl fun b q hk hn => ok_assign rfl hn.1, trivial⟩ hQQ503 fun b q p => ?_
    exact tail_done (k := q) (hp504 _ _ ⟨Bs.post ⟨hg, hs, hd⟩ p, keep p 7 rfl i7, keep p 8 rfl i8, keep p 9 rfl i9, keep p 10 rfl i10, keep p 12 rfl i12, keep p 14 rfl i14, out p 35 15 _ rfl rfl rfl, trivial⟩)
  rintro a k ⟨⟨hg, hs, hd⟩, i7, i8, i9, i10, i12, i14, i15, _⟩
  refine wp_seq ?_
  refine cut (fun a' k' => Bs noF k0 134 a' k' ∧ (IsV ((((((x496_10 && (x489_0.1 == 7)) && (x489_0.2 == 0)) && (x490_1.1 == 7)) && (x490_1.2 == 0)) && (x491_0.1 == 5)) && (x491_0.2 == 0))) (a'.get 15) k' ∧ (IsV ((((((x492_2.1 == 9) && (x492_2.2 == 0)) && (x493_3.1 == 7)) && (x493_3.2 == 0)) && (x494_0.2 == 20)) && (x495_0.2 == 1))) (a'.get 16) k' ∧ True) ?_ hQ ?_
  · intro Q501 hQQ501 hp502
    refine regionS (a0 := a) (k0 := k) (n := 134) (m := 23) (⟨some (IsV x492_2.1), [(7, none)]⟩ :: ⟨some (IsV (x492_2.1 == 9)), [(86, some 0)]⟩ :: ⟨some (IsV (x492_2.1 == 9)), [(87, some 1)]⟩ :: ⟨some (Gd ((x492_2.1 == 9) = true) (IsV x492_2.2)), [(8, none)]⟩ :: ⟨some (Gd ((x492_2.1 == 9) = true) (IsV (x492_2.2 == 0))), [(89, some 3)]⟩ :: ⟨some (IsV ((x492_2.1 == 9) && (x492_2.2 == 0))), [(88, some 2), (90, some 4)]⟩ :: ⟨some (IsV ((x492_2.1 == 9) && (x492_2.2 == 0))), [(91, some 5)]⟩ :: ⟨some (Gd (((x492_2.1 == 9) && (x492_2.2 == 0)) = true) (IsV x493_3.1)), [(9, none)]⟩ :: ⟨some (Gd (((x492_2.1 == 9) && (x492_2.2 == 0)) = true) (IsV (x493_3.1 == 7))), [(93, some 7)]⟩ :: ⟨some (IsV (((x492_2.1 == 9) && (x492_2.2 == 0)) && (x493_3.1 == 7))), [(92, some 6), (94, some 8)]⟩ :: ⟨some (IsV (((x492_2.1 == 9) && (x492_2.2 == 0)) && (x493_3.1 == 7))), [(95, some 9)]⟩ :: ⟨some (Gd ((((x492_2.1 == 9) && (x492_2.2 == 0)) && (x493_3.1 == 7)) = true) (IsV x493_3.2)), [(10, none)]⟩ :: ⟨some (Gd ((((x492_2.1 == 9) && (x492_2.2 == 0)) && (x493_3.1 == 7)) = true) (IsV (x493_3.2 == 0))), [(97, some 11)]⟩ :: ⟨some (IsV ((((x492_2.1 == 9) && (x492_2.2 == 0)) && (x493_3.1 == 7)) && (x493_3.2 == 0))), [(96, some 10), (98, some 12)]⟩ :: ⟨some (IsV ((((x492_2.1 == 9) && (x492_2.2 == 0)) && (x493_3.1 == 7)) && (x493_3.2 == 0))), [(99, some 13)]⟩ :: ⟨some (Gd (((((x492_2.1 == 9) && (x492_2.2 == 0)) && (x493_3.1 == 7)) && (x493_3.2 == 0)) = true) (IsV x494_0.2)), [(12, none)]⟩ :: ⟨some (Gd (((((x492_2.1 == 9) && (x492_2.2 == 0)) && (x493_3.1 == 7)) && (x493_3.2 == 0)) = true) (IsV (x494_0.2 == 20))), [(101, some 15)]⟩ :: ⟨some (IsV (((((x492_2.1 == 9) && (x492_2.2 == 0)) && (x493_3.1 == 7)) && (x493_3.2 == 0)) && (x494_0.2 == 20))), [(100, some 14), (102, some 16)]⟩ :: ⟨some (IsV (((((x492_2.1 == 9) && (x492_2.2 == 0)) && (x493_3.1 == 7)) && (x493_3.2 == 0)) && (x494_0.2 == 20))), [(103, some 17)]⟩ :: ⟨some (Gd ((((((x492_2.1 == 9) && (x492_2.2 == 0)) && (x493_3.1 == 7)) && (x493_3.2 == 0)) && (x494_0.2 == 20)) = true) (IsV x495_0.2)), [(14, none)]⟩ :: ⟨some (Gd ((((((x492_2.1 == 9) && (x492_2.2 == 0)) && (x493_3.1 == 7)) && (x493_3.2 == 0)) && (x494_0.2 == 20)) = true) (IsV (x495_0.2 == 1))), [(105, some 19)]⟩ :: ⟨some (IsV ((((((x492_2.1 == 9) && (x492_2.2 == 0)) && (x493_3.1 == 7)) && (x493_3.2 == 0)) && (x494_0.2 == 20)) && (x495_0.2 == 1))), [(104, some 18), (106, some 20)]⟩ :: ⟨some (IsV ((((((x492_2.1 == 9) && (x492_2.2 == 0)) && (x493_3.1 == 7)) && (x493_3.2 == 0)) && (x494_0.2 == 20)) && (x495_0.2 == 1))), [(107, some 21)]⟩ :: []) hs (by kernel_rfl) ⟨ob1 rfl fun b q hk hn => ok_move rfl (up i7 hk hn.1), ob1 rfl fun b q hk hn => ok_eqI rfl hn.1 (isV_int.2 rfl), ob1 rfl fun b q hk hn => ok_move rfl hn.1, gdT rfl rfl fun hp b q hk hn => ok_move rfl (up i8 hk hn.1), gdT rfl rfl fun hp b q hk hn => ok_eqI rfl (Gd.get hn.1 hp) (isV_int.2 rfl), ob1 rfl fun b q hk hn => ok_pickAnd rfl hn.1 (fun hm => (Gd.get hn.2.1 hm)) (fun _ => (isV_bool.2 rfl)), ob1 rfl fun b q hk hn => ok_move rfl hn.1, gdT rfl rfl fun hp b q hk hn => ok_move rfl (up i9 hk hn.1), gdT rfl rfl fun hp b q hk hn => ok_eqI rfl (Gd.get hn.1 hp) (isV_int.2 rfl), ob1 rfl fun b q hk hn => ok_pickAnd rfl hn.1 (fun hm => (Gd.get hn.2.1 hm)) (fun _ => (isV_bool.2 rfl)), ob1 rfl fun b q hk hn => ok_move rfl hn.1, gdT rfl rfl fun hp b q hk hn => ok_move rfl (up i10 hk hn.1), gdT rfl rfl fun hp b q hk hn => ok_eqI rfl (Gd.get hn.1 hp) (isV_int.2 rfl), ob1 rfl fun b q hk hn => ok_pickAnd rfl hn.1 (fun hm => (Gd.get hn.2.1 hm)) (fun _ => (isV_bool.2 rfl)), ob1 rfl fun b q hk hn => ok_move rfl hn.1, gdT rfl rfl fun hp b q hk hn => ok_move rfl (up i12 hk hn.1), gdT rfl rfl fun hp b q hk hn => ok_eqI rfl (Gd.get hn.1 hp) (isV_int.2 rfl), ob1 rfl fun b q hk hn => ok_pickAnd rfl hn.1 (fun hm => (Gd.get hn.2.1 hm)) (fun _ => (isV_bool.2 rfl)), ob1 rfl fun b q hk hn => ok_move rfl hn.1, gdT rfl rfl fun hp b q hk hn => ok_move rfl (up i14 hk hn.1), gdT rfl rfl fun hp b q hk hn => ok_eqI rfl (Gd.get hn.1 hp) (isV_int.2 rfl), ob1 rfl fun b q hk hn => ok_pickAnd rfl hn.1 (fun hm => (Gd.get hn.2.1 hm)) (fun _ => (isV_bool.2 rfl)), ob1 rfl fun b q hk hn => ok_assign rfl hn.1, trivial⟩ hQQ501 fun b q p => ?_
    exact tail_done (k := q) (hp502 _ _ ⟨Bs.post ⟨hg, hs, hd⟩ p, keep p 15 rfl i15, out p 22 16 _ rfl rfl rfl, trivial⟩)
  rintro a k ⟨⟨hg, hs, hd⟩, i15, i16, _⟩
  refine wp_seq ?_
  obtain ⟨x498_7, hx498_7, hr⟩ := bind_some hr
  obtain ⟨x498_6, hx498_6, hx498_7⟩ := ite_bind hx498_7
  obtain ⟨x498_12, hx498_12, hr⟩ := bind_some hr
  obtain ⟨x498_10, hx498_10, hx498_12⟩ := ite_bind hx498_12
  obtain ⟨x498_15, hx498_15, hr⟩ := bind_some hr
  obtain ⟨x498_14, hx498_14, hx498_15⟩ := ite_bind hx498_15
  obtain ⟨x498_19, hx498_19, hr⟩ := bind_some hr
  obtain ⟨x498_17, hx498_17, hx498_19⟩ := ite_bind hx498_19
  obtain ⟨x498_25, hx498_25, hr⟩ := bind_some hr
  obtain ⟨x498_23, hx498_23, hx498_25⟩ := ite_bind hx498_25
  refine cut (fun a' k' => Bs noF k0 134 a' k' ∧ (IsV x498_25) (a'.get 0) k' ∧ True) ?_ hQ ?_
  · intro Q499 hQQ499 hp500
    refine regionS (a0 := a) (k0 := k) (n := 134) (m := 27) (⟨some (IsV ((((((x496_10 && (x489_0.1 == 7)) && (x489_0.2 == 0)) && (x490_1.1 == 7)) && (x490_1.2 == 0)) && (x491_0.1 == 5)) && (x491_0.2 == 0))), [(15, none)]⟩ :: ⟨some (IsV ((((((x496_10 && (x489_0.1 == 7)) && (x489_0.2 == 0)) && (x490_1.1 == 7)) && (x490_1.2 == 0)) && (x491_0.1 == 5)) && (x491_0.2 == 0))), [(108, some 0)]⟩ :: ⟨some (Gd (((((((x496_10 && (x489_0.1 == 7)) && (x489_0.2 == 0)) && (x490_1.1 == 7)) && (x490_1.2 == 0)) && (x491_0.1 == 5)) && (x491_0.2 == 0)) = true) (IsV ((((((x492_2.1 == 9) && (x492_2.2 == 0)) && (x493_3.1 == 7)) && (x493_3.2 == 0)) && (x494_0.2 == 20)) && (x495_0.2 == 1)))), [(16, none)]⟩ :: ⟨some (IsV (((((((x496_10 && (x489_0.1 == 7)) && (x489_0.2 == 0)) && (x490_1.1 == 7)) && (x490_1.2 == 0)) && (x491_0.1 == 5)) && (x491_0.2 == 0)) && ((((((x492_2.1 == 9) && (x492_2.2 == 0)) && (x493_3.1 == 7)) && (x493_3.2 == 0)) && (x494_0.2 == 20)) && (x495_0.2 == 1)))), [(109, some 1), (110, some 2)]⟩ :: ⟨some (IsV (((((((x496_10 && (x489_0.1 == 7)) && (x489_0.2 == 0)) && (x490_1.1 == 7)) && (x490_1.2 == 0)) && (x491_0.1 == 5)) && (x491_0.2 == 0)) && ((((((x492_2.1 == 9) && (x492_2.2 == 0)) && (x493_3.1 == 7)) && (x493_3.2 == 0)) && (x494_0.2 == 20)) && (x495_0.2 == 1)))), [(111, some 3)]⟩ :: ⟨some (Gd ((((((((x496_10 && (x489_0.1 == 7)) && (x489_0.2 == 0)) && (x490_1.1 == 7)) && (x490_1.2 == 0)) && (x491_0.1 == 5)) && (x491_0.2 == 0)) && ((((((x492_2.1 == 9) && (x492_2.2 == 0)) && (x493_3.1 == 7)) && (x493_3.2 == 0)) && (x494_0.2 == 20)) && (x495_0.2 == 1))) = true) (IsV ([1, 2]))), []⟩ :: ⟨some (Gd ((((((((x496_10 && (x489_0.1 == 7)) && (x489_0.2 == 0)) && (x490_1.1 == 7)) && (x490_1.2 == 0)) && (x491_0.1 == 5)) && (x491_0.2 == 0)) && ((((((x492_2.1 == 9) && (x492_2.2 == 0)) && (x493_3.1 == 7)) && (x493_3.2 == 0)) && (x494_0.2 == 20)) && (x495_0.2 == 1))) = true) (IsV x498_6)), [(113, some 5)]⟩ :: ⟨some (IsV x498_7), [(112, some 4), (114, some 6)]⟩ :: ⟨some (IsV x498_7), [(115, some 7)]⟩ :: ⟨some (Gd (x498_7 = true) (IsV ([2, 2]))), []⟩ :: ⟨some (Gd (x498_7 = true) (IsV x498_10)), [(117, some 9)]⟩ :: ⟨some (Gd (x498_7 = true) (IsV (!x498_10))), [(118, some 10)]⟩ :: ⟨some (IsV x498_12), [(116, some 8), (119, some 11)]⟩ :: ⟨some (IsV x498_12), [(120, some 12)]⟩ :: ⟨some (Gd (x498_12 = true) (IsV x498_14)), []⟩ :: ⟨some (IsV x498_15), [(121, some 13), (122, some 14)]⟩ :: ⟨some (IsV x498_15), [(123, some 15)]⟩ :: ⟨some (Gd (x498_15 = true) (IsV x498_17)), []⟩ :: ⟨some (Gd (x498_15 = true) (IsV (!x498_17))), [(125, some 17)]⟩ :: ⟨some (IsV x498_19), [(124, some 16), (126, some 18)]⟩ :: ⟨some (IsV x498_19), [(127, some 19)]⟩ :: ⟨some (Gd (x498_19 = true) (IsV (⟨4, 4⟩ : Stay))), []⟩ :: ⟨some (Gd (x498_19 = true) (IsV ([(⟨4, 4⟩ : Stay)]))), [(129, some 21)]⟩ :: ⟨some (Gd (x498_19 = true) (IsV x498_23)), [(130, some 22)]⟩ :: ⟨some (Gd (x498_19 = true) (IsV (!x498_23))), [(131, some 23)]⟩ :: ⟨some (IsV x498_25), [(128, some 20), (132, some 24)]⟩ :: ⟨some (IsV x498_25), [(133, some 25)]⟩ :: []) hs (by kernel_rfl) ⟨ob1 rfl fun b q hk hn => ok_move rfl (up i15 hk hn.1), ob1 rfl fun b q hk hn => ok_move rfl hn.1, gdT rfl rfl fun hp b q hk hn => ok_move rfl (up i16 hk hn.1), ob1 rfl fun b q hk hn => ok_pickAnd rfl hn.1 (fun hm => (Gd.get hn.2.1 hm)) (fun _ => (isV_bool.2 rfl)), ob1 rfl fun b q hk hn => ok_move rfl hn.1, gdT rfl rfl fun hp b q hk hn => ok_buildSlice rfl Try.underlying22 eo3 rfl (by decide) (by decide) ⟨rfl, (isV_int.2 rfl), rfl, (isV_int.2 rfl), trivial⟩, gdT rfl rfl fun hp b q hk hn => ok_call rfl Try.call13 (calRight_ok (Gd.get hn.1 hp) (hx498_6 hp)), ob1 rfl fun b q hk hn => ok_pickM rfl hn.1 hx498_7 (fun hm => (Gd.get hn.2.1 hm)) (fun _ => (isV_bool.2 rfl)), ob1 rfl fun b q hk hn => ok_move rfl hn.1, gdT rfl rfl fun hp b q hk hn => ok_buildSlice rfl Try.underlying22 eo3 rfl (by decide) (by decide) ⟨rfl, (isV_int.2 rfl), rfl, (isV_int.2 rfl), trivial⟩, gdT rfl rfl fun hp b q hk hn => ok_call rfl Try.call13 (calRight_ok (Gd.get hn.1 hp) (hx498_10 hp)), gdT rfl rfl fun hp b q hk hn => ok_not rfl (Gd.get hn.1 hp), ob1 rfl fun b q hk hn => ok_pickM rfl hn.1 hx498_12 (fun hm => (Gd.get hn.2.1 hm)) (fun _ => (isV_bool.2 rfl)), ob1 rfl fun b q hk hn => ok_move rfl hn.1, gdT rfl rfl fun hp b q hk hn => ok_call rfl Try.call15 (calIsWork_ok (isV_list.2 (.inl ⟨rfl, rfl⟩)) (isV_int.2 rfl) (hx498_14 hp)), ob1 rfl fun b q hk hn => ok_pickM rfl hn.1 hx498_15 (fun hm => (Gd.get hn.2.1 hm)) (fun _ => (isV_bool.2 rfl)), ob1 rfl fun b q hk hn => ok_move rfl hn.1, gdT rfl rfl fun hp b q hk hn => ok_call rfl Try.call15 (calIsWork_ok (isV_list.2 (.inl ⟨rfl, rfl⟩)) (isV_int.2 rfl) (hx498_17 hp)), gdT rfl rfl fun hp b q hk hn => ok_not rfl (Gd.get hn.1 hp), ob1 rfl fun b q hk hn => ok_pickM rfl hn.1 hx498_19 (fun hm => (Gd.get hn.2.1 hm)) (fun _ => (isV_bool.2 rfl)), ob1 rfl fun b q hk hn => ok_move rfl hn.1, gdT rfl rfl fun hp b q hk hn => ok_build rfl (bld38_0_1 (isV_int.2 rfl) (isV_int.2 rfl)), gdT rfl rfl fun hp b q hk hn => ok_buildSlice rfl Try.underlying23 eo38 rfl (by decide) (by decide) ⟨rfl, (Gd.get hn.1 hp), trivial⟩, gdT rfl rfl fun hp b q hk hn => ok_call rfl Try.call17 (calCounts_ok (isV_list.2 (.inl ⟨rfl, rfl⟩)) (Gd.get hn.1 hp) (isV_int.2 rfl) (hx498_23 hp)), gdT rfl rfl fun hp b q hk hn => ok_not rfl (Gd.get hn.1 hp), ob1 rfl fun b q hk hn => ok_pickM rfl hn.1 hx498_25 (fun hm => (Gd.get hn.2.1 hm)) (fun _ => (isV_bool.2 rfl)), ob1 rfl fun b q hk hn => ok_assign rfl hn.1, trivial⟩ hQQ499 fun b q p => ?_
    exact tail_done (k := q) (hp500 _ _ ⟨Bs.post ⟨hg, hs, hd⟩ p, out p 26 0 _ rfl rfl rfl, trivial⟩)
  rintro a k ⟨⟨hg, hs, hd⟩, i0, _⟩
  refine wp_ret ?_
  obtain rfl := Option.some.inj hr
  exact retC1 rfl hd hg i0
end Go.Proofs.Ytdpekblabnfjnaa
