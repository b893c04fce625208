/- What the functions compute that the law reaches, part 2 -/
import Derived.Test.YtdpekblabnfjnaaT1
namespace Go.Proofs.Ytdpekblabnfjnaa
open Go.Gb
set_option linter.unusedVariables false
set_option linter.unusedSimpArgs false
set_option maxRecDepth 100000
section
open Go.Proofs Go.RowKit Go.Lib Go.Sort Go.Shelf
def Try.sortStaysL_ren : Go.Shelf.Ren := ⟨fun | 6 => 39 | 15 => 47 | 14 => 46 | 28 => 58 | 29 => 59 | 20 => 50 | 21 => 51 | 22 => 52 | 23 => 53 | 24 => 54 | 25 => 55 | 26 => 56 | 27 => 57 | 46 => 60 | 47 => 61 | 48 => 62 | 49 => 63 | 50 => 64 | 57 => 65 | n => n, fun | 22 => 23 | 24 => 38 | 25 => 53 | 3 => 3 | 39 => 54 | 0 => 0 | 53 => 69 | 55 => 71 | 4 => 4 | 46 => 63 | 45 => 62 | 50 => 46 | 5 => 5 | 9 => 9 | 66 => 72 | 70 => 76 | 76 => 78 | 77 => 79 | n => n, fun | n => n⟩
theorem Try.sortStaysL : Go.Proofs.SlLaysF0.n6 Try.prog Try.sortStaysL_ren := {
  mixed := by kernel_rfl,
  f6 := ⟨Try.f39.name, by decide, Try.func39.trans (congrArg some (by kernel_rfl))⟩,
  f14 := ⟨Try.f46.name, by decide, Try.func46.trans (congrArg some (by kernel_rfl))⟩,
  f15 := Try.func47.trans (congrArg some (by kernel_rfl)),
  f20 := ⟨Try.f50.name, by decide, Try.func50.trans (congrArg some (by kernel_rfl))⟩,
  f21 := ⟨Try.f51.name, by decide, Try.func51.trans (congrArg some (by kernel_rfl))⟩,
  f22 := ⟨Try.f52.name, by decide, Try.func52.trans (congrArg some (by kernel_rfl))⟩,
  f23 := ⟨Try.f53.name, by decide, Try.func53.trans (congrArg some (by kernel_rfl))⟩,
  f24 := ⟨Try.f54.name, by decide, Try.func54.trans (congrArg some (by kernel_rfl))⟩,
  f25 := ⟨Try.f55.name, by decide, Try.func55.trans (congrArg some (by kernel_rfl))⟩,
  f26 := ⟨Try.f56.name, by decide, Try.func56.trans (congrArg some (by kernel_rfl))⟩,
  f27 := ⟨Try.f57.name, by decide, Try.func57.trans (congrArg some (by kernel_rfl))⟩,
  f28 := Try.func58.trans (congrArg some (by kernel_rfl)),
  f29 := Try.func59.trans (congrArg some (by kernel_rfl)),
  f46 := ⟨Try.f60.name, by decide, Try.func60.trans (congrArg some (by kernel_rfl))⟩,
  f47 := Try.func61.trans (congrArg some (by kernel_rfl)),
  f48 := Try.func62.trans (congrArg some (by kernel_rfl)),
  f49 := ⟨Try.f63.name, by decide, Try.func63.trans (congrArg some (by kernel_rfl))⟩,
  f50 := ⟨Try.f64.name, by decide, Try.func64.trans (congrArg some (by kernel_rfl))⟩,
  f57 := ⟨Try.f65.name, by decide, Try.func65.trans (congrArg some (by kernel_rfl))⟩,
  t0 := Try.underlying0,
  a0 := Try.isAgg0,
  z0 := Try.sizeOf0,
  v0 := Try.zeroValue0,
  t3 := Try.underlying3,
  a3 := Try.isAgg3,
  z3 := Try.sizeOf3,
  v3 := Try.zeroValue3,
  t4 := Try.underlying4,
  a4 := Try.isAgg4,
  z4 := Try.sizeOf4,
  v4 := Try.zeroValue4,
  t5 := Try.underlying5,
  a5 := Try.isAgg5,
  z5 := Try.sizeOf5,
  v5 := Try.zeroValue5,
  t9 := Try.underlying9,
  a9 := Try.isAgg9,
  z9 := Try.sizeOf9,
  v9 := Try.zeroValue9,
  t22 := Try.underlying23,
  a22 := Try.isAgg23,
  z22 := Try.sizeOf23,
  v22 := Try.zeroValue23,
  t25 := Try.underlying53,
  a25 := Try.isAgg53,
  z25 := Try.sizeOf53,
  v25 := Try.zeroValue53,
  t39 := Try.underlying54,
  a39 := Try.isAgg54,
  z39 := Try.sizeOf54,
  v39 := Try.zeroValue54,
  t45 := Try.underlying62,
  a45 := Try.isAgg62,
  z45 := Try.sizeOf62,
  v45 := Try.zeroValue62,
  t46 := Try.underlying63,
  a46 := Try.isAgg63,
  z46 := Try.sizeOf63,
  v46 := Try.zeroValue63,
  t50 := Try.underlying46,
  a50 := Try.isAgg46,
  z50 := Try.sizeOf46,
  v50 := Try.zeroValue46,
  t53 := Try.underlying69,
  a53 := Try.isAgg69,
  z53 := Try.sizeOf69,
  v53 := Try.zeroValue69,
  t55 := Try.underlying71,
  a55 := Try.isAgg71,
  z55 := Try.sizeOf71,
  v55 := Try.zeroValue71,
  t66 := Try.underlying72,
  a66 := Try.isAgg72,
  z66 := Try.sizeOf72,
  v66 := Try.zeroValue72,
  t70 := Try.underlying76,
  a70 := Try.isAgg76,
  z70 := Try.sizeOf76,
  v70 := Try.zeroValue76,
  t76 := Try.underlying78,
  a76 := Try.isAgg78,
  z76 := Try.sizeOf78,
  v76 := Try.zeroValue78,
  t77 := Try.underlying79,
  a77 := Try.isAgg79,
  z77 := Try.sizeOf79,
  v77 := Try.zeroValue79 }
instance : FlatE Stay := FlatE.ofMap fun x : Stay => (x.From, x.To)
/-- What the comparison of two stays hands back. -/
def stayCmp (x y : Stay) : Int := wrap64 (x.From - y.From)
/-- Stays whose days are days. -/
def StayIn (s : Stay) : Prop := 0 ≤ s.From ∧ s.From ≤ 1073741824
instance (s : Stay) : Decidable (StayIn s) := inferInstanceAs (Decidable (_ ∧ _))
abbrev StayG := {s : Stay // StayIn s}
instance : Inhabited StayG := ⟨⟨⟨0, 0⟩, by decide⟩⟩
def stayCmpG (x y : StayG) : Int := x.1.From - y.1.From
theorem ltOf_G (x y : StayG) : ltOf stayCmpG x y = decide (x.1.From < y.1.From) := by
  unfold ltOf stayCmpG
  congr 1
  rw [eq_iff_iff]
  omega
theorem stayCmpG_swo : SWO (ltOf stayCmpG) := by
  constructor <;> simp only [ltOf_G, decide_eq_true_eq, decide_eq_false_iff_not] <;> intros <;> omega
theorem stayCmpG_eq (x y : StayG) : stayCmp x.1 y.1 = stayCmpG x y := by
  have hx := x.2; have hy := y.2
  unfold StayIn at hx hy
  unfold stayCmp stayCmpG wrap64
  omega
def sortG (d : Array StayG) : Array StayG := pdq (ltOf stayCmpG) d 0 d.size (Lib.bitLen d.size) true true
theorem sortG_size (d : Array StayG) : (sortG d).size = d.size :=
  (pdq_sorts (ltOf stayCmpG) stayCmpG_swo d 0 d.size (Lib.bitLen d.size) true true (Nat.zero_le _) (Nat.le_refl _) (Or.inl rfl)).1.1
def sortStays (l : List Stay) : Option (List Stay) := if h : (∀ s ∈ l, StayIn s) ∧ l.length ≤ 1073741824 then some ((sortG (l.attachWith StayIn h.1).toArray).map (·.1)).toList else none
theorem sortStays_spec {l : List Stay} (hV : ∀ s ∈ l, StayIn s) (h : l.length ≤ 1000) : ∃ r, sortStays l = some r ∧ r.Perm l ∧ r.Pairwise fun a b => a.From ≤ b.From := by
  have hp := pdq_sorts (ltOf stayCmpG) stayCmpG_swo (l.attachWith StayIn hV).toArray 0 (l.attachWith StayIn hV).toArray.size (Lib.bitLen (l.attachWith StayIn hV).toArray.size) true true (Nat.zero_le _) (Nat.le_refl _) (Or.inl rfl)
  obtain ⟨⟨h1, _, h2⟩, h3⟩ := hp
  refine ⟨_, dif_pos ⟨hV, by omega⟩, ?_, ?_⟩
  · change _ = _ at h1
    change List.Perm _ _ at h2
    have e : (sortG (l.attachWith StayIn hV).toArray).extract 0 (l.attachWith StayIn hV).toArray.size = sortG (l.attachWith StayIn hV).toArray := by rw [← sortG_size]; simp
    change ((sortG (l.attachWith StayIn hV).toArray).extract 0 (l.attachWith StayIn hV).toArray.size).toList.Perm ((l.attachWith StayIn hV).toArray.extract 0 (l.attachWith StayIn hV).toArray.size).toList at h2
    rw [e] at h2
    have := h2.map (·.1)
    simpa using this
  · rw [Array.toList_map, List.pairwise_map, List.pairwise_iff_getElem]
    intro i j hi hj hij
    have := h3 i j (Nat.zero_le _) hij (by rw [← h1]; simpa [sortG] using hj)
    change ltOf stayCmpG (sortG (l.attachWith StayIn hV).toArray)[j]! (sortG (l.attachWith StayIn hV).toArray)[i]! = false at this
    rw [getElem!_pos _ j (by simpa using hj), getElem!_pos _ i (by simpa using hi)] at this
    rw [ltOf_G, decide_eq_false_iff_not] at this
    simp only [Array.getElem_toList]
    omega
set_option maxHeartbeats 1000000 in
theorem closure40 (x y : Stay) (W : World) : Calls Try.prog 40 #[.agg #[.int .i64 x.From, .int .i64 x.To], .agg #[.int .i64 y.From, .int .i64 y.To]] W fun e w' => e = .returned (.int .i64 (stayCmp x y)) ∧ ∃ q os', w' = grow (W.drewN q) os' := by
  unfold stayCmp
  go_enter Try.func40, Try.ntmps40
  go_wp2
  go_ret
  exact ⟨rfl, 0, _, by rw [alloc_eq_grow, alloc_eq_grow, grow_grow]; rfl⟩
theorem sortNone (p : Option Addr) (cap : Nat) (w : World) : Calls Try.prog 39 #[.slice p 0 cap, .func (.func 40) #[] #[]] w fun e w' => e = .returned (.tuple #[]) ∧ w' = w := by
  have hcon := AnyF.slices_SortFunc_none { Try.sortStaysL with } p cap (.func (.func 40) #[] #[]) w
  change Calls Try.prog 39 _ _ _ at hcon
  exact hcon
set_option maxHeartbeats 2000000 in
theorem sortStays_ok {k0 : K} {v0 : Value} {l r : List Stay} (i0 : IsOwn 0 38 l v0 k0) (hr : sortStays l = some r) :
    Calls Try.prog 39 #[v0, .func (.func 40) #[] #[]] k0.w (RetC (obF v0) k0 fun _ k' => IsOwn 0 38 r v0 k') := by
  unfold sortStays at hr
  split at hr
  · rename_i h
    obtain rfl := Option.some.inj hr
    have hat : l.toArray = ((l.attachWith StayIn h.1).toArray).map (·.1) := by simp
    refine (sort_rel (R := fun d => d = (sortG (l.attachWith StayIn h.1).toArray).map (·.1)) (fun d hd => by rw [hd]; simp [sortG_size]) (fun e => by subst e; exact (Array.eq_empty_of_size_eq_zero (by simp [sortG_size])).symm) sortNone (fun blk off cap w hH hblk => ?_) i0).mono ?_
    · rw [hat, holdsK_map (fun x => flat_len (α := Stay) k0 x)] at hH
      have hcon := AnyQ.slices_SortFunc_eq Try.sortStaysL 2 Try.isAgg38 Try.sizeOf38 (fun x : StayG => FlatE.enc x.1) (fun _ => rfl) (fun x v hv => flat_one k0 x.1 v hv) stayCmpG stayCmpG_swo 40 #[] blk off cap (l.attachWith StayIn h.1).toArray w (enters_of Try.func40 (by kernel_rfl) rfl)
        (fun _ _ _ _ x y => by rw [← stayCmpG_eq]; exact closure40 x.1 y.1 _) hH hblk (by simp; omega)
      change Calls Try.prog 39 _ _ _ at hcon
      rw [show (l.attachWith StayIn h.1).toArray.size = l.toArray.size by simp] at hcon
      refine hcon.mono ?_
      rintro e w' ⟨he, n, os, hw⟩
      refine ⟨he, _, rfl, n, os, ?_⟩
      rw [sortWorldK_map (fun x => flat_len (α := Stay) k0 x)]
      rw [hw]
      unfold sortG
      simp
      rfl
    · intro e w' h
      cases e with
      | returned v =>
        obtain ⟨k', hw, hch, d, rfl, hi⟩ := h
        exact ⟨k', hw, hch, hi⟩
      | _ => exact h
  · simp at hr
set_option maxHeartbeats 2000000 in
theorem sortAny_ok {k0 : K} {v0 : Value} {l : List Stay} (i0 : IsOwn 0 38 l v0 k0) (h : l.length ≤ 1073741824) :
    Calls Try.prog 39 #[v0, .func (.func 40) #[] #[]] k0.w (RetC (obF v0) k0 fun _ k' => ∃ r : List Stay, IsOwn 0 38 r v0 k') := by
  refine (sort_rel (R := fun d => d.size = l.length) (fun d hd => hd) (fun e => by subst e; rfl) sortNone (fun blk off cap w hH hblk => ?_) i0).mono ?_
  · have hcon := any_SortFunc Try.sortStaysL 2 Try.isAgg38 Try.sizeOf38 (FlatE.enc (α := Stay)) (fun _ => rfl) (fun x v hv => flat_one k0 x v hv) stayCmp 40 #[] blk off cap l.toArray w (enters_of Try.func40 (by kernel_rfl) rfl)
      (fun _ _ _ _ x y => closure40 x y _) hH hblk (by simp; omega)
    change Calls Try.prog 39 _ _ _ at hcon
    refine hcon.mono ?_
    rintro e w' ⟨he, d, hd, hw⟩
    exact ⟨he, d, by simpa using hd, hw⟩
  · intro e w' h
    cases e with
    | returned v =>
      obtain ⟨k', hw, hch, d, -, hi⟩ := h
      exact ⟨k', hw, hch, _, hi⟩
    | _ => exact h
end

def isDay (n_ : Int) : Option (Bool) :=
 some ((decide (0 ≤ n_)) && (decide (n_ ≤ 1073741824)))
theorem isDay_ok {k0 : K} {v0 : Value} {n_ : Int} {r : Bool} (i0 : (IsV n_) v0 k0) (hr : isDay n_ = some r) :
  Calls Try.prog 26 #[v0] k0.w (Ret k0 (IsV r)) := by
 unfold isDay at hr
 refine Ret.ofC ?_
 refine enterK Try.func26 rfl Try.ntmps26 (show 1 ≤ 9 by decide) fun a k hk0 hs hd ha => ?_
 obtain ⟨e0, _⟩ := ha
 replace i0 : (IsV n_) (a.get 0) k := by rw [e0, hk0]; exact i0
 have hQ : Gb.LetsOut (bodyPost Try.prog Try.f26 (RetC noF k0 (IsV r))) := letsOutC
 have hg : Chg noF k0 k := by rw [hk0]; exact Chg.refl _ k0
 refine stepL 1 (⟨some (IsV false), []⟩ :: []) rfl ⟨hg, hs, hd⟩ (by kernel_rfl) ⟨ob1 rfl fun _ _ h n => ok_assign rfl (isV_bool.2 rfl), trivial⟩ [⟨_, _⟩] (fun b q p => ⟨p.ke 0 rfl i0, trivial⟩) ?_
 rintro a k ⟨⟨hg, hs, hd⟩, i0, _⟩
 refine stepL 7 (_ :: _ :: _ :: _ :: _ :: _ :: _ :: []) rfl ⟨hg, hs, hd⟩ (by kernel_rfl) ⟨mu rfl i0, o1 [(3, some 0)] rfl fun _ _ h n => ok_leq rfl (cI rfl) n.1, cm 1 rfl rfl, mT rfl rfl i0, gT [(6, some 3)] rfl rfl fun hp _ _ h n => ok_leq rfl (Gd.get n.1 hp) (cI rfl), o1 [(5, some 2), (7, some 4)] rfl fun _ _ h n => ok_pickAnd rfl n.1 (Gd.get n.2.1) (cB rfl), cp 5 rfl rfl, trivial⟩ [⟨_, _⟩] (fun b q p => ⟨p.ou 6 2 rfl, trivial⟩) ?_
 rintro a k ⟨⟨hg, hs, hd⟩, i2, _⟩
 refine wp_ret ?_
 obtain rfl := Option.some.inj hr
 exact retC1 rfl hd hg i2
def calRight_L0 (holidays_ : (List Int)) (s1 : Int) : Option (Flow (Int) (Bool)) :=
 if (decide (s1 < (holidays_.length : Int))) then
  (getI holidays_ s1).bind fun x1 =>
  (isDay x1).bind fun x2 =>
  (if (!x2) then
   some true
  else
   (if (decide (0 < s1)) then
    (subI s1 1).bind fun x3 =>
    (getI holidays_ x3).bind fun x4 =>
    some (decide (x1 ≤ x4))
   else
    some false).bind fun x5 =>
   some x5).bind fun x6 =>
  if x6 then
   some (.ret false)
  else
   (addI s1 1).bind fun x7 =>
   some (.go x7)
 else
  some (.ex 0 s1)
def calRight (holidays_ : (List Int)) : Option (Bool) :=
 if (decide (1000 < (holidays_.length : Int))) then
  some false
 else
  (iterL (calRight_L0 holidays_) (holidays_.length + 1) 0).bind fun f1 => match f1 with
   | .go _ => none
   | .ex _ _ =>
    some true
   | .ret r1 => some r1
theorem calRight_ok {k0 : K} {v0 : Value} {holidays_ : (List Int)} {r : Bool} (i0 : (IsV holidays_) v0 k0) (hr : calRight holidays_ = some r) :
  Calls Try.prog 13 #[v0] k0.w (Ret k0 (IsV r)) := by
 unfold calRight at hr
 refine Ret.ofC ?_
 refine enterK Try.func13 rfl Try.ntmps13 (show 1 ≤ 32 by decide) fun a k hk0 hs hd ha => ?_
 obtain ⟨e0, _⟩ := ha
 replace i0 : (IsV holidays_) (a.get 0) k := by rw [e0, hk0]; exact i0
 have hQ : Gb.LetsOut (bodyPost Try.prog Try.f13 (RetC noF k0 (IsV r))) := letsOutC
 have hg : Chg noF k0 k := by rw [hk0]; exact Chg.refl _ k0
 refine stepL 1 (⟨some (IsV false), []⟩ :: []) rfl ⟨hg, hs, hd⟩ (by kernel_rfl) ⟨ob1 rfl fun _ _ h n => ok_assign rfl (isV_bool.2 rfl), trivial⟩ [⟨_, _⟩] (fun b q p => ⟨p.ke 0 rfl i0, trivial⟩) ?_
 rintro a k ⟨⟨hg, hs, hd⟩, i0, _⟩
 refine wp_seq ?_
 refine stepL 3 (_ :: _ :: _ :: []) rfl ⟨hg, hs, hd⟩ (by kernel_rfl) ⟨mu rfl i0, o1 [(5, some 0)] rfl fun _ _ h n => ok_len rfl rfl Try.underlying22 (IsV.rd n.1), o1 [(6, some 1)] rfl fun _ _ h n => ok_gtr rfl n.1 (cI rfl), trivial⟩ [⟨_, _⟩, ⟨_, _⟩] (fun b q p => ⟨p.ke 0 rfl i0, p.ou 2 7 rfl, trivial⟩) ?_
 rintro a k ⟨⟨hg, hs, hd⟩, i0, i7, _⟩
 refine wp_cond_split (isBool i7) (fun hc43 => ?_) (fun hc43 => ?_)
 ·rw [if_pos hc43] at hr
  refine stepL 1 (⟨some (IsV false), []⟩ :: []) rfl ⟨hg, hs, hd⟩ (by kernel_rfl) ⟨ob1 rfl fun _ _ h n => ok_assign rfl (isV_bool.2 rfl), trivial⟩ [⟨_, _⟩] (fun b q p => ⟨p.ou 0 2 rfl, trivial⟩) ?_
  rintro a k ⟨⟨hg, hs, hd⟩, i2, _⟩
  refine wp_ret ?_
  obtain rfl := Option.some.inj hr
  exact retC1 rfl hd hg i2
 rw [if_neg (by rw [hc43]; decide)] at hr
 refine wp_skip ?_
 refine wp_seq ?_
 refine stepL 3 (_ :: _ :: ⟨some (IsI 0), []⟩ :: []) rfl ⟨hg, hs, hd⟩ (by kernel_rfl) ⟨mu rfl i0, o1 [(8, some 0)] rfl fun _ _ h n => ok_len rfl rfl Try.underlying22 (IsV.rd n.1), ob1 rfl fun _ _ h n => ok_move rfl (cI rfl), trivial⟩ [⟨_, _⟩, ⟨_, _⟩, ⟨_, _⟩, ⟨_, _⟩] (fun b q p => ⟨p.ke 0 rfl i0, p.ou 0 8 rfl, p.ou 1 9 rfl, p.ou 2 10 rfl, trivial⟩) ?_
 rintro a k ⟨⟨hg, hs, hd⟩, i0, i8, i9, i10, _⟩
 refine wp_block ?_
 obtain ⟨f1, hf1, hr⟩ := bind_some hr
 refine cutFe f1 (fun s' c l => Bs noF k0 32 c l ∧ IsV holidays_ (c.get 0) l ∧ IsV holidays_ (c.get 8) l ∧ IsL holidays_ (c.get 9) l ∧ IsV s' (c.get 10) l ∧ True) (fun i' s' c l => (i' = 0 ∧ Bs noF k0 32 c l ∧ True)) (fun r' c l => bodyPost Try.prog Try.f13 (RetC noF k0 (IsV r')) .ret c l.w) ?_ hQ ?_ ?_ ?_
 ·intro Q1 W1 hgo hex hret
  refine sim_loop ?_ _ _ _ _ _ hf1 ⟨⟨hg, hs, hd⟩, i0, i8, i9, i10, trivial⟩ Q1 W1 hgo hex hret
  clear hr hf1 hgo hex hret W1 hQ hg hs hd i0 i10 i8 i9
  intro s1 fl_ a k hr hS Q hQ hgo14 hex15 hret16
  obtain ⟨⟨hg, hs, hd⟩, i0, i8, i9, i10, _⟩ := hS
  unfold calRight_L0 at hr
  refine stepL 1 (_ :: []) rfl ⟨hg, hs, hd⟩ (by kernel_rfl) ⟨o1 [(10, none), (9, none)] rfl fun _ _ h n => ok_lss rfl (up i10 h n.1) (up i9 h n.2.1), trivial⟩ [⟨_, _⟩, ⟨_, _⟩, ⟨_, _⟩, ⟨_, _⟩, ⟨_, _⟩] (fun b q p => ⟨p.ke 0 rfl i0, p.ke 8 rfl i8, p.ke 9 rfl i9, p.ke 10 rfl i10, p.ou 0 11 rfl, trivial⟩) ?_
  rintro a k ⟨⟨hg, hs, hd⟩, i0, i8, i9, i10, i11, _⟩
  refine wp_seq ?_
  refine wp_cond_split (isBool i11) (fun hc31 => ?_) (fun hc31 => ?_)
  ·rw [if_pos hc31] at hr
   refine wp_skip ?_
   refine wp_seq ?_
   refine wp_block ?_
   refine wp_seq ?_
   obtain ⟨x1, hx1, hr⟩ := bind_some hr
   refine cut (fun a' k' => Bs noF k0 32 a' k' ∧ (IsV holidays_) (a'.get 0) k' ∧ (IsV s1) (a'.get 3) k' ∧ (IsV x1) (a'.get 4) k' ∧ (IsV holidays_) (a'.get 8) k' ∧ (IsL holidays_) (a'.get 9) k' ∧ (IsV s1) (a'.get 10) k' ∧ True) ?_ hQ ?_
   ·intro Q2 W2 w1
    refine gS 5 (_ :: _ :: _ :: _ :: _ :: []) hs (by kernel_rfl) ⟨mu rfl i10, o1 [(8, none), (10, none)] rfl fun _ _ h n => ok_indexAddr rfl Try.underlying22 ty3 (IsV.rd (up i8 h n.1)) (up i10 h n.2.1) hx1, o1 [(13, some 1)] rfl fun _ _ h n => ok_load rfl ty3 n.1, cp 0 rfl rfl, cp 2 rfl rfl, trivial⟩ W2 fun b q p => ?_
    exact tail_done (k := q) (w1 _ _ ⟨Bs.post ⟨hg, hs, hd⟩ p, p.ke 0 rfl i0, p.ou 3 3 rfl, p.ou 4 4 rfl, p.ke 8 rfl i8, p.ke 9 rfl i9, p.ke 10 rfl i10, trivial⟩)
   rintro a k ⟨⟨hg, hs, hd⟩, i0, i3, i4, i8, i9, i10, _⟩
   refine wp_seq ?_
   obtain ⟨x2, hx2, hr⟩ := bind_some hr
   obtain ⟨x3, hx3, hr⟩ := bind_some hr
   obtain ⟨x4, hx4, hx3⟩ := ite_bindF hx3
   obtain ⟨x5, hx5, hx4⟩ := ite_bindP hx4
   obtain ⟨x6, hx6, hx4⟩ := ite_bindP hx4
   refine cut (fun a' k' => Bs noF k0 32 a' k' ∧ (IsV holidays_) (a'.get 0) k' ∧ (IsV holidays_) (a'.get 8) k' ∧ (IsL holidays_) (a'.get 9) k' ∧ (IsV s1) (a'.get 10) k' ∧ (IsV x3) (a'.get 30) k' ∧ True) ?_ hQ ?_
   ·intro Q3 W3 w2
    refine gS 16 (_ :: _ :: _ :: _ :: _ :: _ :: ⟨some (Gd ((!x2) = false) (IsV (decide (0 < s1)))), [(20, some 5)]⟩ :: ⟨some (Gd (((!x2) = false) ∧ (decide (0 < s1)) = true) (IsV x1)), [(4, none)]⟩ :: ⟨some (Gd (((!x2) = false) ∧ (decide (0 < s1)) = true) (IsV holidays_)), [(0, none)]⟩ :: ⟨some (Gd (((!x2) = false) ∧ (decide (0 < s1)) = true) (IsV s1)), [(3, none)]⟩ :: ⟨some (Gd (((!x2) = false) ∧ (decide (0 < s1)) = true) (IsV x5)), [(24, some 9)]⟩ :: ⟨some (Gd (((!x2) = false) ∧ (decide (0 < s1)) = true) (IsPtr x6)), [(23, some 8), (25, some 10)]⟩ :: ⟨some (Gd (((!x2) = false) ∧ (decide (0 < s1)) = true) (IsV x6)), [(26, some 11)]⟩ :: ⟨some (Gd (((!x2) = false) ∧ (decide (0 < s1)) = true) (IsV (decide (x1 ≤ x6)))), [(22, some 7), (27, some 12)]⟩ :: _ :: _ :: []) hs (by kernel_rfl) ⟨mu rfl i4, o1 [(15, some 0)] rfl fun _ _ h n => ok_call rfl Try.call26 (isDay_ok n.1 hx2), o1 [(16, some 1)] rfl fun _ _ h n => ok_not rfl n.1, cm 2 rfl rfl, mF rfl rfl i3, gF [(19, some 4)] rfl rfl fun hp _ _ h n => ok_gtr rfl (Gd.get n.1 hp) (cI rfl), gdF rfl rfl fun hp _ _ h n => ok_move rfl (Gd.get n.1 hp), gdTT rfl rfl fun hp b q h n => ok_move rfl (up i4 h n.1), gdTT rfl rfl fun hp b q h n => ok_move rfl (up i0 h n.1), gdTT rfl rfl fun hp b q h n => ok_move rfl (up i3 h n.1), gdTT rfl rfl fun hp b q h n => ok_sub rfl (Gd.get n.1 hp) (cI rfl) (hx5 hp), gdTT rfl rfl fun hp b q h n => ok_indexAddr rfl Try.underlying22 ty3 (IsV.rd (Gd.get n.1 hp)) (Gd.get n.2.1 hp) (hx6 hp), gdTT rfl rfl fun hp b q h n => ok_load rfl ty3 (Gd.get n.1 hp), gdTT rfl rfl fun hp b q h n => ok_leq rfl (Gd.get n.1 hp) (Gd.get n.2.1 hp), gF [(21, some 6), (28, some 13)] rfl rfl fun hp _ _ h n => ok_pickM rfl (Gd.get n.1 hp) (hx4 hp) (fun hm => (Gd.get n.2.1 ⟨hp, hm⟩)) (cB rfl), o1 [(18, some 3), (29, some 14)] rfl fun _ _ h n => ok_pickM rfl n.1 hx3 (cB rfl) (Gd.get n.2.1), trivial⟩ W3 fun b q p => ?_
    exact tail_done (k := q) (w2 _ _ ⟨Bs.post ⟨hg, hs, hd⟩ p, p.ke 0 rfl i0, p.ke 8 rfl i8, p.ke 9 rfl i9, p.ke 10 rfl i10, p.ou 15 30 rfl, trivial⟩)
   rintro a k ⟨⟨hg, hs, hd⟩, i0, i8, i9, i10, i30, _⟩
   refine wp_cond_split (isBool i30) (fun hc26 => ?_) (fun hc26 => ?_)
   ·rw [if_pos hc26] at hr
    refine stepL 1 (⟨some (IsV false), []⟩ :: []) rfl ⟨hg, hs, hd⟩ (by kernel_rfl) ⟨ob1 rfl fun _ _ h n => ok_assign rfl (isV_bool.2 rfl), trivial⟩ [⟨_, _⟩] (fun b q p => ⟨p.ou 0 2 rfl, trivial⟩) ?_
    rintro a k ⟨⟨hg, hs, hd⟩, i2, _⟩
    refine wp_ret ?_
    exact hret16 _ _ _ (Option.some.inj hr).symm (retC1 rfl hd hg i2)
   rw [if_neg (by rw [hc26]; decide)] at hr
   refine wp_skip ?_
   obtain ⟨x7, hx7, hr⟩ := bind_some hr
   refine cut (fun a' k' => Bs noF k0 32 a' k' ∧ (IsV holidays_) (a'.get 0) k' ∧ (IsV holidays_) (a'.get 8) k' ∧ (IsL holidays_) (a'.get 9) k' ∧ (IsV x7) (a'.get 10) k' ∧ True) ?_ hQ ?_
   ·intro Q4 W4 w3
    refine gS 2 (_ :: _ :: []) hs (by kernel_rfl) ⟨o1 [(10, none)] rfl fun _ _ h n => ok_add rfl (up i10 h n.1) (cI rfl) hx7, cm 0 rfl rfl, trivial⟩ W4 fun b q p => ?_
    exact tail_done (k := q) (w3 _ _ ⟨Bs.post ⟨hg, hs, hd⟩ p, p.ke 0 rfl i0, p.ke 8 rfl i8, p.ke 9 rfl i9, p.ou 1 10 rfl, trivial⟩)
   rintro a k ⟨⟨hg, hs, hd⟩, i0, i8, i9, i10, _⟩
   exact hgo14 _ _ _ (Option.some.inj hr).symm ⟨⟨hg, hs, hd⟩, i0, i8, i9, i10, trivial⟩
  rw [if_neg (by rw [hc31]; decide)] at hr
  refine wp_exit ?_
  exact hex15 _ _ _ _ (Option.some.inj hr).symm ⟨rfl, ⟨hg, hs, hd⟩, trivial⟩
 ·rintro r1 a k rfl hR
  dsimp only at hr
  obtain rfl := Option.some.inj hr
  exact hR
 ·rintro _ _ _ rfl _
  simp at hr
 clear hf1
 rintro _ s2 a k rfl ⟨rfl, ⟨hg, hs, hd⟩, _⟩
 dsimp only at hr
 refine stepL 1 (⟨some (IsV true), []⟩ :: []) rfl ⟨hg, hs, hd⟩ (by kernel_rfl) ⟨ob1 rfl fun _ _ h n => ok_assign rfl (isV_bool.2 rfl), trivial⟩ [⟨_, _⟩] (fun b q p => ⟨p.ou 0 2 rfl, trivial⟩) ?_
 rintro a k ⟨⟨hg, hs, hd⟩, i2, _⟩
 refine wp_ret ?_
 obtain rfl := Option.some.inj hr
 exact retC1 rfl hd hg i2
def rIn (day_ : Int) : Option (Bool) :=
 some ((decide (0 ≤ day_)) && (decide (day_ ≤ 1073741824)))
theorem rIn_ok {k0 : K} {v0 : Value} {day_ : Int} {r : Bool} (i0 : (IsV day_) v0 k0) (hr : rIn day_ = some r) :
  Calls Try.prog 31 #[v0] k0.w (Ret k0 (IsV r)) := by
 unfold rIn at hr
 refine Ret.ofC ?_
 refine enterK Try.func31 rfl Try.ntmps31 (show 1 ≤ 9 by decide) fun a k hk0 hs hd ha => ?_
 obtain ⟨e0, _⟩ := ha
 replace i0 : (IsV day_) (a.get 0) k := by rw [e0, hk0]; exact i0
 have hQ : Gb.LetsOut (bodyPost Try.prog Try.f31 (RetC noF k0 (IsV r))) := letsOutC
 have hg : Chg noF k0 k := by rw [hk0]; exact Chg.refl _ k0
 refine stepL 1 (⟨some (IsV false), []⟩ :: []) rfl ⟨hg, hs, hd⟩ (by kernel_rfl) ⟨ob1 rfl fun _ _ h n => ok_assign rfl (isV_bool.2 rfl), trivial⟩ [⟨_, _⟩] (fun b q p => ⟨p.ke 0 rfl i0, trivial⟩) ?_
 rintro a k ⟨⟨hg, hs, hd⟩, i0, _⟩
 refine stepL 7 (_ :: _ :: _ :: _ :: _ :: _ :: _ :: []) rfl ⟨hg, hs, hd⟩ (by kernel_rfl) ⟨mu rfl i0, o1 [(3, some 0)] rfl fun _ _ h n => ok_geq rfl n.1 (cI rfl), cm 1 rfl rfl, mT rfl rfl i0, gT [(6, some 3)] rfl rfl fun hp _ _ h n => ok_leq rfl (Gd.get n.1 hp) (cI rfl), o1 [(5, some 2), (7, some 4)] rfl fun _ _ h n => ok_pickAnd rfl n.1 (Gd.get n.2.1) (cB rfl), cp 5 rfl rfl, trivial⟩ [⟨_, _⟩] (fun b q p => ⟨p.ou 6 2 rfl, trivial⟩) ?_
 rintro a k ⟨⟨hg, hs, hd⟩, i2, _⟩
 refine wp_ret ?_
 obtain rfl := Option.some.inj hr
 exact retC1 rfl hd hg i2
def rRight_L0 (holidays_ : (List Int)) (s1 : Int) : Option (Flow (Int) (Bool)) :=
 if (decide (s1 < (holidays_.length : Int))) then
  (getI holidays_ s1).bind fun x1 =>
  (rIn x1).bind fun x2 =>
  (if (!x2) then
   some true
  else
   (if (decide (0 < s1)) then
    (subI s1 1).bind fun x3 =>
    (getI holidays_ x3).bind fun x4 =>
    (getI holidays_ s1).bind fun x5 =>
    some (decide (x5 ≤ x4))
   else
    some false).bind fun x6 =>
   some x6).bind fun x7 =>
  if x7 then
   some (.ret false)
  else
   (addI s1 1).bind fun x8 =>
   some (.go x8)
 else
  some (.ex 0 s1)
def rRight (holidays_ : (List Int)) : Option (Bool) :=
 (iterL (rRight_L0 holidays_) (holidays_.length + 1) 0).bind fun f1 => match f1 with
  | .go _ => none
  | .ex _ _ =>
   some (decide ((holidays_.length : Int) ≤ 1000))
  | .ret r1 => some r1
theorem rRight_ok {k0 : K} {v0 : Value} {holidays_ : (List Int)} {r : Bool} (i0 : (IsV holidays_) v0 k0) (hr : rRight holidays_ = some r) :
  Calls Try.prog 14 #[v0] k0.w (Ret k0 (IsV r)) := by
 unfold rRight at hr
 refine Ret.ofC ?_
 refine enterK Try.func14 rfl Try.ntmps14 (show 1 ≤ 35 by decide) fun a k hk0 hs hd ha => ?_
 obtain ⟨e0, _⟩ := ha
 replace i0 : (IsV holidays_) (a.get 0) k := by rw [e0, hk0]; exact i0
 have hQ : Gb.LetsOut (bodyPost Try.prog Try.f14 (RetC noF k0 (IsV r))) := letsOutC
 have hg : Chg noF k0 k := by rw [hk0]; exact Chg.refl _ k0
 refine stepL 1 (⟨some (IsV false), []⟩ :: []) rfl ⟨hg, hs, hd⟩ (by kernel_rfl) ⟨ob1 rfl fun _ _ h n => ok_assign rfl (isV_bool.2 rfl), trivial⟩ [⟨_, _⟩] (fun b q p => ⟨p.ke 0 rfl i0, trivial⟩) ?_
 rintro a k ⟨⟨hg, hs, hd⟩, i0, _⟩
 refine wp_seq ?_
 refine stepL 1 (⟨some (IsI 0), []⟩ :: []) rfl ⟨hg, hs, hd⟩ (by kernel_rfl) ⟨aI rfl rfl, trivial⟩ [⟨_, _⟩, ⟨_, _⟩] (fun b q p => ⟨p.ke 0 rfl i0, p.ou 0 3 rfl, trivial⟩) ?_
 rintro a k ⟨⟨hg, hs, hd⟩, i0, i3, _⟩
 refine wp_block ?_
 obtain ⟨f1, hf1, hr⟩ := bind_some hr
 refine cutFe f1 (fun s' c l => Bs noF k0 35 c l ∧ IsV holidays_ (c.get 0) l ∧ IsV s' (c.get 3) l ∧ True) (fun i' s' c l => (i' = 0 ∧ Bs noF k0 35 c l ∧ IsV holidays_ (c.get 0) l ∧ True)) (fun r' c l => bodyPost Try.prog Try.f14 (RetC noF k0 (IsV r')) .ret c l.w) ?_ hQ ?_ ?_ ?_
 ·intro Q1 W1 hgo hex hret
  refine sim_loop ?_ _ _ _ _ _ hf1 ⟨⟨hg, hs, hd⟩, i0, i3, trivial⟩ Q1 W1 hgo hex hret
  clear hr hf1 hgo hex hret W1 hQ hg hs hd i0 i3
  intro s1 fl_ a k hr hS Q hQ hgo57 hex58 hret59
  obtain ⟨⟨hg, hs, hd⟩, i0, i3, _⟩ := hS
  unfold rRight_L0 at hr
  refine wp_seq ?_
  refine stepL 4 (_ :: _ :: _ :: _ :: []) rfl ⟨hg, hs, hd⟩ (by kernel_rfl) ⟨mu rfl i3, mu rfl i0, o1 [(5, some 1)] rfl fun _ _ h n => ok_len rfl rfl Try.underlying22 (IsV.rd n.1), o1 [(4, some 0), (6, some 2)] rfl fun _ _ h n => ok_lss rfl n.1 n.2.1, trivial⟩ [⟨_, _⟩, ⟨_, _⟩, ⟨_, _⟩] (fun b q p => ⟨p.ke 0 rfl i0, p.ke 3 rfl i3, p.ou 3 7 rfl, trivial⟩) ?_
  rintro a k ⟨⟨hg, hs, hd⟩, i0, i3, i7, _⟩
  refine wp_cond_split (isBool i7) (fun hc71 => ?_) (fun hc71 => ?_)
  ·rw [if_pos hc71] at hr
   refine wp_skip ?_
   refine wp_seq ?_
   refine wp_block ?_
   refine wp_seq ?_
   obtain ⟨x1, hx1, hr⟩ := bind_some hr
   obtain ⟨x2, hx2, hr⟩ := bind_some hr
   obtain ⟨x3, hx3, hr⟩ := bind_some hr
   obtain ⟨x4, hx4, hx3⟩ := ite_bindF hx3
   obtain ⟨x5, hx5, hx4⟩ := ite_bindP hx4
   obtain ⟨x6, hx6, hx4⟩ := ite_bindP hx4
   obtain ⟨x7, hx7, hx4⟩ := ite_bindP hx4
   refine cut (fun a' k' => Bs noF k0 35 a' k' ∧ (IsV holidays_) (a'.get 0) k' ∧ (IsV s1) (a'.get 3) k' ∧ (IsV x3) (a'.get 31) k' ∧ True) ?_ hQ ?_
   ·intro Q2 W2 w1
    refine region (m := 22) (_ :: _ :: _ :: _ :: _ :: _ :: _ :: _ :: _ :: ⟨some (Gd ((!x2) = false) (IsV (decide (0 < s1)))), [(18, some 8)]⟩ :: ⟨some (Gd (((!x2) = false) ∧ (decide (0 < s1)) = true) (IsV holidays_)), [(0, none)]⟩ :: ⟨some (Gd (((!x2) = false) ∧ (decide (0 < s1)) = true) (IsV s1)), [(3, none)]⟩ :: ⟨some (Gd (((!x2) = false) ∧ (decide (0 < s1)) = true) (IsV x5)), [(21, some 11)]⟩ :: ⟨some (Gd (((!x2) = false) ∧ (decide (0 < s1)) = true) (IsPtr x6)), [(20, some 10), (22, some 12)]⟩ :: ⟨some (Gd (((!x2) = false) ∧ (decide (0 < s1)) = true) (IsV x6)), [(23, some 13)]⟩ :: ⟨some (Gd (((!x2) = false) ∧ (decide (0 < s1)) = true) (IsV holidays_)), [(0, none)]⟩ :: ⟨some (Gd (((!x2) = false) ∧ (decide (0 < s1)) = true) (IsV s1)), [(3, none)]⟩ :: ⟨some (Gd (((!x2) = false) ∧ (decide (0 < s1)) = true) (IsPtr x7)), [(25, some 15), (26, some 16)]⟩ :: ⟨some (Gd (((!x2) = false) ∧ (decide (0 < s1)) = true) (IsV x7)), [(27, some 17)]⟩ :: ⟨some (Gd (((!x2) = false) ∧ (decide (0 < s1)) = true) (IsV (decide (x7 ≤ x6)))), [(24, some 14), (28, some 18)]⟩ :: _ :: _ :: []) hmix hs (by kernel_rfl) ⟨mu rfl i0, mu rfl i3, o1 [(10, some 0), (11, some 1)] rfl fun _ _ h n => ok_indexAddr rfl Try.underlying22 ty3 (IsV.rd n.1) n.2.1 hx1, o1 [(12, some 2)] rfl fun _ _ h n => ok_load rfl ty3 n.1, o1 [(13, some 3)] rfl fun _ _ h n => ok_call rfl Try.call31 (rIn_ok n.1 hx2), o1 [(14, some 4)] rfl fun _ _ h n => ok_not rfl n.1, cm 5 rfl rfl, mF rfl rfl i3, gF [(17, some 7)] rfl rfl fun hp _ _ h n => ok_gtr rfl (Gd.get n.1 hp) (cI rfl), gdF rfl rfl fun hp _ _ h n => ok_move rfl (Gd.get n.1 hp), gdTT rfl rfl fun hp b q h n => ok_move rfl (up i0 h n.1), gdTT rfl rfl fun hp b q h n => ok_move rfl (up i3 h n.1), gdTT rfl rfl fun hp b q h n => ok_sub rfl (Gd.get n.1 hp) (cI rfl) (hx5 hp), gdTT rfl rfl fun hp b q h n => ok_indexAddr rfl Try.underlying22 ty3 (IsV.rd (Gd.get n.1 hp)) (Gd.get n.2.1 hp) (hx6 hp), gdTT rfl rfl fun hp b q h n => ok_load rfl ty3 (Gd.get n.1 hp), gdTT rfl rfl fun hp b q h n => ok_move rfl (up i0 h n.1), gdTT rfl rfl fun hp b q h n => ok_move rfl (up i3 h n.1), gdTT rfl rfl fun hp b q h n => ok_indexAddr rfl Try.underlying22 ty3 (IsV.rd (Gd.get n.1 hp)) (Gd.get n.2.1 hp) (hx7 hp), gdTT rfl rfl fun hp b q h n => ok_load rfl ty3 (Gd.get n.1 hp), gdTT rfl rfl fun hp b q h n => ok_geq rfl (Gd.get n.1 hp) (Gd.get n.2.1 hp), gF [(19, some 9), (29, some 19)] rfl rfl fun hp _ _ h n => ok_pickM rfl (Gd.get n.1 hp) (hx4 hp) (fun hm => (Gd.get n.2.1 ⟨hp, hm⟩)) (cB rfl), o1 [(16, some 6), (30, some 20)] rfl fun _ _ h n => ok_pickM rfl n.1 hx3 (cB rfl) (Gd.get n.2.1), trivial⟩ W2 fun b q p => ?_
    exact tail_done (k := q) (w1 _ _ ⟨Bs.post ⟨hg, hs, hd⟩ p, p.ke 0 rfl i0, p.ke 3 rfl i3, p.ou 21 31 rfl, trivial⟩)
   rintro a k ⟨⟨hg, hs, hd⟩, i0, i3, i31, _⟩
   refine wp_cond_split (isBool i31) (fun hc68 => ?_) (fun hc68 => ?_)
   ·rw [if_pos hc68] at hr
    refine stepL 1 (⟨some (IsV false), []⟩ :: []) rfl ⟨hg, hs, hd⟩ (by kernel_rfl) ⟨ob1 rfl fun _ _ h n => ok_assign rfl (isV_bool.2 rfl), trivial⟩ [⟨_, _⟩] (fun b q p => ⟨p.ou 0 2 rfl, trivial⟩) ?_
    rintro a k ⟨⟨hg, hs, hd⟩, i2, _⟩
    refine wp_ret ?_
    exact hret59 _ _ _ (Option.some.inj hr).symm (retC1 rfl hd hg i2)
   rw [if_neg (by rw [hc68]; decide)] at hr
   refine wp_skip ?_
   obtain ⟨x8, hx8, hr⟩ := bind_some hr
   refine cut (fun a' k' => Bs noF k0 35 a' k' ∧ (IsV holidays_) (a'.get 0) k' ∧ (IsV x8) (a'.get 3) k' ∧ True) ?_ hQ ?_
   ·intro Q3 W3 w2
    refine gS 3 (_ :: _ :: _ :: []) hs (by kernel_rfl) ⟨mu rfl i3, o1 [(8, some 0)] rfl fun _ _ h n => ok_add rfl n.1 (cI rfl) hx8, cp 1 rfl rfl, trivial⟩ W3 fun b q p => ?_
    exact tail_done (k := q) (w2 _ _ ⟨Bs.post ⟨hg, hs, hd⟩ p, p.ke 0 rfl i0, p.ou 2 3 rfl, trivial⟩)
   rintro a k ⟨⟨hg, hs, hd⟩, i0, i3, _⟩
   exact hgo57 _ _ _ (Option.some.inj hr).symm ⟨⟨hg, hs, hd⟩, i0, i3, trivial⟩
  rw [if_neg (by rw [hc71]; decide)] at hr
  refine wp_exit ?_
  exact hex58 _ _ _ _ (Option.some.inj hr).symm ⟨rfl, ⟨hg, hs, hd⟩, i0, trivial⟩
 ·rintro r1 a k rfl hR
  dsimp only at hr
  obtain rfl := Option.some.inj hr
  exact hR
 ·rintro _ _ _ rfl _
  simp at hr
 clear hf1
 rintro _ s2 a k rfl ⟨rfl, ⟨hg, hs, hd⟩, i0, _⟩
 dsimp only at hr
 refine stepL 4 (_ :: _ :: _ :: _ :: []) rfl ⟨hg, hs, hd⟩ (by kernel_rfl) ⟨mu rfl i0, o1 [(32, some 0)] rfl fun _ _ h n => ok_len rfl rfl Try.underlying22 (IsV.rd n.1), o1 [(33, some 1)] rfl fun _ _ h n => ok_leq rfl n.1 (cI rfl), cp 2 rfl rfl, trivial⟩ [⟨_, _⟩] (fun b q p => ⟨p.ou 3 2 rfl, trivial⟩) ?_
 rintro a k ⟨⟨hg, hs, hd⟩, i2, _⟩
 refine wp_ret ?_
 obtain rfl := Option.some.inj hr
 exact retC1 rfl hd hg i2
def rightStays_L0 (l_ : (List Stay)) (s1 : Int) : Option (Flow (Int) (Bool)) :=
 if (decide (s1 < (l_.length : Int))) then
  (getI l_ s1).bind fun x1 =>
  (if (decide (x1.From < 0)) then
   some true
  else
   (getI l_ s1).bind fun x2 =>
   (getI l_ s1).bind fun x3 =>
   some (decide (x3.To < x2.From))).bind fun x4 =>
  (if x4 then
   some true
  else
   (getI l_ s1).bind fun x5 =>
   some (decide (1073741824 < x5.To))).bind fun x6 =>
  if x6 then
   some (.ret false)
  else
   (addI s1 1).bind fun x7 =>
   some (.go x7)
 else
  some (.ex 0 s1)
def rightStays (l_ : (List Stay)) : Option (Bool) :=
 (iterL (rightStays_L0 l_) (l_.length + 1) 0).bind fun f1 => match f1 with
  | .go _ => none
  | .ex _ _ =>
   some (decide ((l_.length : Int) ≤ 100))
  | .ret r1 => some r1
theorem rightStays_ok {k0 : K} {v0 : Value} {l_ : (List Stay)} {r : Bool} (i0 : (IsV l_) v0 k0) (hr : rightStays l_ = some r) :
  Calls Try.prog 30 #[v0] k0.w (Ret k0 (IsV r)) := by
 unfold rightStays at hr
 refine Ret.ofC ?_
 refine enterK Try.func30 rfl Try.ntmps30 (show 1 ≤ 40 by decide) fun a k hk0 hs hd ha => ?_
 obtain ⟨e0, _⟩ := ha
 replace i0 : (IsV l_) (a.get 0) k := by rw [e0, hk0]; exact i0
 have hQ : Gb.LetsOut (bodyPost Try.prog Try.f30 (RetC noF k0 (IsV r))) := letsOutC
 have hg : Chg noF k0 k := by rw [hk0]; exact Chg.refl _ k0
 refine stepL 1 (⟨some (IsV false), []⟩ :: []) rfl ⟨hg, hs, hd⟩ (by kernel_rfl) ⟨ob1 rfl fun _ _ h n => ok_assign rfl (isV_bool.2 rfl), trivial⟩ [⟨_, _⟩] (fun b q p => ⟨p.ke 0 rfl i0, trivial⟩) ?_
 rintro a k ⟨⟨hg, hs, hd⟩, i0, _⟩
 refine wp_seq ?_
 refine stepL 1 (⟨some (IsI 0), []⟩ :: []) rfl ⟨hg, hs, hd⟩ (by kernel_rfl) ⟨aI rfl rfl, trivial⟩ [⟨_, _⟩, ⟨_, _⟩] (fun b q p => ⟨p.ke 0 rfl i0, p.ou 0 3 rfl, trivial⟩) ?_
 rintro a k ⟨⟨hg, hs, hd⟩, i0, i3, _⟩
 refine wp_block ?_
 obtain ⟨f1, hf1, hr⟩ := bind_some hr
 refine cutFe f1 (fun s' c l => Bs noF k0 40 c l ∧ IsV l_ (c.get 0) l ∧ IsV s' (c.get 3) l ∧ True) (fun i' s' c l => (i' = 0 ∧ Bs noF k0 40 c l ∧ IsV l_ (c.get 0) l ∧ True)) (fun r' c l => bodyPost Try.prog Try.f30 (RetC noF k0 (IsV r')) .ret c l.w) ?_ hQ ?_ ?_ ?_
 ·intro Q1 W1 hgo hex hret
  refine sim_loop ?_ _ _ _ _ _ hf1 ⟨⟨hg, hs, hd⟩, i0, i3, trivial⟩ Q1 W1 hgo hex hret
  clear hr hf1 hgo hex hret W1 hQ hg hs hd i0 i3
  intro s1 fl_ a k hr hS Q hQ hgo88 hex89 hret90
  obtain ⟨⟨hg, hs, hd⟩, i0, i3, _⟩ := hS
  unfold rightStays_L0 at hr
  refine wp_seq ?_
  refine stepL 4 (_ :: _ :: _ :: _ :: []) rfl ⟨hg, hs, hd⟩ (by kernel_rfl) ⟨mu rfl i3, mu rfl i0, o1 [(5, some 1)] rfl fun _ _ h n => ok_len rfl rfl Try.underlying23 (IsV.rd n.1), o1 [(4, some 0), (6, some 2)] rfl fun _ _ h n => ok_lss rfl n.1 n.2.1, trivial⟩ [⟨_, _⟩, ⟨_, _⟩, ⟨_, _⟩] (fun b q p => ⟨p.ke 0 rfl i0, p.ke 3 rfl i3, p.ou 3 7 rfl, trivial⟩) ?_
  rintro a k ⟨⟨hg, hs, hd⟩, i0, i3, i7, _⟩
  refine wp_cond_split (isBool i7) (fun hc102 => ?_) (fun hc102 => ?_)
  ·rw [if_pos hc102] at hr
   refine wp_skip ?_
   refine wp_seq ?_
   refine wp_block ?_
   refine wp_seq ?_
   obtain ⟨x1, hx1, hr⟩ := bind_some hr
   obtain ⟨x2, hx2, hr⟩ := bind_some hr
   obtain ⟨x3, hx3, hx2⟩ := ite_bindF hx2
   obtain ⟨x4, hx4, hx2⟩ := ite_bindF hx2
   obtain ⟨x5, hx5, hr⟩ := bind_some hr
   obtain ⟨x6, hx6, hx5⟩ := ite_bindF hx5
   refine cut (fun a' k' => Bs noF k0 40 a' k' ∧ (IsV l_) (a'.get 0) k' ∧ (IsV s1) (a'.get 3) k' ∧ (IsV x5) (a'.get 36) k' ∧ True) ?_ hQ ?_
   ·intro Q2 W2 w1
    refine region (m := 27) (_ :: _ :: _ :: _ :: _ :: _ :: _ :: _ :: _ :: _ :: _ :: _ :: _ :: _ :: _ :: _ :: _ :: _ :: _ :: _ :: _ :: _ :: _ :: _ :: _ :: _ :: _ :: []) hmix hs (by kernel_rfl) ⟨mu rfl i0, mu rfl i3, o1 [(10, some 0), (11, some 1)] rfl fun _ _ h n => ok_indexAddr rfl Try.underlying23 ty38 (IsV.rd n.1) n.2.1 hx1, o1 [(12, some 2)] rfl fun _ _ h n => ok_fieldAddr rfl fo38_0 (at_Stay_0 _) n.1, o1 [(13, some 3)] rfl fun _ _ h n => ok_load rfl ty3 n.1, o1 [(14, some 4)] rfl fun _ _ h n => ok_lss rfl n.1 (cI rfl), cm 5 rfl rfl, mF rfl rfl i0, mF rfl rfl i3, gF [(17, some 7), (18, some 8)] rfl rfl fun hp _ _ h n => ok_indexAddr rfl Try.underlying23 ty38 (IsV.rd (Gd.get n.1 hp)) (Gd.get n.2.1 hp) (hx3 hp), gF [(19, some 9)] rfl rfl fun hp _ _ h n => ok_fieldAddr rfl fo38_0 (at_Stay_0 _) (Gd.get n.1 hp), gF [(20, some 10)] rfl rfl fun hp _ _ h n => ok_load rfl ty3 (Gd.get n.1 hp), mF rfl rfl i0, mF rfl rfl i3, gF [(22, some 12), (23, some 13)] rfl rfl fun hp _ _ h n => ok_indexAddr rfl Try.underlying23 ty38 (IsV.rd (Gd.get n.1 hp)) (Gd.get n.2.1 hp) (hx4 hp), gF [(24, some 14)] rfl rfl fun hp _ _ h n => ok_fieldAddr rfl fo38_1 (at_Stay_1 _) (Gd.get n.1 hp), gF [(25, some 15)] rfl rfl fun hp _ _ h n => ok_load rfl ty3 (Gd.get n.1 hp), gF [(21, some 11), (26, some 16)] rfl rfl fun hp _ _ h n => ok_gtr rfl (Gd.get n.1 hp) (Gd.get n.2.1 hp), o1 [(16, some 6), (27, some 17)] rfl fun _ _ h n => ok_pickM rfl n.1 hx2 (cB rfl) (Gd.get n.2.1), cm 18 rfl rfl, mF rfl rfl i0, mF rfl rfl i3, gF [(30, some 20), (31, some 21)] rfl rfl fun hp _ _ h n => ok_indexAddr rfl Try.underlying23 ty38 (IsV.rd (Gd.get n.1 hp)) (Gd.get n.2.1 hp) (hx6 hp), gF [(32, some 22)] rfl rfl fun hp _ _ h n => ok_fieldAddr rfl fo38_1 (at_Stay_1 _) (Gd.get n.1 hp), gF [(33, some 23)] rfl rfl fun hp _ _ h n => ok_load rfl ty3 (Gd.get n.1 hp), gF [(34, some 24)] rfl rfl fun hp _ _ h n => ok_gtr rfl (Gd.get n.1 hp) (cI rfl), o1 [(29, some 19), (35, some 25)] rfl fun _ _ h n => ok_pickM rfl n.1 hx5 (cB rfl) (Gd.get n.2.1), trivial⟩ W2 fun b q p => ?_
    exact tail_done (k := q) (w1 _ _ ⟨Bs.post ⟨hg, hs, hd⟩ p, p.ke 0 rfl i0, p.ke 3 rfl i3, p.ou 26 36 rfl, trivial⟩)
   rintro a k ⟨⟨hg, hs, hd⟩, i0, i3, i36, _⟩
   refine wp_cond_split (isBool i36) (fun hc99 => ?_) (fun hc99 => ?_)
   ·rw [if_pos hc99] at hr
    refine stepL 1 (⟨some (IsV false), []⟩ :: []) rfl ⟨hg, hs, hd⟩ (by kernel_rfl) ⟨ob1 rfl fun _ _ h n => ok_assign rfl (isV_bool.2 rfl), trivial⟩ [⟨_, _⟩] (fun b q p => ⟨p.ou 0 2 rfl, trivial⟩) ?_
    rintro a k ⟨⟨hg, hs, hd⟩, i2, _⟩
    refine wp_ret ?_
    exact hret90 _ _ _ (Option.some.inj hr).symm (retC1 rfl hd hg i2)
   rw [if_neg (by rw [hc99]; decide)] at hr
   refine wp_skip ?_
   obtain ⟨x7, hx7, hr⟩ := bind_some hr
   refine cut (fun a' k' => Bs noF k0 40 a' k' ∧ (IsV l_) (a'.get 0) k' ∧ (IsV x7) (a'.get 3) k' ∧ True) ?_ hQ ?_
   ·intro Q3 W3 w2
    refine gS 3 (_ :: _ :: _ :: []) hs (by kernel_rfl) ⟨mu rfl i3, o1 [(8, some 0)] rfl fun _ _ h n => ok_add rfl n.1 (cI rfl) hx7, cp 1 rfl rfl, trivial⟩ W3 fun b q p => ?_
    exact tail_done (k := q) (w2 _ _ ⟨Bs.post ⟨hg, hs, hd⟩ p, p.ke 0 rfl i0, p.ou 2 3 rfl, trivial⟩)
   rintro a k ⟨⟨hg, hs, hd⟩, i0, i3, _⟩
   exact hgo88 _ _ _ (Option.some.inj hr).symm ⟨⟨hg, hs, hd⟩, i0, i3, trivial⟩
  rw [if_neg (by rw [hc102]; decide)] at hr
  refine wp_exit ?_
  exact hex89 _ _ _ _ (Option.some.inj hr).symm ⟨rfl, ⟨hg, hs, hd⟩, i0, trivial⟩
 ·rintro r1 a k rfl hR
  dsimp only at hr
  obtain rfl := Option.some.inj hr
  exact hR
 ·rintro _ _ _ rfl _
  simp at hr
 clear hf1
 rintro _ s2 a k rfl ⟨rfl, ⟨hg, hs, hd⟩, i0, _⟩
 dsimp only at hr
 refine stepL 4 (_ :: _ :: _ :: _ :: []) rfl ⟨hg, hs, hd⟩ (by kernel_rfl) ⟨mu rfl i0, o1 [(37, some 0)] rfl fun _ _ h n => ok_len rfl rfl Try.underlying23 (IsV.rd n.1), o1 [(38, some 1)] rfl fun _ _ h n => ok_leq rfl n.1 (cI rfl), cp 2 rfl rfl, trivial⟩ [⟨_, _⟩] (fun b q p => ⟨p.ou 3 2 rfl, trivial⟩) ?_
 rintro a k ⟨⟨hg, hs, hd⟩, i2, _⟩
 refine wp_ret ?_
 obtain rfl := Option.some.inj hr
 exact retC1 rfl hd hg i2
def rHas_L0 (l_ : (List Int)) (n_ : Int) (s1 : Int) : Option (Flow (Int) (Bool)) :=
 if (decide (s1 < (l_.length : Int))) then
  (getI l_ s1).bind fun x1 =>
  if (x1 == n_) then
   some (.ret true)
  else
   (addI s1 1).bind fun x2 =>
   some (.go x2)
 else
  some (.ex 0 s1)
def rHas (l_ : (List Int)) (n_ : Int) : Option (Bool) :=
 (iterL (rHas_L0 l_ n_) (l_.length + 1) 0).bind fun f1 => match f1 with
  | .go _ => none
  | .ex _ _ =>
   some false
  | .ret r1 => some r1
theorem rHas_ok {k0 : K} {v0 v1 : Value} {l_ : (List Int)} {n_ : Int} {r : Bool} (i0 : (IsV l_) v0 k0) (i1 : (IsV n_) v1 k0) (hr : rHas l_ n_ = some r) :
  Calls Try.prog 33 #[v0, v1] k0.w (Ret k0 (IsV r)) := by
 unfold rHas at hr
 refine Ret.ofC ?_
 refine enterK Try.func33 rfl Try.ntmps33 (show 2 ≤ 18 by decide) fun a k hk0 hs hd ha => ?_
 obtain ⟨e0, e1, _⟩ := ha
 replace i0 : (IsV l_) (a.get 0) k := by rw [e0, hk0]; exact i0
 replace i1 : (IsV n_) (a.get 1) k := by rw [e1, hk0]; exact i1
 have hQ : Gb.LetsOut (bodyPost Try.prog Try.f33 (RetC noF k0 (IsV r))) := letsOutC
 have hg : Chg noF k0 k := by rw [hk0]; exact Chg.refl _ k0
 refine stepL 1 (⟨some (IsV false), []⟩ :: []) rfl ⟨hg, hs, hd⟩ (by kernel_rfl) ⟨ob1 rfl fun _ _ h n => ok_assign rfl (isV_bool.2 rfl), trivial⟩ [⟨_, _⟩, ⟨_, _⟩] (fun b q p => ⟨p.ke 0 rfl i0, p.ke 1 rfl i1, trivial⟩) ?_
 rintro a k ⟨⟨hg, hs, hd⟩, i0, i1, _⟩
 refine wp_seq ?_
 refine stepL 1 (⟨some (IsI 0), []⟩ :: []) rfl ⟨hg, hs, hd⟩ (by kernel_rfl) ⟨aI rfl rfl, trivial⟩ [⟨_, _⟩, ⟨_, _⟩, ⟨_, _⟩] (fun b q p => ⟨p.ke 0 rfl i0, p.ke 1 rfl i1, p.ou 0 5 rfl, trivial⟩) ?_
 rintro a k ⟨⟨hg, hs, hd⟩, i0, i1, i5, _⟩
 refine wp_block ?_
 obtain ⟨f1, hf1, hr⟩ := bind_some hr
 refine cutFe f1 (fun s' c l => Bs noF k0 18 c l ∧ IsV l_ (c.get 0) l ∧ IsV n_ (c.get 1) l ∧ IsV s' (c.get 5) l ∧ True) (fun i' s' c l => (i' = 0 ∧ Bs noF k0 18 c l ∧ True)) (fun r' c l => bodyPost Try.prog Try.f33 (RetC noF k0 (IsV r')) .ret c l.w) ?_ hQ ?_ ?_ ?_
 ·intro Q1 W1 hgo hex hret
  refine sim_loop ?_ _ _ _ _ _ hf1 ⟨⟨hg, hs, hd⟩, i0, i1, i5, trivial⟩ Q1 W1 hgo hex hret
  clear hr hf1 hgo hex hret W1 hQ hg hs hd i0 i1 i5
  intro s1 fl_ a k hr hS Q hQ hgo119 hex120 hret121
  obtain ⟨⟨hg, hs, hd⟩, i0, i1, i5, _⟩ := hS
  unfold rHas_L0 at hr
  refine wp_seq ?_
  refine stepL 4 (_ :: _ :: _ :: _ :: []) rfl ⟨hg, hs, hd⟩ (by kernel_rfl) ⟨mu rfl i5, mu rfl i0, o1 [(7, some 1)] rfl fun _ _ h n => ok_len rfl rfl Try.underlying22 (IsV.rd n.1), o1 [(6, some 0), (8, some 2)] rfl fun _ _ h n => ok_lss rfl n.1 n.2.1, trivial⟩ [⟨_, _⟩, ⟨_, _⟩, ⟨_, _⟩, ⟨_, _⟩] (fun b q p => ⟨p.ke 0 rfl i0, p.ke 1 rfl i1, p.ke 5 rfl i5, p.ou 3 9 rfl, trivial⟩) ?_
  rintro a k ⟨⟨hg, hs, hd⟩, i0, i1, i5, i9, _⟩
  refine wp_cond_split (isBool i9) (fun hc133 => ?_) (fun hc133 => ?_)
  ·rw [if_pos hc133] at hr
   refine wp_skip ?_
   refine wp_seq ?_
   refine wp_block ?_
   refine wp_seq ?_
   obtain ⟨x1, hx1, hr⟩ := bind_some hr
   refine cut (fun a' k' => Bs noF k0 18 a' k' ∧ (IsV l_) (a'.get 0) k' ∧ (IsV n_) (a'.get 1) k' ∧ (IsV s1) (a'.get 5) k' ∧ (IsV (x1 == n_)) (a'.get 17) k' ∧ True) ?_ hQ ?_
   ·intro Q2 W2 w1
    refine gS 6 (_ :: _ :: _ :: _ :: _ :: _ :: []) hs (by kernel_rfl) ⟨mu rfl i0, mu rfl i5, o1 [(12, some 0), (13, some 1)] rfl fun _ _ h n => ok_indexAddr rfl Try.underlying22 ty3 (IsV.rd n.1) n.2.1 hx1, o1 [(14, some 2)] rfl fun _ _ h n => ok_load rfl ty3 n.1, mu rfl i1, o1 [(15, some 3), (16, some 4)] rfl fun _ _ h n => ok_eqI rfl n.1 n.2.1, trivial⟩ W2 fun b q p => ?_
    exact tail_done (k := q) (w1 _ _ ⟨Bs.post ⟨hg, hs, hd⟩ p, p.ke 0 rfl i0, p.ke 1 rfl i1, p.ke 5 rfl i5, p.ou 5 17 rfl, trivial⟩)
   rintro a k ⟨⟨hg, hs, hd⟩, i0, i1, i5, i17, _⟩
   refine wp_cond_split (isBool i17) (fun hc130 => ?_) (fun hc130 => ?_)
   ·rw [if_pos hc130] at hr
    refine stepL 1 (⟨some (IsV true), []⟩ :: []) rfl ⟨hg, hs, hd⟩ (by kernel_rfl) ⟨ob1 rfl fun _ _ h n => ok_assign rfl (isV_bool.2 rfl), trivial⟩ [⟨_, _⟩] (fun b q p => ⟨p.ou 0 4 rfl, trivial⟩) ?_
    rintro a k ⟨⟨hg, hs, hd⟩, i4, _⟩
    refine wp_ret ?_
    exact hret121 _ _ _ (Option.some.inj hr).symm (retC1 rfl hd hg i4)
   rw [if_neg (by rw [hc130]; decide)] at hr
   refine wp_skip ?_
   obtain ⟨x2, hx2, hr⟩ := bind_some hr
   refine cut (fun a' k' => Bs noF k0 18 a' k' ∧ (IsV l_) (a'.get 0) k' ∧ (IsV n_) (a'.get 1) k' ∧ (IsV x2) (a'.get 5) k' ∧ True) ?_ hQ ?_
   ·intro Q3 W3 w2
    refine gS 3 (_ :: _ :: _ :: []) hs (by kernel_rfl) ⟨mu rfl i5, o1 [(10, some 0)] rfl fun _ _ h n => ok_add rfl n.1 (cI rfl) hx2, cp 1 rfl rfl, trivial⟩ W3 fun b q p => ?_
    exact tail_done (k := q) (w2 _ _ ⟨Bs.post ⟨hg, hs, hd⟩ p, p.ke 0 rfl i0, p.ke 1 rfl i1, p.ou 2 5 rfl, trivial⟩)
   rintro a k ⟨⟨hg, hs, hd⟩, i0, i1, i5, _⟩
   exact hgo119 _ _ _ (Option.some.inj hr).symm ⟨⟨hg, hs, hd⟩, i0, i1, i5, trivial⟩
  rw [if_neg (by rw [hc133]; decide)] at hr
  refine wp_exit ?_
  exact hex120 _ _ _ _ (Option.some.inj hr).symm ⟨rfl, ⟨hg, hs, hd⟩, trivial⟩
 ·rintro r1 a k rfl hR
  dsimp only at hr
  obtain rfl := Option.some.inj hr
  exact hR
 ·rintro _ _ _ rfl _
  simp at hr
 clear hf1
 rintro _ s2 a k rfl ⟨rfl, ⟨hg, hs, hd⟩, _⟩
 dsimp only at hr
 refine stepL 1 (⟨some (IsV false), []⟩ :: []) rfl ⟨hg, hs, hd⟩ (by kernel_rfl) ⟨ob1 rfl fun _ _ h n => ok_assign rfl (isV_bool.2 rfl), trivial⟩ [⟨_, _⟩] (fun b q p => ⟨p.ou 0 4 rfl, trivial⟩) ?_
 rintro a k ⟨⟨hg, hs, hd⟩, i4, _⟩
 refine wp_ret ?_
 obtain rfl := Option.some.inj hr
 exact retC1 rfl hd hg i4
def rStayed_L0 (l_ : (List Stay)) (day_ : Int) (s1 : Int) : Option (Flow (Int) (Bool)) :=
 if (decide (s1 < (l_.length : Int))) then
  (getI l_ s1).bind fun x1 =>
  (if (decide (x1.From ≤ day_)) then
   (getI l_ s1).bind fun x2 =>
   some (decide (day_ ≤ x2.To))
  else
   some false).bind fun x3 =>
  if x3 then
   some (.ret true)
  else
   (addI s1 1).bind fun x4 =>
   some (.go x4)
 else
  some (.ex 0 s1)
def rStayed (l_ : (List Stay)) (day_ : Int) : Option (Bool) :=
 (iterL (rStayed_L0 l_ day_) (l_.length + 1) 0).bind fun f1 => match f1 with
  | .go _ => none
  | .ex _ _ =>
   some false
  | .ret r1 => some r1
theorem rStayed_ok {k0 : K} {v0 v1 : Value} {l_ : (List Stay)} {day_ : Int} {r : Bool} (i0 : (IsV l_) v0 k0) (i1 : (IsV day_) v1 k0) (hr : rStayed l_ day_ = some r) :
  Calls Try.prog 37 #[v0, v1] k0.w (Ret k0 (IsV r)) := by
 unfold rStayed at hr
 refine Ret.ofC ?_
 refine enterK Try.func37 rfl Try.ntmps37 (show 2 ≤ 28 by decide) fun a k hk0 hs hd ha => ?_
 obtain ⟨e0, e1, _⟩ := ha
 replace i0 : (IsV l_) (a.get 0) k := by rw [e0, hk0]; exact i0
 replace i1 : (IsV day_) (a.get 1) k := by rw [e1, hk0]; exact i1
 have hQ : Gb.LetsOut (bodyPost Try.prog Try.f37 (RetC noF k0 (IsV r))) := letsOutC
 have hg : Chg noF k0 k := by rw [hk0]; exact Chg.refl _ k0
 refine stepL 1 (⟨some (IsV false), []⟩ :: []) rfl ⟨hg, hs, hd⟩ (by kernel_rfl) ⟨ob1 rfl fun _ _ h n => ok_assign rfl (isV_bool.2 rfl), trivial⟩ [⟨_, _⟩, ⟨_, _⟩] (fun b q p => ⟨p.ke 0 rfl i0, p.ke 1 rfl i1, trivial⟩) ?_
 rintro a k ⟨⟨hg, hs, hd⟩, i0, i1, _⟩
 refine wp_seq ?_
 refine stepL 1 (⟨some (IsI 0), []⟩ :: []) rfl ⟨hg, hs, hd⟩ (by kernel_rfl) ⟨aI rfl rfl, trivial⟩ [⟨_, _⟩, ⟨_, _⟩, ⟨_, _⟩] (fun b q p => ⟨p.ke 0 rfl i0, p.ke 1 rfl i1, p.ou 0 5 rfl, trivial⟩) ?_
 rintro a k ⟨⟨hg, hs, hd⟩, i0, i1, i5, _⟩
 refine wp_block ?_
 obtain ⟨f1, hf1, hr⟩ := bind_some hr
 refine cutFe f1 (fun s' c l => Bs noF k0 28 c l ∧ IsV l_ (c.get 0) l ∧ IsV day_ (c.get 1) l ∧ IsV s' (c.get 5) l ∧ True) (fun i' s' c l => (i' = 0 ∧ Bs noF k0 28 c l ∧ True)) (fun r' c l => bodyPost Try.prog Try.f37 (RetC noF k0 (IsV r')) .ret c l.w) ?_ hQ ?_ ?_ ?_
 ·intro Q1 W1 hgo hex hret
  refine sim_loop ?_ _ _ _ _ _ hf1 ⟨⟨hg, hs, hd⟩, i0, i1, i5, trivial⟩ Q1 W1 hgo hex hret
  clear hr hf1 hgo hex hret W1 hQ hg hs hd i0 i1 i5
  intro s1 fl_ a k hr hS Q hQ hgo150 hex151 hret152
  obtain ⟨⟨hg, hs, hd⟩, i0, i1, i5, _⟩ := hS
  unfold rStayed_L0 at hr
  refine wp_seq ?_
  refine stepL 4 (_ :: _ :: _ :: _ :: []) rfl ⟨hg, hs, hd⟩ (by kernel_rfl) ⟨mu rfl i5, mu rfl i0, o1 [(7, some 1)] rfl fun _ _ h n => ok_len rfl rfl Try.underlying23 (IsV.rd n.1), o1 [(6, some 0), (8, some 2)] rfl fun _ _ h n => ok_lss rfl n.1 n.2.1, trivial⟩ [⟨_, _⟩, ⟨_, _⟩, ⟨_, _⟩, ⟨_, _⟩] (fun b q p => ⟨p.ke 0 rfl i0, p.ke 1 rfl i1, p.ke 5 rfl i5, p.ou 3 9 rfl, trivial⟩) ?_
  rintro a k ⟨⟨hg, hs, hd⟩, i0, i1, i5, i9, _⟩
  refine wp_cond_split (isBool i9) (fun hc164 => ?_) (fun hc164 => ?_)
  ·rw [if_pos hc164] at hr
   refine wp_skip ?_
   refine wp_seq ?_
   refine wp_block ?_
   refine wp_seq ?_
   obtain ⟨x1, hx1, hr⟩ := bind_some hr
   obtain ⟨x2, hx2, hr⟩ := bind_some hr
   obtain ⟨x3, hx3, hx2⟩ := ite_bind hx2
   refine cut (fun a' k' => Bs noF k0 28 a' k' ∧ (IsV l_) (a'.get 0) k' ∧ (IsV day_) (a'.get 1) k' ∧ (IsV s1) (a'.get 5) k' ∧ (IsV x2) (a'.get 27) k' ∧ True) ?_ hQ ?_
   ·intro Q2 W2 w1
    refine gS 16 (_ :: _ :: _ :: _ :: _ :: _ :: _ :: _ :: _ :: _ :: _ :: _ :: _ :: _ :: _ :: _ :: []) hs (by kernel_rfl) ⟨mu rfl i0, mu rfl i5, o1 [(12, some 0), (13, some 1)] rfl fun _ _ h n => ok_indexAddr rfl Try.underlying23 ty38 (IsV.rd n.1) n.2.1 hx1, o1 [(14, some 2)] rfl fun _ _ h n => ok_fieldAddr rfl fo38_0 (at_Stay_0 _) n.1, o1 [(15, some 3)] rfl fun _ _ h n => ok_load rfl ty3 n.1, mu rfl i1, o1 [(16, some 4), (17, some 5)] rfl fun _ _ h n => ok_leq rfl n.1 n.2.1, cm 6 rfl rfl, mT rfl rfl i1, mT rfl rfl i0, mT rfl rfl i5, gT [(21, some 9), (22, some 10)] rfl rfl fun hp _ _ h n => ok_indexAddr rfl Try.underlying23 ty38 (IsV.rd (Gd.get n.1 hp)) (Gd.get n.2.1 hp) (hx3 hp), gT [(23, some 11)] rfl rfl fun hp _ _ h n => ok_fieldAddr rfl fo38_1 (at_Stay_1 _) (Gd.get n.1 hp), gT [(24, some 12)] rfl rfl fun hp _ _ h n => ok_load rfl ty3 (Gd.get n.1 hp), gT [(20, some 8), (25, some 13)] rfl rfl fun hp _ _ h n => ok_leq rfl (Gd.get n.1 hp) (Gd.get n.2.1 hp), o1 [(19, some 7), (26, some 14)] rfl fun _ _ h n => ok_pickM rfl n.1 hx2 (Gd.get n.2.1) (cB rfl), trivial⟩ W2 fun b q p => ?_
    exact tail_done (k := q) (w1 _ _ ⟨Bs.post ⟨hg, hs, hd⟩ p, p.ke 0 rfl i0, p.ke 1 rfl i1, p.ke 5 rfl i5, p.ou 15 27 rfl, trivial⟩)
   rintro a k ⟨⟨hg, hs, hd⟩, i0, i1, i5, i27, _⟩
   refine wp_cond_split (isBool i27) (fun hc161 => ?_) (fun hc161 => ?_)
   ·rw [if_pos hc161] at hr
    refine stepL 1 (⟨some (IsV true), []⟩ :: []) rfl ⟨hg, hs, hd⟩ (by kernel_rfl) ⟨ob1 rfl fun _ _ h n => ok_assign rfl (isV_bool.2 rfl), trivial⟩ [⟨_, _⟩] (fun b q p => ⟨p.ou 0 4 rfl, trivial⟩) ?_
    rintro a k ⟨⟨hg, hs, hd⟩, i4, _⟩
    refine wp_ret ?_
    exact hret152 _ _ _ (Option.some.inj hr).symm (retC1 rfl hd hg i4)
   rw [if_neg (by rw [hc161]; decide)] at hr
   refine wp_skip ?_
   obtain ⟨x4, hx4, hr⟩ := bind_some hr
   refine cut (fun a' k' => Bs noF k0 28 a' k' ∧ (IsV l_) (a'.get 0) k' ∧ (IsV day_) (a'.get 1) k' ∧ (IsV x4) (a'.get 5) k' ∧ True) ?_ hQ ?_
   ·intro Q3 W3 w2
    refine gS 3 (_ :: _ :: _ :: []) hs (by kernel_rfl) ⟨mu rfl i5, o1 [(10, some 0)] rfl fun _ _ h n => ok_add rfl n.1 (cI rfl) hx4, cp 1 rfl rfl, trivial⟩ W3 fun b q p => ?_
    exact tail_done (k := q) (w2 _ _ ⟨Bs.post ⟨hg, hs, hd⟩ p, p.ke 0 rfl i0, p.ke 1 rfl i1, p.ou 2 5 rfl, trivial⟩)
   rintro a k ⟨⟨hg, hs, hd⟩, i0, i1, i5, _⟩
   exact hgo150 _ _ _ (Option.some.inj hr).symm ⟨⟨hg, hs, hd⟩, i0, i1, i5, trivial⟩
  rw [if_neg (by rw [hc164]; decide)] at hr
  refine wp_exit ?_
  exact hex151 _ _ _ _ (Option.some.inj hr).symm ⟨rfl, ⟨hg, hs, hd⟩, trivial⟩
 ·rintro r1 a k rfl hR
  dsimp only at hr
  obtain rfl := Option.some.inj hr
  exact hR
 ·rintro _ _ _ rfl _
  simp at hr
 clear hf1
 rintro _ s2 a k rfl ⟨rfl, ⟨hg, hs, hd⟩, _⟩
 dsimp only at hr
 refine stepL 1 (⟨some (IsV false), []⟩ :: []) rfl ⟨hg, hs, hd⟩ (by kernel_rfl) ⟨ob1 rfl fun _ _ h n => ok_assign rfl (isV_bool.2 rfl), trivial⟩ [⟨_, _⟩] (fun b q p => ⟨p.ou 0 4 rfl, trivial⟩) ?_
 rintro a k ⟨⟨hg, hs, hd⟩, i4, _⟩
 refine wp_ret ?_
 obtain rfl := Option.some.inj hr
 exact retC1 rfl hd hg i4
def rIsWork (holidays_ : (List Int)) (day_ : Int) : Option (Bool) :=
 (rRight holidays_).bind fun x1 =>
 (if x1 then
  (rIn day_).bind fun x2 =>
  some x2
 else
  some false).bind fun x3 =>
 (if x3 then
  (remI day_ 7).bind fun x4 =>
  some (decide (x4 < 5))
 else
  some false).bind fun x5 =>
 (if x5 then
  (rHas holidays_ day_).bind fun x6 =>
  some (!x6)
 else
  some false).bind fun x7 =>
 some x7
theorem rIsWork_ok {k0 : K} {v0 v1 : Value} {holidays_ : (List Int)} {day_ : Int} {r : Bool} (i0 : (IsV holidays_) v0 k0) (i1 : (IsV day_) v1 k0) (hr : rIsWork holidays_ day_ = some r) :
  Calls Try.prog 16 #[v0, v1] k0.w (Ret k0 (IsV r)) := by
 unfold rIsWork at hr
 refine Ret.ofC ?_
 refine enterK Try.func16 rfl Try.ntmps16 (show 2 ≤ 22 by decide) fun a k hk0 hs hd ha => ?_
 obtain ⟨e0, e1, _⟩ := ha
 replace i0 : (IsV holidays_) (a.get 0) k := by rw [e0, hk0]; exact i0
 replace i1 : (IsV day_) (a.get 1) k := by rw [e1, hk0]; exact i1
 have hQ : Gb.LetsOut (bodyPost Try.prog Try.f16 (RetC noF k0 (IsV r))) := letsOutC
 have hg : Chg noF k0 k := by rw [hk0]; exact Chg.refl _ k0
 refine stepL 1 (⟨some (IsV false), []⟩ :: []) rfl ⟨hg, hs, hd⟩ (by kernel_rfl) ⟨ob1 rfl fun _ _ h n => ok_assign rfl (isV_bool.2 rfl), trivial⟩ [⟨_, _⟩, ⟨_, _⟩] (fun b q p => ⟨p.ke 0 rfl i0, p.ke 1 rfl i1, trivial⟩) ?_
 rintro a k ⟨⟨hg, hs, hd⟩, i0, i1, _⟩
 refine wp_seq ?_
 obtain ⟨x1, hx1, hr⟩ := bind_some hr
 obtain ⟨x2, hx2, hr⟩ := bind_some hr
 obtain ⟨x3, hx3, hx2⟩ := ite_bind hx2
 obtain ⟨x4, hx4, hr⟩ := bind_some hr
 obtain ⟨x5, hx5, hx4⟩ := ite_bind hx4
 obtain ⟨x6, hx6, hr⟩ := bind_some hr
 obtain ⟨x7, hx7, hx6⟩ := ite_bind hx6
 refine cut (fun a' k' => Bs noF k0 22 a' k' ∧ (IsV x6) (a'.get 4) k' ∧ True) ?_ hQ ?_
 ·intro Q1 W1 w1
  refine gS 18 (_ :: _ :: _ :: _ :: _ :: _ :: _ :: _ :: _ :: _ :: _ :: _ :: _ :: _ :: _ :: _ :: _ :: _ :: []) hs (by kernel_rfl) ⟨mu rfl i0, o1 [(5, some 0)] rfl fun _ _ h n => ok_call rfl Try.call14 (rRight_ok n.1 hx1), cm 1 rfl rfl, mT rfl rfl i1, gT [(8, some 3)] rfl rfl fun hp _ _ h n => ok_call rfl Try.call31 (rIn_ok (Gd.get n.1 hp) (hx3 hp)), o1 [(7, some 2), (9, some 4)] rfl fun _ _ h n => ok_pickM rfl n.1 hx2 (Gd.get n.2.1) (cB rfl), cm 5 rfl rfl, mT rfl rfl i1, gT [(12, some 7)] rfl rfl fun hp _ _ h n => ok_rem rfl (Gd.get n.1 hp) (cI rfl) (hx5 hp), gT [(13, some 8)] rfl rfl fun hp _ _ h n => ok_lss rfl (Gd.get n.1 hp) (cI rfl), o1 [(11, some 6), (14, some 9)] rfl fun _ _ h n => ok_pickM rfl n.1 hx4 (Gd.get n.2.1) (cB rfl), cm 10 rfl rfl, mT rfl rfl i0, mT rfl rfl i1, gT [(17, some 12), (18, some 13)] rfl rfl fun hp _ _ h n => ok_call rfl Try.call33 (rHas_ok (Gd.get n.1 hp) (Gd.get n.2.1 hp) (hx7 hp)), gT [(19, some 14)] rfl rfl fun hp _ _ h n => ok_not rfl (Gd.get n.1 hp), o1 [(16, some 11), (20, some 15)] rfl fun _ _ h n => ok_pickM rfl n.1 hx6 (Gd.get n.2.1) (cB rfl), cp 16 rfl rfl, trivial⟩ W1 fun b q p => ?_
  exact tail_done (k := q) (w1 _ _ ⟨Bs.post ⟨hg, hs, hd⟩ p, p.ou 17 4 rfl, trivial⟩)
 rintro a k ⟨⟨hg, hs, hd⟩, i4, _⟩
 refine wp_ret ?_
 obtain rfl := Option.some.inj hr
 exact retC1 rfl hd hg i4
def rCounts (holidays_ : (List Int)) (stays_ : (List Stay)) (day_ : Int) : Option (Bool) :=
 (rIsWork holidays_ day_).bind fun x1 =>
 (if x1 then
  (rightStays stays_).bind fun x2 =>
  some x2
 else
  some false).bind fun x3 =>
 (if x3 then
  (rStayed stays_ day_).bind fun x4 =>
  some (!x4)
 else
  some false).bind fun x5 =>
 some x5
theorem rCounts_ok {k0 : K} {v0 v1 v2 : Value} {holidays_ : (List Int)} {stays_ : (List Stay)} {day_ : Int} {r : Bool} (i0 : (IsV holidays_) v0 k0) (i1 : (IsV stays_) v1 k0) (i2 : (IsV day_) v2 k0) (hr : rCounts holidays_ stays_ day_ = some r) :
  Calls Try.prog 18 #[v0, v1, v2] k0.w (Ret k0 (IsV r)) := by
 unfold rCounts at hr
 refine Ret.ofC ?_
 refine enterK Try.func18 rfl Try.ntmps18 (show 3 ≤ 20 by decide) fun a k hk0 hs hd ha => ?_
 obtain ⟨e0, e1, e2, _⟩ := ha
 replace i0 : (IsV holidays_) (a.get 0) k := by rw [e0, hk0]; exact i0
 replace i1 : (IsV stays_) (a.get 1) k := by rw [e1, hk0]; exact i1
 replace i2 : (IsV day_) (a.get 2) k := by rw [e2, hk0]; exact i2
 have hQ : Gb.LetsOut (bodyPost Try.prog Try.f18 (RetC noF k0 (IsV r))) := letsOutC
 have hg : Chg noF k0 k := by rw [hk0]; exact Chg.refl _ k0
 refine stepL 1 (⟨some (IsV false), []⟩ :: []) rfl ⟨hg, hs, hd⟩ (by kernel_rfl) ⟨ob1 rfl fun _ _ h n => ok_assign rfl (isV_bool.2 rfl), trivial⟩ [⟨_, _⟩, ⟨_, _⟩, ⟨_, _⟩] (fun b q p => ⟨p.ke 0 rfl i0, p.ke 1 rfl i1, p.ke 2 rfl i2, trivial⟩) ?_
 rintro a k ⟨⟨hg, hs, hd⟩, i0, i1, i2, _⟩
 refine wp_seq ?_
 obtain ⟨x1, hx1, hr⟩ := bind_some hr
 obtain ⟨x2, hx2, hr⟩ := bind_some hr
 obtain ⟨x3, hx3, hx2⟩ := ite_bind hx2
 obtain ⟨x4, hx4, hr⟩ := bind_some hr
 obtain ⟨x5, hx5, hx4⟩ := ite_bind hx4
 refine cut (fun a' k' => Bs noF k0 20 a' k' ∧ (IsV x4) (a'.get 6) k' ∧ True) ?_ hQ ?_
 ·intro Q1 W1 w1
  refine gS 14 (_ :: _ :: _ :: _ :: _ :: _ :: _ :: _ :: _ :: _ :: _ :: _ :: _ :: _ :: []) hs (by kernel_rfl) ⟨mu rfl i0, mu rfl i2, o1 [(7, some 0), (8, some 1)] rfl fun _ _ h n => ok_call rfl Try.call16 (rIsWork_ok n.1 n.2.1 hx1), cm 2 rfl rfl, mT rfl rfl i1, gT [(11, some 4)] rfl rfl fun hp _ _ h n => ok_call rfl Try.call30 (rightStays_ok (Gd.get n.1 hp) (hx3 hp)), o1 [(10, some 3), (12, some 5)] rfl fun _ _ h n => ok_pickM rfl n.1 hx2 (Gd.get n.2.1) (cB rfl), cm 6 rfl rfl, mT rfl rfl i1, mT rfl rfl i2, gT [(15, some 8), (16, some 9)] rfl rfl fun hp _ _ h n => ok_call rfl Try.call37 (rStayed_ok (Gd.get n.1 hp) (Gd.get n.2.1 hp) (hx5 hp)), gT [(17, some 10)] rfl rfl fun hp _ _ h n => ok_not rfl (Gd.get n.1 hp), o1 [(14, some 7), (18, some 11)] rfl fun _ _ h n => ok_pickM rfl n.1 hx4 (Gd.get n.2.1) (cB rfl), cp 12 rfl rfl, trivial⟩ W1 fun b q p => ?_
  exact tail_done (k := q) (w1 _ _ ⟨Bs.post ⟨hg, hs, hd⟩ p, p.ou 13 6 rfl, trivial⟩)
 rintro a k ⟨⟨hg, hs, hd⟩, i6, _⟩
 refine wp_ret ?_
 obtain rfl := Option.some.inj hr
 exact retC1 rfl hd hg i6
def rWeekdays (n_ : Int) : Option (Int) :=
 (quoI n_ 7).bind fun x1 =>
 (mulI x1 5).bind fun x2 =>
 (remI n_ 7).bind fun x3 =>
 (addI x2 (min x3 5)).bind fun x4 =>
 some x4
theorem rWeekdays_ok {k0 : K} {v0 : Value} {n_ : Int} {r : Int} (i0 : (IsV n_) v0 k0) (hr : rWeekdays n_ = some r) :
  Calls Try.prog 48 #[v0] k0.w (Ret k0 (IsV r)) := by
 unfold rWeekdays at hr
 refine Ret.ofC ?_
 refine enterK Try.func48 rfl Try.ntmps48 (show 1 ≤ 10 by decide) fun a k hk0 hs hd ha => ?_
 obtain ⟨e0, _⟩ := ha
 replace i0 : (IsV n_) (a.get 0) k := by rw [e0, hk0]; exact i0
 have hQ : Gb.LetsOut (bodyPost Try.prog Try.f48 (RetC noF k0 (IsV r))) := letsOutC
 have hg : Chg noF k0 k := by rw [hk0]; exact Chg.refl _ k0
 refine stepL 1 (⟨some (IsI 0), []⟩ :: []) rfl ⟨hg, hs, hd⟩ (by kernel_rfl) ⟨aI rfl rfl, trivial⟩ [⟨_, _⟩] (fun b q p => ⟨p.ke 0 rfl i0, trivial⟩) ?_
 rintro a k ⟨⟨hg, hs, hd⟩, i0, _⟩
 refine wp_seq ?_
 obtain ⟨x1, hx1, hr⟩ := bind_some hr
 obtain ⟨x2, hx2, hr⟩ := bind_some hr
 obtain ⟨x3, hx3, hr⟩ := bind_some hr
 obtain ⟨x4, hx4, hr⟩ := bind_some hr
 refine cut (fun a' k' => Bs noF k0 10 a' k' ∧ (IsV x4) (a'.get 2) k' ∧ True) ?_ hQ ?_
 ·intro Q1 W1 w1
  refine gS 8 (_ :: _ :: _ :: _ :: _ :: _ :: _ :: _ :: []) hs (by kernel_rfl) ⟨mu rfl i0, o1 [(3, some 0)] rfl fun _ _ h n => ok_quo rfl n.1 (cI rfl) hx1, o1 [(4, some 1)] rfl fun _ _ h n => ok_mul rfl n.1 (cI rfl) hx2, mu rfl i0, o1 [(6, some 3)] rfl fun _ _ h n => ok_rem rfl n.1 (cI rfl) hx3, o1 [(7, some 4)] rfl fun _ _ h n => ok_min2 rfl n.1 (cI rfl), o1 [(5, some 2), (8, some 5)] rfl fun _ _ h n => ok_add rfl n.1 n.2.1 hx4, cp 6 rfl rfl, trivial⟩ W1 fun b q p => ?_
  exact tail_done (k := q) (w1 _ _ ⟨Bs.post ⟨hg, hs, hd⟩ p, p.ou 7 2 rfl, trivial⟩)
 rintro a k ⟨⟨hg, hs, hd⟩, i2, _⟩
 refine wp_ret ?_
 obtain rfl := Option.some.inj hr
 exact retC1 rfl hd hg i2
def rWorked_L0 (holidays_ : (List Int)) (from_ : Int) (to_ : Int) (s1 : Int × Int) : Option (Flow (Int × Int) (Int)) :=
 if (decide (s1.2 < (holidays_.length : Int))) then
  (getI holidays_ s1.2).bind fun x1 =>
  (if (decide (from_ ≤ x1)) then
   (getI holidays_ s1.2).bind fun x2 =>
   some (decide (x2 ≤ to_))
  else
   some false).bind fun x3 =>
  (if x3 then
   (getI holidays_ s1.2).bind fun x4 =>
   (remI x4 7).bind fun x5 =>
   some (decide (x5 < 5))
  else
   some false).bind fun x6 =>
  (if x6 then
   (subI s1.1 1).bind fun x7 =>
   some x7
  else
   some s1.1).bind fun s2 =>
  (addI s1.2 1).bind fun x8 =>
  some (.go (s2, x8))
 else
  some (.ex 0 (s1.1, s1.2))
def rWorked (holidays_ : (List Int)) (from_ : Int) (to_ : Int) : Option (Int) :=
 if (decide (to_ < from_)) then
  some 0
 else
  (addI to_ 1).bind fun x1 =>
  (rWeekdays x1).bind fun x2 =>
  (rWeekdays from_).bind fun x3 =>
  (subI x2 x3).bind fun x4 =>
  (iterL (rWorked_L0 holidays_ from_ to_) (holidays_.length + 1) (x4, 0)).bind fun f1 => match f1 with
   | .go _ => none
   | .ex _ s1 =>
    some s1.1
   | .ret r1 => some r1
theorem rWorked_ok {k0 : K} {v0 v1 v2 : Value} {holidays_ : (List Int)} {from_ : Int} {to_ : Int} {r : Int} (i0 : (IsV holidays_) v0 k0) (i1 : (IsV from_) v1 k0) (i2 : (IsV to_) v2 k0) (hr : rWorked holidays_ from_ to_ = some r) :
  Calls Try.prog 42 #[v0, v1, v2] k0.w (Ret k0 (IsV r)) := by
 unfold rWorked at hr
 refine Ret.ofC ?_
 refine enterK Try.func42 rfl Try.ntmps42 (show 3 ≤ 49 by decide) fun a k hk0 hs hd ha => ?_
 obtain ⟨e0, e1, e2, _⟩ := ha
 replace i0 : (IsV holidays_) (a.get 0) k := by rw [e0, hk0]; exact i0
 replace i1 : (IsV from_) (a.get 1) k := by rw [e1, hk0]; exact i1
 replace i2 : (IsV to_) (a.get 2) k := by rw [e2, hk0]; exact i2
 have hQ : Gb.LetsOut (bodyPost Try.prog Try.f42 (RetC noF k0 (IsV r))) := letsOutC
 have hg : Chg noF k0 k := by rw [hk0]; exact Chg.refl _ k0
 refine stepL 1 (⟨some (IsI 0), []⟩ :: []) rfl ⟨hg, hs, hd⟩ (by kernel_rfl) ⟨aI rfl rfl, trivial⟩ [⟨_, _⟩, ⟨_, _⟩, ⟨_, _⟩] (fun b q p => ⟨p.ke 0 rfl i0, p.ke 1 rfl i1, p.ke 2 rfl i2, trivial⟩) ?_
 rintro a k ⟨⟨hg, hs, hd⟩, i0, i1, i2, _⟩
 refine wp_seq ?_
 refine stepL 3 (_ :: _ :: _ :: []) rfl ⟨hg, hs, hd⟩ (by kernel_rfl) ⟨mu rfl i1, mu rfl i2, o1 [(9, some 0), (10, some 1)] rfl fun _ _ h n => ok_gtr rfl n.1 n.2.1, trivial⟩ [⟨_, _⟩, ⟨_, _⟩, ⟨_, _⟩, ⟨_, _⟩] (fun b q p => ⟨p.ke 0 rfl i0, p.ke 1 rfl i1, p.ke 2 rfl i2, p.ou 2 11 rfl, trivial⟩) ?_
 rintro a k ⟨⟨hg, hs, hd⟩, i0, i1, i2, i11, _⟩
 refine wp_cond_split (isBool i11) (fun hc235 => ?_) (fun hc235 => ?_)
 ·rw [if_pos hc235] at hr
  refine stepL 1 (⟨some (IsI 0), []⟩ :: []) rfl ⟨hg, hs, hd⟩ (by kernel_rfl) ⟨aI rfl rfl, trivial⟩ [⟨_, _⟩] (fun b q p => ⟨p.ou 0 6 rfl, trivial⟩) ?_
  rintro a k ⟨⟨hg, hs, hd⟩, i6, _⟩
  refine wp_ret ?_
  obtain rfl := Option.some.inj hr
  exact retC1 rfl hd hg i6
 rw [if_neg (by rw [hc235]; decide)] at hr
 refine wp_skip ?_
 refine wp_seq ?_
 obtain ⟨x1, hx1, hr⟩ := bind_some hr
 obtain ⟨x2, hx2, hr⟩ := bind_some hr
 obtain ⟨x3, hx3, hr⟩ := bind_some hr
 obtain ⟨x4, hx4, hr⟩ := bind_some hr
 refine cut (fun a' k' => Bs noF k0 49 a' k' ∧ (IsV holidays_) (a'.get 0) k' ∧ (IsV from_) (a'.get 1) k' ∧ (IsV to_) (a'.get 2) k' ∧ (IsV x4) (a'.get 7) k' ∧ True) ?_ hQ ?_
 ·intro Q1 W1 w1
  refine gS 7 (_ :: _ :: _ :: _ :: _ :: _ :: _ :: []) hs (by kernel_rfl) ⟨mu rfl i2, o1 [(12, some 0)] rfl fun _ _ h n => ok_add rfl n.1 (cI rfl) hx1, o1 [(13, some 1)] rfl fun _ _ h n => ok_call rfl Try.call48 (rWeekdays_ok n.1 hx2), mu rfl i1, o1 [(15, some 3)] rfl fun _ _ h n => ok_call rfl Try.call48 (rWeekdays_ok n.1 hx3), o1 [(14, some 2), (16, some 4)] rfl fun _ _ h n => ok_sub rfl n.1 n.2.1 hx4, cp 5 rfl rfl, trivial⟩ W1 fun b q p => ?_
  exact tail_done (k := q) (w1 _ _ ⟨Bs.post ⟨hg, hs, hd⟩ p, p.ke 0 rfl i0, p.ke 1 rfl i1, p.ke 2 rfl i2, p.ou 6 7 rfl, trivial⟩)
 rintro a k ⟨⟨hg, hs, hd⟩, i0, i1, i2, i7, _⟩
 refine wp_seq ?_
 refine stepL 1 (⟨some (IsI 0), []⟩ :: []) rfl ⟨hg, hs, hd⟩ (by kernel_rfl) ⟨aI rfl rfl, trivial⟩ [⟨_, _⟩, ⟨_, _⟩, ⟨_, _⟩, ⟨_, _⟩, ⟨_, _⟩] (fun b q p => ⟨p.ke 0 rfl i0, p.ke 1 rfl i1, p.ke 2 rfl i2, p.ke 7 rfl i7, p.ou 0 8 rfl, trivial⟩) ?_
 rintro a k ⟨⟨hg, hs, hd⟩, i0, i1, i2, i7, i8, _⟩
 refine wp_block ?_
 obtain ⟨f1, hf1, hr⟩ := bind_some hr
 refine cutFe f1 (fun s' c l => Bs noF k0 49 c l ∧ IsV holidays_ (c.get 0) l ∧ IsV from_ (c.get 1) l ∧ IsV to_ (c.get 2) l ∧ IsV s'.1 (c.get 7) l ∧ IsV s'.2 (c.get 8) l ∧ True) (fun i' s' c l => (i' = 0 ∧ Bs noF k0 49 c l ∧ IsV s'.1 (c.get 7) l ∧ True)) (fun r' c l => bodyPost Try.prog Try.f42 (RetC noF k0 (IsV r')) .ret c l.w) ?_ hQ ?_ ?_ ?_
 ·intro Q2 W2 hgo hex hret
  refine sim_loop ?_ _ _ _ _ _ hf1 ⟨⟨hg, hs, hd⟩, i0, i1, i2, i7, i8, trivial⟩ Q2 W2 hgo hex hret
  clear hr hf1 hgo hex hret W2 hQ hg hs hd i0 i1 i2 i7 i8
  intro s1 fl_ a k hr hS Q hQ hgo204 hex205 hret206
  obtain ⟨⟨hg, hs, hd⟩, i0, i1, i2, i7, i8, _⟩ := hS
  unfold rWorked_L0 at hr
  refine wp_seq ?_
  refine stepL 4 (_ :: _ :: _ :: _ :: []) rfl ⟨hg, hs, hd⟩ (by kernel_rfl) ⟨mu rfl i8, mu rfl i0, o1 [(19, some 1)] rfl fun _ _ h n => ok_len rfl rfl Try.underlying22 (IsV.rd n.1), o1 [(18, some 0), (20, some 2)] rfl fun _ _ h n => ok_lss rfl n.1 n.2.1, trivial⟩ [⟨_, _⟩, ⟨_, _⟩, ⟨_, _⟩, ⟨_, _⟩, ⟨_, _⟩, ⟨_, _⟩] (fun b q p => ⟨p.ke 0 rfl i0, p.ke 1 rfl i1, p.ke 2 rfl i2, p.ke 7 rfl i7, p.ke 8 rfl i8, p.ou 3 21 rfl, trivial⟩) ?_
  rintro a k ⟨⟨hg, hs, hd⟩, i0, i1, i2, i7, i8, i21, _⟩
  refine wp_cond_split (isBool i21) (fun hc221 => ?_) (fun hc221 => ?_)
  ·rw [if_pos hc221] at hr
   refine wp_skip ?_
   refine wp_seq ?_
   refine wp_block ?_
   refine wp_seq ?_
   obtain ⟨x5, hx5, hr⟩ := bind_some hr
   obtain ⟨x6, hx6, hr⟩ := bind_some hr
   obtain ⟨x7, hx7, hx6⟩ := ite_bind hx6
   obtain ⟨x8, hx8, hr⟩ := bind_some hr
   obtain ⟨x9, hx9, hx8⟩ := ite_bind hx8
   obtain ⟨x10, hx10, hx8⟩ := ite_bind hx8
   refine cut (fun a' k' => Bs noF k0 49 a' k' ∧ (IsV holidays_) (a'.get 0) k' ∧ (IsV from_) (a'.get 1) k' ∧ (IsV to_) (a'.get 2) k' ∧ (IsV s1.1) (a'.get 7) k' ∧ (IsV s1.2) (a'.get 8) k' ∧ (IsV x8) (a'.get 45) k' ∧ True) ?_ hQ ?_
   ·intro Q3 W3 w2
    refine gS 22 (_ :: _ :: _ :: _ :: _ :: _ :: _ :: _ :: _ :: _ :: _ :: _ :: _ :: _ :: _ :: _ :: _ :: _ :: _ :: _ :: _ :: _ :: []) hs (by kernel_rfl) ⟨mu rfl i1, mu rfl i0, mu rfl i8, o1 [(25, some 1), (26, some 2)] rfl fun _ _ h n => ok_indexAddr rfl Try.underlying22 ty3 (IsV.rd n.1) n.2.1 hx5, o1 [(27, some 3)] rfl fun _ _ h n => ok_load rfl ty3 n.1, o1 [(24, some 0), (28, some 4)] rfl fun _ _ h n => ok_leq rfl n.1 n.2.1, cm 5 rfl rfl, mT rfl rfl i0, mT rfl rfl i8, gT [(31, some 7), (32, some 8)] rfl rfl fun hp _ _ h n => ok_indexAddr rfl Try.underlying22 ty3 (IsV.rd (Gd.get n.1 hp)) (Gd.get n.2.1 hp) (hx7 hp), gT [(33, some 9)] rfl rfl fun hp _ _ h n => ok_load rfl ty3 (Gd.get n.1 hp), mT rfl rfl i2, gT [(34, some 10), (35, some 11)] rfl rfl fun hp _ _ h n => ok_leq rfl (Gd.get n.1 hp) (Gd.get n.2.1 hp), o1 [(30, some 6), (36, some 12)] rfl fun _ _ h n => ok_pickM rfl n.1 hx6 (Gd.get n.2.1) (cB rfl), cm 13 rfl rfl, mT rfl rfl i0, mT rfl rfl i8, gT [(39, some 15), (40, some 16)] rfl rfl fun hp _ _ h n => ok_indexAddr rfl Try.underlying22 ty3 (IsV.rd (Gd.get n.1 hp)) (Gd.get n.2.1 hp) (hx9 hp), gT [(41, some 17)] rfl rfl fun hp _ _ h n => ok_load rfl ty3 (Gd.get n.1 hp), gT [(42, some 18)] rfl rfl fun hp _ _ h n => ok_rem rfl (Gd.get n.1 hp) (cI rfl) (hx10 hp), gT [(43, some 19)] rfl rfl fun hp _ _ h n => ok_lss rfl (Gd.get n.1 hp) (cI rfl), o1 [(38, some 14), (44, some 20)] rfl fun _ _ h n => ok_pickM rfl n.1 hx8 (Gd.get n.2.1) (cB rfl), trivial⟩ W3 fun b q p => ?_
    exact tail_done (k := q) (w2 _ _ ⟨Bs.post ⟨hg, hs, hd⟩ p, p.ke 0 rfl i0, p.ke 1 rfl i1, p.ke 2 rfl i2, p.ke 7 rfl i7, p.ke 8 rfl i8, p.ou 21 45 rfl, trivial⟩)
   rintro a k ⟨⟨hg, hs, hd⟩, i0, i1, i2, i7, i8, i45, _⟩
   obtain ⟨s2, hs2, hr⟩ := bind_some hr
   refine cut (fun a' k' => Bs noF k0 49 a' k' ∧ (IsV holidays_) (a'.get 0) k' ∧ (IsV from_) (a'.get 1) k' ∧ (IsV to_) (a'.get 2) k' ∧ (IsV s2) (a'.get 7) k' ∧ (IsV s1.2) (a'.get 8) k' ∧ True) ?_ hQ ?_
   ·intro Q4 W4 w3
    replace hr := hs2
    clear hQ
    have hQ := W4
    refine wp_cond_split (isBool i45) (fun hc214 => ?_) (fun hc214 => ?_)
    ·rw [if_pos hc214] at hr
     obtain ⟨x11, hx11, hr⟩ := bind_some hr
     refine cut (fun a' k' => Bs noF k0 49 a' k' ∧ (IsV holidays_) (a'.get 0) k' ∧ (IsV from_) (a'.get 1) k' ∧ (IsV to_) (a'.get 2) k' ∧ (IsV x11) (a'.get 7) k' ∧ (IsV s1.2) (a'.get 8) k' ∧ True) ?_ hQ ?_
     ·intro Q5 W5 w4
      refine gS 3 (_ :: _ :: _ :: []) hs (by kernel_rfl) ⟨mu rfl i7, o1 [(46, some 0)] rfl fun _ _ h n => ok_sub rfl n.1 (cI rfl) hx11, cp 1 rfl rfl, trivial⟩ W5 fun b q p => ?_
      exact tail_done (k := q) (w4 _ _ ⟨Bs.post ⟨hg, hs, hd⟩ p, p.ke 0 rfl i0, p.ke 1 rfl i1, p.ke 2 rfl i2, p.ou 2 7 rfl, p.ke 8 rfl i8, trivial⟩)
     rintro a k ⟨⟨hg, hs, hd⟩, i0, i1, i2, i7, i8, _⟩
     obtain rfl := Option.some.inj hr
     exact w3 _ _ ⟨⟨hg, hs, hd⟩, i0, i1, i2, i7, i8, trivial⟩
    rw [if_neg (by rw [hc214]; decide)] at hr
    refine wp_skip ?_
    obtain rfl := Option.some.inj hr
    exact w3 _ _ ⟨⟨hg, hs, hd⟩, i0, i1, i2, i7, i8, trivial⟩
   clear hs2
   rintro a k ⟨⟨hg, hs, hd⟩, i0, i1, i2, i7, i8, _⟩
   obtain ⟨x12, hx12, hr⟩ := bind_some hr
   refine cut (fun a' k' => Bs noF k0 49 a' k' ∧ (IsV holidays_) (a'.get 0) k' ∧ (IsV from_) (a'.get 1) k' ∧ (IsV to_) (a'.get 2) k' ∧ (IsV s2) (a'.get 7) k' ∧ (IsV x12) (a'.get 8) k' ∧ True) ?_ hQ ?_
   ·intro Q6 W6 w5
    refine gS 3 (_ :: _ :: _ :: []) hs (by kernel_rfl) ⟨mu rfl i8, o1 [(22, some 0)] rfl fun _ _ h n => ok_add rfl n.1 (cI rfl) hx12, cp 1 rfl rfl, trivial⟩ W6 fun b q p => ?_
    exact tail_done (k := q) (w5 _ _ ⟨Bs.post ⟨hg, hs, hd⟩ p, p.ke 0 rfl i0, p.ke 1 rfl i1, p.ke 2 rfl i2, p.ke 7 rfl i7, p.ou 2 8 rfl, trivial⟩)
   rintro a k ⟨⟨hg, hs, hd⟩, i0, i1, i2, i7, i8, _⟩
   exact hgo204 _ _ _ (Option.some.inj hr).symm ⟨⟨hg, hs, hd⟩, i0, i1, i2, i7, i8, trivial⟩
  rw [if_neg (by rw [hc221]; decide)] at hr
  refine wp_exit ?_
  exact hex205 _ _ _ _ (Option.some.inj hr).symm ⟨rfl, ⟨hg, hs, hd⟩, i7, trivial⟩
 ·rintro r1 a k rfl hR
  dsimp only at hr
  obtain rfl := Option.some.inj hr
  exact hR
 ·rintro _ _ _ rfl _
  simp at hr
 clear hf1
 rintro _ s3 a k rfl ⟨rfl, ⟨hg, hs, hd⟩, i7, _⟩
 dsimp only at hr
 refine stepL 2 (_ :: _ :: []) rfl ⟨hg, hs, hd⟩ (by kernel_rfl) ⟨mu rfl i7, cp 0 rfl rfl, trivial⟩ [⟨_, _⟩] (fun b q p => ⟨p.ou 1 6 rfl, trivial⟩) ?_
 rintro a k ⟨⟨hg, hs, hd⟩, i6, _⟩
 refine wp_ret ?_
 obtain rfl := Option.some.inj hr
 exact retC1 rfl hd hg i6
def rCounted_L1 (stays_ : (List Stay)) (s1 : Int × Int) (s2 : Int × Int × Int) : Option (Flow (Int × Int × Int) (Int)) :=
 if (decide (s2.2.2 < (stays_.length : Int))) then
  (getI stays_ s2.2.2).bind fun x1 =>
  (if (decide (x1.From ≤ s1.1)) then
   (getI stays_ s2.2.2).bind fun x2 =>
   some (decide (s1.1 ≤ x2.To))
  else
   some false).bind fun x3 =>
  (if x3 then
   (getI stays_ s2.2.2).bind fun x4 =>
   (addI x4.To 1).bind fun x5 =>
   some (max s2.2.1 x5)
  else
   some s2.2.1).bind fun s3 =>
  (getI stays_ s2.2.2).bind fun x6 =>
  (if (decide (s1.1 < x6.From)) then
   (getI stays_ s2.2.2).bind fun x7 =>
   some (min s2.1 x7.From)
  else
   some s2.1).bind fun s4 =>
  (addI s2.2.2 1).bind fun x8 =>
  some (.go (s4, s3, x8))
 else
  some (.ex 2 (s2.1, s2.2.1, s2.2.2))
def rCounted_L0 (holidays_ : (List Int)) (stays_ : (List Stay)) (to_ : Int) (s1 : Int × Int) : Option (Flow (Int × Int) (Int)) :=
 if (decide (s1.1 ≤ to_)) then
  ((addI to_ 1).bind fun x1 =>
  (iterL (rCounted_L1 stays_ s1) (stays_.length + 1) (x1, s1.1, 0)).bind fun f1 => match f1 with
   | .go _ => none
   | .ex _ s2 =>
    if (decide (s1.1 < s2.2.1)) then
     some (s2.2.1, s1.2)
    else
     (subI s2.1 1).bind fun x2 =>
     (rWorked holidays_ s1.1 x2).bind fun x3 =>
     (addI s1.2 x3).bind fun x4 =>
     some (s2.1, x4)
   | .ret r1 => none).bind fun s3 =>
  some (.go (s3.1, s3.2))
 else
  some (.ex 0 (s1.1, s1.2))
def rCounted (holidays_ : (List Int)) (stays_ : (List Stay)) (from_ : Int) (to_ : Int) : Option (Int) :=
 (iterL (rCounted_L0 holidays_ stays_ to_) (2 * stays_.length + 4) (from_, 0)).bind fun f1 => match f1 with
  | .go _ => none
  | .ex _ s1 =>
   some s1.2
  | .ret r1 => some r1
theorem rCounted_ok {k0 : K} {v0 v1 v2 v3 : Value} {holidays_ : (List Int)} {stays_ : (List Stay)} {from_ : Int} {to_ : Int} {r : Int} (i0 : (IsV holidays_) v0 k0) (i1 : (IsV stays_) v1 k0) (i2 : (IsV from_) v2 k0) (i3 : (IsV to_) v3 k0) (hr : rCounted holidays_ stays_ from_ to_ = some r) :
  Calls Try.prog 32 #[v0, v1, v2, v3] k0.w (Ret k0 (IsV r)) := by
 unfold rCounted at hr
 refine Ret.ofC ?_
 refine enterK Try.func32 rfl Try.ntmps32 (show 4 ≤ 76 by decide) fun a k hk0 hs hd ha => ?_
 obtain ⟨e0, e1, e2, e3, _⟩ := ha
 replace i0 : (IsV holidays_) (a.get 0) k := by rw [e0, hk0]; exact i0
 replace i1 : (IsV stays_) (a.get 1) k := by rw [e1, hk0]; exact i1
 replace i2 : (IsV from_) (a.get 2) k := by rw [e2, hk0]; exact i2
 replace i3 : (IsV to_) (a.get 3) k := by rw [e3, hk0]; exact i3
 have hQ : Gb.LetsOut (bodyPost Try.prog Try.f32 (RetC noF k0 (IsV r))) := letsOutC
 have hg : Chg noF k0 k := by rw [hk0]; exact Chg.refl _ k0
 refine stepL 1 (⟨some (IsI 0), []⟩ :: []) rfl ⟨hg, hs, hd⟩ (by kernel_rfl) ⟨aI rfl rfl, trivial⟩ [⟨_, _⟩, ⟨_, _⟩, ⟨_, _⟩, ⟨_, _⟩] (fun b q p => ⟨p.ke 0 rfl i0, p.ke 1 rfl i1, p.ke 2 rfl i2, p.ke 3 rfl i3, trivial⟩) ?_
 rintro a k ⟨⟨hg, hs, hd⟩, i0, i1, i2, i3, _⟩
 refine stepL 1 (⟨some (IsI 0), []⟩ :: []) rfl ⟨hg, hs, hd⟩ (by kernel_rfl) ⟨aI rfl rfl, trivial⟩ [⟨_, _⟩, ⟨_, _⟩, ⟨_, _⟩, ⟨_, _⟩, ⟨_, _⟩] (fun b q p => ⟨p.ke 0 rfl i0, p.ke 1 rfl i1, p.ke 2 rfl i2, p.ke 3 rfl i3, p.ou 0 9 rfl, trivial⟩) ?_
 rintro a k ⟨⟨hg, hs, hd⟩, i0, i1, i2, i3, i9, _⟩
 refine wp_seq ?_
 refine wp_block ?_
 obtain ⟨f1, hf1, hr⟩ := bind_some hr
 refine cutFe f1 (fun s' c l => Bs noF k0 76 c l ∧ IsV holidays_ (c.get 0) l ∧ IsV stays_ (c.get 1) l ∧ IsV s'.1 (c.get 2) l ∧ IsV to_ (c.get 3) l ∧ IsV s'.2 (c.get 9) l ∧ True) (fun i' s' c l => (i' = 0 ∧ Bs noF k0 76 c l ∧ IsV s'.2 (c.get 9) l ∧ True)) (fun r' c l => bodyPost Try.prog Try.f32 (RetC noF k0 (IsV r')) .ret c l.w) ?_ hQ ?_ ?_ ?_
 ·intro Q1 W1 hgo hex hret
  refine sim_loop ?_ _ _ _ _ _ hf1 ⟨⟨hg, hs, hd⟩, i0, i1, i2, i3, i9, trivial⟩ Q1 W1 hgo hex hret
  clear hr hf1 hgo hex hret W1 hQ hg hs hd i0 i1 i2 i3 i9
  intro s1 fl_ a k hr hS Q hQ hgo243 hex244 hret245
  obtain ⟨⟨hg, hs, hd⟩, i0, i1, i2, i3, i9, _⟩ := hS
  unfold rCounted_L0 at hr
  refine wp_seq ?_
  refine stepL 3 (_ :: _ :: _ :: []) rfl ⟨hg, hs, hd⟩ (by kernel_rfl) ⟨mu rfl i2, mu rfl i3, o1 [(13, some 0), (14, some 1)] rfl fun _ _ h n => ok_leq rfl n.1 n.2.1, trivial⟩ [⟨_, _⟩, ⟨_, _⟩, ⟨_, _⟩, ⟨_, _⟩, ⟨_, _⟩, ⟨_, _⟩] (fun b q p => ⟨p.ke 0 rfl i0, p.ke 1 rfl i1, p.ke 2 rfl i2, p.ke 3 rfl i3, p.ke 9 rfl i9, p.ou 2 15 rfl, trivial⟩) ?_
  rintro a k ⟨⟨hg, hs, hd⟩, i0, i1, i2, i3, i9, i15, _⟩
  refine wp_cond_split (isBool i15) (fun hc307 => ?_) (fun hc307 => ?_)
  ·rw [if_pos hc307] at hr
   refine wp_skip ?_
   obtain ⟨s2, hs2, hr⟩ := bind_some hr
   refine cut (fun a' k' => Bs noF k0 76 a' k' ∧ (IsV holidays_) (a'.get 0) k' ∧ (IsV stays_) (a'.get 1) k' ∧ (IsV s2.1) (a'.get 2) k' ∧ (IsV to_) (a'.get 3) k' ∧ (IsV s2.2) (a'.get 9) k' ∧ True) ?_ hQ ?_
   ·intro Q2 W2 w1
    replace hr := hs2
    clear hQ
    have hQ := W2
    refine wp_block ?_
    refine wp_seq ?_
    obtain ⟨x1, hx1, hr⟩ := bind_some hr
    refine cut (fun a' k' => Bs noF k0 76 a' k' ∧ (IsV holidays_) (a'.get 0) k' ∧ (IsV stays_) (a'.get 1) k' ∧ (IsV s1.1) (a'.get 2) k' ∧ (IsV to_) (a'.get 3) k' ∧ (IsV s1.2) (a'.get 9) k' ∧ (IsV x1) (a'.get 10) k' ∧ True) ?_ hQ ?_
    ·intro Q3 W3 w2
     refine gS 3 (_ :: _ :: _ :: []) hs (by kernel_rfl) ⟨mu rfl i3, o1 [(16, some 0)] rfl fun _ _ h n => ok_add rfl n.1 (cI rfl) hx1, cp 1 rfl rfl, trivial⟩ W3 fun b q p => ?_
     exact tail_done (k := q) (w2 _ _ ⟨Bs.post ⟨hg, hs, hd⟩ p, p.ke 0 rfl i0, p.ke 1 rfl i1, p.ke 2 rfl i2, p.ke 3 rfl i3, p.ke 9 rfl i9, p.ou 2 10 rfl, trivial⟩)
    rintro a k ⟨⟨hg, hs, hd⟩, i0, i1, i2, i3, i9, i10, _⟩
    refine stepL 2 (_ :: _ :: []) rfl ⟨hg, hs, hd⟩ (by kernel_rfl) ⟨mu rfl i2, cp 0 rfl rfl, trivial⟩ [⟨_, _⟩, ⟨_, _⟩, ⟨_, _⟩, ⟨_, _⟩, ⟨_, _⟩, ⟨_, _⟩, ⟨_, _⟩] (fun b q p => ⟨p.ke 0 rfl i0, p.ke 1 rfl i1, p.ke 2 rfl i2, p.ke 3 rfl i3, p.ke 9 rfl i9, p.ke 10 rfl i10, p.ou 1 11 rfl, trivial⟩) ?_
    rintro a k ⟨⟨hg, hs, hd⟩, i0, i1, i2, i3, i9, i10, i11, _⟩
    refine wp_seq ?_
    refine stepL 1 (⟨some (IsI 0), []⟩ :: []) rfl ⟨hg, hs, hd⟩ (by kernel_rfl) ⟨aI rfl rfl, trivial⟩ [⟨_, _⟩, ⟨_, _⟩, ⟨_, _⟩, ⟨_, _⟩, ⟨_, _⟩, ⟨_, _⟩, ⟨_, _⟩, ⟨_, _⟩] (fun b q p => ⟨p.ke 0 rfl i0, p.ke 1 rfl i1, p.ke 2 rfl i2, p.ke 3 rfl i3, p.ke 9 rfl i9, p.ke 10 rfl i10, p.ke 11 rfl i11, p.ou 0 12 rfl, trivial⟩) ?_
    rintro a k ⟨⟨hg, hs, hd⟩, i0, i1, i2, i3, i9, i10, i11, i12, _⟩
    refine wp_block ?_
    obtain ⟨f2, hf2, hr⟩ := bind_some hr
    refine cutFe f2 (fun s' c l => Bs noF k0 76 c l ∧ IsV holidays_ (c.get 0) l ∧ IsV stays_ (c.get 1) l ∧ IsV s1.1 (c.get 2) l ∧ IsV to_ (c.get 3) l ∧ IsV s1.2 (c.get 9) l ∧ IsV s'.1 (c.get 10) l ∧ IsV s'.2.1 (c.get 11) l ∧ IsV s'.2.2 (c.get 12) l ∧ True) (fun i' s' c l => (i' = 2 ∧ Bs noF k0 76 c l ∧ IsV holidays_ (c.get 0) l ∧ IsV stays_ (c.get 1) l ∧ IsV s1.1 (c.get 2) l ∧ IsV to_ (c.get 3) l ∧ IsV s1.2 (c.get 9) l ∧ IsV s'.1 (c.get 10) l ∧ IsV s'.2.1 (c.get 11) l ∧ True)) (fun r' c l => bodyPost Try.prog Try.f32 (RetC noF k0 (IsV r')) .ret c l.w) ?_ hQ ?_ ?_ ?_
    ·intro Q4 W4 hgo hex hret
     refine sim_loop ?_ _ _ _ _ _ hf2 ⟨⟨hg, hs, hd⟩, i0, i1, i2, i3, i9, i10, i11, i12, trivial⟩ Q4 W4 hgo hex hret
     clear hr hf2 hgo hex hret W4 hQ hg hs hd i0 i1 i10 i11 i12 i2 i3 i9
     intro s3 fl_ a k hr hS Q hQ hgo253 hex254 hret255
     obtain ⟨⟨hg, hs, hd⟩, i0, i1, i2, i3, i9, i10, i11, i12, _⟩ := hS
     unfold rCounted_L1 at hr
     refine wp_seq ?_
     refine stepL 4 (_ :: _ :: _ :: _ :: []) rfl ⟨hg, hs, hd⟩ (by kernel_rfl) ⟨mu rfl i12, mu rfl i1, o1 [(20, some 1)] rfl fun _ _ h n => ok_len rfl rfl Try.underlying23 (IsV.rd n.1), o1 [(19, some 0), (21, some 2)] rfl fun _ _ h n => ok_lss rfl n.1 n.2.1, trivial⟩ [⟨_, _⟩, ⟨_, _⟩, ⟨_, _⟩, ⟨_, _⟩, ⟨_, _⟩, ⟨_, _⟩, ⟨_, _⟩, ⟨_, _⟩, ⟨_, _⟩] (fun b q p => ⟨p.ke 0 rfl i0, p.ke 1 rfl i1, p.ke 2 rfl i2, p.ke 3 rfl i3, p.ke 9 rfl i9, p.ke 10 rfl i10, p.ke 11 rfl i11, p.ke 12 rfl i12, p.ou 3 22 rfl, trivial⟩) ?_
     rintro a k ⟨⟨hg, hs, hd⟩, i0, i1, i2, i3, i9, i10, i11, i12, i22, _⟩
     refine wp_cond_split (isBool i22) (fun hc280 => ?_) (fun hc280 => ?_)
     ·rw [if_pos hc280] at hr
      refine wp_skip ?_
      refine wp_seq ?_
      refine wp_block ?_
      refine wp_seq ?_
      refine wp_seq ?_
      obtain ⟨x2, hx2, hr⟩ := bind_some hr
      obtain ⟨x3, hx3, hr⟩ := bind_some hr
      obtain ⟨x4, hx4, hx3⟩ := ite_bind hx3
      refine cut (fun a' k' => Bs noF k0 76 a' k' ∧ (IsV holidays_) (a'.get 0) k' ∧ (IsV stays_) (a'.get 1) k' ∧ (IsV s1.1) (a'.get 2) k' ∧ (IsV to_) (a'.get 3) k' ∧ (IsV s1.2) (a'.get 9) k' ∧ (IsV s3.1) (a'.get 10) k' ∧ (IsV s3.2.1) (a'.get 11) k' ∧ (IsV s3.2.2) (a'.get 12) k' ∧ (IsV x3) (a'.get 40) k' ∧ True) ?_ hQ ?_
      ·intro Q5 W5 w3
       refine gS 16 (_ :: _ :: _ :: _ :: _ :: _ :: _ :: _ :: _ :: _ :: _ :: _ :: _ :: _ :: _ :: _ :: []) hs (by kernel_rfl) ⟨mu rfl i1, mu rfl i12, o1 [(25, some 0), (26, some 1)] rfl fun _ _ h n => ok_indexAddr rfl Try.underlying23 ty38 (IsV.rd n.1) n.2.1 hx2, o1 [(27, some 2)] rfl fun _ _ h n => ok_fieldAddr rfl fo38_0 (at_Stay_0 _) n.1, o1 [(28, some 3)] rfl fun _ _ h n => ok_load rfl ty3 n.1, mu rfl i2, o1 [(29, some 4), (30, some 5)] rfl fun _ _ h n => ok_leq rfl n.1 n.2.1, cm 6 rfl rfl, mT rfl rfl i2, mT rfl rfl i1, mT rfl rfl i12, gT [(34, some 9), (35, some 10)] rfl rfl fun hp _ _ h n => ok_indexAddr rfl Try.underlying23 ty38 (IsV.rd (Gd.get n.1 hp)) (Gd.get n.2.1 hp) (hx4 hp), gT [(36, some 11)] rfl rfl fun hp _ _ h n => ok_fieldAddr rfl fo38_1 (at_Stay_1 _) (Gd.get n.1 hp), gT [(37, some 12)] rfl rfl fun hp _ _ h n => ok_load rfl ty3 (Gd.get n.1 hp), gT [(33, some 8), (38, some 13)] rfl rfl fun hp _ _ h n => ok_leq rfl (Gd.get n.1 hp) (Gd.get n.2.1 hp), o1 [(32, some 7), (39, some 14)] rfl fun _ _ h n => ok_pickM rfl n.1 hx3 (Gd.get n.2.1) (cB rfl), trivial⟩ W5 fun b q p => ?_
       exact tail_done (k := q) (w3 _ _ ⟨Bs.post ⟨hg, hs, hd⟩ p, p.ke 0 rfl i0, p.ke 1 rfl i1, p.ke 2 rfl i2, p.ke 3 rfl i3, p.ke 9 rfl i9, p.ke 10 rfl i10, p.ke 11 rfl i11, p.ke 12 rfl i12, p.ou 15 40 rfl, trivial⟩)
      rintro a k ⟨⟨hg, hs, hd⟩, i0, i1, i2, i3, i9, i10, i11, i12, i40, _⟩
      obtain ⟨s4, hs4, hr⟩ := bind_some hr
      refine cut (fun a' k' => Bs noF k0 76 a' k' ∧ (IsV holidays_) (a'.get 0) k' ∧ (IsV stays_) (a'.get 1) k' ∧ (IsV s1.1) (a'.get 2) k' ∧ (IsV to_) (a'.get 3) k' ∧ (IsV s1.2) (a'.get 9) k' ∧ (IsV s3.1) (a'.get 10) k' ∧ (IsV s4) (a'.get 11) k' ∧ (IsV s3.2.2) (a'.get 12) k' ∧ True) ?_ hQ ?_
      ·intro Q6 W6 w4
       replace hr := hs4
       clear hQ
       have hQ := W6
       refine wp_cond_split (isBool i40) (fun hc263 => ?_) (fun hc263 => ?_)
       ·rw [if_pos hc263] at hr
        obtain ⟨x5, hx5, hr⟩ := bind_some hr
        obtain ⟨x6, hx6, hr⟩ := bind_some hr
        refine cut (fun a' k' => Bs noF k0 76 a' k' ∧ (IsV holidays_) (a'.get 0) k' ∧ (IsV stays_) (a'.get 1) k' ∧ (IsV s1.1) (a'.get 2) k' ∧ (IsV to_) (a'.get 3) k' ∧ (IsV s1.2) (a'.get 9) k' ∧ (IsV s3.1) (a'.get 10) k' ∧ (IsI (max s3.2.1 x6)) (a'.get 11) k' ∧ (IsV s3.2.2) (a'.get 12) k' ∧ True) ?_ hQ ?_
        ·intro Q7 W7 w5
         refine gS 9 (_ :: _ :: _ :: _ :: _ :: _ :: _ :: _ :: _ :: []) hs (by kernel_rfl) ⟨mu rfl i11, mu rfl i1, mu rfl i12, o1 [(42, some 1), (43, some 2)] rfl fun _ _ h n => ok_indexAddr rfl Try.underlying23 ty38 (IsV.rd n.1) n.2.1 hx5, o1 [(44, some 3)] rfl fun _ _ h n => ok_fieldAddr rfl fo38_1 (at_Stay_1 _) n.1, o1 [(45, some 4)] rfl fun _ _ h n => ok_load rfl ty3 n.1, o1 [(46, some 5)] rfl fun _ _ h n => ok_add rfl n.1 (cI rfl) hx6, o1 [(41, some 0), (47, some 6)] rfl fun _ _ h n => ok_max2 rfl n.1 n.2.1, cp 7 rfl rfl, trivial⟩ W7 fun b q p => ?_
         exact tail_done (k := q) (w5 _ _ ⟨Bs.post ⟨hg, hs, hd⟩ p, p.ke 0 rfl i0, p.ke 1 rfl i1, p.ke 2 rfl i2, p.ke 3 rfl i3, p.ke 9 rfl i9, p.ke 10 rfl i10, p.ou 8 11 rfl, p.ke 12 rfl i12, trivial⟩)
        rintro a k ⟨⟨hg, hs, hd⟩, i0, i1, i2, i3, i9, i10, i11, i12, _⟩
        obtain rfl := Option.some.inj hr
        exact w4 _ _ ⟨⟨hg, hs, hd⟩, i0, i1, i2, i3, i9, i10, i11, i12, trivial⟩
       rw [if_neg (by rw [hc263]; decide)] at hr
       refine wp_skip ?_
       obtain rfl := Option.some.inj hr
       exact w4 _ _ ⟨⟨hg, hs, hd⟩, i0, i1, i2, i3, i9, i10, i11, i12, trivial⟩
      clear hs4
      rintro a k ⟨⟨hg, hs, hd⟩, i0, i1, i2, i3, i9, i10, i11, i12, _⟩
      refine wp_seq ?_
      obtain ⟨x7, hx7, hr⟩ := bind_some hr
      refine cut (fun a' k' => Bs noF k0 76 a' k' ∧ (IsV holidays_) (a'.get 0) k' ∧ (IsV stays_) (a'.get 1) k' ∧ (IsV s1.1) (a'.get 2) k' ∧ (IsV to_) (a'.get 3) k' ∧ (IsV s1.2) (a'.get 9) k' ∧ (IsV s3.1) (a'.get 10) k' ∧ (IsV s4) (a'.get 11) k' ∧ (IsV s3.2.2) (a'.get 12) k' ∧ (IsV (decide (s1.1 < x7.From))) (a'.get 55) k' ∧ True) ?_ hQ ?_
      ·intro Q8 W8 w6
       refine gS 7 (_ :: _ :: _ :: _ :: _ :: _ :: _ :: []) hs (by kernel_rfl) ⟨mu rfl i1, mu rfl i12, o1 [(49, some 0), (50, some 1)] rfl fun _ _ h n => ok_indexAddr rfl Try.underlying23 ty38 (IsV.rd n.1) n.2.1 hx7, o1 [(51, some 2)] rfl fun _ _ h n => ok_fieldAddr rfl fo38_0 (at_Stay_0 _) n.1, o1 [(52, some 3)] rfl fun _ _ h n => ok_load rfl ty3 n.1, mu rfl i2, o1 [(53, some 4), (54, some 5)] rfl fun _ _ h n => ok_gtr rfl n.1 n.2.1, trivial⟩ W8 fun b q p => ?_
       exact tail_done (k := q) (w6 _ _ ⟨Bs.post ⟨hg, hs, hd⟩ p, p.ke 0 rfl i0, p.ke 1 rfl i1, p.ke 2 rfl i2, p.ke 3 rfl i3, p.ke 9 rfl i9, p.ke 10 rfl i10, p.ke 11 rfl i11, p.ke 12 rfl i12, p.ou 6 55 rfl, trivial⟩)
      rintro a k ⟨⟨hg, hs, hd⟩, i0, i1, i2, i3, i9, i10, i11, i12, i55, _⟩
      obtain ⟨s5, hs5, hr⟩ := bind_some hr
      refine cut (fun a' k' => Bs noF k0 76 a' k' ∧ (IsV holidays_) (a'.get 0) k' ∧ (IsV stays_) (a'.get 1) k' ∧ (IsV s1.1) (a'.get 2) k' ∧ (IsV to_) (a'.get 3) k' ∧ (IsV s1.2) (a'.get 9) k' ∧ (IsV s5) (a'.get 10) k' ∧ (IsV s4) (a'.get 11) k' ∧ (IsV s3.2.2) (a'.get 12) k' ∧ True) ?_ hQ ?_
      ·intro Q9 W9 w7
       replace hr := hs5
       clear hQ
       have hQ := W9
       refine wp_cond_split (isBool i55) (fun hc270 => ?_) (fun hc270 => ?_)
       ·rw [if_pos hc270] at hr
        obtain ⟨x8, hx8, hr⟩ := bind_some hr
        refine cut (fun a' k' => Bs noF k0 76 a' k' ∧ (IsV holidays_) (a'.get 0) k' ∧ (IsV stays_) (a'.get 1) k' ∧ (IsV s1.1) (a'.get 2) k' ∧ (IsV to_) (a'.get 3) k' ∧ (IsV s1.2) (a'.get 9) k' ∧ (IsI (min s3.1 x8.From)) (a'.get 10) k' ∧ (IsV s4) (a'.get 11) k' ∧ (IsV s3.2.2) (a'.get 12) k' ∧ True) ?_ hQ ?_
        ·intro Q10 W10 w8
         refine gS 8 (_ :: _ :: _ :: _ :: _ :: _ :: _ :: _ :: []) hs (by kernel_rfl) ⟨mu rfl i10, mu rfl i1, mu rfl i12, o1 [(57, some 1), (58, some 2)] rfl fun _ _ h n => ok_indexAddr rfl Try.underlying23 ty38 (IsV.rd n.1) n.2.1 hx8, o1 [(59, some 3)] rfl fun _ _ h n => ok_fieldAddr rfl fo38_0 (at_Stay_0 _) n.1, o1 [(60, some 4)] rfl fun _ _ h n => ok_load rfl ty3 n.1, o1 [(56, some 0), (61, some 5)] rfl fun _ _ h n => ok_min2 rfl n.1 n.2.1, cp 6 rfl rfl, trivial⟩ W10 fun b q p => ?_
         exact tail_done (k := q) (w8 _ _ ⟨Bs.post ⟨hg, hs, hd⟩ p, p.ke 0 rfl i0, p.ke 1 rfl i1, p.ke 2 rfl i2, p.ke 3 rfl i3, p.ke 9 rfl i9, p.ou 7 10 rfl, p.ke 11 rfl i11, p.ke 12 rfl i12, trivial⟩)
        rintro a k ⟨⟨hg, hs, hd⟩, i0, i1, i2, i3, i9, i10, i11, i12, _⟩
        obtain rfl := Option.some.inj hr
        exact w7 _ _ ⟨⟨hg, hs, hd⟩, i0, i1, i2, i3, i9, i10, i11, i12, trivial⟩
       rw [if_neg (by rw [hc270]; decide)] at hr
       refine wp_skip ?_
       obtain rfl := Option.some.inj hr
       exact w7 _ _ ⟨⟨hg, hs, hd⟩, i0, i1, i2, i3, i9, i10, i11, i12, trivial⟩
      clear hs5
      rintro a k ⟨⟨hg, hs, hd⟩, i0, i1, i2, i3, i9, i10, i11, i12, _⟩
      obtain ⟨x9, hx9, hr⟩ := bind_some hr
      refine cut (fun a' k' => Bs noF k0 76 a' k' ∧ (IsV holidays_) (a'.get 0) k' ∧ (IsV stays_) (a'.get 1) k' ∧ (IsV s1.1) (a'.get 2) k' ∧ (IsV to_) (a'.get 3) k' ∧ (IsV s1.2) (a'.get 9) k' ∧ (IsV s5) (a'.get 10) k' ∧ (IsV s4) (a'.get 11) k' ∧ (IsV x9) (a'.get 12) k' ∧ True) ?_ hQ ?_
      ·intro Q11 W11 w9
       refine gS 3 (_ :: _ :: _ :: []) hs (by kernel_rfl) ⟨mu rfl i12, o1 [(23, some 0)] rfl fun _ _ h n => ok_add rfl n.1 (cI rfl) hx9, cp 1 rfl rfl, trivial⟩ W11 fun b q p => ?_
       exact tail_done (k := q) (w9 _ _ ⟨Bs.post ⟨hg, hs, hd⟩ p, p.ke 0 rfl i0, p.ke 1 rfl i1, p.ke 2 rfl i2, p.ke 3 rfl i3, p.ke 9 rfl i9, p.ke 10 rfl i10, p.ke 11 rfl i11, p.ou 2 12 rfl, trivial⟩)
      rintro a k ⟨⟨hg, hs, hd⟩, i0, i1, i2, i3, i9, i10, i11, i12, _⟩
      exact hgo253 _ _ _ (Option.some.inj hr).symm ⟨⟨hg, hs, hd⟩, i0, i1, i2, i3, i9, i10, i11, i12, trivial⟩
     rw [if_neg (by rw [hc280]; decide)] at hr
     refine wp_exit ?_
     exact hex254 _ _ _ _ (Option.some.inj hr).symm ⟨rfl, ⟨hg, hs, hd⟩, i0, i1, i2, i3, i9, i10, i11, trivial⟩
    ·rintro r1 a k rfl hR
     dsimp only at hr
     simp at hr
    ·rintro _ _ _ rfl _
     simp at hr
    clear hf2
    rintro _ s6 a k rfl ⟨rfl, ⟨hg, hs, hd⟩, i0, i1, i2, i3, i9, i10, i11, _⟩
    dsimp only at hr
    refine wp_seq ?_
    refine stepL 3 (_ :: _ :: _ :: []) rfl ⟨hg, hs, hd⟩ (by kernel_rfl) ⟨mu rfl i11, mu rfl i2, o1 [(63, some 0), (64, some 1)] rfl fun _ _ h n => ok_gtr rfl n.1 n.2.1, trivial⟩ [⟨_, _⟩, ⟨_, _⟩, ⟨_, _⟩, ⟨_, _⟩, ⟨_, _⟩, ⟨_, _⟩, ⟨_, _⟩, ⟨_, _⟩] (fun b q p => ⟨p.ke 0 rfl i0, p.ke 1 rfl i1, p.ke 2 rfl i2, p.ke 3 rfl i3, p.ke 9 rfl i9, p.ke 10 rfl i10, p.ke 11 rfl i11, p.ou 2 65 rfl, trivial⟩) ?_
    rintro a k ⟨⟨hg, hs, hd⟩, i0, i1, i2, i3, i9, i10, i11, i65, _⟩
    refine wp_cond_split (isBool i65) (fun hc295 => ?_) (fun hc295 => ?_)
    ·rw [if_pos hc295] at hr
     refine stepL 2 (_ :: _ :: []) rfl ⟨hg, hs, hd⟩ (by kernel_rfl) ⟨mu rfl i11, cp 0 rfl rfl, trivial⟩ [⟨_, _⟩, ⟨_, _⟩, ⟨_, _⟩, ⟨_, _⟩, ⟨_, _⟩] (fun b q p => ⟨p.ke 0 rfl i0, p.ke 1 rfl i1, p.ou 1 2 rfl, p.ke 3 rfl i3, p.ke 9 rfl i9, trivial⟩) ?_
     rintro a k ⟨⟨hg, hs, hd⟩, i0, i1, i2, i3, i9, _⟩
     refine wp_exit ?_
     obtain rfl := Option.some.inj hr
     exact w1 _ _ ⟨⟨hg, hs, hd⟩, i0, i1, i2, i3, i9, trivial⟩
    rw [if_neg (by rw [hc295]; decide)] at hr
    refine wp_skip ?_
    refine wp_seq ?_
    obtain ⟨x10, hx10, hr⟩ := bind_some hr
    obtain ⟨x11, hx11, hr⟩ := bind_some hr
    obtain ⟨x12, hx12, hr⟩ := bind_some hr
    refine cut (fun a' k' => Bs noF k0 76 a' k' ∧ (IsV holidays_) (a'.get 0) k' ∧ (IsV stays_) (a'.get 1) k' ∧ (IsV to_) (a'.get 3) k' ∧ (IsV x12) (a'.get 9) k' ∧ (IsV s6.1) (a'.get 10) k' ∧ True) ?_ hQ ?_
    ·intro Q12 W12 w10
     refine gS 8 (_ :: _ :: _ :: _ :: _ :: _ :: _ :: _ :: []) hs (by kernel_rfl) ⟨mu rfl i9, mu rfl i0, mu rfl i2, mu rfl i10, o1 [(70, some 3)] rfl fun _ _ h n => ok_sub rfl n.1 (cI rfl) hx10, o1 [(68, some 1), (69, some 2), (71, some 4)] rfl fun _ _ h n => ok_call rfl Try.call42 (rWorked_ok n.1 n.2.1 n.2.2.1 hx11), o1 [(67, some 0), (72, some 5)] rfl fun _ _ h n => ok_add rfl n.1 n.2.1 hx12, cp 6 rfl rfl, trivial⟩ W12 fun b q p => ?_
     exact tail_done (k := q) (w10 _ _ ⟨Bs.post ⟨hg, hs, hd⟩ p, p.ke 0 rfl i0, p.ke 1 rfl i1, p.ke 3 rfl i3, p.ou 7 9 rfl, p.ke 10 rfl i10, trivial⟩)
    rintro a k ⟨⟨hg, hs, hd⟩, i0, i1, i3, i9, i10, _⟩
    refine cut (fun a' k' => Bs noF k0 76 a' k' ∧ (IsV holidays_) (a'.get 0) k' ∧ (IsV stays_) (a'.get 1) k' ∧ (IsV s6.1) (a'.get 2) k' ∧ (IsV to_) (a'.get 3) k' ∧ (IsV x12) (a'.get 9) k' ∧ True) ?_ hQ ?_
    ·intro Q13 W13 w11
     refine gS 2 (_ :: _ :: []) hs (by kernel_rfl) ⟨mu rfl i10, cp 0 rfl rfl, trivial⟩ W13 fun b q p => ?_
     exact tail_done (k := q) (w11 _ _ ⟨Bs.post ⟨hg, hs, hd⟩ p, p.ke 0 rfl i0, p.ke 1 rfl i1, p.ou 1 2 rfl, p.ke 3 rfl i3, p.ke 9 rfl i9, trivial⟩)
    rintro a k ⟨⟨hg, hs, hd⟩, i0, i1, i2, i3, i9, _⟩
    obtain rfl := Option.some.inj hr
    exact w1 _ _ ⟨⟨hg, hs, hd⟩, i0, i1, i2, i3, i9, trivial⟩
   clear hs2
   rintro a k ⟨⟨hg, hs, hd⟩, i0, i1, i2, i3, i9, _⟩
   exact hgo243 _ _ _ (Option.some.inj hr).symm ⟨⟨hg, hs, hd⟩, i0, i1, i2, i3, i9, trivial⟩
  rw [if_neg (by rw [hc307]; decide)] at hr
  refine wp_exit ?_
  exact hex244 _ _ _ _ (Option.some.inj hr).symm ⟨rfl, ⟨hg, hs, hd⟩, i9, trivial⟩
 ·rintro r2 a k rfl hR
  dsimp only at hr
  obtain rfl := Option.some.inj hr
  exact hR
 ·rintro _ _ _ rfl _
  simp at hr
 clear hf1
 rintro _ s7 a k rfl ⟨rfl, ⟨hg, hs, hd⟩, i9, _⟩
 dsimp only at hr
 refine stepL 2 (_ :: _ :: []) rfl ⟨hg, hs, hd⟩ (by kernel_rfl) ⟨mu rfl i9, cp 0 rfl rfl, trivial⟩ [⟨_, _⟩] (fun b q p => ⟨p.ou 1 8 rfl, trivial⟩) ?_
 rintro a k ⟨⟨hg, hs, hd⟩, i8, _⟩
 refine wp_ret ?_
 obtain rfl := Option.some.inj hr
 exact retC1 rfl hd hg i8
def rCount (holidays_ : (List Int)) (stays_ : (List Stay)) (a_ : Int) (b_ : Int) : Option (Int) :=
 (rRight holidays_).bind fun x1 =>
 (if (!x1) then
  some true
 else
  (rightStays stays_).bind fun x2 =>
  some (!x2)).bind fun x3 =>
 (if x3 then
  some true
 else
  (rIn a_).bind fun x4 =>
  some (!x4)).bind fun x5 =>
 (if x5 then
  some true
 else
  (rIn b_).bind fun x6 =>
  some (!x6)).bind fun x7 =>
 if (x7 || (decide (b_ ≤ a_))) then
  some 0
 else
  (addI a_ 1).bind fun x8 =>
  (rCounted holidays_ stays_ x8 b_).bind fun x9 =>
  some x9
theorem rCount_ok {k0 : K} {v0 v1 v2 v3 : Value} {holidays_ : (List Int)} {stays_ : (List Stay)} {a_ : Int} {b_ : Int} {r : Int} (i0 : (IsV holidays_) v0 k0) (i1 : (IsV stays_) v1 k0) (i2 : (IsV a_) v2 k0) (i3 : (IsV b_) v3 k0) (hr : rCount holidays_ stays_ a_ b_ = some r) :
  Calls Try.prog 22 #[v0, v1, v2, v3] k0.w (Ret k0 (IsV r)) := by
 unfold rCount at hr
 refine Ret.ofC ?_
 refine enterK Try.func22 rfl Try.ntmps22 (show 4 ≤ 38 by decide) fun a k hk0 hs hd ha => ?_
 obtain ⟨e0, e1, e2, e3, _⟩ := ha
 replace i0 : (IsV holidays_) (a.get 0) k := by rw [e0, hk0]; exact i0
 replace i1 : (IsV stays_) (a.get 1) k := by rw [e1, hk0]; exact i1
 replace i2 : (IsV a_) (a.get 2) k := by rw [e2, hk0]; exact i2
 replace i3 : (IsV b_) (a.get 3) k := by rw [e3, hk0]; exact i3
 have hQ : Gb.LetsOut (bodyPost Try.prog Try.f22 (RetC noF k0 (IsV r))) := letsOutC
 have hg : Chg noF k0 k := by rw [hk0]; exact Chg.refl _ k0
 refine stepL 1 (⟨some (IsI 0), []⟩ :: []) rfl ⟨hg, hs, hd⟩ (by kernel_rfl) ⟨aI rfl rfl, trivial⟩ [⟨_, _⟩, ⟨_, _⟩, ⟨_, _⟩, ⟨_, _⟩] (fun b q p => ⟨p.ke 0 rfl i0, p.ke 1 rfl i1, p.ke 2 rfl i2, p.ke 3 rfl i3, trivial⟩) ?_
 rintro a k ⟨⟨hg, hs, hd⟩, i0, i1, i2, i3, _⟩
 refine wp_seq ?_
 refine wp_seq ?_
 obtain ⟨x1, hx1, hr⟩ := bind_some hr
 obtain ⟨x2, hx2, hr⟩ := bind_some hr
 obtain ⟨x3, hx3, hx2⟩ := ite_bindF hx2
 obtain ⟨x4, hx4, hr⟩ := bind_some hr
 obtain ⟨x5, hx5, hx4⟩ := ite_bindF hx4
 obtain ⟨x6, hx6, hr⟩ := bind_some hr
 obtain ⟨x7, hx7, hx6⟩ := ite_bindF hx6
 refine cut (fun a' k' => Bs noF k0 38 a' k' ∧ (IsV holidays_) (a'.get 0) k' ∧ (IsV stays_) (a'.get 1) k' ∧ (IsV a_) (a'.get 2) k' ∧ (IsV b_) (a'.get 3) k' ∧ (IsV (x6 || (decide (b_ ≤ a_)))) (a'.get 31) k' ∧ True) ?_ hQ ?_
 ·intro Q1 W1 w1
  refine gS 23 (_ :: _ :: _ :: _ :: _ :: _ :: _ :: _ :: _ :: _ :: _ :: _ :: _ :: _ :: _ :: _ :: _ :: _ :: _ :: _ :: _ :: _ :: _ :: []) hs (by kernel_rfl) ⟨mu rfl i0, o1 [(9, some 0)] rfl fun _ _ h n => ok_call rfl Try.call14 (rRight_ok n.1 hx1), o1 [(10, some 1)] rfl fun _ _ h n => ok_not rfl n.1, cm 2 rfl rfl, mF rfl rfl i1, gF [(13, some 4)] rfl rfl fun hp _ _ h n => ok_call rfl Try.call30 (rightStays_ok (Gd.get n.1 hp) (hx3 hp)), gF [(14, some 5)] rfl rfl fun hp _ _ h n => ok_not rfl (Gd.get n.1 hp), o1 [(12, some 3), (15, some 6)] rfl fun _ _ h n => ok_pickM rfl n.1 hx2 (cB rfl) (Gd.get n.2.1), cm 7 rfl rfl, mF rfl rfl i2, gF [(18, some 9)] rfl rfl fun hp _ _ h n => ok_call rfl Try.call31 (rIn_ok (Gd.get n.1 hp) (hx5 hp)), gF [(19, some 10)] rfl rfl fun hp _ _ h n => ok_not rfl (Gd.get n.1 hp), o1 [(17, some 8), (20, some 11)] rfl fun _ _ h n => ok_pickM rfl n.1 hx4 (cB rfl) (Gd.get n.2.1), cm 12 rfl rfl, mF rfl rfl i3, gF [(23, some 14)] rfl rfl fun hp _ _ h n => ok_call rfl Try.call31 (rIn_ok (Gd.get n.1 hp) (hx7 hp)), gF [(24, some 15)] rfl rfl fun hp _ _ h n => ok_not rfl (Gd.get n.1 hp), o1 [(22, some 13), (25, some 16)] rfl fun _ _ h n => ok_pickM rfl n.1 hx6 (cB rfl) (Gd.get n.2.1), cm 17 rfl rfl, mF rfl rfl i2, mF rfl rfl i3, gF [(28, some 19), (29, some 20)] rfl rfl fun hp _ _ h n => ok_geq rfl (Gd.get n.1 hp) (Gd.get n.2.1 hp), o1 [(27, some 18), (30, some 21)] rfl fun _ _ h n => ok_pickOr rfl n.1 (cB rfl) (Gd.get n.2.1), trivial⟩ W1 fun b q p => ?_
  exact tail_done (k := q) (w1 _ _ ⟨Bs.post ⟨hg, hs, hd⟩ p, p.ke 0 rfl i0, p.ke 1 rfl i1, p.ke 2 rfl i2, p.ke 3 rfl i3, p.ou 22 31 rfl, trivial⟩)
 rintro a k ⟨⟨hg, hs, hd⟩, i0, i1, i2, i3, i31, _⟩
 refine wp_cond_split (isBool i31) (fun hc329 => ?_) (fun hc329 => ?_)
 ·rw [if_pos hc329] at hr
  refine stepL 1 (⟨some (IsI 0), []⟩ :: []) rfl ⟨hg, hs, hd⟩ (by kernel_rfl) ⟨aI rfl rfl, trivial⟩ [⟨_, _⟩] (fun b q p => ⟨p.ou 0 8 rfl, trivial⟩) ?_
  rintro a k ⟨⟨hg, hs, hd⟩, i8, _⟩
  refine wp_ret ?_
  obtain rfl := Option.some.inj hr
  exact retC1 rfl hd hg i8
 rw [if_neg (by rw [hc329]; decide)] at hr
 refine wp_skip ?_
 refine wp_seq ?_
 obtain ⟨x8, hx8, hr⟩ := bind_some hr
 obtain ⟨x9, hx9, hr⟩ := bind_some hr
 refine cut (fun a' k' => Bs noF k0 38 a' k' ∧ (IsV x9) (a'.get 8) k' ∧ True) ?_ hQ ?_
 ·intro Q2 W2 w2
  refine gS 7 (_ :: _ :: _ :: _ :: _ :: _ :: _ :: []) hs (by kernel_rfl) ⟨mu rfl i0, mu rfl i1, mu rfl i2, o1 [(34, some 2)] rfl fun _ _ h n => ok_add rfl n.1 (cI rfl) hx8, mu rfl i3, o1 [(32, some 0), (33, some 1), (35, some 3), (36, some 4)] rfl fun _ _ h n => ok_call rfl Try.call32 (rCounted_ok n.1 n.2.1 n.2.2.1 n.2.2.2.1 hx9), cp 5 rfl rfl, trivial⟩ W2 fun b q p => ?_
  exact tail_done (k := q) (w2 _ _ ⟨Bs.post ⟨hg, hs, hd⟩ p, p.ou 6 8 rfl, trivial⟩)
 rintro a k ⟨⟨hg, hs, hd⟩, i8, _⟩
 refine wp_ret ?_
 obtain rfl := Option.some.inj hr
 exact retC1 rfl hd hg i8
def rBetween (holidays_ : (List Int)) (a_ : Int) (b_ : Int) : Option (Int) :=
 (rCount holidays_ ([] : List Stay) a_ b_).bind fun x1 =>
 some x1
theorem rBetween_ok {k0 : K} {v0 v1 v2 : Value} {holidays_ : (List Int)} {a_ : Int} {b_ : Int} {r : Int} (i0 : (IsV holidays_) v0 k0) (i1 : (IsV a_) v1 k0) (i2 : (IsV b_) v2 k0) (hr : rBetween holidays_ a_ b_ = some r) :
  Calls Try.prog 20 #[v0, v1, v2] k0.w (Ret k0 (IsV r)) := by
 unfold rBetween at hr
 refine Ret.ofC ?_
 refine enterK Try.func20 rfl Try.ntmps20 (show 3 ≤ 11 by decide) fun a k hk0 hs hd ha => ?_
 obtain ⟨e0, e1, e2, _⟩ := ha
 replace i0 : (IsV holidays_) (a.get 0) k := by rw [e0, hk0]; exact i0
 replace i1 : (IsV a_) (a.get 1) k := by rw [e1, hk0]; exact i1
 replace i2 : (IsV b_) (a.get 2) k := by rw [e2, hk0]; exact i2
 have hQ : Gb.LetsOut (bodyPost Try.prog Try.f20 (RetC noF k0 (IsV r))) := letsOutC
 have hg : Chg noF k0 k := by rw [hk0]; exact Chg.refl _ k0
 refine stepL 1 (⟨some (IsI 0), []⟩ :: []) rfl ⟨hg, hs, hd⟩ (by kernel_rfl) ⟨aI rfl rfl, trivial⟩ [⟨_, _⟩, ⟨_, _⟩, ⟨_, _⟩] (fun b q p => ⟨p.ke 0 rfl i0, p.ke 1 rfl i1, p.ke 2 rfl i2, trivial⟩) ?_
 rintro a k ⟨⟨hg, hs, hd⟩, i0, i1, i2, _⟩
 refine wp_seq ?_
 obtain ⟨x1, hx1, hr⟩ := bind_some hr
 refine cut (fun a' k' => Bs noF k0 11 a' k' ∧ (IsV x1) (a'.get 6) k' ∧ True) ?_ hQ ?_
 ·intro Q1 W1 w1
  refine gS 5 (_ :: _ :: _ :: _ :: _ :: []) hs (by kernel_rfl) ⟨mu rfl i0, mu rfl i1, mu rfl i2, o1 [(7, some 0), (8, some 1), (9, some 2)] rfl fun _ _ h n => ok_call rfl Try.call22 (rCount_ok n.1 (isV_list.2 (.inl ⟨rfl, rfl⟩)) n.2.1 n.2.2.1 hx1), cp 3 rfl rfl, trivial⟩ W1 fun b q p => ?_
  exact tail_done (k := q) (w1 _ _ ⟨Bs.post ⟨hg, hs, hd⟩ p, p.ou 4 6 rfl, trivial⟩)
 rintro a k ⟨⟨hg, hs, hd⟩, i6, _⟩
 refine wp_ret ?_
 obtain rfl := Option.some.inj hr
 exact retC1 rfl hd hg i6
def rDeadline_L0 (holidays_ : (List Int)) (stays_ : (List Stay)) (day_ : Int) (n_ : Int) (s1 : Int × Int) : Option (Flow (Int × Int) (Int × Int)) :=
 (addI s1.1 1).bind fun x1 =>
 if (decide (x1 < s1.2)) then
  (addI s1.1 s1.2).bind fun x2 =>
  (quoI x2 2).bind fun x3 =>
  (addI day_ 1).bind fun x4 =>
  (rCounted holidays_ stays_ x4 x3).bind fun x5 =>
  (if (decide (x5 < n_)) then
   some (x3, s1.2)
  else
   some (s1.1, x3)).bind fun s2 =>
  some (.go (s2.1, s2.2))
 else
  some (.ex 0 (s1.1, s1.2))
def rDeadline (holidays_ : (List Int)) (stays_ : (List Stay)) (day_ : Int) (n_ : Int) : Option (Int × Int) :=
 (rRight holidays_).bind fun x1 =>
 (if (!x1) then
  some true
 else
  (rightStays stays_).bind fun x2 =>
  some (!x2)).bind fun x3 =>
 (if x3 then
  some true
 else
  (rIn day_).bind fun x4 =>
  some (!x4)).bind fun x5 =>
 (if x5 then
  some true
 else
  (rIn n_).bind fun x6 =>
  some (!x6)).bind fun x7 =>
 if x7 then
  some (0, 1)
 else
  if (n_ == 0) then
   some (day_, 0)
  else
   (addI day_ 1).bind fun x8 =>
   (rCounted holidays_ stays_ x8 1073741824).bind fun x9 =>
   if (decide (x9 < n_)) then
    some (0, 20)
   else
    (iterL (rDeadline_L0 holidays_ stays_ day_ n_) (64) (day_, 1073741824)).bind fun f1 => match f1 with
     | .go _ => none
     | .ex _ s1 =>
      some (s1.2, 0)
     | .ret r1 => some r1
theorem rDeadline_ok {k0 : K} {v0 v1 v2 v3 : Value} {holidays_ : (List Int)} {stays_ : (List Stay)} {day_ : Int} {n_ : Int} {r : Int × Int} (i0 : (IsV holidays_) v0 k0) (i1 : (IsV stays_) v1 k0) (i2 : (IsV day_) v2 k0) (i3 : (IsV n_) v3 k0) (hr : rDeadline holidays_ stays_ day_ n_ = some r) :
  Calls Try.prog 12 #[v0, v1, v2, v3] k0.w (Ret k0 (IsTup2 (IsV r.1) (IsV r.2))) := by
 unfold rDeadline at hr
 refine Ret.ofC ?_
 refine enterK Try.func12 rfl Try.ntmps12 (show 4 ≤ 61 by decide) fun a k hk0 hs hd ha => ?_
 obtain ⟨e0, e1, e2, e3, _⟩ := ha
 replace i0 : (IsV holidays_) (a.get 0) k := by rw [e0, hk0]; exact i0
 replace i1 : (IsV stays_) (a.get 1) k := by rw [e1, hk0]; exact i1
 replace i2 : (IsV day_) (a.get 2) k := by rw [e2, hk0]; exact i2
 replace i3 : (IsV n_) (a.get 3) k := by rw [e3, hk0]; exact i3
 have hQ : Gb.LetsOut (bodyPost Try.prog Try.f12 (RetC noF k0 (IsTup2 (IsV r.1) (IsV r.2)))) := letsOutC
 have hg : Chg noF k0 k := by rw [hk0]; exact Chg.refl _ k0
 refine stepL 2 (⟨some (IsI 0), []⟩ :: ⟨some (IsI 0), []⟩ :: []) rfl ⟨hg, hs, hd⟩ (by kernel_rfl) ⟨aI rfl rfl, aI rfl rfl, trivial⟩ [⟨_, _⟩, ⟨_, _⟩, ⟨_, _⟩, ⟨_, _⟩] (fun b q p => ⟨p.ke 0 rfl i0, p.ke 1 rfl i1, p.ke 2 rfl i2, p.ke 3 rfl i3, trivial⟩) ?_
 rintro a k ⟨⟨hg, hs, hd⟩, i0, i1, i2, i3, _⟩
 refine wp_seq ?_
 refine wp_seq ?_
 obtain ⟨x1, hx1, hr⟩ := bind_some hr
 obtain ⟨x2, hx2, hr⟩ := bind_some hr
 obtain ⟨x3, hx3, hx2⟩ := ite_bindF hx2
 obtain ⟨x4, hx4, hr⟩ := bind_some hr
 obtain ⟨x5, hx5, hx4⟩ := ite_bindF hx4
 obtain ⟨x6, hx6, hr⟩ := bind_some hr
 obtain ⟨x7, hx7, hx6⟩ := ite_bindF hx6
 refine cut (fun a' k' => Bs noF k0 61 a' k' ∧ (IsV holidays_) (a'.get 0) k' ∧ (IsV stays_) (a'.get 1) k' ∧ (IsV day_) (a'.get 2) k' ∧ (IsV n_) (a'.get 3) k' ∧ (IsV x6) (a'.get 30) k' ∧ True) ?_ hQ ?_
 ·intro Q1 W1 w1
  refine gS 18 (_ :: _ :: _ :: _ :: _ :: _ :: _ :: _ :: _ :: _ :: _ :: _ :: _ :: _ :: _ :: _ :: _ :: _ :: []) hs (by kernel_rfl) ⟨mu rfl i0, o1 [(13, some 0)] rfl fun _ _ h n => ok_call rfl Try.call14 (rRight_ok n.1 hx1), o1 [(14, some 1)] rfl fun _ _ h n => ok_not rfl n.1, cm 2 rfl rfl, mF rfl rfl i1, gF [(17, some 4)] rfl rfl fun hp _ _ h n => ok_call rfl Try.call30 (rightStays_ok (Gd.get n.1 hp) (hx3 hp)), gF [(18, some 5)] rfl rfl fun hp _ _ h n => ok_not rfl (Gd.get n.1 hp), o1 [(16, some 3), (19, some 6)] rfl fun _ _ h n => ok_pickM rfl n.1 hx2 (cB rfl) (Gd.get n.2.1), cm 7 rfl rfl, mF rfl rfl i2, gF [(22, some 9)] rfl rfl fun hp _ _ h n => ok_call rfl Try.call31 (rIn_ok (Gd.get n.1 hp) (hx5 hp)), gF [(23, some 10)] rfl rfl fun hp _ _ h n => ok_not rfl (Gd.get n.1 hp), o1 [(21, some 8), (24, some 11)] rfl fun _ _ h n => ok_pickM rfl n.1 hx4 (cB rfl) (Gd.get n.2.1), cm 12 rfl rfl, mF rfl rfl i3, gF [(27, some 14)] rfl rfl fun hp _ _ h n => ok_call rfl Try.call31 (rIn_ok (Gd.get n.1 hp) (hx7 hp)), gF [(28, some 15)] rfl rfl fun hp _ _ h n => ok_not rfl (Gd.get n.1 hp), o1 [(26, some 13), (29, some 16)] rfl fun _ _ h n => ok_pickM rfl n.1 hx6 (cB rfl) (Gd.get n.2.1), trivial⟩ W1 fun b q p => ?_
  exact tail_done (k := q) (w1 _ _ ⟨Bs.post ⟨hg, hs, hd⟩ p, p.ke 0 rfl i0, p.ke 1 rfl i1, p.ke 2 rfl i2, p.ke 3 rfl i3, p.ou 17 30 rfl, trivial⟩)
 rintro a k ⟨⟨hg, hs, hd⟩, i0, i1, i2, i3, i30, _⟩
 refine wp_cond_split (isBool i30) (fun hc396 => ?_) (fun hc396 => ?_)
 ·rw [if_pos hc396] at hr
  refine stepL 2 (⟨some (IsI 0), []⟩ :: ⟨some (IsI 1), []⟩ :: []) rfl ⟨hg, hs, hd⟩ (by kernel_rfl) ⟨aI rfl rfl, aI rfl rfl, trivial⟩ [⟨_, _⟩, ⟨_, _⟩] (fun b q p => ⟨p.ou 0 8 rfl, p.ou 1 9 rfl, trivial⟩) ?_
  rintro a k ⟨⟨hg, hs, hd⟩, i8, i9, _⟩
  refine wp_ret ?_
  obtain rfl := Option.some.inj hr
  exact retC2 rfl hd hg i8 i9
 rw [if_neg (by rw [hc396]; decide)] at hr
 refine wp_skip ?_
 refine wp_seq ?_
 refine stepL 2 (_ :: _ :: []) rfl ⟨hg, hs, hd⟩ (by kernel_rfl) ⟨mu rfl i3, o1 [(31, some 0)] rfl fun _ _ h n => ok_eqI rfl n.1 (cI rfl), trivial⟩ [⟨_, _⟩, ⟨_, _⟩, ⟨_, _⟩, ⟨_, _⟩, ⟨_, _⟩] (fun b q p => ⟨p.ke 0 rfl i0, p.ke 1 rfl i1, p.ke 2 rfl i2, p.ke 3 rfl i3, p.ou 1 32 rfl, trivial⟩) ?_
 rintro a k ⟨⟨hg, hs, hd⟩, i0, i1, i2, i3, i32, _⟩
 refine wp_cond_split (isBool i32) (fun hc393 => ?_) (fun hc393 => ?_)
 ·rw [if_pos hc393] at hr
  refine stepL 3 (_ :: _ :: ⟨some (IsI 0), []⟩ :: []) rfl ⟨hg, hs, hd⟩ (by kernel_rfl) ⟨mu rfl i2, cp 0 rfl rfl, aI rfl rfl, trivial⟩ [⟨_, _⟩, ⟨_, _⟩] (fun b q p => ⟨p.ou 1 8 rfl, p.ou 2 9 rfl, trivial⟩) ?_
  rintro a k ⟨⟨hg, hs, hd⟩, i8, i9, _⟩
  refine wp_ret ?_
  obtain rfl := Option.some.inj hr
  exact retC2 rfl hd hg i8 i9
 rw [if_neg (by rw [hc393]; decide)] at hr
 refine wp_skip ?_
 refine wp_seq ?_
 refine wp_seq ?_
 obtain ⟨x8, hx8, hr⟩ := bind_some hr
 obtain ⟨x9, hx9, hr⟩ := bind_some hr
 refine cut (fun a' k' => Bs noF k0 61 a' k' ∧ (IsV holidays_) (a'.get 0) k' ∧ (IsV stays_) (a'.get 1) k' ∧ (IsV day_) (a'.get 2) k' ∧ (IsV n_) (a'.get 3) k' ∧ (IsV (decide (x9 < n_))) (a'.get 40) k' ∧ True) ?_ hQ ?_
 ·intro Q2 W2 w2
  refine gS 7 (_ :: _ :: _ :: _ :: _ :: _ :: _ :: []) hs (by kernel_rfl) ⟨mu rfl i0, mu rfl i1, mu rfl i2, o1 [(36, some 2)] rfl fun _ _ h n => ok_add rfl n.1 (cI rfl) hx8, o1 [(34, some 0), (35, some 1), (37, some 3)] rfl fun _ _ h n => ok_call rfl Try.call32 (rCounted_ok n.1 n.2.1 n.2.2.1 (cI rfl) hx9), mu rfl i3, o1 [(38, some 4), (39, some 5)] rfl fun _ _ h n => ok_lss rfl n.1 n.2.1, trivial⟩ W2 fun b q p => ?_
  exact tail_done (k := q) (w2 _ _ ⟨Bs.post ⟨hg, hs, hd⟩ p, p.ke 0 rfl i0, p.ke 1 rfl i1, p.ke 2 rfl i2, p.ke 3 rfl i3, p.ou 6 40 rfl, trivial⟩)
 rintro a k ⟨⟨hg, hs, hd⟩, i0, i1, i2, i3, i40, _⟩
 refine wp_cond_split (isBool i40) (fun hc390 => ?_) (fun hc390 => ?_)
 ·rw [if_pos hc390] at hr
  refine stepL 2 (⟨some (IsI 0), []⟩ :: ⟨some (IsI 20), []⟩ :: []) rfl ⟨hg, hs, hd⟩ (by kernel_rfl) ⟨aI rfl rfl, aI rfl rfl, trivial⟩ [⟨_, _⟩, ⟨_, _⟩] (fun b q p => ⟨p.ou 0 8 rfl, p.ou 1 9 rfl, trivial⟩) ?_
  rintro a k ⟨⟨hg, hs, hd⟩, i8, i9, _⟩
  refine wp_ret ?_
  obtain rfl := Option.some.inj hr
  exact retC2 rfl hd hg i8 i9
 rw [if_neg (by rw [hc390]; decide)] at hr
 refine wp_skip ?_
 refine stepL 2 (_ :: _ :: []) rfl ⟨hg, hs, hd⟩ (by kernel_rfl) ⟨mu rfl i2, cp 0 rfl rfl, trivial⟩ [⟨_, _⟩, ⟨_, _⟩, ⟨_, _⟩, ⟨_, _⟩, ⟨_, _⟩] (fun b q p => ⟨p.ke 0 rfl i0, p.ke 1 rfl i1, p.ke 2 rfl i2, p.ke 3 rfl i3, p.ou 1 10 rfl, trivial⟩) ?_
 rintro a k ⟨⟨hg, hs, hd⟩, i0, i1, i2, i3, i10, _⟩
 refine stepL 1 (⟨some (IsI 1073741824), []⟩ :: []) rfl ⟨hg, hs, hd⟩ (by kernel_rfl) ⟨aI rfl rfl, trivial⟩ [⟨_, _⟩, ⟨_, _⟩, ⟨_, _⟩, ⟨_, _⟩, ⟨_, _⟩, ⟨_, _⟩] (fun b q p => ⟨p.ke 0 rfl i0, p.ke 1 rfl i1, p.ke 2 rfl i2, p.ke 3 rfl i3, p.ke 10 rfl i10, p.ou 0 11 rfl, trivial⟩) ?_
 rintro a k ⟨⟨hg, hs, hd⟩, i0, i1, i2, i3, i10, i11, _⟩
 refine wp_seq ?_
 refine wp_block ?_
 obtain ⟨f1, hf1, hr⟩ := bind_some hr
 refine cutFe f1 (fun s' c l => Bs noF k0 61 c l ∧ IsV holidays_ (c.get 0) l ∧ IsV stays_ (c.get 1) l ∧ IsV day_ (c.get 2) l ∧ IsV n_ (c.get 3) l ∧ IsV s'.1 (c.get 10) l ∧ IsV s'.2 (c.get 11) l ∧ True) (fun i' s' c l => (i' = 0 ∧ Bs noF k0 61 c l ∧ IsV s'.2 (c.get 11) l ∧ True)) (fun r' c l => bodyPost Try.prog Try.f12 (RetC noF k0 (IsTup2 (IsV r'.1) (IsV r'.2))) .ret c l.w) ?_ hQ ?_ ?_ ?_
 ·intro Q3 W3 hgo hex hret
  refine sim_loop ?_ _ _ _ _ _ hf1 ⟨⟨hg, hs, hd⟩, i0, i1, i2, i3, i10, i11, trivial⟩ Q3 W3 hgo hex hret
  clear hr hf1 hgo hex hret W3 hQ hg hs hd i0 i1 i10 i11 i2 i3
  intro s1 fl_ a k hr hS Q hQ hgo356 hex357 hret358
  obtain ⟨⟨hg, hs, hd⟩, i0, i1, i2, i3, i10, i11, _⟩ := hS
  unfold rDeadline_L0 at hr
  refine wp_seq ?_
  refine wp_seq ?_
  obtain ⟨x10, hx10, hr⟩ := bind_some hr
  refine cut (fun a' k' => Bs noF k0 61 a' k' ∧ (IsV holidays_) (a'.get 0) k' ∧ (IsV stays_) (a'.get 1) k' ∧ (IsV day_) (a'.get 2) k' ∧ (IsV n_) (a'.get 3) k' ∧ (IsV s1.1) (a'.get 10) k' ∧ (IsV s1.2) (a'.get 11) k' ∧ (IsV (decide (x10 < s1.2))) (a'.get 45) k' ∧ True) ?_ hQ ?_
  ·intro Q4 W4 w3
   refine gS 4 (_ :: _ :: _ :: _ :: []) hs (by kernel_rfl) ⟨mu rfl i10, o1 [(42, some 0)] rfl fun _ _ h n => ok_add rfl n.1 (cI rfl) hx10, mu rfl i11, o1 [(43, some 1), (44, some 2)] rfl fun _ _ h n => ok_lss rfl n.1 n.2.1, trivial⟩ W4 fun b q p => ?_
   exact tail_done (k := q) (w3 _ _ ⟨Bs.post ⟨hg, hs, hd⟩ p, p.ke 0 rfl i0, p.ke 1 rfl i1, p.ke 2 rfl i2, p.ke 3 rfl i3, p.ke 10 rfl i10, p.ke 11 rfl i11, p.ou 3 45 rfl, trivial⟩)
  rintro a k ⟨⟨hg, hs, hd⟩, i0, i1, i2, i3, i10, i11, i45, _⟩
  refine wp_cond_split (isBool i45) (fun hc376 => ?_) (fun hc376 => ?_)
  ·rw [if_pos hc376] at hr
   refine wp_skip ?_
   refine wp_block ?_
   refine wp_seq ?_
   obtain ⟨x11, hx11, hr⟩ := bind_some hr
   obtain ⟨x12, hx12, hr⟩ := bind_some hr
   refine cut (fun a' k' => Bs noF k0 61 a' k' ∧ (IsV holidays_) (a'.get 0) k' ∧ (IsV stays_) (a'.get 1) k' ∧ (IsV day_) (a'.get 2) k' ∧ (IsV n_) (a'.get 3) k' ∧ (IsV s1.1) (a'.get 10) k' ∧ (IsV s1.2) (a'.get 11) k' ∧ (IsV x12) (a'.get 12) k' ∧ True) ?_ hQ ?_
   ·intro Q5 W5 w4
    refine gS 5 (_ :: _ :: _ :: _ :: _ :: []) hs (by kernel_rfl) ⟨mu rfl i10, mu rfl i11, o1 [(46, some 0), (47, some 1)] rfl fun _ _ h n => ok_add rfl n.1 n.2.1 hx11, o1 [(48, some 2)] rfl fun _ _ h n => ok_quo rfl n.1 (cI rfl) hx12, cp 3 rfl rfl, trivial⟩ W5 fun b q p => ?_
    exact tail_done (k := q) (w4 _ _ ⟨Bs.post ⟨hg, hs, hd⟩ p, p.ke 0 rfl i0, p.ke 1 rfl i1, p.ke 2 rfl i2, p.ke 3 rfl i3, p.ke 10 rfl i10, p.ke 11 rfl i11, p.ou 4 12 rfl, trivial⟩)
   rintro a k ⟨⟨hg, hs, hd⟩, i0, i1, i2, i3, i10, i11, i12, _⟩
   refine wp_seq ?_
   obtain ⟨x13, hx13, hr⟩ := bind_some hr
   obtain ⟨x14, hx14, hr⟩ := bind_some hr
   refine cut (fun a' k' => Bs noF k0 61 a' k' ∧ (IsV holidays_) (a'.get 0) k' ∧ (IsV stays_) (a'.get 1) k' ∧ (IsV day_) (a'.get 2) k' ∧ (IsV n_) (a'.get 3) k' ∧ (IsV s1.1) (a'.get 10) k' ∧ (IsV s1.2) (a'.get 11) k' ∧ (IsV x12) (a'.get 12) k' ∧ (IsV (decide (x14 < n_))) (a'.get 57) k' ∧ True) ?_ hQ ?_
   ·intro Q6 W6 w5
    refine gS 8 (_ :: _ :: _ :: _ :: _ :: _ :: _ :: _ :: []) hs (by kernel_rfl) ⟨mu rfl i0, mu rfl i1, mu rfl i2, o1 [(52, some 2)] rfl fun _ _ h n => ok_add rfl n.1 (cI rfl) hx13, mu rfl i12, o1 [(50, some 0), (51, some 1), (53, some 3), (54, some 4)] rfl fun _ _ h n => ok_call rfl Try.call32 (rCounted_ok n.1 n.2.1 n.2.2.1 n.2.2.2.1 hx14), mu rfl i3, o1 [(55, some 5), (56, some 6)] rfl fun _ _ h n => ok_lss rfl n.1 n.2.1, trivial⟩ W6 fun b q p => ?_
    exact tail_done (k := q) (w5 _ _ ⟨Bs.post ⟨hg, hs, hd⟩ p, p.ke 0 rfl i0, p.ke 1 rfl i1, p.ke 2 rfl i2, p.ke 3 rfl i3, p.ke 10 rfl i10, p.ke 11 rfl i11, p.ke 12 rfl i12, p.ou 7 57 rfl, trivial⟩)
   rintro a k ⟨⟨hg, hs, hd⟩, i0, i1, i2, i3, i10, i11, i12, i57, _⟩
   obtain ⟨s2, hs2, hr⟩ := bind_some hr
   refine cut (fun a' k' => Bs noF k0 61 a' k' ∧ (IsV holidays_) (a'.get 0) k' ∧ (IsV stays_) (a'.get 1) k' ∧ (IsV day_) (a'.get 2) k' ∧ (IsV n_) (a'.get 3) k' ∧ (IsV s2.1) (a'.get 10) k' ∧ (IsV s2.2) (a'.get 11) k' ∧ True) ?_ hQ ?_
   ·intro Q7 W7 w6
    replace hr := hs2
    clear hQ
    have hQ := W7
    refine wp_cond_split (isBool i57) (fun hc370 => ?_) (fun hc370 => ?_)
    ·rw [if_pos hc370] at hr
     refine cut (fun a' k' => Bs noF k0 61 a' k' ∧ (IsV holidays_) (a'.get 0) k' ∧ (IsV stays_) (a'.get 1) k' ∧ (IsV day_) (a'.get 2) k' ∧ (IsV n_) (a'.get 3) k' ∧ (IsV x12) (a'.get 10) k' ∧ (IsV s1.2) (a'.get 11) k' ∧ True) ?_ hQ ?_
     ·intro Q8 W8 w7
      refine gS 2 (_ :: _ :: []) hs (by kernel_rfl) ⟨mu rfl i12, cp 0 rfl rfl, trivial⟩ W8 fun b q p => ?_
      exact tail_done (k := q) (w7 _ _ ⟨Bs.post ⟨hg, hs, hd⟩ p, p.ke 0 rfl i0, p.ke 1 rfl i1, p.ke 2 rfl i2, p.ke 3 rfl i3, p.ou 1 10 rfl, p.ke 11 rfl i11, trivial⟩)
     rintro a k ⟨⟨hg, hs, hd⟩, i0, i1, i2, i3, i10, i11, _⟩
     obtain rfl := Option.some.inj hr
     exact w6 _ _ ⟨⟨hg, hs, hd⟩, i0, i1, i2, i3, i10, i11, trivial⟩
    rw [if_neg (by rw [hc370]; decide)] at hr
    refine cut (fun a' k' => Bs noF k0 61 a' k' ∧ (IsV holidays_) (a'.get 0) k' ∧ (IsV stays_) (a'.get 1) k' ∧ (IsV day_) (a'.get 2) k' ∧ (IsV n_) (a'.get 3) k' ∧ (IsV s1.1) (a'.get 10) k' ∧ (IsV x12) (a'.get 11) k' ∧ True) ?_ hQ ?_
    ·intro Q9 W9 w8
     refine gS 2 (_ :: _ :: []) hs (by kernel_rfl) ⟨mu rfl i12, cp 0 rfl rfl, trivial⟩ W9 fun b q p => ?_
     exact tail_done (k := q) (w8 _ _ ⟨Bs.post ⟨hg, hs, hd⟩ p, p.ke 0 rfl i0, p.ke 1 rfl i1, p.ke 2 rfl i2, p.ke 3 rfl i3, p.ke 10 rfl i10, p.ou 1 11 rfl, trivial⟩)
    rintro a k ⟨⟨hg, hs, hd⟩, i0, i1, i2, i3, i10, i11, _⟩
    obtain rfl := Option.some.inj hr
    exact w6 _ _ ⟨⟨hg, hs, hd⟩, i0, i1, i2, i3, i10, i11, trivial⟩
   clear hs2
   rintro a k ⟨⟨hg, hs, hd⟩, i0, i1, i2, i3, i10, i11, _⟩
   exact hgo356 _ _ _ (Option.some.inj hr).symm ⟨⟨hg, hs, hd⟩, i0, i1, i2, i3, i10, i11, trivial⟩
  rw [if_neg (by rw [hc376]; decide)] at hr
  refine wp_exit ?_
  exact hex357 _ _ _ _ (Option.some.inj hr).symm ⟨rfl, ⟨hg, hs, hd⟩, i11, trivial⟩
 ·rintro r1 a k rfl hR
  dsimp only at hr
  obtain rfl := Option.some.inj hr
  exact hR
 ·rintro _ _ _ rfl _
  simp at hr
 clear hf1
 rintro _ s3 a k rfl ⟨rfl, ⟨hg, hs, hd⟩, i11, _⟩
 dsimp only at hr
 refine stepL 3 (_ :: _ :: ⟨some (IsI 0), []⟩ :: []) rfl ⟨hg, hs, hd⟩ (by kernel_rfl) ⟨mu rfl i11, cp 0 rfl rfl, aI rfl rfl, trivial⟩ [⟨_, _⟩, ⟨_, _⟩] (fun b q p => ⟨p.ou 1 8 rfl, p.ou 2 9 rfl, trivial⟩) ?_
 rintro a k ⟨⟨hg, hs, hd⟩, i8, i9, _⟩
 refine wp_ret ?_
 obtain rfl := Option.some.inj hr
 exact retC2 rfl hd hg i8 i9
def rAdd (holidays_ : (List Int)) (day_ : Int) (n_ : Int) : Option (Int × Int) :=
 (rDeadline holidays_ ([] : List Stay) day_ n_).bind fun x1 =>
 some (x1.1, x1.2)
theorem rAdd_ok {k0 : K} {v0 v1 v2 : Value} {holidays_ : (List Int)} {day_ : Int} {n_ : Int} {r : Int × Int} (i0 : (IsV holidays_) v0 k0) (i1 : (IsV day_) v1 k0) (i2 : (IsV n_) v2 k0) (hr : rAdd holidays_ day_ n_ = some r) :
  Calls Try.prog 10 #[v0, v1, v2] k0.w (Ret k0 (IsTup2 (IsV r.1) (IsV r.2))) := by
 unfold rAdd at hr
 refine Ret.ofC ?_
 refine enterK Try.func10 rfl Try.ntmps10 (show 3 ≤ 19 by decide) fun a k hk0 hs hd ha => ?_
 obtain ⟨e0, e1, e2, _⟩ := ha
 replace i0 : (IsV holidays_) (a.get 0) k := by rw [e0, hk0]; exact i0
 replace i1 : (IsV day_) (a.get 1) k := by rw [e1, hk0]; exact i1
 replace i2 : (IsV n_) (a.get 2) k := by rw [e2, hk0]; exact i2
 have hQ : Gb.LetsOut (bodyPost Try.prog Try.f10 (RetC noF k0 (IsTup2 (IsV r.1) (IsV r.2)))) := letsOutC
 have hg : Chg noF k0 k := by rw [hk0]; exact Chg.refl _ k0
 refine stepL 2 (⟨some (IsI 0), []⟩ :: ⟨some (IsI 0), []⟩ :: []) rfl ⟨hg, hs, hd⟩ (by kernel_rfl) ⟨aI rfl rfl, aI rfl rfl, trivial⟩ [⟨_, _⟩, ⟨_, _⟩, ⟨_, _⟩] (fun b q p => ⟨p.ke 0 rfl i0, p.ke 1 rfl i1, p.ke 2 rfl i2, trivial⟩) ?_
 rintro a k ⟨⟨hg, hs, hd⟩, i0, i1, i2, _⟩
 refine wp_seq ?_
 obtain ⟨x1, hx1, hr⟩ := bind_some hr
 refine cut (fun a' k' => Bs noF k0 19 a' k' ∧ (IsV x1.1) (a'.get 8) k' ∧ (IsV x1.2) (a'.get 9) k' ∧ True) ?_ hQ ?_
 ·intro Q1 W1 w1
  refine gS 9 (_ :: _ :: _ :: _ :: _ :: _ :: _ :: _ :: _ :: []) hs (by kernel_rfl) ⟨mu rfl i0, mu rfl i1, mu rfl i2, o1 [(11, some 0), (12, some 1), (13, some 2)] rfl fun _ _ h n => ok_call rfl Try.call12 (rDeadline_ok n.1 (isV_list.2 (.inl ⟨rfl, rfl⟩)) n.2.1 n.2.2.1 hx1), cm 3 rfl rfl, o1 [(10, some 4)] rfl fun _ _ h n => ok_ext2_0 rfl n.1, o1 [(10, some 4)] rfl fun _ _ h n => ok_ext2_1 rfl n.1, cp 5 rfl rfl, cp 6 rfl rfl, trivial⟩ W1 fun b q p => ?_
  exact tail_done (k := q) (w1 _ _ ⟨Bs.post ⟨hg, hs, hd⟩ p, p.ou 7 8 rfl, p.ou 8 9 rfl, trivial⟩)
 rintro a k ⟨⟨hg, hs, hd⟩, i8, i9, _⟩
 refine stepL 4 (_ :: _ :: _ :: _ :: []) rfl ⟨hg, hs, hd⟩ (by kernel_rfl) ⟨mu rfl i8, mu rfl i9, cp 0 rfl rfl, cp 1 rfl rfl, trivial⟩ [⟨_, _⟩, ⟨_, _⟩] (fun b q p => ⟨p.ou 2 6 rfl, p.ou 3 7 rfl, trivial⟩) ?_
 rintro a k ⟨⟨hg, hs, hd⟩, i6, i7, _⟩
 refine wp_ret ?_
 obtain rfl := Option.some.inj hr
 exact retC2 rfl hd hg i6 i7
def indexFunc_L0 (s_ : (List Stay)) (f_ : (Stay → Option (Bool))) (s1 : Int) : Option (Flow (Int) (Int)) :=
 if (decide (s1 < (s_.length : Int))) then
  (getI s_ s1).bind fun x1 =>
  (f_ x1).bind fun x2 =>
  if x2 then
   some (.ret s1)
  else
   (addI s1 1).bind fun x3 =>
   some (.go x3)
 else
  some (.ex 0 s1)
def indexFunc (s_ : (List Stay)) (f_ : (Stay → Option (Bool))) : Option (Int) :=
 (iterL (indexFunc_L0 s_ f_) (s_.length + 1) 0).bind fun f1 => match f1 with
  | .go _ => none
  | .ex _ _ =>
   some (-1)
  | .ret r1 => some r1
theorem indexFunc_ok {k0 : K} {v0 v1 : Value} {s_ : (List Stay)} {f_ : (Stay → Option (Bool))} {r : Int} (i0 : (IsV s_) v0 k0) (i1 : (IsFn1 Try.prog f_) v1 k0) (hr : indexFunc s_ f_ = some r) :
  Calls Try.prog 45 #[v0, v1] k0.w (Ret k0 (IsV r)) := by
 unfold indexFunc at hr
 refine Ret.ofC ?_
 refine enterK Try.func45 rfl Try.ntmps45 (show 2 ≤ 19 by decide) fun a k hk0 hs hd ha => ?_
 obtain ⟨e0, e1, _⟩ := ha
 replace i0 : (IsV s_) (a.get 0) k := by rw [e0, hk0]; exact i0
 replace i1 : (IsFn1 Try.prog f_) (a.get 1) k := by rw [e1, hk0]; exact i1
 have hQ : Gb.LetsOut (bodyPost Try.prog Try.f45 (RetC noF k0 (IsV r))) := letsOutC
 have hg : Chg noF k0 k := by rw [hk0]; exact Chg.refl _ k0
 refine stepL 1 (⟨some (IsI 0), []⟩ :: []) rfl ⟨hg, hs, hd⟩ (by kernel_rfl) ⟨aI rfl rfl, trivial⟩ [⟨_, _⟩, ⟨_, _⟩] (fun b q p => ⟨p.ke 0 rfl i0, p.ke 1 rfl i1, trivial⟩) ?_
 rintro a k ⟨⟨hg, hs, hd⟩, i0, i1, _⟩
 refine wp_seq ?_
 refine stepL 3 (_ :: _ :: ⟨some (IsI 0), []⟩ :: []) rfl ⟨hg, hs, hd⟩ (by kernel_rfl) ⟨mu rfl i0, o1 [(6, some 0)] rfl fun _ _ h n => ok_len rfl rfl Try.underlying23 (IsV.rd n.1), ob1 rfl fun _ _ h n => ok_move rfl (cI rfl), trivial⟩ [⟨_, _⟩, ⟨_, _⟩, ⟨_, _⟩, ⟨_, _⟩] (fun b q p => ⟨p.ke 0 rfl i0, p.ke 1 rfl i1, p.ou 1 7 rfl, p.ou 2 8 rfl, trivial⟩) ?_
 rintro a k ⟨⟨hg, hs, hd⟩, i0, i1, i7, i8, _⟩
 refine wp_block ?_
 obtain ⟨f1, hf1, hr⟩ := bind_some hr
 refine cutFe f1 (fun s' c l => Bs noF k0 19 c l ∧ IsV s_ (c.get 0) l ∧ IsFn1 Try.prog f_ (c.get 1) l ∧ IsL s_ (c.get 7) l ∧ IsV s' (c.get 8) l ∧ True) (fun i' s' c l => (i' = 0 ∧ Bs noF k0 19 c l ∧ True)) (fun r' c l => bodyPost Try.prog Try.f45 (RetC noF k0 (IsV r')) .ret c l.w) ?_ hQ ?_ ?_ ?_
 ·intro Q1 W1 hgo hex hret
  refine sim_loop ?_ _ _ _ _ _ hf1 ⟨⟨hg, hs, hd⟩, i0, i1, i7, i8, trivial⟩ Q1 W1 hgo hex hret
  clear hr hf1 hgo hex hret W1 hQ hg hs hd i0 i1 i7 i8
  intro s1 fl_ a k hr hS Q hQ hgo413 hex414 hret415
  obtain ⟨⟨hg, hs, hd⟩, i0, i1, i7, i8, _⟩ := hS
  unfold indexFunc_L0 at hr
  refine stepL 1 (_ :: []) rfl ⟨hg, hs, hd⟩ (by kernel_rfl) ⟨o1 [(8, none), (7, none)] rfl fun _ _ h n => ok_lss rfl (up i8 h n.1) (up i7 h n.2.1), trivial⟩ [⟨_, _⟩, ⟨_, _⟩, ⟨_, _⟩, ⟨_, _⟩, ⟨_, _⟩] (fun b q p => ⟨p.ke 0 rfl i0, p.ke 1 rfl i1, p.ke 7 rfl i7, p.ke 8 rfl i8, p.ou 0 9 rfl, trivial⟩) ?_
  rintro a k ⟨⟨hg, hs, hd⟩, i0, i1, i7, i8, i9, _⟩
  refine wp_seq ?_
  refine wp_cond_split (isBool i9) (fun hc430 => ?_) (fun hc430 => ?_)
  ·rw [if_pos hc430] at hr
   refine wp_skip ?_
   refine wp_seq ?_
   refine wp_block ?_
   refine stepL 2 (_ :: _ :: []) rfl ⟨hg, hs, hd⟩ (by kernel_rfl) ⟨mu rfl i8, cp 0 rfl rfl, trivial⟩ [⟨_, _⟩, ⟨_, _⟩, ⟨_, _⟩, ⟨_, _⟩, ⟨_, _⟩] (fun b q p => ⟨p.ke 0 rfl i0, p.ke 1 rfl i1, p.ou 1 5 rfl, p.ke 7 rfl i7, p.ke 8 rfl i8, trivial⟩) ?_
   rintro a k ⟨⟨hg, hs, hd⟩, i0, i1, i5, i7, i8, _⟩
   refine wp_seq ?_
   obtain ⟨x1, hx1, hr⟩ := bind_some hr
   obtain ⟨x2, hx2, hr⟩ := bind_some hr
   refine cut (fun a' k' => Bs noF k0 19 a' k' ∧ (IsV s_) (a'.get 0) k' ∧ (IsFn1 Try.prog f_) (a'.get 1) k' ∧ (IsV s1) (a'.get 5) k' ∧ (IsL s_) (a'.get 7) k' ∧ (IsV s1) (a'.get 8) k' ∧ (IsV x2) (a'.get 16) k' ∧ True) ?_ hQ ?_
   ·intro Q2 W2 w1
    refine gS 6 (_ :: _ :: _ :: _ :: _ :: ⟨some (IsV x2), [(11, some 0), (15, some 4)]⟩ :: []) hs (by kernel_rfl) ⟨mu rfl i1, mu rfl i0, mu rfl i5, o1 [(12, some 1), (13, some 2)] rfl fun _ _ h n => ok_indexAddr rfl Try.underlying23 ty38 (IsV.rd n.1) n.2.1 hx1, o1 [(14, some 3)] rfl fun _ _ h n => ok_load rfl ty38 n.1, ob1 rfl fun _ _ h n => ok_callF1 rfl n.1 n.2.1 hx2, trivial⟩ W2 fun b q p => ?_
    exact tail_done (k := q) (w1 _ _ ⟨Bs.post ⟨hg, hs, hd⟩ p, p.ke 0 rfl i0, p.ke 1 rfl i1, p.ke 5 rfl i5, p.ke 7 rfl i7, p.ke 8 rfl i8, p.ou 5 16 rfl, trivial⟩)
   rintro a k ⟨⟨hg, hs, hd⟩, i0, i1, i5, i7, i8, i16, _⟩
   refine wp_cond_split (isBool i16) (fun hc425 => ?_) (fun hc425 => ?_)
   ·rw [if_pos hc425] at hr
    refine stepL 2 (_ :: _ :: []) rfl ⟨hg, hs, hd⟩ (by kernel_rfl) ⟨mu rfl i5, cp 0 rfl rfl, trivial⟩ [⟨_, _⟩] (fun b q p => ⟨p.ou 1 4 rfl, trivial⟩) ?_
    rintro a k ⟨⟨hg, hs, hd⟩, i4, _⟩
    refine wp_ret ?_
    exact hret415 _ _ _ (Option.some.inj hr).symm (retC1 rfl hd hg i4)
   rw [if_neg (by rw [hc425]; decide)] at hr
   refine wp_skip ?_
   obtain ⟨x3, hx3, hr⟩ := bind_some hr
   refine cut (fun a' k' => Bs noF k0 19 a' k' ∧ (IsV s_) (a'.get 0) k' ∧ (IsFn1 Try.prog f_) (a'.get 1) k' ∧ (IsL s_) (a'.get 7) k' ∧ (IsV x3) (a'.get 8) k' ∧ True) ?_ hQ ?_
   ·intro Q3 W3 w2
    refine gS 2 (_ :: _ :: []) hs (by kernel_rfl) ⟨o1 [(8, none)] rfl fun _ _ h n => ok_add rfl (up i8 h n.1) (cI rfl) hx3, cm 0 rfl rfl, trivial⟩ W3 fun b q p => ?_
    exact tail_done (k := q) (w2 _ _ ⟨Bs.post ⟨hg, hs, hd⟩ p, p.ke 0 rfl i0, p.ke 1 rfl i1, p.ke 7 rfl i7, p.ou 1 8 rfl, trivial⟩)
   rintro a k ⟨⟨hg, hs, hd⟩, i0, i1, i7, i8, _⟩
   exact hgo413 _ _ _ (Option.some.inj hr).symm ⟨⟨hg, hs, hd⟩, i0, i1, i7, i8, trivial⟩
  rw [if_neg (by rw [hc430]; decide)] at hr
  refine wp_exit ?_
  exact hex414 _ _ _ _ (Option.some.inj hr).symm ⟨rfl, ⟨hg, hs, hd⟩, trivial⟩
 ·rintro r1 a k rfl hR
  dsimp only at hr
  obtain rfl := Option.some.inj hr
  exact hR
 ·rintro _ _ _ rfl _
  simp at hr
 clear hf1
 rintro _ s2 a k rfl ⟨rfl, ⟨hg, hs, hd⟩, _⟩
 dsimp only at hr
 refine stepL 1 (⟨some (IsI (-1)), []⟩ :: []) rfl ⟨hg, hs, hd⟩ (by kernel_rfl) ⟨aI rfl rfl, trivial⟩ [⟨_, _⟩] (fun b q p => ⟨p.ou 0 4 rfl, trivial⟩) ?_
 rintro a k ⟨⟨hg, hs, hd⟩, i4, _⟩
 refine wp_ret ?_
 obtain rfl := Option.some.inj hr
 exact retC1 rfl hd hg i4
def containsFunc (s_ : (List Stay)) (f_ : (Stay → Option (Bool))) : Option (Bool) :=
 (indexFunc s_ f_).bind fun x1 =>
 some (decide (0 ≤ x1))
theorem containsFunc_ok {k0 : K} {v0 v1 : Value} {s_ : (List Stay)} {f_ : (Stay → Option (Bool))} {r : Bool} (i0 : (IsV s_) v0 k0) (i1 : (IsFn1 Try.prog f_) v1 k0) (hr : containsFunc s_ f_ = some r) :
  Calls Try.prog 35 #[v0, v1] k0.w (Ret k0 (IsV r)) := by
 unfold containsFunc at hr
 refine Ret.ofC ?_
 refine enterK Try.func35 rfl Try.ntmps35 (show 2 ≤ 9 by decide) fun a k hk0 hs hd ha => ?_
 obtain ⟨e0, e1, _⟩ := ha
 replace i0 : (IsV s_) (a.get 0) k := by rw [e0, hk0]; exact i0
 replace i1 : (IsFn1 Try.prog f_) (a.get 1) k := by rw [e1, hk0]; exact i1
 have hQ : Gb.LetsOut (bodyPost Try.prog Try.f35 (RetC noF k0 (IsV r))) := letsOutC
 have hg : Chg noF k0 k := by rw [hk0]; exact Chg.refl _ k0
 refine stepL 1 (⟨some (IsV false), []⟩ :: []) rfl ⟨hg, hs, hd⟩ (by kernel_rfl) ⟨ob1 rfl fun _ _ h n => ok_assign rfl (isV_bool.2 rfl), trivial⟩ [⟨_, _⟩, ⟨_, _⟩] (fun b q p => ⟨p.ke 0 rfl i0, p.ke 1 rfl i1, trivial⟩) ?_
 rintro a k ⟨⟨hg, hs, hd⟩, i0, i1, _⟩
 refine wp_seq ?_
 obtain ⟨x1, hx1, hr⟩ := bind_some hr
 refine cut (fun a' k' => Bs noF k0 9 a' k' ∧ (IsV (decide (0 ≤ x1))) (a'.get 4) k' ∧ True) ?_ hQ ?_
 ·intro Q1 W1 w1
  refine gS 5 (_ :: _ :: _ :: _ :: _ :: []) hs (by kernel_rfl) ⟨mu rfl i0, mu rfl i1, o1 [(5, some 0), (6, some 1)] rfl fun _ _ h n => ok_call rfl Try.call45 (indexFunc_ok n.1 n.2.1 hx1), o1 [(7, some 2)] rfl fun _ _ h n => ok_geq rfl n.1 (cI rfl), cp 3 rfl rfl, trivial⟩ W1 fun b q p => ?_
  exact tail_done (k := q) (w1 _ _ ⟨Bs.post ⟨hg, hs, hd⟩ p, p.ou 4 4 rfl, trivial⟩)
 rintro a k ⟨⟨hg, hs, hd⟩, i4, _⟩
 refine wp_ret ?_
 obtain rfl := Option.some.inj hr
 exact retC1 rfl hd hg i4
def cIsNaN (x_ : Int) : Option (Bool) :=
 some (x_ != x_)
theorem cIsNaN_ok {k0 : K} {v0 : Value} {x_ : Int} {r : Bool} (i0 : (IsV x_) v0 k0) (hr : cIsNaN x_ = some r) :
  Calls Try.prog 49 #[v0] k0.w (Ret k0 (IsV r)) := by
 unfold cIsNaN at hr
 refine Ret.ofC ?_
 refine enterK Try.func49 rfl Try.ntmps49 (show 1 ≤ 6 by decide) fun a k hk0 hs hd ha => ?_
 obtain ⟨e0, _⟩ := ha
 replace i0 : (IsV x_) (a.get 0) k := by rw [e0, hk0]; exact i0
 have hQ : Gb.LetsOut (bodyPost Try.prog Try.f49 (RetC noF k0 (IsV r))) := letsOutC
 have hg : Chg noF k0 k := by rw [hk0]; exact Chg.refl _ k0
 refine stepL 1 (⟨some (IsV false), []⟩ :: []) rfl ⟨hg, hs, hd⟩ (by kernel_rfl) ⟨ob1 rfl fun _ _ h n => ok_assign rfl (isV_bool.2 rfl), trivial⟩ [⟨_, _⟩] (fun b q p => ⟨p.ke 0 rfl i0, trivial⟩) ?_
 rintro a k ⟨⟨hg, hs, hd⟩, i0, _⟩
 refine stepL 4 (_ :: _ :: ⟨some (IsV (x_ != x_)), [(3, some 0), (4, some 1)]⟩ :: _ :: []) rfl ⟨hg, hs, hd⟩ (by kernel_rfl) ⟨mu rfl i0, mu rfl i0, ob1 rfl fun _ _ h n => ok_neI rfl n.1 n.2.1, cp 2 rfl rfl, trivial⟩ [⟨_, _⟩] (fun b q p => ⟨p.ou 3 2 rfl, trivial⟩) ?_
 rintro a k ⟨⟨hg, hs, hd⟩, i2, _⟩
 refine wp_ret ?_
 obtain rfl := Option.some.inj hr
 exact retC1 rfl hd hg i2
def sIsNaN (x_ : Int) : Option (Bool) :=
 some (x_ != x_)
theorem sIsNaN_ok {k0 : K} {v0 : Value} {x_ : Int} {r : Bool} (i0 : (IsV x_) v0 k0) (hr : sIsNaN x_ = some r) :
  Calls Try.prog 44 #[v0] k0.w (Ret k0 (IsV r)) := by
 unfold sIsNaN at hr
 refine Ret.ofC ?_
 refine enterK Try.func44 rfl Try.ntmps44 (show 1 ≤ 6 by decide) fun a k hk0 hs hd ha => ?_
 obtain ⟨e0, _⟩ := ha
 replace i0 : (IsV x_) (a.get 0) k := by rw [e0, hk0]; exact i0
 have hQ : Gb.LetsOut (bodyPost Try.prog Try.f44 (RetC noF k0 (IsV r))) := letsOutC
 have hg : Chg noF k0 k := by rw [hk0]; exact Chg.refl _ k0
 refine stepL 1 (⟨some (IsV false), []⟩ :: []) rfl ⟨hg, hs, hd⟩ (by kernel_rfl) ⟨ob1 rfl fun _ _ h n => ok_assign rfl (isV_bool.2 rfl), trivial⟩ [⟨_, _⟩] (fun b q p => ⟨p.ke 0 rfl i0, trivial⟩) ?_
 rintro a k ⟨⟨hg, hs, hd⟩, i0, _⟩
 refine stepL 4 (_ :: _ :: ⟨some (IsV (x_ != x_)), [(3, some 0), (4, some 1)]⟩ :: _ :: []) rfl ⟨hg, hs, hd⟩ (by kernel_rfl) ⟨mu rfl i0, mu rfl i0, ob1 rfl fun _ _ h n => ok_neI rfl n.1 n.2.1, cp 2 rfl rfl, trivial⟩ [⟨_, _⟩] (fun b q p => ⟨p.ou 3 2 rfl, trivial⟩) ?_
 rintro a k ⟨⟨hg, hs, hd⟩, i2, _⟩
 refine wp_ret ?_
 obtain rfl := Option.some.inj hr
 exact retC1 rfl hd hg i2
def cLess (x_ : Int) (y_ : Int) : Option (Bool) :=
 (cIsNaN x_).bind fun x1 =>
 (if x1 then
  (cIsNaN y_).bind fun x2 =>
  some (!x2)
 else
  some false).bind fun x3 =>
 some (x3 || (decide (x_ < y_)))
theorem cLess_ok {k0 : K} {v0 v1 : Value} {x_ : Int} {y_ : Int} {r : Bool} (i0 : (IsV x_) v0 k0) (i1 : (IsV y_) v1 k0) (hr : cLess x_ y_ = some r) :
  Calls Try.prog 43 #[v0, v1] k0.w (Ret k0 (IsV r)) := by
 unfold cLess at hr
 refine Ret.ofC ?_
 refine enterK Try.func43 rfl Try.ntmps43 (show 2 ≤ 17 by decide) fun a k hk0 hs hd ha => ?_
 obtain ⟨e0, e1, _⟩ := ha
 replace i0 : (IsV x_) (a.get 0) k := by rw [e0, hk0]; exact i0
 replace i1 : (IsV y_) (a.get 1) k := by rw [e1, hk0]; exact i1
 have hQ : Gb.LetsOut (bodyPost Try.prog Try.f43 (RetC noF k0 (IsV r))) := letsOutC
 have hg : Chg noF k0 k := by rw [hk0]; exact Chg.refl _ k0
 refine stepL 1 (⟨some (IsV false), []⟩ :: []) rfl ⟨hg, hs, hd⟩ (by kernel_rfl) ⟨ob1 rfl fun _ _ h n => ok_assign rfl (isV_bool.2 rfl), trivial⟩ [⟨_, _⟩, ⟨_, _⟩] (fun b q p => ⟨p.ke 0 rfl i0, p.ke 1 rfl i1, trivial⟩) ?_
 rintro a k ⟨⟨hg, hs, hd⟩, i0, i1, _⟩
 refine wp_seq ?_
 obtain ⟨x1, hx1, hr⟩ := bind_some hr
 obtain ⟨x2, hx2, hr⟩ := bind_some hr
 obtain ⟨x3, hx3, hx2⟩ := ite_bind hx2
 refine cut (fun a' k' => Bs noF k0 17 a' k' ∧ (IsV (x2 || (decide (x_ < y_)))) (a'.get 4) k' ∧ True) ?_ hQ ?_
 ·intro Q1 W1 w1
  refine gS 13 (_ :: _ :: _ :: _ :: _ :: _ :: _ :: _ :: _ :: _ :: _ :: _ :: _ :: []) hs (by kernel_rfl) ⟨mu rfl i0, o1 [(5, some 0)] rfl fun _ _ h n => ok_call rfl Try.call49 (cIsNaN_ok n.1 hx1), cm 1 rfl rfl, mT rfl rfl i1, gT [(8, some 3)] rfl rfl fun hp _ _ h n => ok_call rfl Try.call49 (cIsNaN_ok (Gd.get n.1 hp) (hx3 hp)), gT [(9, some 4)] rfl rfl fun hp _ _ h n => ok_not rfl (Gd.get n.1 hp), o1 [(7, some 2), (10, some 5)] rfl fun _ _ h n => ok_pickM rfl n.1 hx2 (Gd.get n.2.1) (cB rfl), cm 6 rfl rfl, mF rfl rfl i0, mF rfl rfl i1, gF [(13, some 8), (14, some 9)] rfl rfl fun hp _ _ h n => ok_lss rfl (Gd.get n.1 hp) (Gd.get n.2.1 hp), o1 [(12, some 7), (15, some 10)] rfl fun _ _ h n => ok_pickOr rfl n.1 (cB rfl) (Gd.get n.2.1), cp 11 rfl rfl, trivial⟩ W1 fun b q p => ?_
  exact tail_done (k := q) (w1 _ _ ⟨Bs.post ⟨hg, hs, hd⟩ p, p.ou 12 4 rfl, trivial⟩)
 rintro a k ⟨⟨hg, hs, hd⟩, i4, _⟩
 refine wp_ret ?_
 obtain rfl := Option.some.inj hr
 exact retC1 rfl hd hg i4
def binSearch_L0 (x_ : (List Int)) (target_ : Int) (s1 : Int × Int) : Option (Flow (Int × Int) (Int × Bool)) :=
 if (decide (s1.1 < s1.2)) then
  (addI s1.1 s1.2).bind fun x1 =>
  (getI x_ (IntKind.i64.wrap (IK.shr (IK.mk (IntKind.u64.wrap x1) : IK .u64) 1).n)).bind fun x2 =>
  (cLess x2 target_).bind fun x3 =>
  (if x3 then
   (addI (IntKind.i64.wrap (IK.shr (IK.mk (IntKind.u64.wrap x1) : IK .u64) 1).n) 1).bind fun x4 =>
   some (x4, s1.2)
  else
   some (s1.1, (IntKind.i64.wrap (IK.shr (IK.mk (IntKind.u64.wrap x1) : IK .u64) 1).n))).bind fun s2 =>
  some (.go (s2.1, s2.2))
 else
  some (.ex 0 (s1.1, s1.2))
def binSearch (x_ : (List Int)) (target_ : Int) : Option (Int × Bool) :=
 (iterL (binSearch_L0 x_ target_) (x_.length + 1) (0, (x_.length : Int))).bind fun f1 => match f1 with
  | .go _ => none
  | .ex _ s1 =>
   (if (decide (s1.1 < (x_.length : Int))) then
    (getI x_ s1.1).bind fun x1 =>
    (if (x1 == target_) then
     some true
    else
     (getI x_ s1.1).bind fun x2 =>
     (sIsNaN x2).bind fun x3 =>
     (if x3 then
      (sIsNaN target_).bind fun x4 =>
      some x4
     else
      some false).bind fun x5 =>
     some x5).bind fun x6 =>
    some x6
   else
    some false).bind fun x7 =>
   some (s1.1, x7)
  | .ret r1 => some r1
theorem binSearch_ok {k0 : K} {v0 v1 : Value} {x_ : (List Int)} {target_ : Int} {r : Int × Bool} (i0 : (IsV x_) v0 k0) (i1 : (IsV target_) v1 k0) (hr : binSearch x_ target_ = some r) :
  Calls Try.prog 34 #[v0, v1] k0.w (Ret k0 (IsTup2 (IsV r.1) (IsV r.2))) := by
 unfold binSearch at hr
 refine Ret.ofC ?_
 refine enterK Try.func34 rfl Try.ntmps34 (show 2 ≤ 54 by decide) fun a k hk0 hs hd ha => ?_
 obtain ⟨e0, e1, _⟩ := ha
 replace i0 : (IsV x_) (a.get 0) k := by rw [e0, hk0]; exact i0
 replace i1 : (IsV target_) (a.get 1) k := by rw [e1, hk0]; exact i1
 have hQ : Gb.LetsOut (bodyPost Try.prog Try.f34 (RetC noF k0 (IsTup2 (IsV r.1) (IsV r.2)))) := letsOutC
 have hg : Chg noF k0 k := by rw [hk0]; exact Chg.refl _ k0
 refine stepL 2 (⟨some (IsI 0), []⟩ :: ⟨some (IsV false), []⟩ :: []) rfl ⟨hg, hs, hd⟩ (by kernel_rfl) ⟨aI rfl rfl, ob1 rfl fun _ _ h n => ok_assign rfl (isV_bool.2 rfl), trivial⟩ [⟨_, _⟩, ⟨_, _⟩] (fun b q p => ⟨p.ke 0 rfl i0, p.ke 1 rfl i1, trivial⟩) ?_
 rintro a k ⟨⟨hg, hs, hd⟩, i0, i1, _⟩
 refine stepL 3 (_ :: _ :: _ :: []) rfl ⟨hg, hs, hd⟩ (by kernel_rfl) ⟨mu rfl i0, o1 [(10, some 0)] rfl fun _ _ h n => ok_len rfl rfl Try.underlying22 (IsV.rd n.1), cp 1 rfl rfl, trivial⟩ [⟨_, _⟩, ⟨_, _⟩, ⟨_, _⟩] (fun b q p => ⟨p.ke 0 rfl i0, p.ke 1 rfl i1, p.ou 2 6 rfl, trivial⟩) ?_
 rintro a k ⟨⟨hg, hs, hd⟩, i0, i1, i6, _⟩
 refine stepL 3 (_ :: ⟨some (IsI 0), []⟩ :: _ :: []) rfl ⟨hg, hs, hd⟩ (by kernel_rfl) ⟨mu rfl i6, aI rfl rfl, cp 0 rfl rfl, trivial⟩ [⟨_, _⟩, ⟨_, _⟩, ⟨_, _⟩, ⟨_, _⟩, ⟨_, _⟩] (fun b q p => ⟨p.ke 0 rfl i0, p.ke 1 rfl i1, p.ke 6 rfl i6, p.ou 1 7 rfl, p.ou 2 8 rfl, trivial⟩) ?_
 rintro a k ⟨⟨hg, hs, hd⟩, i0, i1, i6, i7, i8, _⟩
 refine wp_seq ?_
 refine wp_block ?_
 obtain ⟨f1, hf1, hr⟩ := bind_some hr
 refine cutFe f1 (fun s' c l => Bs noF k0 54 c l ∧ IsV x_ (c.get 0) l ∧ IsV target_ (c.get 1) l ∧ IsL x_ (c.get 6) l ∧ IsV s'.1 (c.get 7) l ∧ IsV s'.2 (c.get 8) l ∧ True) (fun i' s' c l => (i' = 0 ∧ Bs noF k0 54 c l ∧ IsV x_ (c.get 0) l ∧ IsV target_ (c.get 1) l ∧ IsL x_ (c.get 6) l ∧ IsV s'.1 (c.get 7) l ∧ True)) (fun r' c l => bodyPost Try.prog Try.f34 (RetC noF k0 (IsTup2 (IsV r'.1) (IsV r'.2))) .ret c l.w) ?_ hQ ?_ ?_ ?_
 ·intro Q1 W1 hgo hex hret
  refine sim_loop ?_ _ _ _ _ _ hf1 ⟨⟨hg, hs, hd⟩, i0, i1, i6, i7, i8, trivial⟩ Q1 W1 hgo hex hret
  clear hr hf1 hgo hex hret W1 hQ hg hs hd i0 i1 i6 i7 i8
  intro s1 fl_ a k hr hS Q hQ hgo472 hex473 hret474
  obtain ⟨⟨hg, hs, hd⟩, i0, i1, i6, i7, i8, _⟩ := hS
  unfold binSearch_L0 at hr
  refine wp_seq ?_
  refine stepL 3 (_ :: _ :: _ :: []) rfl ⟨hg, hs, hd⟩ (by kernel_rfl) ⟨mu rfl i7, mu rfl i8, o1 [(13, some 0), (14, some 1)] rfl fun _ _ h n => ok_lss rfl n.1 n.2.1, trivial⟩ [⟨_, _⟩, ⟨_, _⟩, ⟨_, _⟩, ⟨_, _⟩, ⟨_, _⟩, ⟨_, _⟩] (fun b q p => ⟨p.ke 0 rfl i0, p.ke 1 rfl i1, p.ke 6 rfl i6, p.ke 7 rfl i7, p.ke 8 rfl i8, p.ou 2 15 rfl, trivial⟩) ?_
  rintro a k ⟨⟨hg, hs, hd⟩, i0, i1, i6, i7, i8, i15, _⟩
  refine wp_cond_split (isBool i15) (fun hc492 => ?_) (fun hc492 => ?_)
  ·rw [if_pos hc492] at hr
   refine wp_skip ?_
   refine wp_block ?_
   refine wp_seq ?_
   obtain ⟨x1, hx1, hr⟩ := bind_some hr
   refine cut (fun a' k' => Bs noF k0 54 a' k' ∧ (IsV x_) (a'.get 0) k' ∧ (IsV target_) (a'.get 1) k' ∧ (IsL x_) (a'.get 6) k' ∧ (IsV s1.1) (a'.get 7) k' ∧ (IsV s1.2) (a'.get 8) k' ∧ (IsI (IntKind.i64.wrap (IK.shr (IK.mk (IntKind.u64.wrap x1) : IK .u64) 1).n)) (a'.get 9) k' ∧ True) ?_ hQ ?_
   ·intro Q2 W2 w1
    refine gS 7 (_ :: _ :: _ :: ⟨some (IsV (IK.mk (IntKind.u64.wrap x1) : IK .u64)), [(18, some 2)]⟩ :: ⟨some (IsV (IK.shr (IK.mk (IntKind.u64.wrap x1) : IK .u64) 1)), [(19, some 3)]⟩ :: ⟨some (IsI (IntKind.i64.wrap (IK.shr (IK.mk (IntKind.u64.wrap x1) : IK .u64) 1).n)), [(20, some 4)]⟩ :: _ :: []) hs (by kernel_rfl) ⟨mu rfl i7, mu rfl i8, o1 [(16, some 0), (17, some 1)] rfl fun _ _ h n => ok_add rfl n.1 n.2.1 hx1, ob1 rfl fun _ _ h n => ok_conv_ik rfl (by rw [Try.underlying3]; rfl) Try.underlying54 n.1, ob1 rfl fun _ _ h n => ok_shrK rfl n.1 (by decide) (by decide), ob1 rfl fun _ _ h n => ok_conv_ki rfl (by rw [Try.underlying54]; rfl) Try.underlying3 n.1, cp 5 rfl rfl, trivial⟩ W2 fun b q p => ?_
    exact tail_done (k := q) (w1 _ _ ⟨Bs.post ⟨hg, hs, hd⟩ p, p.ke 0 rfl i0, p.ke 1 rfl i1, p.ke 6 rfl i6, p.ke 7 rfl i7, p.ke 8 rfl i8, p.ou 6 9 rfl, trivial⟩)
   rintro a k ⟨⟨hg, hs, hd⟩, i0, i1, i6, i7, i8, i9, _⟩
   refine wp_seq ?_
   obtain ⟨x2, hx2, hr⟩ := bind_some hr
   obtain ⟨x3, hx3, hr⟩ := bind_some hr
   refine cut (fun a' k' => Bs noF k0 54 a' k' ∧ (IsV x_) (a'.get 0) k' ∧ (IsV target_) (a'.get 1) k' ∧ (IsL x_) (a'.get 6) k' ∧ (IsV s1.1) (a'.get 7) k' ∧ (IsV s1.2) (a'.get 8) k' ∧ (IsI (IntKind.i64.wrap (IK.shr (IK.mk (IntKind.u64.wrap x1) : IK .u64) 1).n)) (a'.get 9) k' ∧ (IsV x3) (a'.get 27) k' ∧ True) ?_ hQ ?_
   ·intro Q3 W3 w2
    refine gS 6 (_ :: _ :: _ :: _ :: _ :: _ :: []) hs (by kernel_rfl) ⟨mu rfl i0, mu rfl i9, o1 [(22, some 0), (23, some 1)] rfl fun _ _ h n => ok_indexAddr rfl Try.underlying22 ty3 (IsV.rd n.1) n.2.1 hx2, o1 [(24, some 2)] rfl fun _ _ h n => ok_load rfl ty3 n.1, mu rfl i1, o1 [(25, some 3), (26, some 4)] rfl fun _ _ h n => ok_call rfl Try.call43 (cLess_ok n.1 n.2.1 hx3), trivial⟩ W3 fun b q p => ?_
    exact tail_done (k := q) (w2 _ _ ⟨Bs.post ⟨hg, hs, hd⟩ p, p.ke 0 rfl i0, p.ke 1 rfl i1, p.ke 6 rfl i6, p.ke 7 rfl i7, p.ke 8 rfl i8, p.ke 9 rfl i9, p.ou 5 27 rfl, trivial⟩)
   rintro a k ⟨⟨hg, hs, hd⟩, i0, i1, i6, i7, i8, i9, i27, _⟩
   obtain ⟨s2, hs2, hr⟩ := bind_some hr
   refine cut (fun a' k' => Bs noF k0 54 a' k' ∧ (IsV x_) (a'.get 0) k' ∧ (IsV target_) (a'.get 1) k' ∧ (IsL x_) (a'.get 6) k' ∧ (IsV s2.1) (a'.get 7) k' ∧ (IsV s2.2) (a'.get 8) k' ∧ True) ?_ hQ ?_
   ·intro Q4 W4 w3
    replace hr := hs2
    clear hQ
    have hQ := W4
    refine wp_cond_split (isBool i27) (fun hc486 => ?_) (fun hc486 => ?_)
    ·rw [if_pos hc486] at hr
     obtain ⟨x4, hx4, hr⟩ := bind_some hr
     refine cut (fun a' k' => Bs noF k0 54 a' k' ∧ (IsV x_) (a'.get 0) k' ∧ (IsV target_) (a'.get 1) k' ∧ (IsL x_) (a'.get 6) k' ∧ (IsV x4) (a'.get 7) k' ∧ (IsV s1.2) (a'.get 8) k' ∧ True) ?_ hQ ?_
     ·intro Q5 W5 w4
      refine gS 3 (_ :: _ :: _ :: []) hs (by kernel_rfl) ⟨mu rfl i9, o1 [(28, some 0)] rfl fun _ _ h n => ok_add rfl n.1 (cI rfl) hx4, cp 1 rfl rfl, trivial⟩ W5 fun b q p => ?_
      exact tail_done (k := q) (w4 _ _ ⟨Bs.post ⟨hg, hs, hd⟩ p, p.ke 0 rfl i0, p.ke 1 rfl i1, p.ke 6 rfl i6, p.ou 2 7 rfl, p.ke 8 rfl i8, trivial⟩)
     rintro a k ⟨⟨hg, hs, hd⟩, i0, i1, i6, i7, i8, _⟩
     obtain rfl := Option.some.inj hr
     exact w3 _ _ ⟨⟨hg, hs, hd⟩, i0, i1, i6, i7, i8, trivial⟩
    rw [if_neg (by rw [hc486]; decide)] at hr
    refine cut (fun a' k' => Bs noF k0 54 a' k' ∧ (IsV x_) (a'.get 0) k' ∧ (IsV target_) (a'.get 1) k' ∧ (IsL x_) (a'.get 6) k' ∧ (IsV s1.1) (a'.get 7) k' ∧ (IsI (IntKind.i64.wrap (IK.shr (IK.mk (IntKind.u64.wrap x1) : IK .u64) 1).n)) (a'.get 8) k' ∧ True) ?_ hQ ?_
    ·intro Q6 W6 w5
     refine gS 2 (_ :: _ :: []) hs (by kernel_rfl) ⟨mu rfl i9, cp 0 rfl rfl, trivial⟩ W6 fun b q p => ?_
     exact tail_done (k := q) (w5 _ _ ⟨Bs.post ⟨hg, hs, hd⟩ p, p.ke 0 rfl i0, p.ke 1 rfl i1, p.ke 6 rfl i6, p.ke 7 rfl i7, p.ou 1 8 rfl, trivial⟩)
    rintro a k ⟨⟨hg, hs, hd⟩, i0, i1, i6, i7, i8, _⟩
    obtain rfl := Option.some.inj hr
    exact w3 _ _ ⟨⟨hg, hs, hd⟩, i0, i1, i6, i7, i8, trivial⟩
   clear hs2
   rintro a k ⟨⟨hg, hs, hd⟩, i0, i1, i6, i7, i8, _⟩
   exact hgo472 _ _ _ (Option.some.inj hr).symm ⟨⟨hg, hs, hd⟩, i0, i1, i6, i7, i8, trivial⟩
  rw [if_neg (by rw [hc492]; decide)] at hr
  refine wp_exit ?_
  exact hex473 _ _ _ _ (Option.some.inj hr).symm ⟨rfl, ⟨hg, hs, hd⟩, i0, i1, i6, i7, trivial⟩
 ·rintro r1 a k rfl hR
  dsimp only at hr
  obtain rfl := Option.some.inj hr
  exact hR
 ·rintro _ _ _ rfl _
  simp at hr
 clear hf1
 rintro _ s3 a k rfl ⟨rfl, ⟨hg, hs, hd⟩, i0, i1, i6, i7, _⟩
 dsimp only at hr
 refine wp_seq ?_
 obtain ⟨x5, hx5, hr⟩ := bind_some hr
 obtain ⟨x6, hx6, hx5⟩ := ite_bind hx5
 obtain ⟨x7, hx7, hx5⟩ := ite_bind hx5
 obtain ⟨x8, hx8, hx7⟩ := ite_bindFP hx7
 obtain ⟨x9, hx9, hx7⟩ := ite_bindFP hx7
 obtain ⟨x10, hx10, hx7⟩ := ite_bindFP hx7
 obtain ⟨x11, hx11, hx10⟩ := ite_bindP hx10
 refine cut (fun a' k' => Bs noF k0 54 a' k' ∧ (IsV s3.1) (a'.get 4) k' ∧ (IsV x5) (a'.get 5) k' ∧ True) ?_ hQ ?_
 ·intro Q7 W7 w6
  refine gS 25 (_ :: _ :: _ :: _ :: _ :: _ :: _ :: _ :: _ :: _ :: _ :: ⟨some (Gd ((decide (s3.1 < (x_.length : Int))) = true) (IsV (x6 == target_))), [(41, some 10)]⟩ :: ⟨some (Gd (((decide (s3.1 < (x_.length : Int))) = true) ∧ (x6 == target_) = false) (IsV x_)), [(0, none)]⟩ :: ⟨some (Gd (((decide (s3.1 < (x_.length : Int))) = true) ∧ (x6 == target_) = false) (IsV s3.1)), [(7, none)]⟩ :: ⟨some (Gd (((decide (s3.1 < (x_.length : Int))) = true) ∧ (x6 == target_) = false) (IsPtr x8)), [(43, some 12), (44, some 13)]⟩ :: ⟨some (Gd (((decide (s3.1 < (x_.length : Int))) = true) ∧ (x6 == target_) = false) (IsV x8)), [(45, some 14)]⟩ :: ⟨some (Gd (((decide (s3.1 < (x_.length : Int))) = true) ∧ (x6 == target_) = false) (IsV x9)), [(46, some 15)]⟩ :: ⟨some (Gd (((decide (s3.1 < (x_.length : Int))) = true) ∧ (x6 == target_) = false) (IsV x9)), [(47, some 16)]⟩ :: ⟨some (Gd ((((decide (s3.1 < (x_.length : Int))) = true) ∧ (x6 == target_) = false) ∧ x9 = true) (IsV target_)), [(1, none)]⟩ :: ⟨some (Gd ((((decide (s3.1 < (x_.length : Int))) = true) ∧ (x6 == target_) = false) ∧ x9 = true) (IsV x11)), [(49, some 18)]⟩ :: ⟨some (Gd (((decide (s3.1 < (x_.length : Int))) = true) ∧ (x6 == target_) = false) (IsV x10)), [(48, some 17), (50, some 19)]⟩ :: _ :: _ :: _ :: _ :: []) hs (by kernel_rfl) ⟨mu rfl i7, mu rfl i7, mu rfl i6, o1 [(32, some 1), (33, some 2)] rfl fun _ _ h n => ok_lss rfl n.1 n.2.1, cm 3 rfl rfl, mT rfl rfl i0, mT rfl rfl i7, gT [(36, some 5), (37, some 6)] rfl rfl fun hp _ _ h n => ok_indexAddr rfl Try.underlying22 ty3 (IsV.rd (Gd.get n.1 hp)) (Gd.get n.2.1 hp) (hx6 hp), gT [(38, some 7)] rfl rfl fun hp _ _ h n => ok_load rfl ty3 (Gd.get n.1 hp), mT rfl rfl i1, gT [(39, some 8), (40, some 9)] rfl rfl fun hp _ _ h n => ok_eqI rfl (Gd.get n.1 hp) (Gd.get n.2.1 hp), gdT rfl rfl fun hp _ _ h n => ok_move rfl (Gd.get n.1 hp), gdTF rfl rfl fun hp b q h n => ok_move rfl (up i0 h n.1), gdTF rfl rfl fun hp b q h n => ok_move rfl (up i7 h n.1), gdTF rfl rfl fun hp b q h n => ok_indexAddr rfl Try.underlying22 ty3 (IsV.rd (Gd.get n.1 hp)) (Gd.get n.2.1 hp) (hx8 hp), gdTF rfl rfl fun hp b q h n => ok_load rfl ty3 (Gd.get n.1 hp), gdTF rfl rfl fun hp b q h n => ok_call rfl Try.call44 (sIsNaN_ok (Gd.get n.1 hp) (hx9 hp)), gdTF rfl rfl fun hp b q h n => ok_move rfl (Gd.get n.1 hp), gdTT rfl rfl fun hp b q h n => ok_move rfl (up i1 h n.1), gdTT rfl rfl fun hp b q h n => ok_call rfl Try.call44 (sIsNaN_ok (Gd.get n.1 hp) (hx11 hp)), gdTF rfl rfl fun hp b q h n => ok_pickM rfl (Gd.get n.1 hp) (hx10 hp) (fun hm => (Gd.get n.2.1 ⟨hp, hm⟩)) (cB rfl), gT [(42, some 11), (51, some 20)] rfl rfl fun hp _ _ h n => ok_pickM rfl (Gd.get n.1 hp) (hx7 hp) (cB rfl) (fun hm => (Gd.get n.2.1 ⟨hp, hm⟩)), o1 [(35, some 4), (52, some 21)] rfl fun _ _ h n => ok_pickM rfl n.1 hx5 (Gd.get n.2.1) (cB rfl), cp 0 rfl rfl, cp 22 rfl rfl, trivial⟩ W7 fun b q p => ?_
  exact tail_done (k := q) (w6 _ _ ⟨Bs.post ⟨hg, hs, hd⟩ p, p.ou 23 4 rfl, p.ou 24 5 rfl, trivial⟩)
 rintro a k ⟨⟨hg, hs, hd⟩, i4, i5, _⟩
 refine wp_ret ?_
 obtain rfl := Option.some.inj hr
 exact retC2 rfl hd hg i4 i5
def search_L0 (f_ : (Int → Option (Bool))) (s1 : Int × Int) : Option (Flow (Int × Int) (Int)) :=
 if (decide (s1.1 < s1.2)) then
  (addI s1.1 s1.2).bind fun x1 =>
  (f_ (IntKind.i64.wrap (IK.shr (IK.mk (IntKind.u64.wrap x1) : IK .u64) 1).n)).bind fun x2 =>
  (if (!x2) then
   (addI (IntKind.i64.wrap (IK.shr (IK.mk (IntKind.u64.wrap x1) : IK .u64) 1).n) 1).bind fun x3 =>
   some (x3, s1.2)
  else
   some (s1.1, (IntKind.i64.wrap (IK.shr (IK.mk (IntKind.u64.wrap x1) : IK .u64) 1).n))).bind fun s2 =>
  some (.go (s2.1, s2.2))
 else
  some (.ex 0 (s1.1, s1.2))
def search (n_ : Int) (f_ : (Int → Option (Bool))) : Option (Int) :=
 (iterL (search_L0 f_) (n_.toNat + 1) (0, n_)).bind fun f1 => match f1 with
  | .go _ => none
  | .ex _ s1 =>
   some s1.1
  | .ret r1 => some r1
theorem search_ok {k0 : K} {v0 v1 : Value} {n_ : Int} {f_ : (Int → Option (Bool))} {r : Int} (i0 : (IsV n_) v0 k0) (i1 : (IsFn1 Try.prog f_) v1 k0) (hr : search n_ f_ = some r) :
  Calls Try.prog 27 #[v0, v1] k0.w (Ret k0 (IsV r)) := by
 unfold search at hr
 refine Ret.ofC ?_
 refine enterK Try.func27 rfl Try.ntmps27 (show 2 ≤ 26 by decide) fun a k hk0 hs hd ha => ?_
 obtain ⟨e0, e1, _⟩ := ha
 replace i0 : (IsV n_) (a.get 0) k := by rw [e0, hk0]; exact i0
 replace i1 : (IsFn1 Try.prog f_) (a.get 1) k := by rw [e1, hk0]; exact i1
 have hQ : Gb.LetsOut (bodyPost Try.prog Try.f27 (RetC noF k0 (IsV r))) := letsOutC
 have hg : Chg noF k0 k := by rw [hk0]; exact Chg.refl _ k0
 refine stepL 1 (⟨some (IsI 0), []⟩ :: []) rfl ⟨hg, hs, hd⟩ (by kernel_rfl) ⟨aI rfl rfl, trivial⟩ [⟨_, _⟩, ⟨_, _⟩] (fun b q p => ⟨p.ke 0 rfl i0, p.ke 1 rfl i1, trivial⟩) ?_
 rintro a k ⟨⟨hg, hs, hd⟩, i0, i1, _⟩
 refine stepL 3 (_ :: ⟨some (IsI 0), []⟩ :: _ :: []) rfl ⟨hg, hs, hd⟩ (by kernel_rfl) ⟨mu rfl i0, aI rfl rfl, cp 0 rfl rfl, trivial⟩ [⟨_, _⟩, ⟨_, _⟩, ⟨_, _⟩] (fun b q p => ⟨p.ke 1 rfl i1, p.ou 1 5 rfl, p.ou 2 6 rfl, trivial⟩) ?_
 rintro a k ⟨⟨hg, hs, hd⟩, i1, i5, i6, _⟩
 refine wp_seq ?_
 refine wp_block ?_
 obtain ⟨f1, hf1, hr⟩ := bind_some hr
 refine cutFe f1 (fun s' c l => Bs noF k0 26 c l ∧ IsFn1 Try.prog f_ (c.get 1) l ∧ IsV s'.1 (c.get 5) l ∧ IsV s'.2 (c.get 6) l ∧ True) (fun i' s' c l => (i' = 0 ∧ Bs noF k0 26 c l ∧ IsV s'.1 (c.get 5) l ∧ True)) (fun r' c l => bodyPost Try.prog Try.f27 (RetC noF k0 (IsV r')) .ret c l.w) ?_ hQ ?_ ?_ ?_
 ·intro Q1 W1 hgo hex hret
  refine sim_loop ?_ _ _ _ _ _ hf1 ⟨⟨hg, hs, hd⟩, i1, i5, i6, trivial⟩ Q1 W1 hgo hex hret
  clear hr hf1 hgo hex hret W1 hQ hg hs hd i1 i5 i6
  intro s1 fl_ a k hr hS Q hQ hgo511 hex512 hret513
  obtain ⟨⟨hg, hs, hd⟩, i1, i5, i6, _⟩ := hS
  unfold search_L0 at hr
  refine wp_seq ?_
  refine stepL 3 (_ :: _ :: _ :: []) rfl ⟨hg, hs, hd⟩ (by kernel_rfl) ⟨mu rfl i5, mu rfl i6, o1 [(9, some 0), (10, some 1)] rfl fun _ _ h n => ok_lss rfl n.1 n.2.1, trivial⟩ [⟨_, _⟩, ⟨_, _⟩, ⟨_, _⟩, ⟨_, _⟩] (fun b q p => ⟨p.ke 1 rfl i1, p.ke 5 rfl i5, p.ke 6 rfl i6, p.ou 2 11 rfl, trivial⟩) ?_
  rintro a k ⟨⟨hg, hs, hd⟩, i1, i5, i6, i11, _⟩
  refine wp_cond_split (isBool i11) (fun hc531 => ?_) (fun hc531 => ?_)
  ·rw [if_pos hc531] at hr
   refine wp_skip ?_
   refine wp_block ?_
   refine wp_seq ?_
   obtain ⟨x1, hx1, hr⟩ := bind_some hr
   refine cut (fun a' k' => Bs noF k0 26 a' k' ∧ (IsFn1 Try.prog f_) (a'.get 1) k' ∧ (IsV s1.1) (a'.get 5) k' ∧ (IsV s1.2) (a'.get 6) k' ∧ (IsI (IntKind.i64.wrap (IK.shr (IK.mk (IntKind.u64.wrap x1) : IK .u64) 1).n)) (a'.get 7) k' ∧ True) ?_ hQ ?_
   ·intro Q2 W2 w1
    refine gS 7 (_ :: _ :: _ :: ⟨some (IsV (IK.mk (IntKind.u64.wrap x1) : IK .u64)), [(14, some 2)]⟩ :: ⟨some (IsV (IK.shr (IK.mk (IntKind.u64.wrap x1) : IK .u64) 1)), [(15, some 3)]⟩ :: ⟨some (IsI (IntKind.i64.wrap (IK.shr (IK.mk (IntKind.u64.wrap x1) : IK .u64) 1).n)), [(16, some 4)]⟩ :: _ :: []) hs (by kernel_rfl) ⟨mu rfl i5, mu rfl i6, o1 [(12, some 0), (13, some 1)] rfl fun _ _ h n => ok_add rfl n.1 n.2.1 hx1, ob1 rfl fun _ _ h n => ok_conv_ik rfl (by rw [Try.underlying3]; rfl) Try.underlying54 n.1, ob1 rfl fun _ _ h n => ok_shrK rfl n.1 (by decide) (by decide), ob1 rfl fun _ _ h n => ok_conv_ki rfl (by rw [Try.underlying54]; rfl) Try.underlying3 n.1, cp 5 rfl rfl, trivial⟩ W2 fun b q p => ?_
    exact tail_done (k := q) (w1 _ _ ⟨Bs.post ⟨hg, hs, hd⟩ p, p.ke 1 rfl i1, p.ke 5 rfl i5, p.ke 6 rfl i6, p.ou 6 7 rfl, trivial⟩)
   rintro a k ⟨⟨hg, hs, hd⟩, i1, i5, i6, i7, _⟩
   refine wp_seq ?_
   obtain ⟨x2, hx2, hr⟩ := bind_some hr
   refine cut (fun a' k' => Bs noF k0 26 a' k' ∧ (IsFn1 Try.prog f_) (a'.get 1) k' ∧ (IsV s1.1) (a'.get 5) k' ∧ (IsV s1.2) (a'.get 6) k' ∧ (IsI (IntKind.i64.wrap (IK.shr (IK.mk (IntKind.u64.wrap x1) : IK .u64) 1).n)) (a'.get 7) k' ∧ (IsV (!x2)) (a'.get 21) k' ∧ True) ?_ hQ ?_
   ·intro Q3 W3 w2
    refine gS 4 (_ :: _ :: ⟨some (IsV x2), [(18, some 0), (19, some 1)]⟩ :: _ :: []) hs (by kernel_rfl) ⟨mu rfl i1, mu rfl i7, ob1 rfl fun _ _ h n => ok_callF1 rfl n.1 n.2.1 hx2, o1 [(20, some 2)] rfl fun _ _ h n => ok_not rfl n.1, trivial⟩ W3 fun b q p => ?_
    exact tail_done (k := q) (w2 _ _ ⟨Bs.post ⟨hg, hs, hd⟩ p, p.ke 1 rfl i1, p.ke 5 rfl i5, p.ke 6 rfl i6, p.ke 7 rfl i7, p.ou 3 21 rfl, trivial⟩)
   rintro a k ⟨⟨hg, hs, hd⟩, i1, i5, i6, i7, i21, _⟩
   obtain ⟨s2, hs2, hr⟩ := bind_some hr
   refine cut (fun a' k' => Bs noF k0 26 a' k' ∧ (IsFn1 Try.prog f_) (a'.get 1) k' ∧ (IsV s2.1) (a'.get 5) k' ∧ (IsV s2.2) (a'.get 6) k' ∧ True) ?_ hQ ?_
   ·intro Q4 W4 w3
    replace hr := hs2
    clear hQ
    have hQ := W4
    refine wp_cond_split (isBool i21) (fun hc525 => ?_) (fun hc525 => ?_)
    ·rw [if_pos hc525] at hr
     obtain ⟨x3, hx3, hr⟩ := bind_some hr
     refine cut (fun a' k' => Bs noF k0 26 a' k' ∧ (IsFn1 Try.prog f_) (a'.get 1) k' ∧ (IsV x3) (a'.get 5) k' ∧ (IsV s1.2) (a'.get 6) k' ∧ True) ?_ hQ ?_
     ·intro Q5 W5 w4
      refine gS 3 (_ :: _ :: _ :: []) hs (by kernel_rfl) ⟨mu rfl i7, o1 [(22, some 0)] rfl fun _ _ h n => ok_add rfl n.1 (cI rfl) hx3, cp 1 rfl rfl, trivial⟩ W5 fun b q p => ?_
      exact tail_done (k := q) (w4 _ _ ⟨Bs.post ⟨hg, hs, hd⟩ p, p.ke 1 rfl i1, p.ou 2 5 rfl, p.ke 6 rfl i6, trivial⟩)
     rintro a k ⟨⟨hg, hs, hd⟩, i1, i5, i6, _⟩
     obtain rfl := Option.some.inj hr
     exact w3 _ _ ⟨⟨hg, hs, hd⟩, i1, i5, i6, trivial⟩
    rw [if_neg (by rw [hc525]; decide)] at hr
    refine cut (fun a' k' => Bs noF k0 26 a' k' ∧ (IsFn1 Try.prog f_) (a'.get 1) k' ∧ (IsV s1.1) (a'.get 5) k' ∧ (IsI (IntKind.i64.wrap (IK.shr (IK.mk (IntKind.u64.wrap x1) : IK .u64) 1).n)) (a'.get 6) k' ∧ True) ?_ hQ ?_
    ·intro Q6 W6 w5
     refine gS 2 (_ :: _ :: []) hs (by kernel_rfl) ⟨mu rfl i7, cp 0 rfl rfl, trivial⟩ W6 fun b q p => ?_
     exact tail_done (k := q) (w5 _ _ ⟨Bs.post ⟨hg, hs, hd⟩ p, p.ke 1 rfl i1, p.ke 5 rfl i5, p.ou 1 6 rfl, trivial⟩)
    rintro a k ⟨⟨hg, hs, hd⟩, i1, i5, i6, _⟩
    obtain rfl := Option.some.inj hr
    exact w3 _ _ ⟨⟨hg, hs, hd⟩, i1, i5, i6, trivial⟩
   clear hs2
   rintro a k ⟨⟨hg, hs, hd⟩, i1, i5, i6, _⟩
   exact hgo511 _ _ _ (Option.some.inj hr).symm ⟨⟨hg, hs, hd⟩, i1, i5, i6, trivial⟩
  rw [if_neg (by rw [hc531]; decide)] at hr
  refine wp_exit ?_
  exact hex512 _ _ _ _ (Option.some.inj hr).symm ⟨rfl, ⟨hg, hs, hd⟩, i5, trivial⟩
 ·rintro r1 a k rfl hR
  dsimp only at hr
  obtain rfl := Option.some.inj hr
  exact hR
 ·rintro _ _ _ rfl _
  simp at hr
 clear hf1
 rintro _ s3 a k rfl ⟨rfl, ⟨hg, hs, hd⟩, i5, _⟩
 dsimp only at hr
 refine stepL 2 (_ :: _ :: []) rfl ⟨hg, hs, hd⟩ (by kernel_rfl) ⟨mu rfl i5, cp 0 rfl rfl, trivial⟩ [⟨_, _⟩] (fun b q p => ⟨p.ou 1 4 rfl, trivial⟩) ?_
 rintro a k ⟨⟨hg, hs, hd⟩, i4, _⟩
 refine wp_ret ?_
 obtain rfl := Option.some.inj hr
 exact retC1 rfl hd hg i4
def upTo_L0 (holidays_ : (List Int)) (day_ : Int) (s1 : Int × Int) : Option (Flow (Int × Int) (Int)) :=
 if (decide (s1.2 < (holidays_.length : Int))) then
  (getI holidays_ s1.2).bind fun x1 =>
  (if (decide (x1 < day_)) then
   (remI x1 7).bind fun x2 =>
   some (decide (x2 < 5))
  else
   some false).bind fun x3 =>
  (if x3 then
   (subI s1.1 1).bind fun x4 =>
   some x4
  else
   some s1.1).bind fun s2 =>
  (addI s1.2 1).bind fun x5 =>
  some (.go (s2, x5))
 else
  some (.ex 0 (s1.1, s1.2))
def upTo (holidays_ : (List Int)) (day_ : Int) : Option (Int) :=
 (quoI day_ 7).bind fun x1 =>
 (mulI x1 5).bind fun x2 =>
 (remI day_ 7).bind fun x3 =>
 (addI x2 (min x3 5)).bind fun x4 =>
 (iterL (upTo_L0 holidays_ day_) (holidays_.length + 1) (x4, 0)).bind fun f1 => match f1 with
  | .go _ => none
  | .ex _ s1 =>
   some s1.1
  | .ret r1 => some r1
theorem upTo_ok {k0 : K} {v0 v1 : Value} {holidays_ : (List Int)} {day_ : Int} {r : Int} (i0 : (IsV holidays_) v0 k0) (i1 : (IsV day_) v1 k0) (hr : upTo holidays_ day_ = some r) :
  Calls Try.prog 41 #[v0, v1] k0.w (Ret k0 (IsV r)) := by
 unfold upTo at hr
 refine Ret.ofC ?_
 refine enterK Try.func41 rfl Try.ntmps41 (show 2 ≤ 33 by decide) fun a k hk0 hs hd ha => ?_
 obtain ⟨e0, e1, _⟩ := ha
 replace i0 : (IsV holidays_) (a.get 0) k := by rw [e0, hk0]; exact i0
 replace i1 : (IsV day_) (a.get 1) k := by rw [e1, hk0]; exact i1
 have hQ : Gb.LetsOut (bodyPost Try.prog Try.f41 (RetC noF k0 (IsV r))) := letsOutC
 have hg : Chg noF k0 k := by rw [hk0]; exact Chg.refl _ k0
 refine stepL 1 (⟨some (IsI 0), []⟩ :: []) rfl ⟨hg, hs, hd⟩ (by kernel_rfl) ⟨aI rfl rfl, trivial⟩ [⟨_, _⟩, ⟨_, _⟩] (fun b q p => ⟨p.ke 0 rfl i0, p.ke 1 rfl i1, trivial⟩) ?_
 rintro a k ⟨⟨hg, hs, hd⟩, i0, i1, _⟩
 refine wp_seq ?_
 obtain ⟨x1, hx1, hr⟩ := bind_some hr
 obtain ⟨x2, hx2, hr⟩ := bind_some hr
 obtain ⟨x3, hx3, hr⟩ := bind_some hr
 obtain ⟨x4, hx4, hr⟩ := bind_some hr
 refine cut (fun a' k' => Bs noF k0 33 a' k' ∧ (IsV holidays_) (a'.get 0) k' ∧ (IsV day_) (a'.get 1) k' ∧ (IsV x4) (a'.get 5) k' ∧ True) ?_ hQ ?_
 ·intro Q1 W1 w1
  refine gS 8 (_ :: _ :: _ :: _ :: _ :: _ :: _ :: _ :: []) hs (by kernel_rfl) ⟨mu rfl i1, o1 [(8, some 0)] rfl fun _ _ h n => ok_quo rfl n.1 (cI rfl) hx1, o1 [(9, some 1)] rfl fun _ _ h n => ok_mul rfl n.1 (cI rfl) hx2, mu rfl i1, o1 [(11, some 3)] rfl fun _ _ h n => ok_rem rfl n.1 (cI rfl) hx3, o1 [(12, some 4)] rfl fun _ _ h n => ok_min2 rfl n.1 (cI rfl), o1 [(10, some 2), (13, some 5)] rfl fun _ _ h n => ok_add rfl n.1 n.2.1 hx4, cp 6 rfl rfl, trivial⟩ W1 fun b q p => ?_
  exact tail_done (k := q) (w1 _ _ ⟨Bs.post ⟨hg, hs, hd⟩ p, p.ke 0 rfl i0, p.ke 1 rfl i1, p.ou 7 5 rfl, trivial⟩)
 rintro a k ⟨⟨hg, hs, hd⟩, i0, i1, i5, _⟩
 refine wp_seq ?_
 refine stepL 3 (_ :: _ :: ⟨some (IsI 0), []⟩ :: []) rfl ⟨hg, hs, hd⟩ (by kernel_rfl) ⟨mu rfl i0, o1 [(15, some 0)] rfl fun _ _ h n => ok_len rfl rfl Try.underlying22 (IsV.rd n.1), ob1 rfl fun _ _ h n => ok_move rfl (cI rfl), trivial⟩ [⟨_, _⟩, ⟨_, _⟩, ⟨_, _⟩, ⟨_, _⟩, ⟨_, _⟩] (fun b q p => ⟨p.ke 1 rfl i1, p.ke 5 rfl i5, p.ou 0 15 rfl, p.ou 1 16 rfl, p.ou 2 17 rfl, trivial⟩) ?_
 rintro a k ⟨⟨hg, hs, hd⟩, i1, i5, i15, i16, i17, _⟩
 refine wp_block ?_
 obtain ⟨f1, hf1, hr⟩ := bind_some hr
 refine cutFe f1 (fun s' c l => Bs noF k0 33 c l ∧ IsV day_ (c.get 1) l ∧ IsV s'.1 (c.get 5) l ∧ IsV holidays_ (c.get 15) l ∧ IsL holidays_ (c.get 16) l ∧ IsV s'.2 (c.get 17) l ∧ True) (fun i' s' c l => (i' = 0 ∧ Bs noF k0 33 c l ∧ IsV s'.1 (c.get 5) l ∧ True)) (fun r' c l => bodyPost Try.prog Try.f41 (RetC noF k0 (IsV r')) .ret c l.w) ?_ hQ ?_ ?_ ?_
 ·intro Q2 W2 hgo hex hret
  refine sim_loop ?_ _ _ _ _ _ hf1 ⟨⟨hg, hs, hd⟩, i1, i5, i15, i16, i17, trivial⟩ Q2 W2 hgo hex hret
  clear hr hf1 hgo hex hret W2 hQ hg hs hd i1 i15 i16 i17 i5
  intro s1 fl_ a k hr hS Q hQ hgo549 hex550 hret551
  obtain ⟨⟨hg, hs, hd⟩, i1, i5, i15, i16, i17, _⟩ := hS
  unfold upTo_L0 at hr
  refine stepL 1 (_ :: []) rfl ⟨hg, hs, hd⟩ (by kernel_rfl) ⟨o1 [(17, none), (16, none)] rfl fun _ _ h n => ok_lss rfl (up i17 h n.1) (up i16 h n.2.1), trivial⟩ [⟨_, _⟩, ⟨_, _⟩, ⟨_, _⟩, ⟨_, _⟩, ⟨_, _⟩, ⟨_, _⟩] (fun b q p => ⟨p.ke 1 rfl i1, p.ke 5 rfl i5, p.ke 15 rfl i15, p.ke 16 rfl i16, p.ke 17 rfl i17, p.ou 0 18 rfl, trivial⟩) ?_
  rintro a k ⟨⟨hg, hs, hd⟩, i1, i5, i15, i16, i17, i18, _⟩
  refine wp_seq ?_
  refine wp_cond_split (isBool i18) (fun hc569 => ?_) (fun hc569 => ?_)
  ·rw [if_pos hc569] at hr
   refine wp_skip ?_
   refine wp_seq ?_
   refine wp_block ?_
   refine wp_seq ?_
   obtain ⟨x5, hx5, hr⟩ := bind_some hr
   refine cut (fun a' k' => Bs noF k0 33 a' k' ∧ (IsV day_) (a'.get 1) k' ∧ (IsV s1.1) (a'.get 5) k' ∧ (IsV x5) (a'.get 7) k' ∧ (IsV holidays_) (a'.get 15) k' ∧ (IsL holidays_) (a'.get 16) k' ∧ (IsV s1.2) (a'.get 17) k' ∧ True) ?_ hQ ?_
   ·intro Q3 W3 w2
    refine gS 3 (_ :: _ :: _ :: []) hs (by kernel_rfl) ⟨o1 [(15, none), (17, none)] rfl fun _ _ h n => ok_indexAddr rfl Try.underlying22 ty3 (IsV.rd (up i15 h n.1)) (up i17 h n.2.1) hx5, o1 [(19, some 0)] rfl fun _ _ h n => ok_load rfl ty3 n.1, cp 1 rfl rfl, trivial⟩ W3 fun b q p => ?_
    exact tail_done (k := q) (w2 _ _ ⟨Bs.post ⟨hg, hs, hd⟩ p, p.ke 1 rfl i1, p.ke 5 rfl i5, p.ou 2 7 rfl, p.ke 15 rfl i15, p.ke 16 rfl i16, p.ke 17 rfl i17, trivial⟩)
   rintro a k ⟨⟨hg, hs, hd⟩, i1, i5, i7, i15, i16, i17, _⟩
   refine wp_seq ?_
   obtain ⟨x6, hx6, hr⟩ := bind_some hr
   obtain ⟨x7, hx7, hx6⟩ := ite_bind hx6
   refine cut (fun a' k' => Bs noF k0 33 a' k' ∧ (IsV day_) (a'.get 1) k' ∧ (IsV s1.1) (a'.get 5) k' ∧ (IsV holidays_) (a'.get 15) k' ∧ (IsL holidays_) (a'.get 16) k' ∧ (IsV s1.2) (a'.get 17) k' ∧ (IsV x6) (a'.get 28) k' ∧ True) ?_ hQ ?_
   ·intro Q4 W4 w3
    refine gS 8 (_ :: _ :: _ :: _ :: _ :: _ :: _ :: _ :: []) hs (by kernel_rfl) ⟨mu rfl i7, mu rfl i1, o1 [(21, some 0), (22, some 1)] rfl fun _ _ h n => ok_lss rfl n.1 n.2.1, cm 2 rfl rfl, mT rfl rfl i7, gT [(25, some 4)] rfl rfl fun hp _ _ h n => ok_rem rfl (Gd.get n.1 hp) (cI rfl) (hx7 hp), gT [(26, some 5)] rfl rfl fun hp _ _ h n => ok_lss rfl (Gd.get n.1 hp) (cI rfl), o1 [(24, some 3), (27, some 6)] rfl fun _ _ h n => ok_pickM rfl n.1 hx6 (Gd.get n.2.1) (cB rfl), trivial⟩ W4 fun b q p => ?_
    exact tail_done (k := q) (w3 _ _ ⟨Bs.post ⟨hg, hs, hd⟩ p, p.ke 1 rfl i1, p.ke 5 rfl i5, p.ke 15 rfl i15, p.ke 16 rfl i16, p.ke 17 rfl i17, p.ou 7 28 rfl, trivial⟩)
   rintro a k ⟨⟨hg, hs, hd⟩, i1, i5, i15, i16, i17, i28, _⟩
   obtain ⟨s2, hs2, hr⟩ := bind_some hr
   refine cut (fun a' k' => Bs noF k0 33 a' k' ∧ (IsV day_) (a'.get 1) k' ∧ (IsV s2) (a'.get 5) k' ∧ (IsV holidays_) (a'.get 15) k' ∧ (IsL holidays_) (a'.get 16) k' ∧ (IsV s1.2) (a'.get 17) k' ∧ True) ?_ hQ ?_
   ·intro Q5 W5 w4
    replace hr := hs2
    clear hQ
    have hQ := W5
    refine wp_cond_split (isBool i28) (fun hc560 => ?_) (fun hc560 => ?_)
    ·rw [if_pos hc560] at hr
     obtain ⟨x8, hx8, hr⟩ := bind_some hr
     refine cut (fun a' k' => Bs noF k0 33 a' k' ∧ (IsV day_) (a'.get 1) k' ∧ (IsV x8) (a'.get 5) k' ∧ (IsV holidays_) (a'.get 15) k' ∧ (IsL holidays_) (a'.get 16) k' ∧ (IsV s1.2) (a'.get 17) k' ∧ True) ?_ hQ ?_
     ·intro Q6 W6 w5
      refine gS 3 (_ :: _ :: _ :: []) hs (by kernel_rfl) ⟨mu rfl i5, o1 [(29, some 0)] rfl fun _ _ h n => ok_sub rfl n.1 (cI rfl) hx8, cp 1 rfl rfl, trivial⟩ W6 fun b q p => ?_
      exact tail_done (k := q) (w5 _ _ ⟨Bs.post ⟨hg, hs, hd⟩ p, p.ke 1 rfl i1, p.ou 2 5 rfl, p.ke 15 rfl i15, p.ke 16 rfl i16, p.ke 17 rfl i17, trivial⟩)
     rintro a k ⟨⟨hg, hs, hd⟩, i1, i5, i15, i16, i17, _⟩
     obtain rfl := Option.some.inj hr
     exact w4 _ _ ⟨⟨hg, hs, hd⟩, i1, i5, i15, i16, i17, trivial⟩
    rw [if_neg (by rw [hc560]; decide)] at hr
    refine wp_skip ?_
    obtain rfl := Option.some.inj hr
    exact w4 _ _ ⟨⟨hg, hs, hd⟩, i1, i5, i15, i16, i17, trivial⟩
   clear hs2
   rintro a k ⟨⟨hg, hs, hd⟩, i1, i5, i15, i16, i17, _⟩
   obtain ⟨x9, hx9, hr⟩ := bind_some hr
   refine cut (fun a' k' => Bs noF k0 33 a' k' ∧ (IsV day_) (a'.get 1) k' ∧ (IsV s2) (a'.get 5) k' ∧ (IsV holidays_) (a'.get 15) k' ∧ (IsL holidays_) (a'.get 16) k' ∧ (IsV x9) (a'.get 17) k' ∧ True) ?_ hQ ?_
   ·intro Q7 W7 w6
    refine gS 2 (_ :: _ :: []) hs (by kernel_rfl) ⟨o1 [(17, none)] rfl fun _ _ h n => ok_add rfl (up i17 h n.1) (cI rfl) hx9, cm 0 rfl rfl, trivial⟩ W7 fun b q p => ?_
    exact tail_done (k := q) (w6 _ _ ⟨Bs.post ⟨hg, hs, hd⟩ p, p.ke 1 rfl i1, p.ke 5 rfl i5, p.ke 15 rfl i15, p.ke 16 rfl i16, p.ou 1 17 rfl, trivial⟩)
   rintro a k ⟨⟨hg, hs, hd⟩, i1, i5, i15, i16, i17, _⟩
   exact hgo549 _ _ _ (Option.some.inj hr).symm ⟨⟨hg, hs, hd⟩, i1, i5, i15, i16, i17, trivial⟩
  rw [if_neg (by rw [hc569]; decide)] at hr
  refine wp_exit ?_
  exact hex550 _ _ _ _ (Option.some.inj hr).symm ⟨rfl, ⟨hg, hs, hd⟩, i5, trivial⟩
 ·rintro r1 a k rfl hR
  dsimp only at hr
  obtain rfl := Option.some.inj hr
  exact hR
 ·rintro _ _ _ rfl _
  simp at hr
 clear hf1
 rintro _ s3 a k rfl ⟨rfl, ⟨hg, hs, hd⟩, i5, _⟩
 dsimp only at hr
 refine stepL 2 (_ :: _ :: []) rfl ⟨hg, hs, hd⟩ (by kernel_rfl) ⟨mu rfl i5, cp 0 rfl rfl, trivial⟩ [⟨_, _⟩] (fun b q p => ⟨p.ou 1 4 rfl, trivial⟩) ?_
 rintro a k ⟨⟨hg, hs, hd⟩, i4, _⟩
 refine wp_ret ?_
 obtain rfl := Option.some.inj hr
 exact retC1 rfl hd hg i4
def calCountG_L0 (holidays_ : (List Int)) (calm_ : (List Stay)) (a_ : Int) (b_ : Int) (s1 : Int × Int) : Option (Flow (Int × Int) (Int)) :=
 if (decide (s1.2 < (calm_.length : Int))) then
  (getI calm_ s1.2).bind fun x1 =>
  (addI a_ 1).bind fun x2 =>
  (if (decide ((max x1.From x2) ≤ (min x1.To b_))) then
   (addI (min x1.To b_) 1).bind fun x3 =>
   (upTo holidays_ x3).bind fun x4 =>
   (upTo holidays_ (max x1.From x2)).bind fun x5 =>
   (subI x4 x5).bind fun x6 =>
   (subI s1.1 x6).bind fun x7 =>
   some x7
  else
   some s1.1).bind fun s2 =>
  (addI s1.2 1).bind fun x8 =>
  some (.go (s2, x8))
 else
  some (.ex 0 (s1.1, s1.2))
def calCountG (holidays_ : (List Int)) (calm_ : (List Stay)) (a_ : Int) (b_ : Int) : Option (Int) :=
 (addI b_ 1).bind fun x1 =>
 (upTo holidays_ x1).bind fun x2 =>
 (addI a_ 1).bind fun x3 =>
 (upTo holidays_ x3).bind fun x4 =>
 (subI x2 x4).bind fun x5 =>
 (iterL (calCountG_L0 holidays_ calm_ a_ b_) (calm_.length + 1) (x5, 0)).bind fun f1 => match f1 with
  | .go _ => none
  | .ex _ s1 =>
   some s1.1
  | .ret r1 => some r1
theorem calCountG_ok {k0 : K} {v0 v1 v2 v3 : Value} {holidays_ : (List Int)} {calm_ : (List Stay)} {a_ : Int} {b_ : Int} {r : Int} (i0 : (IsV holidays_) v0 k0) (i1 : (IsV calm_) v1 k0) (i2 : (IsV a_) v2 k0) (i3 : (IsV b_) v3 k0) (hr : calCountG holidays_ calm_ a_ b_ = some r) :
  Calls Try.prog 29 #[v0, v1, v2, v3] k0.w (Ret k0 (IsV r)) := by
 unfold calCountG at hr
 refine Ret.ofC ?_
 refine enterK Try.func29 rfl Try.ntmps29 (show 4 ≤ 53 by decide) fun a k hk0 hs hd ha => ?_
 obtain ⟨e0, e1, e2, e3, _⟩ := ha
 replace i0 : (IsV holidays_) (a.get 0) k := by rw [e0, hk0]; exact i0
 replace i1 : (IsV calm_) (a.get 1) k := by rw [e1, hk0]; exact i1
 replace i2 : (IsV a_) (a.get 2) k := by rw [e2, hk0]; exact i2
 replace i3 : (IsV b_) (a.get 3) k := by rw [e3, hk0]; exact i3
 have hQ : Gb.LetsOut (bodyPost Try.prog Try.f29 (RetC noF k0 (IsV r))) := letsOutC
 have hg : Chg noF k0 k := by rw [hk0]; exact Chg.refl _ k0
 refine stepL 1 (⟨some (IsI 0), []⟩ :: []) rfl ⟨hg, hs, hd⟩ (by kernel_rfl) ⟨aI rfl rfl, trivial⟩ [⟨_, _⟩, ⟨_, _⟩, ⟨_, _⟩, ⟨_, _⟩] (fun b q p => ⟨p.ke 0 rfl i0, p.ke 1 rfl i1, p.ke 2 rfl i2, p.ke 3 rfl i3, trivial⟩) ?_
 rintro a k ⟨⟨hg, hs, hd⟩, i0, i1, i2, i3, _⟩
 refine wp_seq ?_
 obtain ⟨x1, hx1, hr⟩ := bind_some hr
 obtain ⟨x2, hx2, hr⟩ := bind_some hr
 obtain ⟨x3, hx3, hr⟩ := bind_some hr
 obtain ⟨x4, hx4, hr⟩ := bind_some hr
 obtain ⟨x5, hx5, hr⟩ := bind_some hr
 refine cut (fun a' k' => Bs noF k0 53 a' k' ∧ (IsV holidays_) (a'.get 0) k' ∧ (IsV calm_) (a'.get 1) k' ∧ (IsV a_) (a'.get 2) k' ∧ (IsV b_) (a'.get 3) k' ∧ (IsV x5) (a'.get 9) k' ∧ True) ?_ hQ ?_
 ·intro Q1 W1 w1
  refine gS 10 (_ :: _ :: _ :: _ :: _ :: _ :: _ :: _ :: _ :: _ :: []) hs (by kernel_rfl) ⟨mu rfl i0, mu rfl i3, o1 [(15, some 1)] rfl fun _ _ h n => ok_add rfl n.1 (cI rfl) hx1, o1 [(14, some 0), (16, some 2)] rfl fun _ _ h n => ok_call rfl Try.call41 (upTo_ok n.1 n.2.1 hx2), mu rfl i0, mu rfl i2, o1 [(19, some 5)] rfl fun _ _ h n => ok_add rfl n.1 (cI rfl) hx3, o1 [(18, some 4), (20, some 6)] rfl fun _ _ h n => ok_call rfl Try.call41 (upTo_ok n.1 n.2.1 hx4), o1 [(17, some 3), (21, some 7)] rfl fun _ _ h n => ok_sub rfl n.1 n.2.1 hx5, cp 8 rfl rfl, trivial⟩ W1 fun b q p => ?_
  exact tail_done (k := q) (w1 _ _ ⟨Bs.post ⟨hg, hs, hd⟩ p, p.ke 0 rfl i0, p.ke 1 rfl i1, p.ke 2 rfl i2, p.ke 3 rfl i3, p.ou 9 9 rfl, trivial⟩)
 rintro a k ⟨⟨hg, hs, hd⟩, i0, i1, i2, i3, i9, _⟩
 refine wp_seq ?_
 refine stepL 3 (_ :: _ :: ⟨some (IsI 0), []⟩ :: []) rfl ⟨hg, hs, hd⟩ (by kernel_rfl) ⟨mu rfl i1, o1 [(23, some 0)] rfl fun _ _ h n => ok_len rfl rfl Try.underlying23 (IsV.rd n.1), ob1 rfl fun _ _ h n => ok_move rfl (cI rfl), trivial⟩ [⟨_, _⟩, ⟨_, _⟩, ⟨_, _⟩, ⟨_, _⟩, ⟨_, _⟩, ⟨_, _⟩, ⟨_, _⟩] (fun b q p => ⟨p.ke 0 rfl i0, p.ke 2 rfl i2, p.ke 3 rfl i3, p.ke 9 rfl i9, p.ou 0 23 rfl, p.ou 1 24 rfl, p.ou 2 25 rfl, trivial⟩) ?_
 rintro a k ⟨⟨hg, hs, hd⟩, i0, i2, i3, i9, i23, i24, i25, _⟩
 refine wp_block ?_
 obtain ⟨f1, hf1, hr⟩ := bind_some hr
 refine cutFe f1 (fun s' c l => Bs noF k0 53 c l ∧ IsV holidays_ (c.get 0) l ∧ IsV a_ (c.get 2) l ∧ IsV b_ (c.get 3) l ∧ IsV s'.1 (c.get 9) l ∧ IsV calm_ (c.get 23) l ∧ IsL calm_ (c.get 24) l ∧ IsV s'.2 (c.get 25) l ∧ True) (fun i' s' c l => (i' = 0 ∧ Bs noF k0 53 c l ∧ IsV s'.1 (c.get 9) l ∧ True)) (fun r' c l => bodyPost Try.prog Try.f29 (RetC noF k0 (IsV r')) .ret c l.w) ?_ hQ ?_ ?_ ?_
 ·intro Q2 W2 hgo hex hret
  refine sim_loop ?_ _ _ _ _ _ hf1 ⟨⟨hg, hs, hd⟩, i0, i2, i3, i9, i23, i24, i25, trivial⟩ Q2 W2 hgo hex hret
  clear hr hf1 hgo hex hret W2 hQ hg hs hd i0 i2 i23 i24 i25 i3 i9
  intro s1 fl_ a k hr hS Q hQ hgo589 hex590 hret591
  obtain ⟨⟨hg, hs, hd⟩, i0, i2, i3, i9, i23, i24, i25, _⟩ := hS
  unfold calCountG_L0 at hr
  refine stepL 1 (_ :: []) rfl ⟨hg, hs, hd⟩ (by kernel_rfl) ⟨o1 [(25, none), (24, none)] rfl fun _ _ h n => ok_lss rfl (up i25 h n.1) (up i24 h n.2.1), trivial⟩ [⟨_, _⟩, ⟨_, _⟩, ⟨_, _⟩, ⟨_, _⟩, ⟨_, _⟩, ⟨_, _⟩, ⟨_, _⟩, ⟨_, _⟩] (fun b q p => ⟨p.ke 0 rfl i0, p.ke 2 rfl i2, p.ke 3 rfl i3, p.ke 9 rfl i9, p.ke 23 rfl i23, p.ke 24 rfl i24, p.ke 25 rfl i25, p.ou 0 26 rfl, trivial⟩) ?_
  rintro a k ⟨⟨hg, hs, hd⟩, i0, i2, i3, i9, i23, i24, i25, i26, _⟩
  refine wp_seq ?_
  refine wp_cond_split (isBool i26) (fun hc612 => ?_) (fun hc612 => ?_)
  ·rw [if_pos hc612] at hr
   refine wp_skip ?_
   refine wp_seq ?_
   refine wp_block ?_
   refine wp_seq ?_
   obtain ⟨x6, hx6, hr⟩ := bind_some hr
   refine cut (fun a' k' => Bs noF k0 53 a' k' ∧ (IsV holidays_) (a'.get 0) k' ∧ (IsV a_) (a'.get 2) k' ∧ (IsV b_) (a'.get 3) k' ∧ (IsV s1.1) (a'.get 9) k' ∧ (IsRef x6) (a'.get 11) k' ∧ (IsV calm_) (a'.get 23) k' ∧ (IsL calm_) (a'.get 24) k' ∧ (IsV s1.2) (a'.get 25) k' ∧ True) ?_ hQ ?_
   ·intro Q3 W3 w2
    refine gS 3 (_ :: _ :: ⟨some (IsBox k.w.heap.size (⟨0, 0⟩ : Stay)), []⟩ :: []) hs (by kernel_rfl) ⟨o1 [(23, none), (25, none)] rfl fun _ _ h n => ok_indexAddr rfl Try.underlying23 ty38 (IsV.rd (up i23 h n.1)) (up i25 h n.2.1) hx6, o1 [(27, some 0)] rfl fun _ _ h n => ok_load rfl ty38 n.1, ob1 rfl fun _ _ h n => ok_alloc _ h.size rfl z38, trivial⟩ W3 fun b q p => ?_
    have hgq := hg.then p.grow
    have hsb := p.size.trans hs
    have hdb := p.defers.trans hd
    have j0 := p.ke 0 rfl i0
    have j2 := p.ke 2 rfl i2
    have j3 := p.ke 3 rfl i3
    have j9 := p.ke 9 rfl i9
    obtain ⟨b11, j11, x11, z11⟩ : (IsBox k.w.heap.size (⟨0, 0⟩ : Stay)) (b.get 11) q := p.ou 2 11 rfl
    replace x11 : Lo k (Eq b11) := Lo.eq x11
    have y11 : Lo k0 (Eq b11) := x11.chg hg
    have j23 := p.ke 23 rfl i23
    have j24 := p.ke 24 rfl i24
    have j25 := p.ke 25 rfl i25
    have j28 : (IsV x6) (b.get 28) q := p.ou 1 28 rfl
    have hns := z11.nshF
    refine tail_storeB (i := 3) rfl rfl rfl rfl szf38 (Upd.self (α := Stay)) j11 z11 j28 fun q2 hch hz => ?_
    replace hgq := hgq.step hch y11.wr
    have hle := hch.le hns
    replace j0 := Pers.pers hle j0
    replace j2 := Pers.pers hle j2
    replace j3 := Pers.pers hle j3
    replace j9 := Pers.pers hle j9
    replace j23 := Pers.pers hle j23
    replace j24 := Pers.pers hle j24
    replace j25 := Pers.pers hle j25
    replace j28 := Pers.pers hle j28
    replace z11 := hz
    clear hns hle hch
    obtain ⟨q, hqq⟩ : ∃ q, q = q2 := ⟨q2, rfl⟩
    subst hqq
    obtain ⟨q2, hsh, jn⟩ := z11.give
    replace j0 := Pers.pers hsh.le j0
    replace j2 := Pers.pers hsh.le j2
    replace j3 := Pers.pers hsh.le j3
    replace j9 := Pers.pers hsh.le j9
    replace j23 := Pers.pers hsh.le j23
    replace j24 := Pers.pers hsh.le j24
    replace j25 := Pers.pers hsh.le j25
    rw [← j11] at jn
    replace j11 := jn
    replace hgq := hgq.hand hsh y11.wr
    rw [← hsh.w]
    clear hsh
    obtain ⟨q, hqq⟩ : ∃ q, q = q2 := ⟨q2, rfl⟩
    subst hqq
    exact tail_done (k := q) (w2 _ _ ⟨⟨hgq, hsb, hdb⟩, j0, j2, j3, j9, j11, j23, j24, j25, trivial⟩)
   rintro a k ⟨⟨hg, hs, hd⟩, i0, i2, i3, i9, i11, i23, i24, i25, _⟩
   refine wp_seq ?_
   obtain ⟨x7, hx7, hr⟩ := bind_some hr
   refine cut (fun a' k' => Bs noF k0 53 a' k' ∧ (IsV holidays_) (a'.get 0) k' ∧ (IsV a_) (a'.get 2) k' ∧ (IsV b_) (a'.get 3) k' ∧ (IsV s1.1) (a'.get 9) k' ∧ (IsI (max x6.From x7)) (a'.get 12) k' ∧ (IsI (min x6.To b_)) (a'.get 13) k' ∧ (IsV calm_) (a'.get 23) k' ∧ (IsL calm_) (a'.get 24) k' ∧ (IsV s1.2) (a'.get 25) k' ∧ True) ?_ hQ ?_
   ·intro Q4 W4 w3
    refine region (m := 11) (_ :: _ :: _ :: _ :: _ :: _ :: _ :: _ :: _ :: _ :: _ :: []) hmix hs (by kernel_rfl) ⟨o1 [(11, none)] rfl fun _ _ h n => ok_fieldAddr rfl fo38_0 (at_Stay_0 _) ((up i11 h n.1)).ptr, o1 [(29, some 0)] rfl fun _ _ h n => ok_load rfl ty3 n.1, mu rfl i2, o1 [(31, some 2)] rfl fun _ _ h n => ok_add rfl n.1 (cI rfl) hx7, o1 [(30, some 1), (32, some 3)] rfl fun _ _ h n => ok_max2 rfl n.1 n.2.1, o1 [(11, none)] rfl fun _ _ h n => ok_fieldAddr rfl fo38_1 (at_Stay_1 _) ((up i11 h n.1)).ptr, o1 [(34, some 5)] rfl fun _ _ h n => ok_load rfl ty3 n.1, mu rfl i3, o1 [(35, some 6), (36, some 7)] rfl fun _ _ h n => ok_min2 rfl n.1 n.2.1, cp 4 rfl rfl, cp 8 rfl rfl, trivial⟩ W4 fun b q p => ?_
    exact tail_done (k := q) (w3 _ _ ⟨Bs.post ⟨hg, hs, hd⟩ p, p.ke 0 rfl i0, p.ke 2 rfl i2, p.ke 3 rfl i3, p.ke 9 rfl i9, p.ou 9 12 rfl, p.ou 10 13 rfl, p.ke 23 rfl i23, p.ke 24 rfl i24, p.ke 25 rfl i25, trivial⟩)
   rintro a k ⟨⟨hg, hs, hd⟩, i0, i2, i3, i9, i12, i13, i23, i24, i25, _⟩
   refine stepL 3 (_ :: _ :: _ :: []) rfl ⟨hg, hs, hd⟩ (by kernel_rfl) ⟨mu rfl i12, mu rfl i13, o1 [(38, some 0), (39, some 1)] rfl fun _ _ h n => ok_leq rfl n.1 n.2.1, trivial⟩ [⟨_, _⟩, ⟨_, _⟩, ⟨_, _⟩, ⟨_, _⟩, ⟨_, _⟩, ⟨_, _⟩, ⟨_, _⟩, ⟨_, _⟩, ⟨_, _⟩, ⟨_, _⟩] (fun b q p => ⟨p.ke 0 rfl i0, p.ke 2 rfl i2, p.ke 3 rfl i3, p.ke 9 rfl i9, p.ke 12 rfl i12, p.ke 13 rfl i13, p.ke 23 rfl i23, p.ke 24 rfl i24, p.ke 25 rfl i25, p.ou 2 40 rfl, trivial⟩) ?_
   rintro a k ⟨⟨hg, hs, hd⟩, i0, i2, i3, i9, i12, i13, i23, i24, i25, i40, _⟩
   obtain ⟨s2, hs2, hr⟩ := bind_some hr
   refine cut (fun a' k' => Bs noF k0 53 a' k' ∧ (IsV holidays_) (a'.get 0) k' ∧ (IsV a_) (a'.get 2) k' ∧ (IsV b_) (a'.get 3) k' ∧ (IsV s2) (a'.get 9) k' ∧ (IsV calm_) (a'.get 23) k' ∧ (IsL calm_) (a'.get 24) k' ∧ (IsV s1.2) (a'.get 25) k' ∧ True) ?_ hQ ?_
   ·intro Q5 W5 w4
    replace hr := hs2
    clear hQ
    have hQ := W5
    refine wp_cond_split (isBool i40) (fun hc601 => ?_) (fun hc601 => ?_)
    ·rw [if_pos hc601] at hr
     obtain ⟨x8, hx8, hr⟩ := bind_some hr
     obtain ⟨x9, hx9, hr⟩ := bind_some hr
     obtain ⟨x10, hx10, hr⟩ := bind_some hr
     obtain ⟨x12, hx12, hr⟩ := bind_some hr
     obtain ⟨x13, hx13, hr⟩ := bind_some hr
     refine cut (fun a' k' => Bs noF k0 53 a' k' ∧ (IsV holidays_) (a'.get 0) k' ∧ (IsV a_) (a'.get 2) k' ∧ (IsV b_) (a'.get 3) k' ∧ (IsV x13) (a'.get 9) k' ∧ (IsV calm_) (a'.get 23) k' ∧ (IsL calm_) (a'.get 24) k' ∧ (IsV s1.2) (a'.get 25) k' ∧ True) ?_ hQ ?_
     ·intro Q6 W6 w5
      refine gS 11 (_ :: _ :: _ :: _ :: _ :: _ :: _ :: _ :: _ :: _ :: _ :: []) hs (by kernel_rfl) ⟨mu rfl i9, mu rfl i0, mu rfl i13, o1 [(43, some 2)] rfl fun _ _ h n => ok_add rfl n.1 (cI rfl) hx8, o1 [(42, some 1), (44, some 3)] rfl fun _ _ h n => ok_call rfl Try.call41 (upTo_ok n.1 n.2.1 hx9), mu rfl i0, mu rfl i12, o1 [(46, some 5), (47, some 6)] rfl fun _ _ h n => ok_call rfl Try.call41 (upTo_ok n.1 n.2.1 hx10), o1 [(45, some 4), (48, some 7)] rfl fun _ _ h n => ok_sub rfl n.1 n.2.1 hx12, o1 [(41, some 0), (49, some 8)] rfl fun _ _ h n => ok_sub rfl n.1 n.2.1 hx13, cp 9 rfl rfl, trivial⟩ W6 fun b q p => ?_
      exact tail_done (k := q) (w5 _ _ ⟨Bs.post ⟨hg, hs, hd⟩ p, p.ke 0 rfl i0, p.ke 2 rfl i2, p.ke 3 rfl i3, p.ou 10 9 rfl, p.ke 23 rfl i23, p.ke 24 rfl i24, p.ke 25 rfl i25, trivial⟩)
     rintro a k ⟨⟨hg, hs, hd⟩, i0, i2, i3, i9, i23, i24, i25, _⟩
     obtain rfl := Option.some.inj hr
     exact w4 _ _ ⟨⟨hg, hs, hd⟩, i0, i2, i3, i9, i23, i24, i25, trivial⟩
    rw [if_neg (by rw [hc601]; decide)] at hr
    refine wp_skip ?_
    obtain rfl := Option.some.inj hr
    exact w4 _ _ ⟨⟨hg, hs, hd⟩, i0, i2, i3, i9, i23, i24, i25, trivial⟩
   clear hs2
   rintro a k ⟨⟨hg, hs, hd⟩, i0, i2, i3, i9, i23, i24, i25, _⟩
   obtain ⟨x14, hx14, hr⟩ := bind_some hr
   refine cut (fun a' k' => Bs noF k0 53 a' k' ∧ (IsV holidays_) (a'.get 0) k' ∧ (IsV a_) (a'.get 2) k' ∧ (IsV b_) (a'.get 3) k' ∧ (IsV s2) (a'.get 9) k' ∧ (IsV calm_) (a'.get 23) k' ∧ (IsL calm_) (a'.get 24) k' ∧ (IsV x14) (a'.get 25) k' ∧ True) ?_ hQ ?_
   ·intro Q7 W7 w6
    refine gS 2 (_ :: _ :: []) hs (by kernel_rfl) ⟨o1 [(25, none)] rfl fun _ _ h n => ok_add rfl (up i25 h n.1) (cI rfl) hx14, cm 0 rfl rfl, trivial⟩ W7 fun b q p => ?_
    exact tail_done (k := q) (w6 _ _ ⟨Bs.post ⟨hg, hs, hd⟩ p, p.ke 0 rfl i0, p.ke 2 rfl i2, p.ke 3 rfl i3, p.ke 9 rfl i9, p.ke 23 rfl i23, p.ke 24 rfl i24, p.ou 1 25 rfl, trivial⟩)
   rintro a k ⟨⟨hg, hs, hd⟩, i0, i2, i3, i9, i23, i24, i25, _⟩
   exact hgo589 _ _ _ (Option.some.inj hr).symm ⟨⟨hg, hs, hd⟩, i0, i2, i3, i9, i23, i24, i25, trivial⟩
  rw [if_neg (by rw [hc612]; decide)] at hr
  refine wp_exit ?_
  exact hex590 _ _ _ _ (Option.some.inj hr).symm ⟨rfl, ⟨hg, hs, hd⟩, i9, trivial⟩
 ·rintro r1 a k rfl hR
  dsimp only at hr
  obtain rfl := Option.some.inj hr
  exact hR
 ·rintro _ _ _ rfl _
  simp at hr
 clear hf1
 rintro _ s3 a k rfl ⟨rfl, ⟨hg, hs, hd⟩, i9, _⟩
 dsimp only at hr
 refine stepL 2 (_ :: _ :: []) rfl ⟨hg, hs, hd⟩ (by kernel_rfl) ⟨mu rfl i9, cp 0 rfl rfl, trivial⟩ [⟨_, _⟩] (fun b q p => ⟨p.ou 1 8 rfl, trivial⟩) ?_
 rintro a k ⟨⟨hg, hs, hd⟩, i8, _⟩
 refine wp_ret ?_
 obtain rfl := Option.some.inj hr
 exact retC1 rfl hd hg i8
def cloneStays (s_ : (List Stay)) : Option ((List Stay)) :=
 (appI [] s_).bind fun x1 =>
 some x1
theorem cloneStays_okO {k0 : K} {v0 : Value} {s_ : (List Stay)} {r : (List Stay)} (i0 : (IsV s_) v0 k0) (hr : cloneStays s_ = some r) :
  Calls Try.prog 38 #[v0] k0.w (Ret k0 (IsOwn k0.w.heap.size 38 r)) := by
 unfold cloneStays at hr
 refine Ret.ofC ?_
 refine enterK Try.func38 rfl Try.ntmps38 (show 1 ≤ 8 by decide) fun a k hk0 hs hd ha => ?_
 obtain ⟨e0, _⟩ := ha
 replace i0 : (IsV s_) (a.get 0) k := by rw [e0, hk0]; exact i0
 have hQ : Gb.LetsOut (bodyPost Try.prog Try.f38 (RetC noF k0 (IsOwn k0.w.heap.size 38 r))) := letsOutC
 have hg : Chg noF k0 k := by rw [hk0]; exact Chg.refl _ k0
 refine stepL 1 (⟨some IsE0, []⟩ :: []) rfl ⟨hg, hs, hd⟩ (by kernel_rfl) ⟨ob1 rfl fun b q h n => ok_assign rfl isE0_nil, trivial⟩ [⟨_, _⟩] (fun b q p => ⟨p.ke 0 rfl i0, trivial⟩) ?_
 rintro a k ⟨⟨hg, hs, hd⟩, i0, _⟩
 refine wp_seq ?_
 refine stepL 2 (_ :: ⟨some (IsNT s_), [(3, some 0)]⟩ :: []) rfl ⟨hg, hs, hd⟩ (by kernel_rfl) ⟨mu rfl i0, ob1 rfl fun _ _ h n => ok_eqNil rfl Try.underlying23 (IsV.rd n.1), trivial⟩ [⟨_, _⟩, ⟨_, _⟩] (fun b q p => ⟨p.ke 0 rfl i0, p.ou 1 4 rfl, trivial⟩) ?_
 rintro a k ⟨⟨hg, hs, hd⟩, i0, i4, _⟩
 obtain ⟨bb, hbb, hnil⟩ := i4
 refine wp_cond_split hbb (fun hc636 => ?_) (fun hc636 => ?_)
 ·replace hr : some ([] : List Stay) = some r := by rw [hnil hc636] at hr; simpa [appI] using hr
  refine cutS (fun c l => Bs noF k0 8 c l ∧ IsOwn 0 38 ([] : List Stay) (c.get 2) l ∧ Lo k0 (obF (c.get 2)) ∧ True) ?_ ?_
  ·intro Q1 W1 w1
   refine gS 1 (⟨some IsE0, []⟩ :: []) hs (by kernel_rfl) ⟨ob1 rfl fun b q h n => ok_assign rfl isE0_nil, trivial⟩ W1 fun b q p => ?_
   have hgq := hg.then p.grow
   have hsb := p.size.trans hs
   have hdb := p.defers.trans hd
   have j2 : IsE0 (b.get 2) q := p.ou 0 2 rfl
   have y2 : Lo k0 (obF (b.get 2)) := j2.lo
   replace j2 : IsOwn 0 38 ([] : List Stay) (b.get 2) q := j2.own0
   exact tail_done (k := q) (w1 _ _ ⟨⟨hgq, hsb, hdb⟩, j2, y2, trivial⟩)
  rintro a k ⟨⟨hg, hs, hd⟩, i2, n2, _⟩
  refine wp_ret ?_
  obtain rfl := Option.some.inj hr
  exact retC1 rfl hd hg (show ResOk _ _ _ (.tmp 2) _ from IsOwn.raise (k0 := k0) i2 n2)
 ·skip
  refine wp_skip ?_
  refine wp_seq ?_
  obtain ⟨x1, hx1, hr⟩ := bind_some hr
  refine cut (fun a' k' => Bs noF k0 8 a' k' ∧ IsOwn 0 38 x1 (a'.get 2) k' ∧ Lo k0 (obF (a'.get 2)) ∧ True) ?_ hQ ?_
  ·intro Q2 W2 w2
   refine gS 4 (⟨some IsE0, []⟩ :: _ :: ⟨some (IsOwn k.w.heap.size 38 x1), [(5, some 0), (6, some 1)]⟩ :: _ :: []) hs (by kernel_rfl) ⟨ob1 rfl fun b q h n => ok_buildSlice0 rfl Try.underlying23 eo38, mu rfl i0, ob1 rfl fun _ _ h n => ok_append0 rfl Try.underlying23 eo38 h.size n.1 (IsV.rd n.2.1) hx1, cp 2 rfl rfl, trivial⟩ W2 fun b q p => ?_
   have hgq := hg.then p.grow
   have hsb := p.size.trans hs
   have hdb := p.defers.trans hd
   have j2 : (IsOwn k.w.heap.size 38 x1) (b.get 2) q := p.ou 3 2 rfl
   have x2 : Lo k (obF (b.get 2)) := j2.loF
   have y2 := x2.chg hg
   replace j2 := j2.weaken (Nat.zero_le _)
   exact tail_done (k := q) (w2 _ _ ⟨⟨hgq, hsb, hdb⟩, j2, y2, trivial⟩)
  rintro a k ⟨⟨hg, hs, hd⟩, i2, n2, _⟩
  refine wp_ret ?_
  obtain rfl := Option.some.inj hr
  exact retC1 rfl hd hg (show ResOk _ _ _ (.tmp 2) _ from IsOwn.raise (k0 := k0) i2 n2)
theorem cloneStays_ok {k0 : K} {v0 : Value} {s_ : (List Stay)} {r : (List Stay)} (i0 : (IsV s_) v0 k0) (hr : cloneStays s_ = some r) :
  Calls Try.prog 38 #[v0] k0.w (Ret k0 (IsV r)) :=
 ret_give (cloneStays_okO i0 hr)
end Go.Proofs.Ytdpekblabnfjnaa
