/- The general part of the proofs (no program in sight), part 3: worlds with shared blocks, regions, operations, calls, loops, what comes in as data. -/
import Derived.Lib.SlicesCompact
import Derived.Test.YtmniloampanhfaaL2
set_option linter.unusedVariables false
set_option linter.unusedSimpArgs false
/- General part of the proofs: own slices in the library's functions: sorted and made compact in place, made with room. -/
namespace Go.Gb
open Go.Proofs Go.Sort Go.RowKit Go.Lib
variable {P : Program}

/-- A slice of the call's own, in a block that the call may write to. -/
def IsOwnW {α : Type} [Enc α] (v : Value) (k : K) (e : TypeId) (xs : List α) : Pred := fun u k' => IsOwn 0 e xs u k' ∧ Wr (obF v) k (obF u)

theorem ownAt {α : Type} [Enc α] {u v : Value} {k : K} {B : Nat} {e : TypeId} {xs : List α} (h : v = u) (g : IsOwn B e xs v k) : OwnAt u B e xs v k := ⟨h, g⟩
theorem upT {R : Pred} [Mono R] {u v : Value} {k q : K} (h : R u k) (hk : Grow k q) (e : v = u) : R v q := e ▸ Mono.mono hk h
theorem repL_int {k : K} : ∀ {xs : List Int} {cs : List Value}, RepL k cs xs ↔ cs = xs.map (Value.int .i64)
  | [], cs => by simp [RepL]
  | x :: xs, cs => by
    rw [repL_flat]
    have : ∀ l : List Int, (l.map fun n => FlatE.enc n).flatten = l.map (Value.int .i64) := by
      intro l
      induction l with
      | nil => rfl
      | cons a l ih => simp only [List.map_cons, List.flatten_cons, ih]; rfl
    rw [this]

section
variable {k0 : K} {b off cap : Nat} {cur : Array Value} {e : TypeId} {xs : List Int} {cs : List Value}
theorem own_holds (hh : k0.w.heap[b]? = some (.cells cur e (0, 0))) (hroom : off + xs.length ≤ cur.size) (hcs : (cur.toList.drop off).take (xs.length * Enc.sz Int) = cs) (hrep : RepL k0 cs xs) :
    Holds (Value.int .i64) k0.w b off xs.toArray := by
  intro j hj
  simp only [List.size_toArray] at hj
  refine ⟨?_, by simp [World.frozen?, hh]⟩
  have h1 : cs[j]? = cur[off + j]? := by
    rw [← hcs, List.getElem?_take, if_pos (by show j < xs.length * 1; omega), List.getElem?_drop, Array.getElem?_toList]
  rw [repL_int.1 hrep, List.getElem?_map, List.getElem?_eq_getElem hj] at h1
  simp only [World.cell?, hh, ← h1]
  rw [getElem!_pos _ j (by simpa using hj)]
  simp
theorem put_own {ys zs : List Int} (hB : 0 ≤ b) (ho : ¬ k0.sh b) (hh : k0.w.heap[b]? = some (.cells cur e (0, 0))) (hc1 : xs.length ≤ cap) (hc0 : 0 < cap) (hcm : cap ≤ maxLen) (hfit : off + cap * Enc.sz Int ≤ cur.size)
    (hlen : (ys ++ zs).length = xs.length) {w' : World} {n : Nat} {os : Array Obj} (hw : w' = grow (putRow (Value.int .i64) (Sort.ahead k0.w n) b off (ys ++ zs).toArray) os) :
    ∃ k' : K, k'.w = w' ∧ Chg (obF (.slice (some ⟨b, off, none⟩) xs.length cap)) k0 k' ∧ IsOwn 0 e ys (.slice (some ⟨b, off, none⟩) ys.length cap) k' := by
  have hlt : b < k0.w.heap.size := (Array.getElem?_eq_some_iff.1 hh).1
  have hsz : k0.w.heap.size ≤ w'.heap.size := by rw [hw]; unfold putRow mapBlock; simp [grow, Sort.ahead]
  have hblk : ∀ x, x < k0.w.heap.size → x ≠ b → w'.heap[x]? = k0.w.heap[x]? := by
    intro x hx hxb
    rw [hw]
    unfold putRow mapBlock
    rw [heap_grow_old _ _ (by simpa [Sort.ahead] using hx)]
    simp [Array.getElem?_modify, hxb.symm, Sort.ahead]
  have hrow : w'.heap[b]? = some (.cells (putCells (Value.int .i64) off (ys ++ zs).toArray cur) e (0, 0)) := by
    rw [hw]
    unfold putRow mapBlock
    rw [heap_grow_old _ _ (by simpa [Sort.ahead] using hlt)]
    simp [Array.getElem?_modify, hh, onCells, Sort.ahead]
  let k' : K := ⟨w', k0.sh, fun x hx => Nat.lt_of_lt_of_le (k0.lt x hx) hsz⟩
  have hyl : ys.length ≤ xs.length := by rw [← hlen, List.length_append]; omega
  have hE : Enc.sz Int = 1 := rfl
  refine ⟨k', rfl, ⟨by rw [show k'.w = w' from rfl, hw]; rfl, by rw [show k'.w = w' from rfl, hw]; rfl, by rw [show k'.w = w' from rfl, hw]; rfl, hsz, fun x hx hF => hblk x hx fun e' => hF (by simp [obF, ob, e', Nat.ne_of_gt hc0]), fun _ h => h, fun _ _ h => .inl h, by rw [show k'.w = w' from rfl, hw]; exact Nat.le_add_right _ _⟩,
    .inr (.inr ⟨b, off, cap, _, _, rfl, hB, ho, hrow, by omega, hc0, hcm, by simpa [putCells] using hfit, rfl, ?_⟩)⟩
  rw [repL_int]
  refine List.ext_getElem? fun t => ?_
  rw [List.getElem?_take, hE, Nat.mul_one]
  split
  · rename_i ht
    have hcur : off + t < cur.size := by rw [hE] at hfit; omega
    rw [List.getElem?_drop, Array.getElem?_toList, putCells, Array.getElem?_mapIdx, Array.getElem?_eq_getElem hcur, Option.map_some, if_pos (by simp only [List.size_toArray]; omega), Nat.add_sub_cancel_left, getElem!_pos _ t (by simp only [List.size_toArray]; omega), List.getElem?_map, List.getElem?_eq_getElem ht]
    simp [List.getElem_append_left ht]
  · rename_i ht
    rw [List.getElem?_eq_none (by simp; omega)]
end

/-- An own slice of numbers, sorted in place. -/
theorem sortI_own {f : FuncId} {S : List Int → List Int} {e : TypeId} {xs : List Int} {v0 : Value} {k0 : K} (hS : (S xs).length = xs.length)
    (hnone : ∀ p cap w, Calls P f #[.slice p 0 cap] w fun e w' => e = .returned (.tuple #[]) ∧ w' = w)
    (hc : ∀ blk off cap (w : World), Holds (Value.int .i64) w blk off xs.toArray → blk < w.heap.size →
      Calls P f #[.slice (some ⟨blk, off, none⟩) xs.length cap] w fun e w' => e = .returned (.tuple #[]) ∧ ∃ n os, w' = grow (putRow (Value.int .i64) (Sort.ahead w n) blk off (S xs).toArray) os)
    (i0 : IsOwn 0 e xs v0 k0) : Calls P f #[v0] k0.w (RetC (obF v0) k0 fun _ k' => IsOwn 0 e (S xs) v0 k') := by
  have hz : ∀ p cap, v0 = .slice p 0 cap → xs = [] → Calls P f #[v0] k0.w (RetC (obF v0) k0 fun _ k' => IsOwn 0 e (S xs) v0 k') := by
    intro p cap hv hx
    have hS0 : S xs = [] := List.length_eq_zero_iff.1 (by rw [hS, hx]; rfl)
    subst hv
    refine (hnone p cap k0.w).mono ?_
    rintro e' w' ⟨rfl, rfl⟩
    refine ⟨k0, rfl, Chg.refl _ k0, ?_⟩
    rw [hS0]
    rw [hx] at i0
    exact i0
  rcases i0 with ⟨hv, hx⟩ | ⟨a, hv, hx⟩ | ⟨b, off, cap, cur, cs, rfl, hB, ho, hh, hc1, hc0, hcm, hfit, hcs, hrep⟩
  · exact hz _ _ hv hx
  · exact hz _ _ hv hx
  · have hlt : b < k0.w.heap.size := (Array.getElem?_eq_some_iff.1 hh).1
    have hE : Enc.sz Int = 1 := rfl
    have hH := own_holds hh (by rw [hE] at hfit; omega) hcs hrep
    refine (hc b off cap k0.w hH hlt).mono ?_
    rintro e' w' ⟨rfl, n, os, hw⟩
    obtain ⟨k', e1, hg, hown⟩ := put_own (xs := xs) (ys := S xs) (zs := []) hB ho hh hc1 hc0 hcm hfit (by simpa using hS) (by simpa using hw)
    exact ⟨k', e1, hg, by rw [hS] at hown; exact hown⟩

/-- An own slice of numbers, made compact in place. -/
theorem compactI_own {f : FuncId} {e : TypeId} {xs : List Int} {v0 : Value} {k0 : K} (hl : (compact xs).length ≤ xs.length) (hlen : xs.length ≤ 1073741824)
    (hnone : ∀ p cap w, Calls P f #[.slice p 0 cap] w fun e w' => e = .returned (.slice p 0 cap) ∧ w' = w)
    (hc : ∀ blk off cap (w : World), Holds (Value.int .i64) w blk off xs.toArray → xs.length ≤ cap →
      Calls P f #[.slice (some ⟨blk, off, none⟩) xs.length cap] w fun e w' => e = .returned (.slice (some ⟨blk, off, none⟩) (compact xs).length cap) ∧
        ∃ q, w' = putRow (Value.int .i64) (Sort.ahead w q) blk off (compact xs ++ List.replicate (xs.length - (compact xs).length) 0).toArray)
    (i0 : IsOwn 0 e xs v0 k0) : Calls P f #[v0] k0.w (RetC (obF v0) k0 (IsOwnW v0 k0 e (compact xs))) := by
  have hz : ∀ p cap, v0 = .slice p 0 cap → xs = [] → Calls P f #[v0] k0.w (RetC (obF v0) k0 (IsOwnW v0 k0 e (compact xs))) := by
    intro p cap hv hx
    have hS0 : compact xs = [] := List.length_eq_zero_iff.1 (by rw [hx] at hl ⊢; simpa using hl)
    subst hv
    refine (hnone p cap k0.w).mono ?_
    rintro e' w' ⟨rfl, rfl⟩
    refine ⟨k0, rfl, Chg.refl _ k0, ?_, fun b h => .inl h⟩
    rw [hS0]
    rw [hx] at i0
    exact i0
  rcases i0 with ⟨hv, hx⟩ | ⟨a, hv, hx⟩ | ⟨b, off, cap, cur, cs, rfl, hB, ho, hh, hc1, hc0, hcm, hfit, hcs, hrep⟩
  · exact hz _ _ hv hx
  · exact hz _ _ hv hx
  · have hE : Enc.sz Int = 1 := rfl
    have hH := own_holds hh (by rw [hE] at hfit; omega) hcs hrep
    refine (hc b off cap k0.w hH hc1).mono ?_
    rintro e' w' ⟨rfl, q, hw⟩
    obtain ⟨k', e1, hg, hown⟩ := put_own (xs := xs) (ys := compact xs) (zs := List.replicate (xs.length - (compact xs).length) 0) (n := q) (os := #[]) (w' := w') hB ho hh hc1 hc0 hcm hfit (by simp; omega) (by rw [hw, grow_empty])
    refine ⟨k', e1, hg, hown, fun b h => .inl ?_⟩
    simpa [obF, ob] using h

/-- A new slice without elements, with room. -/
theorem grow_own {f : FuncId} {α : Type} [Enc α] {e : TypeId} {n : Int} {r : List α} {v0 v1 : Value} {k0 : K} (he : ElemOk P e α) (i0 : v0 = .slice none 0 0) (i1 : IsV n v1 k0) (hr : growI α n = some r)
    (h0 : Calls P f #[.slice none 0 0, .int .i64 0] k0.w fun e w' => e = .returned (.slice none 0 0) ∧ w' = k0.w)
    (h1 : ∀ (m : Nat) (i : TypeInfo) (z : Value), 0 < m → m ≤ 1073741824 → P.info? e = some i → i.zero = some z → 0 < i.size → i.bytes ≤ 65536 →
      Calls P f #[.slice none 0 0, .int .i64 (m : Int)] k0.w fun en w' => en = .returned (.slice (some ⟨k0.w.heap.size, 0, none⟩) 0 (grownCap k0.w (0 + m) 0 e)) ∧
        w' = k0.w.drew.alloc (.cells (([] : List Value).toArray ++ Builtin.zeroCells z.cells (0 + m - 0) ++ Builtin.zeroCells z.cells (grownCap k0.w (0 + m) 0 e - (0 + m))) e)) :
    Calls P f #[v0, v1] k0.w (Ret k0 (IsOwn k0.w.heap.size e r)) := by
  subst i0
  obtain rfl := isV_int.1 i1
  unfold growI at hr
  split at hr
  · rename_i hn
    obtain rfl := Option.some.inj hr
    rcases Int.lt_or_le 0 n with hp | hp
    · obtain ⟨m, rfl⟩ : ∃ m : Nat, n = (m : Int) := ⟨n.toNat, by omega⟩
      obtain ⟨i, z, hi, hiz, hsz, hzs, hpos, hby⟩ := he
      refine (h1 m i z (by omega) (by omega) hi hiz (by omega) hby).mono ?_
      rintro e' w' ⟨rfl, hw⟩
      have hge := grownCap_ge k0.w (0 + m) 0 e
      have hcm : grownCap k0.w (0 + m) 0 e ≤ maxLen := grownCap_le_maxLen k0.w _ 0 e (by unfold maxLen; omega)
      generalize grownCap k0.w (0 + m) 0 e = cap at hge hcm hw
      let k' : K := ⟨w', k0.sh, fun b hb => by have := k0.lt b hb; rw [hw]; simp; omega⟩
      have hblk : ∀ b, b < k0.w.heap.size → w'.heap[b]? = k0.w.heap[b]? := fun b hb => by rw [hw]; exact (World.grownBy_alloc k0.w.drew _ none).block b hb (by simp)
      refine ⟨k', rfl, ⟨by rw [show k'.w = w' from rfl, hw]; rfl, by rw [show k'.w = w' from rfl, hw]; rfl, by rw [show k'.w = w' from rfl, hw]; rfl, by rw [show k'.w = w' from rfl, hw]; simp, hblk, fun _ h => h, fun _ _ h => h, by rw [show k'.w = w' from rfl, hw]; exact Nat.le_succ _⟩,
        .inr (.inr ⟨k0.w.heap.size, 0, cap, _, [], rfl, Nat.le_refl _, fun hs => Nat.lt_irrefl _ (k0.lt _ hs), by rw [show k'.w = w' from rfl, hw]; exact heap_alloc_new k0.w.drew _, Nat.zero_le _, by omega, hcm, ?_, by simp, rfl⟩)⟩
      simp only [Array.size_append, List.size_toArray, size_zeroCells, hzs]
      simp only [List.length_nil, Nat.zero_add, Nat.sub_zero]
      rw [← Nat.add_mul]
      exact Nat.mul_le_mul_right _ (by omega)
    · obtain rfl : n = 0 := by omega
      refine h0.mono ?_
      rintro e' w' ⟨rfl, rfl⟩
      exact ⟨k0, rfl, Grow.refl k0, .inl ⟨rfl, rfl⟩⟩
  · simp at hr

/-- What growing makes of a world. -/
theorem grow_world {k k' : K} (h : Grow k k') : ∃ q os', k'.w = grow (k.w.drewN q) os' := by
  refine ⟨k'.w.drawn - k.w.drawn, k'.w.heap.extract k.w.heap.size k'.w.heap.size, ?_⟩
  have e1 : k'.w.heap = k.w.heap ++ k'.w.heap.extract k.w.heap.size k'.w.heap.size := by
    have hs := h.size
    refine Array.ext_getElem? fun i => ?_
    rw [Array.getElem?_append]
    split
    · rename_i hi
      exact h.blk i hi
    · rename_i hi
      rw [Array.getElem?_extract]
      split
      · congr 1; omega
      · rw [Array.getElem?_eq_none]; omega
  have e2 : k'.w.drawn = k.w.drawn + (k'.w.drawn - k.w.drawn) := by have := h.drawn; omega
  have h1 := h.tape; have h2 := h.os; have h3 := h.out
  unfold grow World.drewN
  revert e1 e2 h1 h2 h3
  generalize k'.w = w'
  generalize k.w = w
  obtain ⟨a, b, c, d, e⟩ := w
  obtain ⟨a', b', c', d', e'⟩ := w'
  dsimp only
  rintro h1 h2 h3 h4 h5
  rw [World.mk.injEq]
  exact ⟨h1, h3, h2, h4, h5⟩
theorem ret_cmp {f : FuncId} {args : Array Value} {k : K} {r : Int} (h : Calls P f args k.w (Ret k (IsV r))) : Calls P f args k.w fun e w' => e = .returned (.int .i64 r) ∧ ∃ q os', w' = grow (k.w.drewN q) os' := h.mono fun e w' he => by
  cases e with
  | returned v =>
    obtain ⟨k', rfl, hg, hv⟩ := he
    exact ⟨by rw [isV_int.1 hv], grow_world hg⟩
  | panicked c => exact he.elim
  | outgrown => exact he.elim
/-- A world with nothing shared. -/
def kFree (w : World) : K := ⟨w, fun _ => False, fun _ h => h.elim⟩
theorem isV_flat {α : Type} [Enc α] [FlatE α] (h : Enc.agg α = true) (x : α) (k : K) : IsV x (.agg (FlatE.enc x).toArray) k := ⟨FlatE.enc x, by rw [h]; rfl, FlatE.rep.2 rfl⟩

/-! What sorting and making compact do, plainly. -/
theorem keeps_val {α : Type} [DecidableEq α] [Inhabited α] {zs : List α} {j : Nat} (hj : j < zs.length) (h0 : 0 < j) : keeps zs.toArray j = decide (zs[j] ≠ zs[j - 1]'(by omega)) := by
  unfold keeps
  rw [getElem!_pos _ j (by simpa using hj), getElem!_pos _ (j - 1) (by simp; omega)]
  simp [Nat.ne_of_gt h0]
theorem compact_sorted {l : List Int} (hs : l.Pairwise fun a b => a ≤ b) : (compact l).Pairwise (fun a b => a < b) ∧ (∀ x, x ∈ compact l ↔ x ∈ l) ∧ (compact l).length ≤ l.length := by
  have hs' := List.pairwise_iff_getElem.1 hs
  have key : ∀ m, m ≤ l.length → (compactUpTo l.toArray m).Pairwise (fun a b => a < b) ∧ (∀ x, x ∈ compactUpTo l.toArray m ↔ x ∈ l.take m) ∧ (compactUpTo l.toArray m).length ≤ m := by
    intro m
    induction m with
    | zero => intro _; simp [compactUpTo]
    | succ m ih =>
      intro hm
      obtain ⟨h1, h2, h3⟩ := ih (by omega)
      rw [compactUpTo_succ, List.take_succ_eq_append_getElem (by omega : m < l.length)]
      have e : l.toArray[m]! = l[m] := by rw [getElem!_pos _ m (by simp; omega)]; simp
      rcases Nat.eq_zero_or_pos m with rfl | h0
      · simp [keeps, compactUpTo, e]
      · rw [keeps_val (by omega) h0, e]
        have hle : l[m - 1]'(by omega) ≤ l[m] := hs' (m - 1) m (by omega) (by omega) (by omega)
        by_cases he : l[m] = l[m - 1]'(by omega)
        · simp only [he, ne_eq, not_true_eq_false, decide_false, Bool.false_eq_true, if_false, List.append_nil]
          refine ⟨h1, fun x => ?_, by omega⟩
          rw [h2]
          constructor
          · intro h; exact List.mem_append_left _ h
          · intro h
            rcases List.mem_append.1 h with h | h
            · exact h
            · simp only [List.mem_singleton] at h
              subst h
              rw [List.mem_iff_getElem]
              exact ⟨m - 1, by simp; omega, by simp⟩
        · simp only [ne_eq, he, not_false_eq_true, decide_true, if_true]
          refine ⟨?_, fun x => ?_, by simp; omega⟩
          · rw [List.pairwise_append]
            refine ⟨h1, List.pairwise_singleton _ _, fun x hx y hy => ?_⟩
            simp only [List.mem_singleton] at hy
            subst hy
            have := (h2 x).1 hx
            obtain ⟨j, hj, rfl⟩ := List.getElem_of_mem this
            rw [List.getElem_take]
            simp only [List.length_take] at hj
            have h5 : l[j]'(by omega) ≤ l[m - 1]'(by omega) := by
              rcases Nat.lt_or_ge j (m - 1) with h | h
              · exact hs' j (m - 1) (by omega) (by omega) h
              · have : j = m - 1 := by omega
                subst this; exact Int.le_refl _
            omega
          · rw [List.mem_append, List.mem_append, h2]
  have := key l.length (Nat.le_refl _)
  rwa [List.take_length] at this
theorem compact_length {l : List Int} : (compact l).length ≤ l.length := by
  unfold compact compactUpTo
  rw [List.length_map]
  exact Nat.le_trans (List.length_filter_le _ _) (by simp)
/-- The numbers, sorted. -/
def sortInts (l : List Int) : Option (List Int) := if l.length ≤ 1073741824 then some (l.mergeSort fun x y => decide (x ≤ y)) else none
theorem sortInts_spec {l : List Int} (h : l.length ≤ 1000000) : ∃ r, sortInts l = some r ∧ r.Perm l ∧ r.Pairwise fun a b => a ≤ b := by
  refine ⟨_, if_pos (by omega), List.mergeSort_perm _ _, ?_⟩
  have := List.pairwise_mergeSort (le := fun x y : Int => decide (x ≤ y)) (by intro a b c; simp; omega) (by intro a b; simp; omega) l
  simpa using this
/-- Each number once. -/
def compactInts (l : List Int) : Option (List Int) := if l.length ≤ 1073741824 then some (compact l) else none
theorem compactInts_spec {l : List Int} (h : l.length ≤ 1000000) (hs : l.Pairwise fun a b => a ≤ b) : ∃ r, compactInts l = some r ∧ r.Pairwise (fun a b => a < b) ∧ (∀ x, x ∈ r ↔ x ∈ l) ∧ r.length ≤ l.length :=
  ⟨_, if_pos (by omega), compact_sorted hs⟩
end Go.Gb

/- General part of the proofs: building runs from cuts; loops that may end early; sums. -/
namespace Go.Gb
section
variable {V : Type} [DecidableEq V] {e : V}

/-- The runs of a function that is constant between neighbouring cuts. -/
def build (e : V) (zs : List Int) (A : Int → V) : Nat → Runs V
  | 0 => []
  | i + 1 => pushR e (build e zs A i) (zs.getD i 0) (zs.getD (i + 1) 0) (A (zs.getD i 0))
theorem getD_get {zs : List Int} {i : Nat} (h : i < zs.length) : zs.getD i 0 = zs[i] := by
  rw [List.getD_eq_getElem?_getD, List.getElem?_eq_getElem h]; rfl
theorem build_succ {zs : List Int} {A : Int → V} {i : Nat} (h : i + 1 < zs.length) : build e zs A (i + 1) = pushR e (build e zs A i) (zs[i]'(by omega)) zs[i + 1] (A (zs[i]'(by omega))) := by
  rw [build, getD_get (by omega), getD_get h]
theorem build_spec {zs : List Int} (hz : zs.Pairwise fun a b => a < b) (A : Int → V) : ∀ (n : Nat), n < zs.length → Canon e (build e zs A n) ∧ (∀ h : n < zs.length, EndsBy (build e zs A n) zs[n]) ∧
    (∀ j (hj : j + 1 < zs.length), j < n → ∀ z, zs[j] ≤ z → z < zs[j + 1] → rval e (build e zs A n) z = A zs[j]) ∧ (∀ z, (∀ j (hj : j + 1 < zs.length), j < n → ¬ (zs[j] ≤ z ∧ z < zs[j + 1])) → rval e (build e zs A n) z = e) ∧
    (∀ r ∈ build e zs A n, ∃ j, ∃ hj : j < zs.length, j < n ∧ r.2.2 = A zs[j])
  | 0, _ => ⟨trivial, fun _ r hr => by simp [build] at hr, fun j _ h => absurd h (Nat.not_lt_zero j), fun z _ => rfl, fun r hr => by simp [build] at hr⟩
  | n + 1, hn => by
    obtain ⟨h1, h2, h3, h4, h5⟩ := build_spec hz A n (by omega)
    have hlt : zs[n]'(by omega) < zs[n + 1] := (List.pairwise_iff_getElem.1 hz) n (n + 1) (by omega) hn (by omega)
    obtain ⟨k1, k2, k3⟩ := pushR_spec (A (zs[n]'(by omega))) h1 (h2 (by omega)) hlt
    rw [build_succ hn]
    refine ⟨k1, fun _ => k2, fun j hj hjn z a1 a2 => ?_, fun z hz' => ?_, fun r hr => ?_⟩
    · rw [k3]
      rcases Nat.lt_or_ge j n with h | h
      · have : zs[j + 1] ≤ zs[n]'(by omega) := by
          rcases Nat.lt_or_ge (j + 1) n with h' | h'
          · exact Int.le_of_lt ((List.pairwise_iff_getElem.1 hz) (j + 1) n hj (by omega) h')
          · have : j + 1 = n := by omega
            subst this; exact Int.le_refl _
        rw [if_neg (by omega)]
        exact h3 j hj h z a1 a2
      · have : j = n := by omega
        subst this
        rw [if_pos ⟨a1, a2⟩]
    · rw [k3, if_neg (hz' n hn (by omega))]
      exact h4 z fun j hj hjn => hz' j hj (by omega)
    · have : r.2.2 = A (zs[n]'(by omega)) ∨ ∃ q ∈ build e zs A n, q.2.2 = r.2.2 := by
        unfold pushR at hr
        split at hr
        · exact .inr ⟨r, hr, rfl⟩
        · split at hr
          · rename_i c d w hl
            split at hr
            · rename_i hc
              rcases List.mem_append.1 hr with h | h
              · exact .inr ⟨r, (List.dropLast_sublist _).subset h, rfl⟩
              · simp only [List.mem_singleton] at h; subst h; exact .inl rfl
            · rcases List.mem_append.1 hr with h | h
              · exact .inr ⟨r, h, rfl⟩
              · simp only [List.mem_singleton] at h; subst h; exact .inl rfl
          · simp only [List.mem_singleton] at hr; subst hr; exact .inl rfl
      rcases this with h | ⟨q, hq, h⟩
      · exact ⟨n, by omega, by omega, h⟩
      · obtain ⟨j, hj, hjn, h'⟩ := h5 q hq
        exact ⟨j, hj, by omega, by rw [← h, h']⟩
omit [DecidableEq V] in
theorem canon_iff : ∀ {l : Runs V}, Canon e l ↔ (∀ i (h : i < l.length), l[i].1 < l[i].2.1 ∧ l[i].2.2 ≠ e) ∧ ∀ i (h : i + 1 < l.length), l[i].2.1 < l[i + 1].1 ∨ (l[i].2.1 = l[i + 1].1 ∧ l[i].2.2 ≠ l[i + 1].2.2)
  | [] => ⟨fun _ => ⟨fun i h => absurd h (Nat.not_lt_zero i), fun i h => absurd h (Nat.not_lt_zero _)⟩, fun _ => trivial⟩
  | [(a, b, v)] => ⟨fun h => ⟨fun i hi => by
      have : i = 0 := by simp at hi; omega
      subst this; exact ⟨h.1, h.2.1⟩, fun i hi => absurd hi (by simp)⟩, fun h => ⟨(h.1 0 (by simp)).1, (h.1 0 (by simp)).2, trivial, trivial⟩⟩
  | (a, b, v) :: (c, d, w) :: t => by
    have ih := canon_iff (l := (c, d, w) :: t)
    constructor
    · intro h
      obtain ⟨h1, h2⟩ := ih.1 h.2.2.2
      refine ⟨fun i hi => ?_, fun i hi => ?_⟩
      · cases i with
        | zero => exact ⟨h.1, h.2.1⟩
        | succ i => exact h1 i (by simpa using hi)
      · cases i with
        | zero => exact h.2.2.1
        | succ i => exact h2 i (by simpa using hi)
    · rintro ⟨h1, h2⟩
      refine ⟨(h1 0 (by simp)).1, (h1 0 (by simp)).2, h2 0 (by simp), ih.2 ⟨fun i hi => ?_, fun i hi => ?_⟩⟩
      · exact h1 (i + 1) (by simpa using hi)
      · exact h2 (i + 1) (by simpa using hi)
end

/-- A loop with a counter from a number on: it ends at N by leaving, or before by a result. -/
theorem iter_fromR {σ τ ρ : Type} {body : τ → Option (Flow τ ρ)} {k : Nat} (st : σ → Int → τ) (a N : Nat) (hab : a ≤ N) (Inv : Nat → σ → Prop) (Post : ρ → Prop)
    (hs : ∀ i, a ≤ i → i < N → ∀ s, Inv i s → (∃ s', body (st s (i : Int)) = some (.go (st s' ((i + 1 : Nat) : Int))) ∧ Inv (i + 1) s') ∨ (∃ r, body (st s (i : Int)) = some (.ret r) ∧ Post r))
    (hd : ∀ s, Inv N s → body (st s (N : Int)) = some (.ex k (st s (N : Int)))) {s0 : σ} (h0 : Inv a s0) {fuel : Nat} (hf : N - a < fuel) :
    (∃ s, iterL body fuel (st s0 (a : Int)) = some (.ex k (st s (N : Int))) ∧ Inv N s) ∨ (∃ r, iterL body fuel (st s0 (a : Int)) = some (.ret r) ∧ Post r) := by
  have key : ∀ m i s, i + m = N → a ≤ i → Inv i s → ∀ fuel, m < fuel → (∃ s', iterL body fuel (st s (i : Int)) = some (.ex k (st s' (N : Int))) ∧ Inv N s') ∨ (∃ r, iterL body fuel (st s (i : Int)) = some (.ret r) ∧ Post r) := by
    intro m
    induction m with
    | zero =>
      intro i s hi ha hI fuel hf
      obtain rfl : i = N := by omega
      obtain ⟨fuel, rfl⟩ : ∃ m, fuel = m + 1 := ⟨fuel - 1, by omega⟩
      refine .inl ⟨s, ?_, hI⟩
      simp only [iterL, hd s hI]
    | succ m ih =>
      intro i s hi ha hI fuel hf
      obtain ⟨fuel, rfl⟩ : ∃ m, fuel = m + 1 := ⟨fuel - 1, by omega⟩
      rcases hs i ha (by omega) s hI with ⟨s', h1, h2⟩ | ⟨r, h1, h2⟩
      · simp only [iterL, h1]
        exact ih (i + 1) s' (by omega) (by omega) h2 fuel (by omega)
      · refine .inr ⟨r, ?_, h2⟩
        simp only [iterL, h1]
  exact key (N - a) a s0 (by omega) (Nat.le_refl _) h0 fuel (by omega)

/-- A loop that checks numbers from 0 on: it leaves with a result at the first that has a property, or runs to the end. -/
theorem iter_findN {ρ : Type} {body : Int → Option (Flow Int ρ)} {k : Nat} (N : Nat) (p : Nat → Prop) (r : Nat → ρ)
    (hs : ∀ i, i < N → (∀ j, j < i → ¬ p j) → (p i ∧ body (i : Int) = some (.ret (r i))) ∨ (¬ p i ∧ body (i : Int) = some (.go ((i + 1 : Nat) : Int))))
    (hd : body (N : Int) = some (.ex k (N : Int))) {fuel : Nat} (hf : N < fuel) :
    (∃ i, i < N ∧ p i ∧ (∀ j, j < i → ¬ p j) ∧ iterL body fuel 0 = some (.ret (r i))) ∨ ((∀ i, i < N → ¬ p i) ∧ iterL body fuel 0 = some (.ex k (N : Int))) := by
  have key : ∀ m i, i + m = N → (∀ j, j < i → ¬ p j) → ∀ fuel, m < fuel →
      (∃ j, j < N ∧ p j ∧ (∀ q, q < j → ¬ p q) ∧ iterL body fuel (i : Int) = some (.ret (r j))) ∨ ((∀ j, j < N → ¬ p j) ∧ iterL body fuel (i : Int) = some (.ex k (N : Int))) := by
    intro m
    induction m with
    | zero =>
      intro i hi hp fuel hf
      obtain rfl : i = N := by omega
      obtain ⟨fuel, rfl⟩ : ∃ m, fuel = m + 1 := ⟨fuel - 1, by omega⟩
      refine .inr ⟨hp, ?_⟩
      simp only [iterL, hd]
    | succ m ih =>
      intro i hi hp fuel hf
      obtain ⟨fuel, rfl⟩ : ∃ m, fuel = m + 1 := ⟨fuel - 1, by omega⟩
      rcases hs i (by omega) hp with ⟨h1, h2⟩ | ⟨h1, h2⟩
      · refine .inl ⟨i, by omega, h1, hp, ?_⟩
        simp only [iterL, h2]
      · simp only [iterL, h2]
        exact ih (i + 1) (by omega) (fun j hj => by
          rcases Nat.lt_or_ge j i with h | h
          · exact hp j h
          · obtain rfl : j = i := by omega
            exact h1) fuel (by omega)
  exact key N 0 (by omega) (fun j hj => absurd hj (Nat.not_lt_zero j)) fuel hf

/-! Sums -/
def sumN (f : Nat → Int) : Nat → Int
  | 0 => 0
  | n + 1 => sumN f n + f n
def sumL {α : Type} (f : α → Int) : List α → Int
  | [] => 0
  | x :: xs => f x + sumL f xs
theorem sumN_congr {f g : Nat → Int} : ∀ {n : Nat}, (∀ i, i < n → f i = g i) → sumN f n = sumN g n
  | 0, _ => rfl
  | n + 1, h => by rw [sumN, sumN, sumN_congr fun i hi => h i (by omega), h n (by omega)]
theorem sumN_add {f g : Nat → Int} : ∀ {n : Nat}, sumN (fun i => f i + g i) n = sumN f n + sumN g n
  | 0 => rfl
  | n + 1 => by simp only [sumN, sumN_add (n := n)]; omega
theorem sumN_zero : ∀ {n : Nat}, sumN (fun _ => 0) n = 0
  | 0 => rfl
  | n + 1 => by simp only [sumN, sumN_zero (n := n)]; rfl
theorem sumN_nonneg {f : Nat → Int} : ∀ {n : Nat}, (∀ i, i < n → 0 ≤ f i) → 0 ≤ sumN f n
  | 0, _ => Int.le_refl _
  | n + 1, h => by
    have := sumN_nonneg (n := n) fun i hi => h i (by omega)
    have := h n (by omega)
    simp only [sumN]; omega
theorem sumN_le {f : Nat → Int} {m : Int} : ∀ {n : Nat}, (∀ i, i < n → f i ≤ m) → sumN f n ≤ n * m
  | 0, _ => by simp [sumN]
  | n + 1, h => by
    have h1 := sumN_le (n := n) fun i hi => h i (by omega)
    have h2 := h n (by omega)
    have h3 : ((n + 1 : Nat) : Int) * m = n * m + m := by rw [Int.natCast_add, Int.add_mul]; simp
    simp only [sumN]; omega
theorem sumN_split {f : Nat → Int} {a : Nat} : ∀ {n : Nat}, sumN f (a + n) = sumN f a + sumN (fun i => f (a + i)) n
  | 0 => by simp [sumN]
  | n + 1 => by rw [← Nat.add_assoc, sumN, sumN_split (n := n), sumN]; omega
theorem sumN_const {c : Int} : ∀ {n : Nat}, sumN (fun _ => c) n = n * c
  | 0 => by simp [sumN]
  | n + 1 => by
    have h3 : ((n + 1 : Nat) : Int) * c = n * c + c := by rw [Int.natCast_add, Int.add_mul]; simp
    simp only [sumN, sumN_const (n := n)]; omega
theorem sumL_append {α : Type} {f : α → Int} : ∀ {a b : List α}, sumL f (a ++ b) = sumL f a + sumL f b
  | [], b => by simp [sumL]
  | x :: a, b => by simp only [List.cons_append, sumL, sumL_append (a := a)]; omega
theorem sumL_nonneg {α : Type} {f : α → Int} : ∀ {l : List α}, (∀ x ∈ l, 0 ≤ f x) → 0 ≤ sumL f l
  | [], _ => Int.le_refl _
  | x :: l, h => by
    have := sumL_nonneg (l := l) fun y hy => h y (by simp [hy])
    have := h x (by simp)
    simp only [sumL]; omega
theorem sumL_map {α β : Type} {f : β → Int} {g : α → β} : ∀ {l : List α}, sumL f (l.map g) = sumL (fun x => f (g x)) l
  | [] => rfl
  | x :: l => by simp only [List.map_cons, sumL, sumL_map (l := l)]
theorem sumL_flatMap {α β : Type} {f : β → Int} {g : α → List β} : ∀ {l : List α}, sumL f (l.flatMap g) = sumL (fun x => sumL f (g x)) l
  | [] => rfl
  | x :: l => by simp only [List.flatMap_cons, sumL_append, sumL, sumL_flatMap (l := l)]
theorem sumL_congr {α : Type} {f g : α → Int} : ∀ {l : List α}, (∀ x ∈ l, f x = g x) → sumL f l = sumL g l
  | [], _ => rfl
  | x :: l, h => by rw [sumL, sumL, h x (by simp), sumL_congr fun y hy => h y (by simp [hy])]
theorem sumL_mul {α : Type} {f : α → Int} {c : Int} : ∀ {l : List α}, sumL (fun x => c * f x) l = c * sumL f l
  | [] => by simp [sumL]
  | x :: l => by simp only [sumL, sumL_mul (l := l), Int.mul_add]
/-- Of a function that is constant on runs, the sum over an interval is the sum over the runs, each with its length. -/
theorem sum_runs {V : Type} {e : V} {w : V → Int} (he : w e = 0) : ∀ {l : Runs V} {N : Nat}, Canon e l → (∀ r ∈ l, 0 ≤ r.1 ∧ r.2.1 ≤ N) → sumL (fun r => (r.2.1 - r.1) * w r.2.2) l = sumN (fun i => w (rval e l (i : Int))) N
  | [], N, _, _ => by
    simp only [sumL, rval, he]; exact sumN_zero.symm
  | (a, b, v) :: t, N, h, hb => by
    obtain ⟨h1, h2, h3, h4⟩ := h
    have hab := hb (a, b, v) (by simp)
    simp only at hab
    have ih := sum_runs (w := w) he h4 fun r hr => hb r (by simp [hr])
    simp only [sumL]
    rw [ih]
    obtain ⟨a', rfl⟩ : ∃ n : Nat, a = n := ⟨a.toNat, by omega⟩
    obtain ⟨b', rfl⟩ : ∃ n : Nat, b = n := ⟨b.toNat, by omega⟩
    have e1 : N = a' + ((b' - a') + (N - b')) := by omega
    rw [e1, sumN_split, sumN_split, sumN_split, sumN_split]
    have q1 : sumN (fun i => w (rval e ((↑a', ↑b', v) :: t) (i : Int))) a' = 0 := by
      rw [← sumN_zero (n := a')]
      refine sumN_congr fun i hi => ?_
      rw [canon_lt ⟨h1, h2, h3, h4⟩ (by omega), he]
    have q2 : sumN (fun i => w (rval e t (i : Int))) a' = 0 := by
      rw [← sumN_zero (n := a')]
      refine sumN_congr fun i hi => ?_
      rw [canon_ge h4 h3 _ (by omega), he]
    have q3 : sumN (fun i => w (rval e t ((a' + i : Nat) : Int))) (b' - a') = 0 := by
      rw [← sumN_zero (n := b' - a')]
      refine sumN_congr fun i hi => ?_
      rw [canon_ge h4 h3 _ (by omega), he]
    have q4 : sumN (fun i => w (rval e ((↑a', ↑b', v) :: t) ((a' + i : Nat) : Int))) (b' - a') = ((b' : Int) - a') * w v := by
      have : ((b' : Int) - a') = ((b' - a' : Nat) : Int) := by omega
      rw [this, ← sumN_const]
      refine sumN_congr fun i hi => ?_
      simp only [rval]
      rw [if_pos (by omega)]
    have q5 : sumN (fun i => w (rval e ((↑a', ↑b', v) :: t) ((a' + (b' - a' + i) : Nat) : Int))) (N - b') = sumN (fun i => w (rval e t ((a' + (b' - a' + i) : Nat) : Int))) (N - b') := by
      refine sumN_congr fun i hi => ?_
      simp only [rval]
      rw [if_neg (by omega)]
    rw [q1, q2, q3, q4, q5]; omega
end Go.Gb

/- General part of the proofs: short forms of the steps. -/
namespace Go.Gb
abbrev IsI (x : Int) : Pred := IsV x
abbrev IsL {α : Type} (x : List α) : Pred := IsV (x.length : Int)
/-- what holds of the slots -/
def Al : List (Nat × Pred) → Act → K → Prop
  | [], _, _ => True
  | (t, R) :: l, a, k => R (a.get t) k ∧ Al l a k
section
variable {P : Program} {a a0 a' : Act} {k k0 k' kk : K} {R : Pred} {o : Oper} {es : List Ent} {F : FP} {n : Nat} {Q : Exit → Act → World → Prop} {A : Array Oper} {m : Nat} {ops : List Oper}
theorem gS {id : Nat} (m : Nat) (es : List Ent) (hn : a0.tmps.size = n) (hchk : chkS n m A.toList es = true)
    (hst : Steps P es a0 k0 (A.toList.take m) es) (hQ : LetsOut Q)
    (hpost : ∀ a k, Post A.toList es m a0 k0 a k → wpOps P A Q (List.range' m (A.size - m)) a k.w) : (Code.region id A false).wp P Q a0 k0.w :=
  regionS es hn hchk hst hQ hpost
theorem cutS {x y : Code} (T : Act → K → Prop)
    (h1 : ∀ Q' : Exit → Act → World → Prop, LetsOut Q' → (∀ a' k', T a' k' → Q' .normal a' k'.w) → x.wp P Q' a k.w)
    (h2 : ∀ a' k', T a' k' → y.wp P Q a' k'.w) : (Code.seq x y).wp P Q a k.w :=
  wp_seq (h1 _ trivial h2)
theorem cutL {x y : Code} (F : FP) (kk : K) (n : Nat) (l : List (Nat × Pred))
    (h1 : ∀ Q' : Exit → Act → World → Prop, LetsOut Q' → (∀ a' k', Bs F kk n a' k' ∧ Al l a' k' → Q' .normal a' k'.w) → x.wp P Q' a k.w)
    (h2 : ∀ a' k', Bs F kk n a' k' ∧ Al l a' k' → y.wp P Q a' k'.w) : (Code.seq x y).wp P Q a k.w :=
  wp_seq (h1 _ trivial h2)
/-- A region, and what is then used of it. -/
theorem stepL {id : Nat} {y : Code} (m : Nat) (es : List Ent) (hm : A.size = m) (H : Bs F kk n a k) (hchk : chkS n m A.toList es = true)
    (hst : Steps P es a k (A.toList.take m) es) (l : List (Nat × Pred)) (hl : ∀ b q, Post A.toList es m a k b q → Al l b q)
    (h2 : ∀ a' k', Bs F kk n a' k' ∧ Al l a' k' → y.wp P Q a' k'.w) : (Code.seq (Code.region id A false) y).wp P Q a k.w := by
  refine wp_seq ?_
  refine regionS es H.s hchk hst trivial fun b q p => ?_
  rw [hm, Nat.sub_self]
  exact tail_done (k := q) (h2 _ _ ⟨Bs.post H p, hl _ _ p⟩)
theorem Post.ke {b : Act} {q : K} [Mono R] (p : Post ops es m a k b q) (t : Nat) (ht : allI (fun i o => i ≥ m || o.dst != some t) 0 ops = true) (h : R (a.get t) k) : R (b.get t) q := keep p t ht h
theorem Post.ou {b : Act} {q : K} {nd : List (Nat × Option Nat)} (p : Post ops es m a k b q) (i d : Nat) (h : (Nat.blt i m, (nth ops i).bind (·.dst), nth es i) = (true, some d, some ⟨some R, nd⟩)) : R (b.get d) q :=
  out p i d nd (Prod.mk.inj h).1 (Prod.mk.inj (Prod.mk.inj h).2).1 (Prod.mk.inj (Prod.mk.inj h).2).2
theorem o1 (nd : List (Nat × Option Nat)) [Mono R] (hg : o.guard = none) (h : ∀ a k, Grow k0 k → Known es a0 a k nd → Does P o a k R) : Ob P es a0 k0 o ⟨some R, nd⟩ := ob1 hg h
theorem mu {t : Nat} [Mono R] (h : (o.guard, o.op) = (none, .move (.tmp t))) (i : R (a0.get t) k0) : Ob P es a0 k0 o ⟨some R, [(t, none)]⟩ :=
  ob1 (Prod.mk.inj h).1 fun _ _ g n => ok_move (Prod.mk.inj h).2 (up i g n.1)
theorem cp {t : Nat} (j : Nat) {nd : List (Nat × Option Nat)} [Mono R] (h : (o.guard, o.op) = (none, .assign (.tmp t))) (hj : nth es j = some ⟨some R, nd⟩) : Ob P es a0 k0 o ⟨some R, [(t, some j)]⟩ :=
  ob1 (Prod.mk.inj h).1 fun a k _ n => ok_assign (Prod.mk.inj h).2 (show R (a.get t) k by have h1 := n.1; rw [hj] at h1; exact h1)
theorem cm {t : Nat} (j : Nat) {nd : List (Nat × Option Nat)} [Mono R] (h : (o.guard, o.op) = (none, .move (.tmp t))) (hj : nth es j = some ⟨some R, nd⟩) : Ob P es a0 k0 o ⟨some R, [(t, some j)]⟩ :=
  ob1 (Prod.mk.inj h).1 fun a k _ n => ok_move (Prod.mk.inj h).2 (show R (a.get t) k by have h1 := n.1; rw [hj] at h1; exact h1)
theorem aI {x : Int} {y : Operand} (h : (o.guard, o.op) = (none, .assign y)) (hy : y = .const (.int .i64 x)) : Ob P es a0 k0 o ⟨some (IsI x), []⟩ := by
  subst hy; exact ob1 (Prod.mk.inj h).1 fun _ _ _ _ => ok_assign (Prod.mk.inj h).2 (isV_int.2 rfl)
theorem cI {x : Int} {v : Value} (h : v = .int .i64 x) : IsV x v k := isV_int.2 h
theorem cB {p : Prop} {x : Bool} {v : Value} (h : v = .bool x) (_ : p) : IsV x v k := isV_bool.2 h
end
section
variable {P : Program} {o : Oper} {a0 : Act} {k0 : K} {R : Pred} {es : List Ent} {nj : List (Nat × Option Nat)} {j : Nat} {m : Bool}
theorem gT (nd : List (Nat × Option Nat)) [Mono R] (hg : o.guard = some (j, true)) (hj : nth es j = some ⟨some (IsV m), nj⟩) (h : m = true → ∀ a k, Grow k0 k → Known es a0 a k nd → Does P o a k R) : Ob P es a0 k0 o ⟨some (Gd (m = true) R), nd⟩ := gdT hg hj h
theorem gF (nd : List (Nat × Option Nat)) [Mono R] (hg : o.guard = some (j, false)) (hj : nth es j = some ⟨some (IsV m), nj⟩) (h : m = false → ∀ a k, Grow k0 k → Known es a0 a k nd → Does P o a k R) : Ob P es a0 k0 o ⟨some (Gd (m = false) R), nd⟩ := gdF hg hj h
theorem mT {t : Nat} [Mono R] (h : (o.guard, o.op) = (some (j, true), .move (.tmp t))) (hj : nth es j = some ⟨some (IsV m), nj⟩) (i : R (a0.get t) k0) : Ob P es a0 k0 o ⟨some (Gd (m = true) R), [(t, none)]⟩ :=
  gdT (Prod.mk.inj h).1 hj fun _ _ _ g n => ok_move (Prod.mk.inj h).2 (up i g n.1)
theorem mF {t : Nat} [Mono R] (h : (o.guard, o.op) = (some (j, false), .move (.tmp t))) (hj : nth es j = some ⟨some (IsV m), nj⟩) (i : R (a0.get t) k0) : Ob P es a0 k0 o ⟨some (Gd (m = false) R), [(t, none)]⟩ :=
  gdF (Prod.mk.inj h).1 hj fun _ _ _ g n => ok_move (Prod.mk.inj h).2 (up i g n.1)
end
end Go.Gb

/- General part of the proofs: pointers to boxes that are handed to calls, and methods that hold one. -/
namespace Go.Gb
section
variable {P : Program} {o : Oper} {a a' : Act} {k k' k0 : K} {R : Pred} {α : Type} [Enc α] {F : FP}
/-- what a call has left in a box -/
def IsTurn (b : Nat) (x : α) : Pred := fun _ k => Gb.Box b x k
theorem ok_moveB {x : Operand} {b : Nat} (ho : o.op = .move x) (h : a.eval x = .pointer (some ⟨b, 0, none⟩)) : Does P o a k (IsAdr b 0) := ok_move ho h
theorem ok_nilCheckV {x : Operand} (ho : o.op = .nilCheck x) (hv : ∃ ad, a.eval x = .pointer (some ad)) (h : R (a.eval x) k) : Does P o a k R := by
  obtain ⟨ad, e⟩ := hv
  exact does_pure (v := a.eval x) (by simp [execOp, ho, e]) h
theorem ok_nilCheckA {x : Operand} {b m : Nat} (ho : o.op = .nilCheck x) (h : IsAdr b m (a.eval x) k) : Does P o a k (IsAdr b m) := ok_nilCheckV ho ⟨_, h⟩ h
theorem ok_nilCheckR {x : Operand} {y : α} (ho : o.op = .nilCheck x) (h : IsRef y (a.eval x) k) : Does P o a k (IsRef y) := ok_nilCheckV ho (let ⟨ad, e, _⟩ := h; ⟨ad, e⟩) h
theorem IsAdr.ptrB {b : Nat} {x : α} {v : Value} (h : IsAdr b 0 v k) (c : Gb.Box b x k) : IsPtr x v k := ⟨_, h, c.at⟩
/-- a method together with the box it is about -/
def IsMV (f : FuncId) (b : Nat) : Pred := fun v _ => v = .func (.func f) #[.pointer (some ⟨b, 0, none⟩)] #[]
instance (f : FuncId) (b : Nat) : Pers (IsMV f b) := ⟨fun _ h => h⟩
theorem ok_makeMV {f : FuncId} {b : Nat} {x : Operand} (ho : o.op = .makeFunc (.func f) #[x] #[]) (h : a.eval x = .pointer (some ⟨b, 0, none⟩)) : Does P o a k (IsMV f b) :=
  does_pure (v := .func (.func f) #[a.eval x] #[]) (by simp [execOp, ho, Instr.makeFunc]) (by rw [h]; rfl)
theorem tail_callMV {A : Array Oper} {i d b : Nat} {rest : List Nat} {Q : Exit → Act → World → Prop} {f : FuncId} {x : Operand} {as_ : List Operand} {ts : Array TypeId}
    (ho : nth A.toList i = some o) (hgd : o.guard = none) (hop : o.op = .call { callee := .value x, args := as_.toArray, argTypes := ts }) (hd : o.dst = some d) (hda : d < a.tmps.size)
    (hx : IsMV f b (a.eval x) k) (hc : ∀ args w, (callFunc f args).run P w = .ok (.enter f args) w) (_hQ : LetsOut Q)
    (hcall : Calls P f (.pointer (some ⟨b, 0, none⟩) :: as_.map a.eval).toArray k.w (RetC F k R))
    (h : ∀ (a' : Act) (k' : K), a'.tmps.size = a.tmps.size → a'.defers = a.defers → (∀ t, t ≠ d → a'.get t = a.get t) → Chg F k k' → R (a'.get d) k' → wpOps P A Q rest a' k'.w) : wpOps P A Q (i :: rest) a k.w := by
  rw [wpOps_cons]
  rw [nth_toList] at ho
  unfold wpOp
  simp only [ho, Region.wanted, hgd, if_true]
  refine .inl ?_
  unfold Oper.wp
  have hr : (execOp a.eval o).run P k.w = .ok (.enter f (.pointer (some ⟨b, 0, none⟩) :: as_.map a.eval).toArray) k.w := by
    simp [execOp, hop, resolve, invoke, Deferred.ofValue, show a.eval x = _ from hx, hc]
  rw [hr]
  refine Calls.mono hcall fun e w' he => ?_
  cases e with
  | returned v =>
    obtain ⟨k', rfl, hg, hv⟩ := he
    simp only [hd]
    have hgd' : (a.put (some d) v).get d = v := by rw [get_put _ _ _ _ hda]; simp
    refine h _ k' (put_size _ _ _) (put_defers' _ _ _) ?_ hg (by rw [hgd']; exact hv)
    intro t ht
    rw [get_put _ _ _ _ hda, if_neg (Ne.symm ht)]
  | panicked c => exact he.elim
  | outgrown => exact he.elim
theorem retT {fn : Func} {b : Nat} {x : α} (hr : fn.results = #[]) (hd : a.defers = []) (hg : Chg F k k') (h : Gb.Box b x k') : bodyPost P fn (RetC F k (IsTurn b x)) .ret a k'.w :=
  ⟨hd, .tuple #[], by simp [results, hr], k', rfl, hg, h⟩
end
end Go.Gb

