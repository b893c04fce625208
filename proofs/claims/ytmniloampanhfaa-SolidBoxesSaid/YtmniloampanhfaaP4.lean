/- Regions: combining two of them; Of, Right, Union, Common, Minus. -/
import Derived.Test.YtmniloampanhfaaP3
namespace Go.Proofs.Ytmniloampanhfaa
open Go.Gb
set_option linter.unusedVariables false
set_option linter.unusedSimpArgs false
set_option linter.unusedSectionVars false
set_option linter.unusedVariables false
set_option linter.unusedSimpArgs false

theorem canon_starts {V : Type} {e : V} : ∀ {t : Runs V} {b : Int} {v : V}, Canon e t → Nxt b v t → ∀ r ∈ t, b ≤ r.1
  | [], _, _, _, _, r, hr => by simp at hr
  | (c, d, w) :: t, b, v, hc, hn, r, hr => by
    have hbc : b ≤ c := by rcases hn with h | h <;> omega
    rcases List.mem_cons.1 hr with rfl | hr
    · exact hbc
    · have := canon_starts hc.2.2.2 hc.2.2.1 r hr
      have := hc.1
      omega
theorem canon_pairwise {V : Type} {e : V} : ∀ {l : Runs V}, Canon e l → l.Pairwise fun a b => a.2.1 ≤ b.1
  | [], _ => .nil
  | (a, b, v) :: t, h => List.pairwise_cons.2 ⟨fun r hr => canon_starts h.2.2.2 h.2.2.1 r hr, canon_pairwise h.2.2.2⟩
theorem spans_asc {l : List RegionSpan} (h : Canon false (spanRuns l)) {i j : Nat} (hij : i < j) (hj : j < l.length) : (l[i]'(by omega)).to_ ≤ l[j].from_ := by
  have := List.pairwise_iff_getElem.1 (canon_pairwise h) i j (by simp [spanRuns]; omega) (by simpa [spanRuns] using hj) hij
  simpa [spanRuns] using this
theorem span_pos {l : List RegionSpan} (h : Canon false (spanRuns l)) {s : RegionSpan} (hs : s ∈ l) : s.from_ < s.to_ :=
  (canon_mem h (show (s.from_, s.to_, true) ∈ spanRuns l from List.mem_map.2 ⟨s, hs, rfl⟩)).1
theorem half_nat {i j : Nat} (hi : i < 1000000) (hj : j < 1000000) : halfI ((i : Int) + (j : Int)) = (((i + j) / 2 : Nat) : Int) := by
  rw [halfI_eq (by omega) (by omega)]; omega

theorem search_span {l : List RegionSpan} {y : Int} (h : Canon false (spanRuns l)) (hl : l.length ≤ 100000) :
    ∃ (n : Nat) (b : Bool), n ≤ l.length ∧ slices_BinarySearchFunc_span_int l y region_inside_1 = some ((n : Int), b) ∧ ∀ i (hi : i < l.length), l[i].to_ ≤ y ↔ i < n := by
  have hcmp : ∀ s : RegionSpan, region_inside_1 s y = some (if s.to_ ≤ y then -1 else 1) := fun s => by
    unfold region_inside_1
    by_cases c : s.to_ ≤ y <;> simp [c]
  obtain ⟨n, hn, h1, h2⟩ := bsearch (l := l) (p := fun s => decide (s.to_ ≤ y)) (body := slices_BinarySearchFunc_span_int_L0 l y region_inside_1) (k := 0) (by omega)
    (fun i j hij hj hp => by
      have := spans_asc h hij hj
      have := span_pos h (List.getElem_mem hj)
      simp only [decide_eq_true_eq] at hp ⊢; omega)
    (fun i j hij hj => by
      unfold slices_BinarySearchFunc_span_int_L0
      dsimp only
      rw [if_pos (by simpa using hij), addI_some (by unfold inI; omega), Option.bind_some]
      have hh : ∀ n, (IntKind.i64.wrap (IK.shr (IK.mk (IntKind.u64.wrap n) : IK .u64) 1).n) = halfI n := fun _ => rfl
      simp only [hh, half_nat (show i < 1000000 by omega) (show j < 1000000 by omega), getI_nat (show (i + j) / 2 < l.length by omega), Option.bind_some, hcmp]
      by_cases hc : (l[(i + j) / 2]'(by omega)).to_ ≤ y
      · rw [if_pos hc, if_pos (by simp), addI_one (by omega), Option.bind_some, Option.bind_some, if_pos (by simpa using hc)]
      · rw [if_neg hc, if_neg (by simp), Option.bind_some, if_neg (by simpa using hc)])
    (fun i => by
      unfold slices_BinarySearchFunc_span_int_L0
      dsimp only
      rw [if_neg (by simp)]) (fuel := l.length + 1) (by omega)
  unfold slices_BinarySearchFunc_span_int
  rw [h1, Option.bind_some]
  dsimp only
  have h2' : ∀ i (hi : i < l.length), l[i].to_ ≤ y ↔ i < n := fun i hi => by rw [← h2 i hi]; simp
  rcases Nat.lt_or_ge n l.length with h3 | h3
  · rw [if_pos (by simpa using h3), getI_nat h3, Option.bind_some, hcmp, Option.bind_some, Option.bind_some]
    exact ⟨n, _, hn, rfl, h2'⟩
  · rw [if_neg (by simp; omega), Option.bind_some]
    exact ⟨n, _, hn, rfl, h2'⟩
theorem inside_spec {l : List RegionSpan} (h : Canon false (spanRuns l)) (hl : l.length ≤ 100000) (y : Int) : region_inside l y = some (rval false (spanRuns l) y) := by
  obtain ⟨n, b, hn, h1, h2⟩ := search_span (y := y) h hl
  unfold region_inside
  rw [h1, Option.bind_some]
  dsimp only
  have hmem : ∀ i (hi : i < l.length), (l[i].from_, l[i].to_, true) ∈ spanRuns l := fun i hi => List.mem_map.2 ⟨_, List.getElem_mem hi, rfl⟩
  rcases Nat.lt_or_ge n l.length with h3 | h3
  · rw [if_pos (by simpa using h3), getI_nat h3, Option.bind_some, Option.bind_some]
    congr 1
    have h4 : ¬ l[n].to_ ≤ y := fun h => absurd ((h2 n h3).1 h) (Nat.lt_irrefl _)
    by_cases h5 : l[n].from_ ≤ y
    · rw [rval_of_mem h (hmem n h3) h5 (by omega)]; simpa using h5
    · rw [Bool.eq_iff_iff]
      constructor
      · intro h6; simp at h6; omega
      · intro h6
        obtain ⟨a, b, h7, h8, h9⟩ := rval_true_mem h6
        simp only [spanRuns, List.mem_map, Prod.mk.injEq] at h7
        obtain ⟨s, hs, rfl, rfl, _⟩ := h7
        obtain ⟨i, hi, rfl⟩ := List.getElem_of_mem hs
        have : ¬ i < n := fun h => absurd ((h2 i hi).2 h) (by omega)
        rcases Nat.lt_or_ge n i with h' | h'
        · have := spans_asc h h' hi
          have := span_pos h (List.getElem_mem h3)
          omega
        · have : i = n := by omega
          subst this; exact absurd h8 h5
  · rw [if_neg (by simp; omega), Option.bind_some]
    congr 1
    symm
    rw [Bool.eq_false_iff]
    intro h6
    obtain ⟨a, b, h7, h8, h9⟩ := rval_true_mem h6
    simp only [spanRuns, List.mem_map, Prod.mk.injEq] at h7
    obtain ⟨s, hs, rfl, rfl, _⟩ := h7
    obtain ⟨i, hi, rfl⟩ := List.getElem_of_mem hs
    have := (h2 i hi).2 (by omega)
    omega

theorem search_strip {l : List RegionStrip} {x : Int} (h : Gapless l) (hl : l.length ≤ 100000) :
    ∃ (n : Nat) (b : Bool), n ≤ l.length ∧ slices_BinarySearchFunc_strip_int l x region_at_1 = some ((n : Int), b) ∧ ∀ i (hi : i < l.length), l[i].x1 ≤ x ↔ i < n := by
  have hcmp : ∀ s : RegionStrip, region_at_1 s x = some (if s.x1 ≤ x then -1 else 1) := fun s => by
    unfold region_at_1
    by_cases c : s.x1 ≤ x <;> simp [c]
  have hmono : ∀ {i j : Nat} (hij : i < j) (hj : j < l.length), (l[i]'(by omega)).x1 ≤ l[j].x1 := by
    intro i j hij hj
    have h1 := h.next i (by omega)
    have h2 := gapless_lo h (show i + 1 < l.length by omega) j hj hij
    have h3 := h.pos l[j] (List.getElem_mem hj)
    omega
  obtain ⟨n, hn, h1, h2⟩ := bsearch (l := l) (p := fun s => decide (s.x1 ≤ x)) (body := slices_BinarySearchFunc_strip_int_L0 l x region_at_1) (k := 0) (by omega)
    (fun i j hij hj hp => by
      have := hmono hij hj
      simp only [decide_eq_true_eq] at hp ⊢; omega)
    (fun i j hij hj => by
      unfold slices_BinarySearchFunc_strip_int_L0
      dsimp only
      rw [if_pos (by simpa using hij), addI_some (by unfold inI; omega), Option.bind_some]
      have hh : ∀ n, (IntKind.i64.wrap (IK.shr (IK.mk (IntKind.u64.wrap n) : IK .u64) 1).n) = halfI n := fun _ => rfl
      simp only [hh, half_nat (show i < 1000000 by omega) (show j < 1000000 by omega), getI_nat (show (i + j) / 2 < l.length by omega), Option.bind_some, hcmp]
      by_cases hc : (l[(i + j) / 2]'(by omega)).x1 ≤ x
      · rw [if_pos hc, if_pos (by simp), addI_one (by omega), Option.bind_some, Option.bind_some, if_pos (by simpa using hc)]
      · rw [if_neg hc, if_neg (by simp), Option.bind_some, if_neg (by simpa using hc)])
    (fun i => by
      unfold slices_BinarySearchFunc_strip_int_L0
      dsimp only
      rw [if_neg (by simp)]) (fuel := l.length + 1) (by omega)
  unfold slices_BinarySearchFunc_strip_int
  rw [h1, Option.bind_some]
  dsimp only
  have h2' : ∀ i (hi : i < l.length), l[i].x1 ≤ x ↔ i < n := fun i hi => by rw [← h2 i hi]; simp
  rcases Nat.lt_or_ge n l.length with h3 | h3
  · rw [if_pos (by simpa using h3), getI_nat h3, Option.bind_some, hcmp, Option.bind_some, Option.bind_some]
    exact ⟨n, _, hn, rfl, h2'⟩
  · rw [if_neg (by simp; omega), Option.bind_some]
    exact ⟨n, _, hn, rfl, h2'⟩
theorem at_spec {l : List RegionStrip} (h : Gapless l) (hl : l.length ≤ 100000) (x : Int) : ∃ c, region_at l x = some c ∧ spanRuns c = rval [] (stripRuns l) x ∧ (c = [] ∨ ∃ s ∈ l, c = s.column) := by
  obtain ⟨n, b, hn, h1, h2⟩ := search_strip (x := x) h hl
  unfold region_at
  rw [h1, Option.bind_some]
  dsimp only
  have hout : (∀ i (hi : i < l.length), ¬ (l[i].x0 ≤ x ∧ x < l[i].x1)) → rval [] (stripRuns l) x = [] := by
    intro hno
    rcases rval_mem (e := []) (l := stripRuns l) (x := x) with h7 | ⟨a, b, h7, h8⟩
    · exact h7
    · simp only [stripRuns, List.mem_map, Prod.mk.injEq] at h7
      obtain ⟨s, hs', e1, e2, _⟩ := h7
      obtain ⟨j, hj, rfl⟩ := List.getElem_of_mem hs'
      exact absurd ⟨by omega, by omega⟩ (hno j hj)
  rcases Nat.lt_or_ge n l.length with h3 | h3
  · rw [if_pos (by simpa using h3), getI_nat h3, Option.bind_some, Option.bind_some]
    have h4 : ¬ l[n].x1 ≤ x := fun h => absurd ((h2 n h3).1 h) (Nat.lt_irrefl _)
    by_cases h5 : l[n].x0 ≤ x
    · rw [if_pos (by simpa using h5), Option.bind_some]
      exact ⟨_, rfl, (rval_strips h h3 h5 (by omega)).symm, .inr ⟨_, List.getElem_mem h3, rfl⟩⟩
    · rw [if_neg (by simpa using h5)]
      refine ⟨[], rfl, (hout fun i hi hh => ?_).symm, .inl rfl⟩
      have : ¬ i < n := fun h => absurd ((h2 i hi).2 h) (by omega)
      have := gapless_lo h h3 i hi (by omega)
      omega
  · rw [if_neg (by simp; omega), Option.bind_some, if_neg (by simp)]
    refine ⟨[], rfl, (hout fun i hi hh => ?_).symm, .inl rfl⟩
    have := (h2 i hi).2 (by omega)
    omega

theorem rval_between {V : Type} {e : V} {u z : Int} : ∀ {c : Runs V}, (∀ r ∈ c, (r.1 ≤ u ∨ z < r.1) ∧ (r.2.1 ≤ u ∨ z < r.2.1)) → u ≤ z → rval e c u = rval e c z
  | [], _, _ => rfl
  | (a, b, v) :: t, h, huz => by
    have h1 := h (a, b, v) (by simp)
    simp only at h1
    simp only [rval]
    rw [rval_between (c := t) (fun r hr => h r (List.mem_cons_of_mem _ hr)) huz]
    by_cases c : a ≤ u ∧ u < b
    · rw [if_pos c, if_pos (by omega)]
    · rw [if_neg c, if_neg (by omega)]

/-! Merging two columns -/
theorem concat_span {ls : List (List RegionSpan)} (hl : ls.flatten.length ≤ 1000000) (hn : ls.length ≤ 1000000) : slices_Concat_span ls = some ls.flatten := by
  have hle : ∀ i (hi : i < ls.length), (ls.take i).flatten.length + ls[i].length ≤ ls.flatten.length := by
    intro i hi
    have e : ls.flatten = (ls.take i).flatten ++ (ls[i] ++ (ls.drop (i + 1)).flatten) := by
      conv => lhs; rw [← List.take_append_drop i ls, List.drop_eq_getElem_cons hi]
      rw [List.flatten_append, List.flatten_cons]
    rw [e, List.length_append, List.length_append]; omega
  have htk : ∀ i (hi : i < ls.length), (ls.take (i + 1)).flatten = (ls.take i).flatten ++ ls[i] := by
    intro i hi
    rw [List.take_succ_eq_append_getElem hi, List.flatten_append, List.flatten_cons, List.flatten_nil, List.append_nil]
  unfold slices_Concat_span
  obtain ⟨h1, h2⟩ := iter_range (k := 0) (l := ls) (body := slices_Concat_span_L0 ls) (fun (s : Int) i => (s, i)) (fun s x => s + x.length) (fun i s => s = ((ls.take i).flatten.length : Int)) (by
    intro i hi s hI
    have := hle i hi
    constructor
    · unfold slices_Concat_span_L0
      dsimp only
      rw [if_pos (by simpa using hi), getI_nat hi, Option.bind_some, addI_some (by unfold inI; omega), Option.bind_some, if_neg (by simp; omega), addI_one (by omega), Option.bind_some]
    · rw [htk i hi, hI]; simp) (by
    intro s _
    unfold slices_Concat_span_L0
    dsimp only
    rw [if_neg (by simp)]) (s0 := 0) (by simp) (fuel := ls.length + 1) (by omega)
  rw [h1, Option.bind_some]
  dsimp only
  rw [List.take_length] at h2
  rw [growI_some (by omega) (by omega), Option.bind_some]
  obtain ⟨h3, h4⟩ := iter_range (k := 2) (l := ls) (body := slices_Concat_span_L1 ls) (fun (s : List RegionSpan) i => (s, i)) (fun s x => s ++ x) (fun i s => s = (ls.take i).flatten) (by
    intro i hi s hI
    have := hle i hi
    constructor
    · unfold slices_Concat_span_L1
      dsimp only
      rw [if_pos (by simpa using hi), getI_nat hi, Option.bind_some, appI_some (by rw [hI]; omega), Option.bind_some, addI_one (by omega), Option.bind_some]
    · rw [htk i hi, hI]) (by
    intro s _
    unfold slices_Concat_span_L1
    dsimp only
    rw [if_neg (by simp)]) (s0 := []) (by simp) (fuel := ls.length + 1) (by omega)
  rw [h3, Option.bind_some]
  dsimp only
  rw [h4, List.take_length]
theorem merge_cuts {l : List RegionSpan} (hl : l.length ≤ 100000) : ∃ ys xs zs, iterL (region_merge_L0 l) (l.length + 1) (([] : List Int), 0) = some (.ex 0 (ys, (l.length : Int))) ∧
    sortInts ys = some zs ∧ compactInts zs = some xs ∧ xs.Pairwise (fun a b => a < b) ∧ (∀ x, x ∈ xs ↔ ∃ s ∈ l, x = s.from_ ∨ x = s.to_) ∧ xs.length ≤ 2 * l.length := by
  obtain ⟨h1, h2⟩ := iter_range (k := 0) (l := l) (body := region_merge_L0 l) (fun (s : List Int) i => (s, i)) (fun s r => s ++ [r.from_, r.to_]) (fun i s => s.length = 2 * i) (by
    intro i hi s hI
    constructor
    · unfold region_merge_L0
      dsimp only
      rw [if_pos (by simpa using hi), getI_nat hi, Option.bind_some, appI_some (by simp; omega), Option.bind_some, addI_one (by omega), Option.bind_some]
    · simp; omega) (by
    intro s _
    unfold region_merge_L0
    dsimp only
    rw [if_neg (by simp)]) (s0 := []) (by simp) (fuel := l.length + 1) (by omega)
  rw [foldl_flatMap (fun r : RegionSpan => [r.from_, r.to_]), List.nil_append] at h1 h2
  obtain ⟨zs, h3, h4, h5⟩ := sortInts_spec (l := l.flatMap fun r => [r.from_, r.to_]) (by omega)
  have hzl := h4.length_eq
  obtain ⟨xs, h6, h7, h8, h9⟩ := compactInts_spec (l := zs) (by omega) h5
  refine ⟨_, xs, zs, h1, h3, h6, h7, fun x => ?_, by omega⟩
  rw [h8, h4.mem_iff]
  simp [List.mem_flatMap]

/-- One step of merging. -/
theorem merge_step {a b s : List RegionSpan} {ys : List Int} {keep : Bool → Bool → Option Bool} {kb : Bool → Bool → Bool} (hk : ∀ a b, keep a b = some (kb a b))
    (ha : Canon false (spanRuns a)) (hb : Canon false (spanRuns b)) (hal : a.length ≤ 100000) (hbl : b.length ≤ 100000) {i : Nat} (h1 : 1 ≤ i) (hi : i < ys.length) (hyl : ys.length ≤ 1000000) (hsl : s.length ≤ 1000000) :
    ∃ s', region_merge_L1 a b keep ys (s, (i : Int)) = some (.go (s', ((i + 1 : Nat) : Int))) ∧ s'.length ≤ s.length + 1 ∧
      spanRuns s' = pushR false (spanRuns s) (ys[i - 1]'(by omega)) ys[i] (kb (rval false (spanRuns a) (ys[i - 1]'(by omega))) (rval false (spanRuns b) (ys[i - 1]'(by omega)))) := by
  unfold region_merge_L1
  dsimp only
  rw [if_pos (by simpa using hi)]
  simp only [subI_nat (show 0 < i by omega) (by omega), Option.bind_some, getI_nat (show i - 1 < ys.length by omega), getI_nat hi, inside_spec ha hal, inside_spec hb hbl, hk]
  cases hkv : kb (rval false (spanRuns a) (ys[i - 1]'(by omega))) (rval false (spanRuns b) (ys[i - 1]'(by omega)))
  · rw [if_pos (by simp), Option.bind_some, addI_one (by omega), Option.bind_some]
    exact ⟨s, rfl, by omega, by simp [pushR]⟩
  · rw [if_neg (by simp)]
    rcases List.eq_nil_or_concat s with rfl | ⟨o, t, rfl⟩
    · rw [if_neg (by simp), Option.bind_some, if_neg (by simp), appI_some (by simp), Option.bind_some, Option.bind_some, Option.bind_some, addI_one (by omega), Option.bind_some]
      exact ⟨_, rfl, by simp, by simp [pushR, spanRuns]⟩
    · rw [List.concat_eq_append] at *
      have hol : o.length < 1000000 := by simp at hsl; omega
      rw [if_pos (by simp)]
      simp only [subI_len (l := o) (x := t) (by omega), getI_concat (l := o) (x := t) rfl, Option.bind_some]
      by_cases hm : t.to_ = ys[i - 1]'(by omega)
      · rw [if_pos (by simpa using hm), set_concat (by simp), Option.bind_some, Option.bind_some, addI_one (by omega), Option.bind_some]
        exact ⟨_, rfl, by simp, by simp [pushR, spanRuns, hm]⟩
      · rw [if_neg (by simpa using hm), appI_some (by simp; omega), Option.bind_some, Option.bind_some, Option.bind_some, addI_one (by omega), Option.bind_some]
        exact ⟨_, rfl, by simp, by simp [pushR, spanRuns, hm]⟩
theorem merge_spec {a b : List RegionSpan} {keep : Bool → Bool → Option Bool} {kb : Bool → Bool → Bool} (hk : ∀ a b, keep a b = some (kb a b)) (h0 : kb false false = false)
    (ha : Canon false (spanRuns a)) (hb : Canon false (spanRuns b)) (hal : a.length ≤ 1000) (hbl : b.length ≤ 1000) :
    ∃ c, region_merge a b keep = some c ∧ Canon false (spanRuns c) ∧ (∀ y, rval false (spanRuns c) y = kb (rval false (spanRuns a) y) (rval false (spanRuns b) y)) ∧ c.length ≤ 2 * (a.length + b.length) := by
  classical
  unfold region_merge
  rw [concat_span (by simp; omega) (by simp), Option.bind_some]
  have hfl : [a, b].flatten = a ++ b := by simp
  rw [hfl]
  obtain ⟨zs, ys, ws, h1, h2, h3, h4, h5, h6⟩ := merge_cuts (l := a ++ b) (by simp; omega)
  rw [h1, Option.bind_some]
  dsimp only
  simp only [h2, h3, Option.bind_some]
  simp only [List.length_append] at h6
  have hyl : ys.length ≤ 4000 := by omega
  -- nothing begins or ends between two neighbours
  have hbet : ∀ (c : List RegionSpan), (∀ s ∈ c, s ∈ a ++ b) → ∀ i (hi : i + 1 < ys.length) z, ys[i] ≤ z → z < ys[i + 1] → rval false (spanRuns c) ys[i] = rval false (spanRuns c) z := by
    intro c hc i hi z hz1 hz2
    refine rval_between (fun r hr => ?_) hz1
    simp only [spanRuns, List.mem_map] at hr
    obtain ⟨s, hs, rfl⟩ := hr
    have g1 := asc_gap h4 hi ((h5 s.from_).2 ⟨s, hc s hs, .inl rfl⟩)
    have g2 := asc_gap h4 hi ((h5 s.to_).2 ⟨s, hc s hs, .inr rfl⟩)
    dsimp only
    omega
  have hout : ∀ (c : List RegionSpan), (∀ s ∈ c, s ∈ a ++ b) → ∀ z, (¬ ∃ i, ∃ h : i + 1 < ys.length, ys[i] ≤ z ∧ z < ys[i + 1]) → rval false (spanRuns c) z = false := by
    intro c hc z hz
    rw [Bool.eq_false_iff]
    intro h
    obtain ⟨f, t, h7, h8, h9⟩ := rval_true_mem h
    simp only [spanRuns, List.mem_map, Prod.mk.injEq] at h7
    obtain ⟨s, hs, rfl, rfl, _⟩ := h7
    exact hz (asc_between h4 ((h5 s.from_).2 ⟨s, hc s hs, .inl rfl⟩) ((h5 s.to_).2 ⟨s, hc s hs, .inr rfl⟩) h8 h9)
  have hma : ∀ s ∈ a, s ∈ a ++ b := fun s hs => List.mem_append_left _ hs
  have hmb : ∀ s ∈ b, s ∈ a ++ b := fun s hs => List.mem_append_right _ hs
  rcases Nat.eq_zero_or_pos ys.length with hy0 | hy0
  · obtain rfl : ys = [] := List.length_eq_zero_iff.1 hy0
    refine ⟨[], rfl, trivial, fun y => ?_, by simp⟩
    rw [hout a hma y (by simp), hout b hmb y (by simp), h0]; rfl
  · obtain ⟨c, h7, h8, h9, h10, h11⟩ := iter_from (k := 2) (body := region_merge_L1 a b keep ys) (fun (s : List RegionSpan) i => (s, i)) 1 ys.length hy0
      (fun i s => s.length < i ∧ Canon false (spanRuns s) ∧ (∀ (hi : i - 1 < ys.length), EndsBy (spanRuns s) ys[i - 1]) ∧
        ∀ z, rval false (spanRuns s) z = if (∃ j, ∃ h : j + 1 < ys.length, j + 1 < i ∧ ys[j] ≤ z ∧ z < ys[j + 1]) then kb (rval false (spanRuns a) z) (rval false (spanRuns b) z) else false) (by
      intro i h1i hi s ⟨hI1, hI2, hI3, hI4⟩
      obtain ⟨s', k1, k2, k3⟩ := merge_step (s := s) (ys := ys) hk ha hb (by omega) (by omega) h1i hi (by omega) (by omega)
      have hlt : (ys[i - 1]'(by omega)) < ys[i] := (List.pairwise_iff_getElem.1 h4) (i - 1) i (by omega) hi (by omega)
      obtain ⟨q1, q2, q3⟩ := pushR_spec (e := false) (kb (rval false (spanRuns a) (ys[i - 1]'(by omega))) (rval false (spanRuns b) (ys[i - 1]'(by omega)))) hI2 (hI3 (by omega)) hlt
      rw [← k3] at q1 q2 q3
      have ei : ∀ h : i - 1 + 1 < ys.length, ys[i - 1 + 1] = ys[i] := fun h => by congr 1; omega
      refine ⟨s', k1, by omega, q1, fun _ => q2, fun z => ?_⟩
      rw [q3, hI4]
      by_cases c1 : (ys[i - 1]'(by omega)) ≤ z ∧ z < ys[i]
      · rw [if_pos c1, if_pos ⟨i - 1, by omega, by omega, c1.1, by rw [ei]; exact c1.2⟩]
        rw [hbet a hma (i - 1) (by omega) z c1.1 (by rw [ei]; exact c1.2), hbet b hmb (i - 1) (by omega) z c1.1 (by rw [ei]; exact c1.2)]
      · rw [if_neg c1]
        by_cases c2 : ∃ j, ∃ h : j + 1 < ys.length, j + 1 < i ∧ ys[j] ≤ z ∧ z < ys[j + 1]
        · rw [if_pos c2, if_pos]
          obtain ⟨j, h, q, r⟩ := c2
          exact ⟨j, h, by omega, r⟩
        · rw [if_neg c2, if_neg]
          rintro ⟨j, h, q, r1, r2⟩
          rcases Nat.lt_or_ge (j + 1) i with h' | h'
          · exact c2 ⟨j, h, h', r1, r2⟩
          · have : j = i - 1 := by omega
            subst this
            exact c1 ⟨r1, by rw [← ei h]; exact r2⟩) (by
      intro s _
      unfold region_merge_L1
      dsimp only
      rw [if_neg (by simp)]) (s0 := []) ⟨by simp, trivial, fun _ r hr => by simp [spanRuns] at hr, fun z => by
        rw [if_neg]
        · rfl
        · rintro ⟨j, h, q, _⟩; omega⟩ (fuel := a.length + b.length + ys.length + ([] : List RegionSpan).length + 1) (by simp; omega)
    have h7' : iterL (region_merge_L1 a b keep ys) (a.length + b.length + ys.length + ([] : List RegionSpan).length + 1) (([] : List RegionSpan), 1) = some (.ex 2 (c, (ys.length : Int))) := h7
    rw [h7', Option.bind_some]
    refine ⟨c, rfl, h9, fun y => ?_, by omega⟩
    rw [h11]
    by_cases c1 : ∃ j, ∃ h : j + 1 < ys.length, ys[j] ≤ y ∧ y < ys[j + 1]
    · rw [if_pos]
      obtain ⟨j, h, r⟩ := c1
      exact ⟨j, h, h, r⟩
    · rw [if_neg, hout a hma y c1, hout b hmb y c1, h0]
      rintro ⟨j, h, _, r⟩
      exact c1 ⟨j, h, r⟩
end Go.Proofs.Ytmniloampanhfaa
