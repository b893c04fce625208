/- Regions: writing strips, cutting rectangles into strips, Of. -/
import Derived.Test.YtmniloampanhfaaP2
namespace Go.Proofs.Ytmniloampanhfaa
open Go.Gb
set_option linter.unusedVariables false
set_option linter.unusedSimpArgs false
set_option linter.unusedSectionVars false
set_option linter.unusedVariables false
set_option linter.unusedSimpArgs false

theorem rval_past {V : Type} {e : V} : ∀ {l : Runs V} {n x : Int}, EndsBy l n → n ≤ x → rval e l x = e
  | [], _, _, _, _ => rfl
  | (a, b, v) :: t, n, x, h, hx => by
    have := h (a, b, v) (by simp)
    simp only at this
    simp only [rval]
    rw [if_neg (by omega)]
    exact rval_past (fun r hr => h r (List.mem_cons_of_mem _ hr)) hx
theorem gapless_lo {l : List RegionStrip} (h : Gapless l) {i : Nat} (hi : i < l.length) : ∀ q (hq : q < l.length), i ≤ q → l[i].x0 ≤ l[q].x0
  | 0, hq, hiq => by have : i = 0 := by omega
                     subst this; exact Int.le_refl _
  | q + 1, hq, hiq => by
    rcases Nat.lt_or_ge q i with h' | h'
    · have : i = q + 1 := by omega
      subst this; exact Int.le_refl _
    · have := gapless_lo h hi q (by omega) h'
      have h2 := h.pos (l[q]'(by omega)) (List.getElem_mem _)
      have h3 := h.next q hq
      omega

theorem write_L2 {l : List RegionStrip} {i k : Nat} (hi : i < l.length) (hik : i < k) (hk : k ≤ l.length) (hl : l.length ≤ 100000) (hc : l[i].column.length ≤ 1000) (s : List Rect) {out : List Rect} (ho : out.length ≤ 1000000000) :
    iterL (region_write_L2 l (s, (i : Int)) (k : Int) l[i]) (l[i].column.length + 1) (out, 0) =
      some (.ex 4 (out ++ l[i].column.map fun s => ⟨l[i].x0, s.from_, (l[k - 1]'(by omega)).x1, s.to_⟩, (l[i].column.length : Int))) := by
  refine (iter_range (k := 4) (l := l[i].column) (fun s i => (s, i)) (fun o s => o ++ [⟨l[i].x0, s.from_, (l[k - 1]'(by omega)).x1, s.to_⟩]) (fun j o => o.length ≤ 1000000000 + j) ?_ ?_ (by omega) (by omega)).1.trans ?_
  · intro j hj o hI
    constructor
    · unfold region_write_L2
      dsimp only
      rw [if_pos (by simpa using hj), getI_nat hj, Option.bind_some, getI_nat hi, Option.bind_some]
      simp only [subI_nat (show 0 < k by omega) (by omega), Option.bind_some, getI_nat (show k - 1 < l.length by omega)]
      rw [appI_some (by simp; omega), Option.bind_some, addI_one (by omega), Option.bind_some]
    · simp; omega
  · intro o _
    unfold region_write_L2
    dsimp only
    rw [if_neg (by simp)]
  · rw [foldl_flatMap (fun s : RegionSpan => [(⟨l[i].x0, s.from_, (l[k - 1]'(by omega)).x1, s.to_⟩ : Rect)])]
    simp [List.flatMap_singleton']
    rw [List.map_eq_flatMap]

theorem write_spec {l : List RegionStrip} (h : Gapless l) (hl : l.length ≤ 100000) (hc : ∀ s ∈ l, s.column.length ≤ 1000) :
    ∃ out, region_write l = some out ∧ ∃ G : Runs Col, Canon [] G ∧ (∀ a b c, (a, b, c) ∈ G → Canon false c) ∧ (∀ x, rval [] G x = rval [] (stripRuns l) x) ∧ out = flatG G := by
  refine Exists.elim (loop_down (body := region_write_L0 l) (fun s => ∃ (i : Nat) (G : Runs Col), s.2 = (i : Int) ∧ i ≤ l.length ∧ s.1 = flatG G ∧ Canon [] G ∧ (∀ a b c, (a, b, c) ∈ G → Canon false c) ∧
      (∀ x, rval [] G x = rval [] (stripRuns (l.take i)) x) ∧ (∀ hi : i < l.length, EndsBy G l[i].x0 ∧ Lst G l[i].x0 (spanRuns l[i].column)) ∧ s.1.length ≤ 1000 * i)
    (fun s => l.length - s.2.toNat) (fun f => ∃ s G, f = .ex 0 s ∧ s.1 = flatG G ∧ Canon [] G ∧ (∀ a b c, (a, b, c) ∈ G → Canon false c) ∧ (∀ x, rval [] G x = rval [] (stripRuns l) x)) ?_
    (([] : List Rect), 0) ⟨0, [], rfl, Nat.zero_le _, rfl, trivial, by simp, fun x => by simp [stripRuns], fun _ => ⟨fun r hr => by simp at hr, fun r hr => by simp at hr⟩, by simp⟩ (l.length + ([] : List Rect).length + 1) (by simp)) ?_
  · rintro ⟨out, _⟩ ⟨i, G, rfl, hil, rfl, hG, hGc, hv, hE, hlen⟩
    dsimp only at *
    rcases Nat.lt_or_ge i l.length with hi | hi
    · left
      obtain ⟨k, hk, hik, hkl, hkv, hkn⟩ := write_L1 h hl (fun s hs => by have := hc s hs; omega) hi (flatG G) (fuel := l.length + (flatG G).length + 1) (by omega)
      have h2 := write_L2 hi hik hkl hl (hc _ (List.getElem_mem hi)) (flatG G) (out := flatG G) (by omega)
      obtain ⟨hE1, hE2⟩ := hE hi
      have hpos : l[i].x0 < (l[k - 1]'(by omega)).x1 := by
        have := gapless_lo h hi (k - 1) (by omega) (by omega)
        have := h.pos (l[k - 1]'(by omega)) (List.getElem_mem _)
        omega
      refine ⟨(flatG G ++ l[i].column.map fun s => ⟨l[i].x0, s.from_, (l[k - 1]'(by omega)).x1, s.to_⟩, (k : Int)), ?_, ?_, ?_⟩
      · unfold region_write_L0
        dsimp only
        rw [if_pos (by simpa using hi), addI_one (by omega), Option.bind_some, hk, Option.bind_some]
        dsimp only
        rw [getI_nat hi, Option.bind_some, h2, Option.bind_some]
      · have hlen' : (flatG G ++ l[i].column.map fun s => (⟨l[i].x0, s.from_, (l[k - 1]'(by omega)).x1, s.to_⟩ : Rect)).length ≤ 1000 * k := by
          have := hc _ (List.getElem_mem hi)
          simp; omega
        have hx : ∀ hk' : k < l.length, (l[k - 1]'(by omega)).x1 = l[k].x0 := fun hk' => by
          have := h.next (k - 1) (by omega)
          rw [this]; congr 2; omega
        by_cases hcol : l[i].column = []
        · refine ⟨k, G, rfl, hkl, by simp [hcol], hG, hGc, fun x => ?_, fun hk' => ⟨fun r hr => ?_, fun r hr => ?_⟩, hlen'⟩
          · rw [hkv, hv]
            split
            · rename_i hx
              rw [hcol, ← hv, rval_past hE1 hx.1]; rfl
            · rfl
          · have := hE1 r hr; have := hx hk'; omega
          · have := hE1 r (List.mem_of_getLast? hr); have := hx hk'; exact .inl (by omega)
        · have hne : spanRuns l[i].column ≠ [] := fun e => hcol (spanRuns_inj (b := []) e)
          refine ⟨k, G ++ [(l[i].x0, (l[k - 1]'(by omega)).x1, spanRuns l[i].column)], rfl, hkl, ?_, canon_snoc hG hE2 hpos hne, ?_, fun x => ?_, fun hk' => ⟨fun r hr => ?_, fun r hr => ?_⟩, hlen'⟩
          · rw [flatG_append, flatG_one]
          · intro a b c hm
            rcases List.mem_append.1 hm with hm | hm
            · exact hGc a b c hm
            · simp only [List.mem_singleton, Prod.mk.injEq] at hm
              rw [hm.2.2]
              exact h.col _ (List.getElem_mem hi)
          · rw [rval_snoc hE1, hkv, hv]
          · have := hx hk'
            rcases List.mem_append.1 hr with hr | hr
            · have := hE1 r hr; omega
            · simp only [List.mem_singleton] at hr; subst hr; show (l[k - 1]'(by omega)).x1 ≤ _; omega
          · simp at hr; subst hr
            exact .inr ⟨hx hk', fun e => hkn hk' (spanRuns_inj e.symm)⟩
      · dsimp only; simp only [Int.toNat_natCast]; omega
    · right
      obtain rfl : i = l.length := by omega
      refine ⟨.ex 0 (flatG G, (l.length : Int)), ?_, trivial, _, G, rfl, rfl, hG, hGc, fun x => by rw [hv, List.take_length]⟩
      unfold region_write_L0
      dsimp only
      rw [if_neg (by simp)]
  · rintro f ⟨hf, _, s, G, rfl, h1, h2, h3, h4⟩
    refine ⟨s.1, ?_, G, h2, h3, h4, h1⟩
    unfold region_write
    rw [hf, Option.bind_some]

/-! Strips of rectangles -/
theorem concat_Rect {ls : List (List Rect)} (hl : ls.flatten.length ≤ 1000000) (hn : ls.length ≤ 1000000) : slices_Concat_Rect ls = some ls.flatten := by
  have hle : ∀ i (hi : i < ls.length), (ls.take i).flatten.length + ls[i].length ≤ ls.flatten.length := by
    intro i hi
    have e : ls.flatten = (ls.take i).flatten ++ (ls[i] ++ (ls.drop (i + 1)).flatten) := by
      conv => lhs; rw [← List.take_append_drop i ls, List.drop_eq_getElem_cons hi]
      rw [List.flatten_append, List.flatten_cons]
    rw [e, List.length_append, List.length_append]; omega
  have htk : ∀ i (hi : i < ls.length), (ls.take (i + 1)).flatten = (ls.take i).flatten ++ ls[i] := by
    intro i hi
    rw [List.take_succ_eq_append_getElem hi, List.flatten_append, List.flatten_cons, List.flatten_nil, List.append_nil]
  unfold slices_Concat_Rect
  obtain ⟨h1, h2⟩ := iter_range (k := 0) (l := ls) (body := slices_Concat_Rect_L0 ls) (fun (s : Int) i => (s, i)) (fun s x => s + x.length) (fun i s => s = ((ls.take i).flatten.length : Int)) (by
    intro i hi s hI
    have := hle i hi
    constructor
    · unfold slices_Concat_Rect_L0
      dsimp only
      rw [if_pos (by simpa using hi), getI_nat hi, Option.bind_some, addI_some (by unfold inI; omega), Option.bind_some, if_neg (by simp; omega), addI_one (by omega), Option.bind_some]
    · rw [htk i hi, hI]; simp) (by
    intro s _
    unfold slices_Concat_Rect_L0
    dsimp only
    rw [if_neg (by simp)]) (s0 := 0) (by simp) (fuel := ls.length + 1) (by omega)
  rw [h1, Option.bind_some]
  dsimp only
  rw [List.take_length] at h2
  rw [growI_some (by omega) (by omega), Option.bind_some]
  obtain ⟨h3, h4⟩ := iter_range (k := 2) (l := ls) (body := slices_Concat_Rect_L1 ls) (fun (s : List Rect) i => (s, i)) (fun s x => s ++ x) (fun i s => s = (ls.take i).flatten) (by
    intro i hi s hI
    have := hle i hi
    constructor
    · unfold slices_Concat_Rect_L1
      dsimp only
      rw [if_pos (by simpa using hi), getI_nat hi, Option.bind_some, appI_some (by rw [hI]; omega), Option.bind_some, addI_one (by omega), Option.bind_some]
    · rw [htk i hi, hI]) (by
    intro s _
    unfold slices_Concat_Rect_L1
    dsimp only
    rw [if_neg (by simp)]) (s0 := []) (by simp) (fuel := ls.length + 1) (by omega)
  rw [h3, Option.bind_some]
  dsimp only
  rw [h4, List.take_length]

/-- The numbers at which something begins or ends, in ascending order, each once. -/
structure IsCuts (xs : List Int) (l : List Rect) : Prop where
  asc : xs.Pairwise fun a b => a < b
  mem : ∀ x, x ∈ xs ↔ ∃ r ∈ l, x = r.X0 ∨ x = r.X1
  len : xs.length ≤ 2 * l.length
theorem asc_between : ∀ {xs : List Int} {a b x : Int}, xs.Pairwise (fun a b => a < b) → a ∈ xs → b ∈ xs → a ≤ x → x < b → ∃ i, ∃ h : i + 1 < xs.length, xs[i] ≤ x ∧ x < xs[i + 1]
  | [], _, _, _, _, h, _, _, _ => by simp at h
  | [h], a, b, x, _, ha, hb, h1, h2 => by simp at ha hb; subst ha; subst hb; omega
  | h :: h2 :: t, a, b, x, hp, ha, hb, hax, hxb => by
    have hp' := List.pairwise_cons.1 hp
    rcases Int.lt_or_le x h2 with hx | hx
    · refine ⟨0, by simp, ?_, hx⟩
      rcases List.mem_cons.1 ha with rfl | ha
      · exact hax
      · have := hp'.1 a ha; show h ≤ x; omega
    · have hb' : b ∈ h2 :: t := by
        rcases List.mem_cons.1 hb with rfl | hb
        · have := hp'.1 h2 (by simp); omega
        · exact hb
      obtain ⟨i, hi, h3, h4⟩ := asc_between hp'.2 (a := h2) (by simp) hb' hx hxb
      exact ⟨i + 1, by simp only [List.length_cons] at hi ⊢; omega, by simpa using h3, by simpa using h4⟩
theorem asc_gap {xs : List Int} (hp : xs.Pairwise fun a b => a < b) {i : Nat} (h : i + 1 < xs.length) {z : Int} (hz : z ∈ xs) : z ≤ xs[i] ∨ xs[i + 1] ≤ z := by
  obtain ⟨j, hj, rfl⟩ := List.getElem_of_mem hz
  have hp := List.pairwise_iff_getElem.1 hp
  rcases Nat.lt_or_ge i j with h1 | h1
  · right
    rcases Nat.lt_or_ge (i + 1) j with h2 | h2
    · exact Int.le_of_lt (hp (i + 1) j h hj h2)
    · have : j = i + 1 := by omega
      subst this; exact Int.le_refl _
  · left
    rcases Nat.lt_or_ge j i with h2 | h2
    · exact Int.le_of_lt (hp j i hj (by omega) h2)
    · have : j = i := by omega
      subst this; exact Int.le_refl _
theorem cells_between {l : List Rect} {xs : List Int} (hx : IsCuts xs l) {i : Nat} (h : i + 1 < xs.length) {x : Int} (h1 : xs[i] ≤ x) (h2 : x < xs[i + 1]) (y : Int) : cells l xs[i] y ↔ cells l x y := by
  refine exists_congr fun r => and_congr_right fun hr => ?_
  unfold rin
  have g1 := asc_gap hx.asc h ((hx.mem r.X0).2 ⟨r, hr, .inl rfl⟩)
  have g2 := asc_gap hx.asc h ((hx.mem r.X1).2 ⟨r, hr, .inr rfl⟩)
  have g3 := (List.pairwise_iff_getElem.1 hx.asc) i (i + 1) (by omega) h (by omega)
  omega

structure StripsOf (l : List Rect) (out : List RegionStrip) : Prop where
  gapless : Gapless out
  col : ∀ s ∈ out, IsCol l s.x0 s.column
  val : ∀ x y, rval false (rval [] (stripRuns out) x) y = true ↔ cells l x y
  len : out.length ≤ 2 * l.length
  same : ∀ s ∈ out, ∀ x, s.x0 ≤ x → x < s.x1 → ∀ r ∈ l, (r.X0 ≤ x ∧ x < r.X1) ↔ (r.X0 ≤ s.x0 ∧ s.x0 < r.X1)
  cover : ∀ r ∈ l, ∀ x, r.X0 ≤ x → x < r.X1 → ∃ s ∈ out, s.x0 ≤ x ∧ x < s.x1
theorem rval_strips {l : List RegionStrip} (h : Gapless l) {i : Nat} (hi : i < l.length) {x : Int} (h1 : l[i].x0 ≤ x) (h2 : x < l[i].x1) : rval [] (stripRuns l) x = spanRuns l[i].column := by
  have key : ∀ m j, j + m = l.length → i < j → rval [] (stripRuns (l.take j)) x = rval [] (stripRuns l) x := by
    intro m
    induction m with
    | zero => intro j hj _; rw [show j = l.length by omega, List.take_length]
    | succ m ih =>
      intro j hj hij
      rw [← ih (j + 1) (by omega) (by omega), rval_take h (show j < l.length by omega), if_neg]
      have a1 := gapless_lo h (show i + 1 < l.length by omega) j (by omega) (by omega)
      have a2 := h.next i (by omega)
      omega
  rw [← key (l.length - (i + 1)) (i + 1) (by omega) (by omega), rval_take h hi, if_pos ⟨h1, h2⟩]

theorem strips_cuts {l : List Rect} (hl : l.length ≤ 100000) : ∃ ys xs zs, iterL (region_strips_L0 l) (l.length + 1) (([] : List Int), 0) = some (.ex 0 (ys, (l.length : Int))) ∧
    sortInts ys = some zs ∧ compactInts zs = some xs ∧ IsCuts xs l := by
  obtain ⟨h1, h2⟩ := iter_range (k := 0) (l := l) (body := region_strips_L0 l) (fun (s : List Int) i => (s, i)) (fun s r => s ++ [r.X0, r.X1]) (fun i s => s.length = 2 * i) (by
    intro i hi s hI
    constructor
    · unfold region_strips_L0
      dsimp only
      rw [if_pos (by simpa using hi), getI_nat hi, Option.bind_some, appI_some (by simp; omega), Option.bind_some, addI_one (by omega), Option.bind_some]
    · simp; omega) (by
    intro s _
    unfold region_strips_L0
    dsimp only
    rw [if_neg (by simp)]) (s0 := []) (by simp) (fuel := l.length + 1) (by omega)
  rw [foldl_flatMap (fun r : Rect => [r.X0, r.X1]), List.nil_append] at h1 h2
  obtain ⟨zs, h3, h4, h5⟩ := sortInts_spec (l := l.flatMap fun r => [r.X0, r.X1]) (by omega)
  have hzl := h4.length_eq
  obtain ⟨xs, h6, h7, h8, h9⟩ := compactInts_spec (l := zs) (by omega) h5
  refine ⟨_, xs, zs, h1, h3, h6, h7, fun x => ?_, by omega⟩
  rw [h8, h4.mem_iff]
  simp [List.mem_flatMap]

theorem strips_spec {ls : List (List Rect)} (hv : ∀ r ∈ ls.flatten, VR r) (hl : ls.flatten.length ≤ 100000) (hn : ls.length ≤ 1000) : ∃ out, region_strips ls = some out ∧ StripsOf ls.flatten out := by
  unfold region_strips
  rw [concat_Rect (by omega) (by omega), Option.bind_some]
  generalize ls.flatten = l at hv hl
  obtain ⟨ys, xs, zs, h1, h2, h3, hx⟩ := strips_cuts hl
  rw [h1, Option.bind_some]
  dsimp only
  simp only [h2, h3, Option.bind_some]
  have hxl := hx.len
  rcases Nat.eq_zero_or_pos xs.length with h0 | h0
  · have e : xs = [] := List.length_eq_zero_iff.1 h0
    subst e
    have hl0 : l = [] := by
      cases l with
      | nil => rfl
      | cons r l => exact absurd ((hx.mem r.X0).2 ⟨r, by simp, .inl rfl⟩) (by simp)
    subst hl0
    refine ⟨[], rfl, ⟨by simp, by simp, by simp⟩, by simp, by simp [stripRuns, rval, cells], by simp, by simp, by simp⟩
  · obtain ⟨out, h4, h5, h6⟩ := iter_from (k := 2) (body := region_strips_L1 l xs) (fun (s : List RegionStrip) i => (s, i)) 1 xs.length h0
      (fun i s => s.length + 1 = i ∧ ∀ j (hj : j < s.length) (hj' : j + 1 < xs.length), s[j].x0 = xs[j] ∧ s[j].x1 = xs[j + 1] ∧ IsCol l xs[j] s[j].column) (by
      intro i h1i hi s hI
      obtain ⟨hI1, hI2⟩ := hI
      obtain ⟨c, hc, hcol⟩ := column_spec (x := xs[i - 1]'(by omega)) hv hl
      refine ⟨s ++ [⟨xs[i - 1]'(by omega), xs[i], c⟩], ?_, by simp; omega, fun j hj hj' => ?_⟩
      · unfold region_strips_L1
        dsimp only
        rw [if_pos (by simpa using hi)]
        simp only [subI_nat (show 0 < i by omega) (by omega), Option.bind_some, getI_nat (show i - 1 < xs.length by omega), getI_nat hi, hc]
        rw [appI_some (by simp; omega), Option.bind_some, addI_one (by omega), Option.bind_some]
      · simp only [List.length_append, List.length_cons, List.length_nil] at hj
        rcases Nat.lt_or_ge j s.length with h | h
        · simp only [List.getElem_append_left h]
          exact hI2 j h hj'
        · have : j = s.length := by omega
          subst this
          simp only [List.getElem_concat_length]
          have e1 : xs[i - 1]'(by omega) = xs[s.length] := by congr 1; omega
          have e2 : xs[i] = xs[s.length + 1] := by congr 1; omega
          refine ⟨e1, e2, ?_⟩
          rw [← e1]; exact hcol) (by
      intro s _
      unfold region_strips_L1
      dsimp only
      rw [if_neg (by simp)]) (s0 := []) (by simp) (fuel := l.length + xs.length + ([] : List RegionStrip).length + 1) (by simp; omega)
    have h4' : iterL (region_strips_L1 l xs) (l.length + xs.length + ([] : List RegionStrip).length + 1) (([] : List RegionStrip), 1) = some (.ex 2 (out, (xs.length : Int))) := h4
    rw [h4', Option.bind_some]
    have hg : Gapless out := by
      refine ⟨fun s hs => ?_, fun i hi => ?_, fun s hs => ?_⟩
      · obtain ⟨j, hj, rfl⟩ := List.getElem_of_mem hs
        obtain ⟨a1, a2, _⟩ := h6 j hj (by omega)
        rw [a1, a2]
        exact (List.pairwise_iff_getElem.1 hx.asc) j (j + 1) (by omega) (by omega) (by omega)
      · rw [(h6 i (by omega) (by omega)).2.1, (h6 (i + 1) hi (by omega)).1]
      · obtain ⟨j, hj, rfl⟩ := List.getElem_of_mem hs
        exact (h6 j hj (by omega)).2.2.canon
    refine ⟨out, rfl, hg, fun s hs => ?_, fun x y => ?_, by omega, fun s hs x c1 c2 r hr => ?_, fun r hr x c1 c2 => ?_⟩
    · obtain ⟨j, hj, rfl⟩ := List.getElem_of_mem hs
      obtain ⟨a1, _, a3⟩ := h6 j hj (by omega)
      rw [a1]; exact a3
    · by_cases hs : ∃ i, ∃ h : i + 1 < xs.length, xs[i] ≤ x ∧ x < xs[i + 1]
      · obtain ⟨i, hi, b1, b2⟩ := hs
        obtain ⟨a1, a2, a3⟩ := h6 i (by omega) hi
        rw [rval_strips hg (show i < out.length by omega) (by omega) (by omega), a3.val, cells_between hx hi b1 b2]
      · constructor
        · intro h
          rcases rval_mem (e := []) (l := stripRuns out) (x := x) with h7 | ⟨a, b, h7, h8⟩
          · rw [h7] at h; simp [rval] at h
          · simp only [stripRuns, List.mem_map, Prod.mk.injEq] at h7
            obtain ⟨s, hs', e1, e2, _⟩ := h7
            obtain ⟨j, hj, rfl⟩ := List.getElem_of_mem hs'
            obtain ⟨a1, a2, _⟩ := h6 j hj (by omega)
            exact absurd ⟨j, by omega, by omega, by omega⟩ hs
        · rintro ⟨r, hr, hrx, hry⟩
          exact absurd (asc_between hx.asc ((hx.mem r.X0).2 ⟨r, hr, .inl rfl⟩) ((hx.mem r.X1).2 ⟨r, hr, .inr rfl⟩) hrx.1 hrx.2) hs
    · obtain ⟨j, hj, rfl⟩ := List.getElem_of_mem hs
      obtain ⟨a1, a2, _⟩ := h6 j hj (by omega)
      have g1 := asc_gap hx.asc (show j + 1 < xs.length by omega) ((hx.mem r.X0).2 ⟨r, hr, .inl rfl⟩)
      have g2 := asc_gap hx.asc (show j + 1 < xs.length by omega) ((hx.mem r.X1).2 ⟨r, hr, .inr rfl⟩)
      omega
    · obtain ⟨i, hi, b1, b2⟩ := asc_between hx.asc ((hx.mem r.X0).2 ⟨r, hr, .inl rfl⟩) ((hx.mem r.X1).2 ⟨r, hr, .inr rfl⟩) c1 c2
      obtain ⟨a1, a2, a3⟩ := h6 i (by omega) hi
      exact ⟨_, List.getElem_mem (show i < out.length by omega), by omega, by omega⟩
theorem write_form {l : List RegionStrip} (h : Gapless l) (hl : l.length ≤ 100000) (hc : ∀ s ∈ l, s.column.length ≤ 1000) {S : Int → Int → Prop} (hS : ∀ x y, rval false (rval [] (stripRuns l) x) y = true ↔ S x y) :
    ∃ out, region_write l = some out ∧ IsForm S out := by
  obtain ⟨out, h1, G, h2, h3, h4, h5⟩ := write_spec h hl hc
  exact ⟨out, h1, G, h2, h3, fun x y => by rw [h4, hS], h5⟩
end Go.Proofs.Ytmniloampanhfaa
