/- Regions: strips, what is written of them, the form of a set of cells. -/
import Derived.Test.YtmniloampanhfaaP1
namespace Go.Proofs.Ytmniloampanhfaa
open Go.Gb
set_option linter.unusedVariables false
set_option linter.unusedSimpArgs false
set_option linter.unusedSectionVars false
set_option linter.unusedVariables false
set_option linter.unusedSimpArgs false

/-! The list of rectangles that runs of columns stand for. -/
def flatG (G : Runs Col) : List Rect := G.flatMap fun g => g.2.2.map fun s => ⟨g.1, s.1, g.2.1, s.2.1⟩
theorem flatG_append (G H : Runs Col) : flatG (G ++ H) = flatG G ++ flatG H := List.flatMap_append
theorem flatG_one (a b : Int) (c : List RegionSpan) : flatG [(a, b, spanRuns c)] = c.map fun s => ⟨a, s.from_, b, s.to_⟩ := by
  simp [flatG, spanRuns]
/-- The list is the form of the set of cells. -/
def IsForm (S : Int → Int → Prop) (out : List Rect) : Prop :=
  ∃ G : Runs Col, Canon [] G ∧ (∀ a b c, (a, b, c) ∈ G → Canon false c) ∧ (∀ x y, rval false (rval [] G x) y = true ↔ S x y) ∧ out = flatG G
theorem canon_at {G : Runs Col} (h : ∀ a b c, (a, b, c) ∈ G → Canon false c) (x : Int) : Canon false (rval [] G x) := by
  rcases rval_mem (e := []) (l := G) (x := x) with h1 | ⟨a, b, h1, _⟩
  · rw [h1]; trivial
  · exact h _ _ _ h1
theorem IsForm.unique {S S' : Int → Int → Prop} {out out' : List Rect} (h : IsForm S out) (h' : IsForm S' out') (he : ∀ x y, S x y ↔ S' x y) : out = out' := by
  obtain ⟨G, h1, h2, h3, rfl⟩ := h
  obtain ⟨G', k1, k2, k3, rfl⟩ := h'
  rw [canon_unique h1 k1 fun x => canon_unique (canon_at h2 x) (canon_at k2 x) fun y => ?_]
  rw [Bool.eq_iff_iff, h3, k3, he]
theorem IsForm.congr {S S' : Int → Int → Prop} {out : List Rect} (h : IsForm S out) (he : ∀ x y, S x y ↔ S' x y) : IsForm S' out := by
  obtain ⟨G, h1, h2, h3, rfl⟩ := h
  exact ⟨G, h1, h2, fun x y => (h3 x y).trans (he x y), rfl⟩
/-- The form has the cells of the set. -/
theorem rval_true_mem {c : Col} {y : Int} : rval false c y = true → ∃ a b, (a, b, true) ∈ c ∧ a ≤ y ∧ y < b := by
  intro h
  rcases rval_mem (e := false) (l := c) (x := y) with h1 | ⟨a, b, h1, h2⟩
  · rw [h] at h1; simp at h1
  · rw [h] at h1; exact ⟨a, b, h1, h2⟩
theorem IsForm.cells {S : Int → Int → Prop} {out : List Rect} (h : IsForm S out) (x y : Int) : cells out x y ↔ S x y := by
  obtain ⟨G, h1, h2, h3, rfl⟩ := h
  rw [← h3]
  constructor
  · rintro ⟨r, hr, hx, hy⟩
    simp only [flatG, List.mem_flatMap, List.mem_map] at hr
    obtain ⟨⟨a, b, c⟩, hg, ⟨f, t, v⟩, hs, rfl⟩ := hr
    have hc := h2 a b c hg
    have hv : v = true := by
      have := (canon_mem hc hs).2
      cases v <;> simp_all
    subst hv
    rw [rval_of_mem h1 hg hx.1 hx.2]
    exact rval_of_mem hc hs hy.1 hy.2
  · intro h
    obtain ⟨f, t, hs, hy1, hy2⟩ := rval_true_mem h
    rcases rval_mem (e := []) (l := G) (x := x) with h4 | ⟨a, b, h4, h5⟩
    · rw [h4] at hs; simp at hs
    · refine ⟨⟨a, f, b, t⟩, ?_, h5, hy1, hy2⟩
      simp only [flatG, List.mem_flatMap, List.mem_map]
      exact ⟨_, h4, _, hs, rfl⟩
theorem IsForm.self {S : Int → Int → Prop} {out : List Rect} (h : IsForm S out) : IsForm (Ytmniloampanhfaa.cells out) out := h.congr fun x y => (h.cells x y).symm
theorem form_rect {S : Int → Int → Prop} {out : List Rect} (h : IsForm S out) : ∀ r ∈ out, r.X0 < r.X1 ∧ r.Y0 < r.Y1 := by
  obtain ⟨G, h1, h2, h3, rfl⟩ := h
  intro r hr
  simp only [flatG, List.mem_flatMap, List.mem_map] at hr
  obtain ⟨⟨a, b, c⟩, hg, ⟨f, t, v⟩, hs, rfl⟩ := hr
  exact ⟨(canon_mem h1 hg).1, (canon_mem (h2 a b c hg) hs).1⟩
theorem form_nil : IsForm (fun _ _ => False) [] := ⟨[], trivial, by simp, by simp [rval], rfl⟩

/-! Strips -/
def stripRuns (l : List RegionStrip) : Runs Col := l.map fun s => (s.x0, s.x1, spanRuns s.column)
/-- Strips without gaps, of canonical columns. -/
structure Gapless (l : List RegionStrip) : Prop where
  pos : ∀ s ∈ l, s.x0 < s.x1
  next : ∀ i (h : i + 1 < l.length), (l[i]'(by omega)).x1 = l[i + 1].x0
  col : ∀ s ∈ l, Canon false (spanRuns s.column)

theorem equal_span_L0 {a b : List RegionSpan} (hl : a.length = b.length) (hb : a.length ≤ 1000000) :
    ∃ f, iterL (slices_Equal_span_L0 a b) (a.length + 1) 0 = some f ∧ ((a = b ∧ ∃ s, f = .ex 0 s) ∨ (a ≠ b ∧ f = .ret false)) := by
  have hs : ∀ i (hi : i < (a.zip b).length), ((a.zip b)[i].1 ≠ (a.zip b)[i].2 ∧ slices_Equal_span_L0 a b (i : Int) = some (.ret false)) ∨
      (¬ ((a.zip b)[i].1 ≠ (a.zip b)[i].2) ∧ slices_Equal_span_L0 a b (i : Int) = some (.go ((i + 1 : Nat) : Int))) := by
    intro i hi
    simp only [List.length_zip] at hi
    have h1 : i < a.length := by omega
    have h2 : i < b.length := by omega
    unfold slices_Equal_span_L0
    rw [if_pos (by simpa using h1)]
    simp only [getI_nat h1, getI_nat h2, Option.bind_some, List.getElem_zip]
    by_cases he : a[i] = b[i]
    · right
      rw [if_neg (by simpa using he)]
      simp only [addI_one (show i < 4611686018427387904 by omega), Option.bind_some]
      exact ⟨by simpa using he, trivial⟩
    · left
      rw [if_pos (by simpa using he)]
      exact ⟨he, rfl⟩
  have hd : slices_Equal_span_L0 a b ((a.zip b).length : Int) = some (.ex 0 ((a.zip b).length : Int)) := by
    have e : ((a.zip b).length : Int) = (a.length : Int) := by simp; omega
    rw [e]
    unfold slices_Equal_span_L0
    rw [if_neg (by simp)]
  rcases iter_find (l := a.zip b) (body := slices_Equal_span_L0 a b) (k := 0) (fun p => p.1 ≠ p.2) (fun _ => false) hs hd (fuel := a.length + 1) (by simp; omega) with ⟨i, hi, hp, _, h⟩ | ⟨hp, h⟩
  · refine ⟨_, h, .inr ⟨fun e => ?_, rfl⟩⟩
    subst e
    simp at hp
  · refine ⟨_, h, .inl ⟨?_, _, rfl⟩⟩
    refine List.ext_getElem hl fun i h1 h2 => ?_
    have := hp (a[i], b[i]) (by
      rw [List.mem_iff_getElem]
      exact ⟨i, by simp; omega, by simp⟩)
    simpa using this
theorem equal_span {a b : List RegionSpan} (hb : a.length ≤ 1000000) : slices_Equal_span a b = some (decide (a = b)) := by
  unfold slices_Equal_span
  by_cases hl : a.length = b.length
  · rw [if_neg (by simp [hl])]
    obtain ⟨f, hf, h⟩ := equal_span_L0 hl hb
    rw [hf, Option.bind_some]
    rcases h with ⟨h1, s, rfl⟩ | ⟨h1, rfl⟩ <;> simp [h1]
  · rw [if_pos (by simp; omega)]
    congr 1
    symm
    rw [decide_eq_false_iff_not]
    intro e; exact hl (by rw [e])

theorem ends_take {l : List RegionStrip} (h : Gapless l) : ∀ i (hi : i < l.length), EndsBy (stripRuns (l.take i)) l[i].x0
  | 0, _ => by intro r hr; simp [stripRuns] at hr
  | i + 1, hi => by
    have ih := ends_take h i (by omega)
    have hp := h.pos l[i] (List.getElem_mem _)
    have hn := h.next i hi
    intro r hr
    rw [List.take_succ_eq_append_getElem (by omega)] at hr
    simp only [stripRuns, List.map_append, List.map_cons, List.map_nil, List.mem_append, List.mem_singleton] at hr
    rcases hr with hr | hr
    · have := ih r hr; omega
    · subst hr; show (l[i]'(by omega)).x1 ≤ _; omega
theorem rval_take {l : List RegionStrip} (h : Gapless l) {i : Nat} (hi : i < l.length) (x : Int) :
    rval [] (stripRuns (l.take (i + 1))) x = if l[i].x0 ≤ x ∧ x < l[i].x1 then spanRuns l[i].column else rval [] (stripRuns (l.take i)) x := by
  rw [List.take_succ_eq_append_getElem hi]
  simp only [stripRuns, List.map_append, List.map_cons, List.map_nil]
  exact rval_snoc (ends_take h i hi) x

/-- The end of the strips from i on whose columns are that of strip i. -/
theorem write_L1 {l : List RegionStrip} (h : Gapless l) (hl : l.length ≤ 100000) (hc : ∀ s ∈ l, s.column.length ≤ 1000000) {i : Nat} (hi : i < l.length) (s : List Rect) {fuel : Nat} (hf : l.length < fuel) :
    ∃ k : Nat, iterL (region_write_L1 l (s, (i : Int))) fuel ((i + 1 : Nat) : Int) = some (.ex 2 (k : Int)) ∧ ∃ (hik : i < k) (hk : k ≤ l.length),
      (∀ x, rval [] (stripRuns (l.take k)) x = if l[i].x0 ≤ x ∧ x < (l[k - 1]'(by omega)).x1 then spanRuns l[i].column else rval [] (stripRuns (l.take i)) x) ∧
      (∀ hk' : k < l.length, l[k].column ≠ l[i].column) := by
  have key : ∀ m j, j + m = l.length → ∀ (hij : i < j) (hj : j ≤ l.length),
      (∀ x, rval [] (stripRuns (l.take j)) x = if l[i].x0 ≤ x ∧ x < (l[j - 1]'(by omega)).x1 then spanRuns l[i].column else rval [] (stripRuns (l.take i)) x) → ∀ fuel, m < fuel →
      ∃ k : Nat, iterL (region_write_L1 l (s, (i : Int))) fuel (j : Int) = some (.ex 2 (k : Int)) ∧ ∃ (hik : i < k) (hk : k ≤ l.length),
      (∀ x, rval [] (stripRuns (l.take k)) x = if l[i].x0 ≤ x ∧ x < (l[k - 1]'(by omega)).x1 then spanRuns l[i].column else rval [] (stripRuns (l.take i)) x) ∧
      (∀ hk' : k < l.length, l[k].column ≠ l[i].column) := by
    intro m
    induction m with
    | zero =>
      intro j hjm hij hj hr fuel hf
      obtain ⟨fuel, rfl⟩ : ∃ m, fuel = m + 1 := ⟨fuel - 1, by omega⟩
      refine ⟨j, ?_, hij, hj, hr, fun hk' => absurd hk' (by omega)⟩
      have e : region_write_L1 l (s, (i : Int)) (j : Int) = some (.ex 2 (j : Int)) := by
        unfold region_write_L1
        dsimp only
        rw [if_neg (by simp; omega), Option.bind_some, if_neg (by simp)]
      simp only [iterL, e]
    | succ m ih =>
      intro j hjm hij hj hr fuel hf
      obtain ⟨fuel, rfl⟩ : ∃ m, fuel = m + 1 := ⟨fuel - 1, by omega⟩
      have hjl : j < l.length := by omega
      by_cases he : l[j].column = l[i].column
      · have e : region_write_L1 l (s, (i : Int)) (j : Int) = some (.go ((j + 1 : Nat) : Int)) := by
          unfold region_write_L1
          dsimp only
          rw [if_pos (by simp; omega)]
          simp only [getI_nat hjl, getI_nat hi, Option.bind_some, equal_span (hc _ (List.getElem_mem hjl))]
          rw [if_pos (by simpa using he), addI_one (by omega), Option.bind_some]
        simp only [iterL, e]
        refine ih (j + 1) (by omega) (by omega) (by omega) (fun x => ?_) fuel (by omega)
        rw [rval_take h hjl, hr x, he]
        have hn : (l[j - 1]'(by omega)).x1 = l[j].x0 := by
          have := h.next (j - 1) (by omega)
          rw [this]; congr 2; omega
        have hp := h.pos l[j] (List.getElem_mem _)
        have hlo : ∀ q (hq : q < l.length), i ≤ q → l[i].x0 ≤ l[q].x0 := by
          intro q
          induction q with
          | zero => intro hq hiq; have : i = 0 := by omega
                    subst this; exact Int.le_refl _
          | succ q ihq =>
            intro hq hiq
            rcases Nat.lt_or_ge q i with h' | h'
            · have : i = q + 1 := by omega
              subst this; exact Int.le_refl _
            · have := ihq (by omega) h'
              have h2 := h.pos (l[q]'(by omega)) (List.getElem_mem _)
              have h3 := h.next q hq
              omega
        have := hlo j hjl (by omega)
        have e2 : (l[j + 1 - 1]'(by omega)) = l[j] := by congr 1
        rw [e2]
        by_cases c1 : l[j].x0 ≤ x ∧ x < l[j].x1
        · rw [if_pos c1, if_pos (by omega)]
        · rw [if_neg c1]
          by_cases c2 : l[i].x0 ≤ x ∧ x < (l[j - 1]'(by omega)).x1
          · rw [if_pos c2, if_pos (by omega)]
          · rw [if_neg c2, if_neg (by omega)]
      · refine ⟨j, ?_, hij, hj, hr, fun _ => he⟩
        have e : region_write_L1 l (s, (i : Int)) (j : Int) = some (.ex 2 (j : Int)) := by
          unfold region_write_L1
          dsimp only
          rw [if_pos (by simp; omega)]
          simp only [getI_nat hjl, getI_nat hi, Option.bind_some, equal_span (hc _ (List.getElem_mem hjl))]
          rw [if_neg (by simpa using he)]
        simp only [iterL, e]
  exact key (l.length - (i + 1)) (i + 1) (by omega) (by omega) (by omega) (fun x => by
    rw [rval_take h hi]
    have e2 : (l[i + 1 - 1]'(by omega)) = l[i] := by congr 1
    rw [e2]) fuel (by omega)
end Go.Proofs.Ytmniloampanhfaa
