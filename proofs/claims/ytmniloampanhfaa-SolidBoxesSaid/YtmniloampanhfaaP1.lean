/- Regions: columns of rectangles, and what merging them gives. -/
import Derived.Test.YtmniloampanhfaaT6
namespace Go.Proofs.Ytmniloampanhfaa
open Go.Gb
set_option linter.unusedVariables false
set_option linter.unusedSimpArgs false
set_option linter.unusedSectionVars false
set_option linter.unusedVariables false
set_option linter.unusedSimpArgs false

/-- The cell (x, y) is in the rectangle. -/
def rin (r : Rect) (x y : Int) : Prop := (r.X0 ≤ x ∧ x < r.X1) ∧ r.Y0 ≤ y ∧ y < r.Y1
instance (r : Rect) (x y : Int) : Decidable (rin r x y) := inferInstanceAs (Decidable (_ ∧ _))
def cells (l : List Rect) (x y : Int) : Prop := ∃ r ∈ l, rin r x y
def VR (r : Rect) : Prop := 0 ≤ r.X0 ∧ r.X0 < r.X1 ∧ r.X1 ≤ 1048576 ∧ 0 ≤ r.Y0 ∧ r.Y0 < r.Y1 ∧ r.Y1 ≤ 1048576
instance (r : Rect) : Decidable (VR r) := inferInstanceAs (Decidable (_ ∧ _))
abbrev Col := Runs Bool
def spanRuns (l : List RegionSpan) : Col := l.map fun s => (s.from_, s.to_, true)
theorem spanRuns_append (a b : List RegionSpan) : spanRuns (a ++ b) = spanRuns a ++ spanRuns b := List.map_append
theorem spanRuns_inj : ∀ {a b : List RegionSpan}, spanRuns a = spanRuns b → a = b
  | [], [], _ => rfl
  | [], _ :: _, h => by simp [spanRuns] at h
  | _ :: _, [], h => by simp [spanRuns] at h
  | ⟨f, t⟩ :: a, ⟨f', t'⟩ :: b, h => by
    simp only [spanRuns, List.map_cons, List.cons.injEq, Prod.mk.injEq] at h
    obtain ⟨⟨rfl, rfl, _⟩, h⟩ := h
    rw [spanRuns_inj (a := a) (b := b) h]
theorem rect_Right_eq (r : Rect) : rect_Right r = some (decide (VR r)) := by
  unfold rect_Right
  congr 1
  rw [Bool.eq_iff_iff, decide_eq_true_iff]
  simp only [Bool.and_eq_true, decide_eq_true_eq]
  unfold VR
  constructor
  · rintro ⟨⟨⟨⟨⟨h1, h2⟩, h3⟩, h4⟩, h5⟩, h6⟩; exact ⟨h1, h2, h3, h4, h5, h6⟩
  · rintro ⟨h1, h2, h3, h4, h5, h6⟩; exact ⟨⟨⟨⟨⟨h1, h2⟩, h3⟩, h4⟩, h5⟩, h6⟩

/-! Merging intervals in the order of their beginnings. -/
def addIv (out : List RegionSpan) (s : RegionSpan) : List RegionSpan :=
  match out.getLast? with
  | some t => if s.from_ ≤ t.to_ then out.dropLast ++ [⟨t.from_, max t.to_ s.to_⟩] else out ++ [s]
  | none => [s]
theorem addIv_spec {out : List RegionSpan} {s : RegionSpan} (hc : Canon false (spanRuns out)) (hs : s.from_ < s.to_) (hle : ∀ t ∈ out, t.from_ ≤ s.from_) :
    Canon false (spanRuns (addIv out s)) ∧ (∀ y, rval false (spanRuns (addIv out s)) y = true ↔ rval false (spanRuns out) y = true ∨ (s.from_ ≤ y ∧ y < s.to_)) ∧
    (∀ t ∈ addIv out s, t.from_ ≤ s.from_) ∧ (addIv out s).length ≤ out.length + 1 := by
  rcases List.eq_nil_or_concat out with rfl | ⟨o, t, rfl⟩
  · refine ⟨⟨hs, by simp, trivial, trivial⟩, fun y => ?_, fun t ht => by simp [addIv] at ht; subst ht; exact Int.le_refl _, by simp [addIv]⟩
    simp [addIv, spanRuns, rval]
  · rw [List.concat_eq_append] at *
    have ht := hle t (by simp)
    have e : spanRuns (o ++ [t]) = spanRuns o ++ [(t.from_, t.to_, true)] := by simp [spanRuns]
    rw [e] at hc ⊢
    obtain ⟨h1, h2, h3⟩ := canon_last hc
    have h4 := canon_ends hc
    unfold addIv
    simp only [List.getLast?_append, List.getLast?_singleton, Option.some_or, List.dropLast_concat]
    split
    · rename_i hm
      rw [spanRuns_append]
      refine ⟨canon_snoc (canon_prefix hc) h3 (show t.from_ < max t.to_ s.to_ by omega) (by simp), fun y => ?_, fun u hu => ?_, by simp⟩
      · show rval false (spanRuns o ++ [(t.from_, max t.to_ s.to_, true)]) y = true ↔ _
        rw [rval_snoc h4, rval_snoc h4]
        by_cases a1 : t.from_ ≤ y ∧ y < t.to_
        · rw [if_pos (by omega), if_pos a1]; simp
        · rw [if_neg a1]
          by_cases a2 : t.from_ ≤ y ∧ y < max t.to_ s.to_
          · rw [if_pos a2]; simp; right; omega
          · rw [if_neg a2]
            constructor
            · exact .inl
            · rintro (h | h)
              · exact h
              · exact absurd (by omega) a2
      · rcases List.mem_append.1 hu with hu | hu
        · exact hle u (by simp [hu])
        · simp at hu; subst hu; exact ht
    · rename_i hm
      rw [spanRuns_append, e]
      have h5 : EndsBy (spanRuns o ++ [(t.from_, t.to_, true)]) s.from_ := by
        intro r hr
        rcases List.mem_append.1 hr with hr | hr
        · have := h4 r hr; omega
        · simp at hr; subst hr; show t.to_ ≤ _; omega
      refine ⟨canon_snoc hc (fun r hr => by simp at hr; subst hr; exact .inl (by show t.to_ < _; omega)) hs (by simp), fun y => ?_, fun u hu => ?_, by simp⟩
      · show rval false ((spanRuns o ++ [(t.from_, t.to_, true)]) ++ [(s.from_, s.to_, true)]) y = true ↔ _
        rw [rval_snoc h5]
        by_cases a1 : s.from_ ≤ y ∧ y < s.to_
        · rw [if_pos a1]; simp [a1]
        · rw [if_neg a1]; simp [a1]
      · rcases List.mem_append.1 hu with hu | hu
        · exact hle u hu
        · simp at hu; subst hu; exact Int.le_refl _
theorem addIv_fold : ∀ (r out : List RegionSpan), Canon false (spanRuns out) → (∀ s ∈ r, s.from_ < s.to_) → r.Pairwise (fun a b => a.from_ ≤ b.from_) → (∀ t ∈ out, ∀ s ∈ r, t.from_ ≤ s.from_) →
    Canon false (spanRuns (r.foldl addIv out)) ∧ (∀ y, rval false (spanRuns (r.foldl addIv out)) y = true ↔ rval false (spanRuns out) y = true ∨ ∃ s ∈ r, s.from_ ≤ y ∧ y < s.to_) ∧ (r.foldl addIv out).length ≤ out.length + r.length
  | [], out, hc, _, _, _ => ⟨hc, fun y => by simp, by simp⟩
  | s :: r, out, hc, hs, hp, hle => by
    obtain ⟨h1, h2, h3, h4⟩ := addIv_spec hc (hs s (by simp)) (fun t ht => hle t ht s (by simp))
    have hp' := List.pairwise_cons.1 hp
    obtain ⟨k1, k2, k3⟩ := addIv_fold r (addIv out s) h1 (fun t ht => hs t (by simp [ht])) hp'.2 (fun t ht u hu => by
      have := h3 t ht; have := hp'.1 u hu; omega)
    refine ⟨k1, fun y => ?_, by simp only [List.foldl_cons, List.length_cons]; omega⟩
    rw [List.foldl_cons, k2, h2]
    simp [or_assoc]

/-! The column of rectangles at x. -/
def colAt (l : List Rect) (x : Int) : List RegionSpan := (l.filter fun r => decide (r.X0 ≤ x) && decide (x < r.X1)).map fun r => ⟨r.Y0, r.Y1⟩
theorem column_L0 {l : List Rect} {x : Int} (hl : l.length ≤ 100000) :
    iterL (region_column_L0 l x) (l.length + 1) (([] : List RegionSpan), 0) = some (.ex 0 (colAt l x, (l.length : Int))) := by
  refine (iter_range (k := 0) (l := l) (fun s i => (s, i)) (fun s r => if (decide (r.X0 ≤ x) && decide (x < r.X1)) then s ++ [⟨r.Y0, r.Y1⟩] else s) (fun i s => s.length ≤ i) ?_ ?_ (Nat.zero_le _) (by omega)).1.trans ?_
  · intro i hi s hI
    constructor
    · unfold region_column_L0
      dsimp only
      rw [if_pos (by simpa using hi), getI_nat hi, Option.bind_some]
      split
      · rw [appI_some (by simp; omega), Option.bind_some, Option.bind_some, addI_one (by omega), Option.bind_some]
      · rw [Option.bind_some, addI_one (by omega), Option.bind_some]
    · split
      · simp; omega
      · omega
  · intro s _
    unfold region_column_L0
    dsimp only
    rw [if_neg (by simp)]
  · rw [foldl_filterMap (fun r : Rect => decide (r.X0 ≤ x) && decide (x < r.X1)) (fun r => (⟨r.Y0, r.Y1⟩ : RegionSpan))]
    rfl
theorem column_L1 {r : List RegionSpan} (hl : r.length ≤ 100000) :
    iterL (region_column_L1 r) (r.length + 1) (([] : List RegionSpan), 0) = some (.ex 2 (r.foldl addIv [], (r.length : Int))) := by
  refine (iter_range (k := 2) (l := r) (fun s i => (s, i)) addIv (fun i s => s.length ≤ i) ?_ ?_ (Nat.zero_le _) (by omega)).1
  · intro i hi s hI
    rcases List.eq_nil_or_concat s with rfl | ⟨o, t, rfl⟩
    · constructor
      · unfold region_column_L1
        dsimp only
        rw [if_pos (by simpa using hi), getI_nat hi, Option.bind_some, if_neg (by simp), Option.bind_some, if_neg (by simp), appI_some (by simp), Option.bind_some, Option.bind_some, addI_one (by omega), Option.bind_some]
        rfl
      · simp [addIv]
    · rw [List.concat_eq_append] at *
      have hol : o.length + 1 ≤ i := by simpa using hI
      constructor
      · unfold region_column_L1
        dsimp only
        rw [if_pos (by simpa using hi), getI_nat hi, Option.bind_some, if_pos (by simp)]
        simp only [subI_len (l := o) (x := t) (by omega), getI_concat (l := o) (x := t) rfl, Option.bind_some]
        by_cases hm : r[i].from_ ≤ t.to_
        · rw [if_pos (by simpa using hm), set_concat (by simp), Option.bind_some, addI_one (by omega), Option.bind_some]
          simp [addIv, hm]
        · rw [if_neg (by simpa using hm), appI_some (by simp; omega), Option.bind_some, Option.bind_some, addI_one (by omega), Option.bind_some]
          simp [addIv, hm]
      · unfold addIv
        simp only [List.getLast?_append, List.getLast?_singleton, Option.some_or, List.dropLast_concat]
        split <;> simp <;> omega
  · intro s _
    unfold region_column_L1
    dsimp only
    rw [if_neg (by simp)]

/-- The canonical column of a list of rectangles at x. -/
structure IsCol (l : List Rect) (x : Int) (c : List RegionSpan) : Prop where
  canon : Canon false (spanRuns c)
  val : ∀ y, rval false (spanRuns c) y = true ↔ cells l x y
  len : c.length ≤ l.length
theorem column_spec {l : List Rect} {x : Int} (hv : ∀ r ∈ l, VR r) (hl : l.length ≤ 100000) : ∃ c, region_column l x = some c ∧ IsCol l x c := by
  have hcl : (colAt l x).length ≤ l.length := by unfold colAt; rw [List.length_map]; exact List.length_filter_le _ _
  obtain ⟨r, hr, hp, hs⟩ := sortSpans_spec (l := colAt l x) (by omega)
  have hrl := hp.length_eq
  have hpos : ∀ s ∈ r, s.from_ < s.to_ := by
    intro s hs
    have := hp.mem_iff.1 hs
    simp only [colAt, List.mem_map, List.mem_filter] at this
    obtain ⟨q, ⟨hq, _⟩, rfl⟩ := this
    exact (hv q hq).2.2.2.2.1
  obtain ⟨h1, h2, h3⟩ := addIv_fold r [] trivial hpos hs (by simp)
  refine ⟨r.foldl addIv [], ?_, h1, fun y => ?_, by simp at h3; omega⟩
  · unfold region_column
    rw [column_L0 hl, Option.bind_some]
    dsimp only
    rw [hr, Option.bind_some, column_L1 (by omega), Option.bind_some]
  · rw [h2]
    simp only [spanRuns, List.map_nil, rval, Bool.false_eq_true, false_or]
    constructor
    · rintro ⟨s, hs, h⟩
      have := hp.mem_iff.1 hs
      simp only [colAt, List.mem_map, List.mem_filter, Bool.and_eq_true, decide_eq_true_eq] at this
      obtain ⟨q, ⟨hq, hx⟩, rfl⟩ := this
      exact ⟨q, hq, hx, h⟩
    · rintro ⟨q, hq, hx, h⟩
      refine ⟨⟨q.Y0, q.Y1⟩, hp.mem_iff.2 ?_, h⟩
      simp only [colAt, List.mem_map, List.mem_filter, Bool.and_eq_true, decide_eq_true_eq]
      exact ⟨q, ⟨hq, hx⟩, rfl⟩
theorem IsCol.unique {l l' : List Rect} {x x' : Int} {c c' : List RegionSpan} (h : IsCol l x c) (h' : IsCol l' x' c') (he : ∀ y, cells l x y ↔ cells l' x' y) : c = c' := by
  refine spanRuns_inj (canon_unique h.canon h'.canon fun y => ?_)
  rw [Bool.eq_iff_iff, h.val, h'.val, he]
end Go.Proofs.Ytmniloampanhfaa
