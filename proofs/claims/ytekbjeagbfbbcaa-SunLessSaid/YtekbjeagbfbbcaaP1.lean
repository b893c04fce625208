/- The plain part of the proof (no program in sight), part 1 -/
import Derived.Test.YtekbjeagbfbbcaaT3
namespace Go.Proofs.Ytekbjeagbfbbcaa
open Go.Gb
set_option linter.unusedVariables false
def slices_EqualFunc_Slab_Slab_Slab_L0 (s1_ : (List Slab)) (s2_ : (List Slab)) (eq_ : (Slab → Slab → Option (Bool))) (s1303 : Int) : Option (Flow (Int) (Bool)) :=
  if (decide (s1303 < (s1_.length : Int))) then
    (getI s1_ s1303).bind fun x1308_1 =>
    (getI s2_ s1303).bind fun x1309_2 =>
    (eq_ x1308_1 x1309_2).bind fun x1310_3 =>
    if (!x1310_3) then
      some (.ret false)
    else
      (addI s1303 1).bind fun x1314_0 =>
      some (.go x1314_0)
  else
    some (.ex 0 s1303)
def slices_EqualFunc_Slab_Slab_Slab (s1_ : (List Slab)) (s2_ : (List Slab)) (eq_ : (Slab → Slab → Option (Bool))) : Option (Bool) :=
  if ((s1_.length : Int) != (s2_.length : Int)) then
    some false
  else
    (iterL (slices_EqualFunc_Slab_Slab_Slab_L0 s1_ s2_ eq_) (s1_.length + 1) 0).bind fun f1327 => match f1327 with
      | .go _ => none
      | .ex _ _ =>
        some true
      | .ret r1332 => some r1332
def solid_Same_1 (x_ : Slab) (y_ : Slab) : Option (Bool) :=
  (if ((x_.Z0 == y_.Z0) && (x_.Z1 == y_.Z1)) then
    (region_Same x_.Area y_.Area).bind fun x1342_17 =>
    some x1342_17
  else
    some false).bind fun x1342_18 =>
  some x1342_18
def solid_Same (a_ : (List Slab)) (b_ : (List Slab)) : Option (Bool) :=
  (slices_EqualFunc_Slab_Slab_Slab a_ b_ solid_Same_1).bind fun x1348_2 =>
  some x1348_2
end Go.Proofs.Ytekbjeagbfbbcaa

namespace Go.Proofs.Ytekbjeagbfbbcaa
open Go.Gb
set_option linter.unusedVariables false
set_option linter.unusedSimpArgs false
set_option linter.unusedSectionVars false
set_option linter.unusedVariables false
set_option linter.unusedSimpArgs false

/-- The cell (x, y) is in the rectangle. -/
def rin (r : Rect) (x y : Int) : Prop := (r.X0 ≤ x ∧ x < r.X1) ∧ r.Y0 ≤ y ∧ y < r.Y1
instance (r : Rect) (x y : Int) : Decidable (rin r x y) := inferInstanceAs (Decidable (_ ∧ _))
def cells (l : List Rect) (x y : Int) : Prop := ∃ r ∈ l, rin r x y
def VR (r : Rect) : Prop := 0 ≤ r.X0 ∧ r.X0 < r.X1 ∧ r.X1 ≤ 1048576 ∧ 0 ≤ r.Y0 ∧ r.Y0 < r.Y1 ∧ r.Y1 ≤ 1048576
instance (r : Rect) : Decidable (VR r) := inferInstanceAs (Decidable (_ ∧ _))
abbrev Col := Runs Bool
def spanRuns (l : List RegionSpan) : Col := l.map fun s => (s.from_, s.to_, true)
theorem spanRuns_append (a b : List RegionSpan) : spanRuns (a ++ b) = spanRuns a ++ spanRuns b := List.map_append
theorem spanRuns_inj : ∀ {a b : List RegionSpan}, spanRuns a = spanRuns b → a = b
  | [], [], _ => rfl
  | [], _ :: _, h => by simp [spanRuns] at h
  | _ :: _, [], h => by simp [spanRuns] at h
  | ⟨f, t⟩ :: a, ⟨f', t'⟩ :: b, h => by
    simp only [spanRuns, List.map_cons, List.cons.injEq, Prod.mk.injEq] at h
    obtain ⟨⟨rfl, rfl, _⟩, h⟩ := h
    rw [spanRuns_inj (a := a) (b := b) h]
theorem rect_Right_eq (r : Rect) : rect_Right r = some (decide (VR r)) := by
  unfold rect_Right
  congr 1
  rw [Bool.eq_iff_iff, decide_eq_true_iff]
  simp only [Bool.and_eq_true, decide_eq_true_eq]
  unfold VR
  constructor
  · rintro ⟨⟨⟨⟨⟨h1, h2⟩, h3⟩, h4⟩, h5⟩, h6⟩; exact ⟨h1, h2, h3, h4, h5, h6⟩
  · rintro ⟨h1, h2, h3, h4, h5, h6⟩; exact ⟨⟨⟨⟨⟨h1, h2⟩, h3⟩, h4⟩, h5⟩, h6⟩

/-! Merging intervals in the order of their beginnings. -/
def addIv (out : List RegionSpan) (s : RegionSpan) : List RegionSpan :=
  match out.getLast? with
  | some t => if s.from_ ≤ t.to_ then out.dropLast ++ [⟨t.from_, max t.to_ s.to_⟩] else out ++ [s]
  | none => [s]
theorem addIv_spec {out : List RegionSpan} {s : RegionSpan} (hc : Canon false (spanRuns out)) (hs : s.from_ < s.to_) (hle : ∀ t ∈ out, t.from_ ≤ s.from_) :
    Canon false (spanRuns (addIv out s)) ∧ (∀ y, rval false (spanRuns (addIv out s)) y = true ↔ rval false (spanRuns out) y = true ∨ (s.from_ ≤ y ∧ y < s.to_)) ∧
    (∀ t ∈ addIv out s, t.from_ ≤ s.from_) ∧ (addIv out s).length ≤ out.length + 1 := by
  rcases List.eq_nil_or_concat out with rfl | ⟨o, t, rfl⟩
  · refine ⟨⟨hs, by simp, trivial, trivial⟩, fun y => ?_, fun t ht => by simp [addIv] at ht; subst ht; exact Int.le_refl _, by simp [addIv]⟩
    simp [addIv, spanRuns, rval]
  · rw [List.concat_eq_append] at *
    have ht := hle t (by simp)
    have e : spanRuns (o ++ [t]) = spanRuns o ++ [(t.from_, t.to_, true)] := by simp [spanRuns]
    rw [e] at hc ⊢
    obtain ⟨h1, h2, h3⟩ := canon_last hc
    have h4 := canon_ends hc
    unfold addIv
    simp only [List.getLast?_append, List.getLast?_singleton, Option.some_or, List.dropLast_concat]
    split
    · rename_i hm
      rw [spanRuns_append]
      refine ⟨canon_snoc (canon_prefix hc) h3 (show t.from_ < max t.to_ s.to_ by omega) (by simp), fun y => ?_, fun u hu => ?_, by simp⟩
      · show rval false (spanRuns o ++ [(t.from_, max t.to_ s.to_, true)]) y = true ↔ _
        rw [rval_snoc h4, rval_snoc h4]
        by_cases a1 : t.from_ ≤ y ∧ y < t.to_
        · rw [if_pos (by omega), if_pos a1]; simp
        · rw [if_neg a1]
          by_cases a2 : t.from_ ≤ y ∧ y < max t.to_ s.to_
          · rw [if_pos a2]; simp; right; omega
          · rw [if_neg a2]
            constructor
            · exact .inl
            · rintro (h | h)
              · exact h
              · exact absurd (by omega) a2
      · rcases List.mem_append.1 hu with hu | hu
        · exact hle u (by simp [hu])
        · simp at hu; subst hu; exact ht
    · rename_i hm
      rw [spanRuns_append, e]
      have h5 : EndsBy (spanRuns o ++ [(t.from_, t.to_, true)]) s.from_ := by
        intro r hr
        rcases List.mem_append.1 hr with hr | hr
        · have := h4 r hr; omega
        · simp at hr; subst hr; show t.to_ ≤ _; omega
      refine ⟨canon_snoc hc (fun r hr => by simp at hr; subst hr; exact .inl (by show t.to_ < _; omega)) hs (by simp), fun y => ?_, fun u hu => ?_, by simp⟩
      · show rval false ((spanRuns o ++ [(t.from_, t.to_, true)]) ++ [(s.from_, s.to_, true)]) y = true ↔ _
        rw [rval_snoc h5]
        by_cases a1 : s.from_ ≤ y ∧ y < s.to_
        · rw [if_pos a1]; simp [a1]
        · rw [if_neg a1]; simp [a1]
      · rcases List.mem_append.1 hu with hu | hu
        · exact hle u hu
        · simp at hu; subst hu; exact Int.le_refl _
theorem addIv_fold : ∀ (r out : List RegionSpan), Canon false (spanRuns out) → (∀ s ∈ r, s.from_ < s.to_) → r.Pairwise (fun a b => a.from_ ≤ b.from_) → (∀ t ∈ out, ∀ s ∈ r, t.from_ ≤ s.from_) →
    Canon false (spanRuns (r.foldl addIv out)) ∧ (∀ y, rval false (spanRuns (r.foldl addIv out)) y = true ↔ rval false (spanRuns out) y = true ∨ ∃ s ∈ r, s.from_ ≤ y ∧ y < s.to_) ∧ (r.foldl addIv out).length ≤ out.length + r.length
  | [], out, hc, _, _, _ => ⟨hc, fun y => by simp, by simp⟩
  | s :: r, out, hc, hs, hp, hle => by
    obtain ⟨h1, h2, h3, h4⟩ := addIv_spec hc (hs s (by simp)) (fun t ht => hle t ht s (by simp))
    have hp' := List.pairwise_cons.1 hp
    obtain ⟨k1, k2, k3⟩ := addIv_fold r (addIv out s) h1 (fun t ht => hs t (by simp [ht])) hp'.2 (fun t ht u hu => by
      have := h3 t ht; have := hp'.1 u hu; omega)
    refine ⟨k1, fun y => ?_, by simp only [List.foldl_cons, List.length_cons]; omega⟩
    rw [List.foldl_cons, k2, h2]
    simp [or_assoc]

/-! The column of rectangles at x. -/
def colAt (l : List Rect) (x : Int) : List RegionSpan := (l.filter fun r => decide (r.X0 ≤ x) && decide (x < r.X1)).map fun r => ⟨r.Y0, r.Y1⟩
theorem column_L0 {l : List Rect} {x : Int} (hl : l.length ≤ 100000) :
    iterL (region_column_L0 l x) (l.length + 1) (([] : List RegionSpan), 0) = some (.ex 0 (colAt l x, (l.length : Int))) := by
  refine (iter_range (k := 0) (l := l) (fun s i => (s, i)) (fun s r => if (decide (r.X0 ≤ x) && decide (x < r.X1)) then s ++ [⟨r.Y0, r.Y1⟩] else s) (fun i s => s.length ≤ i) ?_ ?_ (Nat.zero_le _) (by omega)).1.trans ?_
  · intro i hi s hI
    constructor
    · unfold region_column_L0
      dsimp only
      rw [if_pos (by simpa using hi), getI_nat hi, Option.bind_some]
      split
      · rw [appI_some (by simp; omega), Option.bind_some, Option.bind_some, addI_one (by omega), Option.bind_some]
      · rw [Option.bind_some, addI_one (by omega), Option.bind_some]
    · split
      · simp; omega
      · omega
  · intro s _
    unfold region_column_L0
    dsimp only
    rw [if_neg (by simp)]
  · rw [foldl_filterMap (fun r : Rect => decide (r.X0 ≤ x) && decide (x < r.X1)) (fun r => (⟨r.Y0, r.Y1⟩ : RegionSpan))]
    rfl
theorem column_L1 {r : List RegionSpan} (hl : r.length ≤ 100000) :
    iterL (region_column_L1 r) (r.length + 1) (([] : List RegionSpan), 0) = some (.ex 2 (r.foldl addIv [], (r.length : Int))) := by
  refine (iter_range (k := 2) (l := r) (fun s i => (s, i)) addIv (fun i s => s.length ≤ i) ?_ ?_ (Nat.zero_le _) (by omega)).1
  · intro i hi s hI
    rcases List.eq_nil_or_concat s with rfl | ⟨o, t, rfl⟩
    · constructor
      · unfold region_column_L1
        dsimp only
        rw [if_pos (by simpa using hi), getI_nat hi, Option.bind_some, if_neg (by simp), Option.bind_some, if_neg (by simp), appI_some (by simp), Option.bind_some, Option.bind_some, addI_one (by omega), Option.bind_some]
        rfl
      · simp [addIv]
    · rw [List.concat_eq_append] at *
      have hol : o.length + 1 ≤ i := by simpa using hI
      constructor
      · unfold region_column_L1
        dsimp only
        rw [if_pos (by simpa using hi), getI_nat hi, Option.bind_some, if_pos (by simp)]
        simp only [subI_len (l := o) (x := t) (by omega), getI_concat (l := o) (x := t) rfl, Option.bind_some]
        by_cases hm : r[i].from_ ≤ t.to_
        · rw [if_pos (by simpa using hm), set_concat (by simp), Option.bind_some, addI_one (by omega), Option.bind_some]
          simp [addIv, hm]
        · rw [if_neg (by simpa using hm), appI_some (by simp; omega), Option.bind_some, Option.bind_some, addI_one (by omega), Option.bind_some]
          simp [addIv, hm]
      · unfold addIv
        simp only [List.getLast?_append, List.getLast?_singleton, Option.some_or, List.dropLast_concat]
        split <;> simp <;> omega
  · intro s _
    unfold region_column_L1
    dsimp only
    rw [if_neg (by simp)]

/-- The canonical column of a list of rectangles at x. -/
structure IsCol (l : List Rect) (x : Int) (c : List RegionSpan) : Prop where
  canon : Canon false (spanRuns c)
  val : ∀ y, rval false (spanRuns c) y = true ↔ cells l x y
  len : c.length ≤ l.length
theorem column_spec {l : List Rect} {x : Int} (hv : ∀ r ∈ l, VR r) (hl : l.length ≤ 100000) : ∃ c, region_column l x = some c ∧ IsCol l x c := by
  have hcl : (colAt l x).length ≤ l.length := by unfold colAt; rw [List.length_map]; exact List.length_filter_le _ _
  obtain ⟨r, hr, hp, hs⟩ := sortSpans_spec (l := colAt l x) (by omega)
  have hrl := hp.length_eq
  have hpos : ∀ s ∈ r, s.from_ < s.to_ := by
    intro s hs
    have := hp.mem_iff.1 hs
    simp only [colAt, List.mem_map, List.mem_filter] at this
    obtain ⟨q, ⟨hq, _⟩, rfl⟩ := this
    exact (hv q hq).2.2.2.2.1
  obtain ⟨h1, h2, h3⟩ := addIv_fold r [] trivial hpos hs (by simp)
  refine ⟨r.foldl addIv [], ?_, h1, fun y => ?_, by simp at h3; omega⟩
  · unfold region_column
    rw [column_L0 hl, Option.bind_some]
    dsimp only
    rw [hr, Option.bind_some, column_L1 (by omega), Option.bind_some]
  · rw [h2]
    simp only [spanRuns, List.map_nil, rval, Bool.false_eq_true, false_or]
    constructor
    · rintro ⟨s, hs, h⟩
      have := hp.mem_iff.1 hs
      simp only [colAt, List.mem_map, List.mem_filter, Bool.and_eq_true, decide_eq_true_eq] at this
      obtain ⟨q, ⟨hq, hx⟩, rfl⟩ := this
      exact ⟨q, hq, hx, h⟩
    · rintro ⟨q, hq, hx, h⟩
      refine ⟨⟨q.Y0, q.Y1⟩, hp.mem_iff.2 ?_, h⟩
      simp only [colAt, List.mem_map, List.mem_filter, Bool.and_eq_true, decide_eq_true_eq]
      exact ⟨q, ⟨hq, hx⟩, rfl⟩
theorem IsCol.unique {l l' : List Rect} {x x' : Int} {c c' : List RegionSpan} (h : IsCol l x c) (h' : IsCol l' x' c') (he : ∀ y, cells l x y ↔ cells l' x' y) : c = c' := by
  refine spanRuns_inj (canon_unique h.canon h'.canon fun y => ?_)
  rw [Bool.eq_iff_iff, h.val, h'.val, he]
end Go.Proofs.Ytekbjeagbfbbcaa

namespace Go.Proofs.Ytekbjeagbfbbcaa
open Go.Gb
set_option linter.unusedVariables false
set_option linter.unusedSimpArgs false
set_option linter.unusedSectionVars false
set_option linter.unusedVariables false
set_option linter.unusedSimpArgs false

/-! The list of rectangles that runs of columns stand for. -/
def flatG (G : Runs Col) : List Rect := G.flatMap fun g => g.2.2.map fun s => ⟨g.1, s.1, g.2.1, s.2.1⟩
theorem flatG_append (G H : Runs Col) : flatG (G ++ H) = flatG G ++ flatG H := List.flatMap_append
theorem flatG_one (a b : Int) (c : List RegionSpan) : flatG [(a, b, spanRuns c)] = c.map fun s => ⟨a, s.from_, b, s.to_⟩ := by
  simp [flatG, spanRuns]
/-- The list is the form of the set of cells. -/
def IsForm (S : Int → Int → Prop) (out : List Rect) : Prop :=
  ∃ G : Runs Col, Canon [] G ∧ (∀ a b c, (a, b, c) ∈ G → Canon false c) ∧ (∀ x y, rval false (rval [] G x) y = true ↔ S x y) ∧ out = flatG G
theorem canon_at {G : Runs Col} (h : ∀ a b c, (a, b, c) ∈ G → Canon false c) (x : Int) : Canon false (rval [] G x) := by
  rcases rval_mem (e := []) (l := G) (x := x) with h1 | ⟨a, b, h1, _⟩
  · rw [h1]; trivial
  · exact h _ _ _ h1
theorem IsForm.unique {S S' : Int → Int → Prop} {out out' : List Rect} (h : IsForm S out) (h' : IsForm S' out') (he : ∀ x y, S x y ↔ S' x y) : out = out' := by
  obtain ⟨G, h1, h2, h3, rfl⟩ := h
  obtain ⟨G', k1, k2, k3, rfl⟩ := h'
  rw [canon_unique h1 k1 fun x => canon_unique (canon_at h2 x) (canon_at k2 x) fun y => ?_]
  rw [Bool.eq_iff_iff, h3, k3, he]
theorem IsForm.congr {S S' : Int → Int → Prop} {out : List Rect} (h : IsForm S out) (he : ∀ x y, S x y ↔ S' x y) : IsForm S' out := by
  obtain ⟨G, h1, h2, h3, rfl⟩ := h
  exact ⟨G, h1, h2, fun x y => (h3 x y).trans (he x y), rfl⟩
/-- The form has the cells of the set. -/
theorem rval_true_mem {c : Col} {y : Int} : rval false c y = true → ∃ a b, (a, b, true) ∈ c ∧ a ≤ y ∧ y < b := by
  intro h
  rcases rval_mem (e := false) (l := c) (x := y) with h1 | ⟨a, b, h1, h2⟩
  · rw [h] at h1; simp at h1
  · rw [h] at h1; exact ⟨a, b, h1, h2⟩
theorem IsForm.cells {S : Int → Int → Prop} {out : List Rect} (h : IsForm S out) (x y : Int) : cells out x y ↔ S x y := by
  obtain ⟨G, h1, h2, h3, rfl⟩ := h
  rw [← h3]
  constructor
  · rintro ⟨r, hr, hx, hy⟩
    simp only [flatG, List.mem_flatMap, List.mem_map] at hr
    obtain ⟨⟨a, b, c⟩, hg, ⟨f, t, v⟩, hs, rfl⟩ := hr
    have hc := h2 a b c hg
    have hv : v = true := by
      have := (canon_mem hc hs).2
      cases v <;> simp_all
    subst hv
    rw [rval_of_mem h1 hg hx.1 hx.2]
    exact rval_of_mem hc hs hy.1 hy.2
  · intro h
    obtain ⟨f, t, hs, hy1, hy2⟩ := rval_true_mem h
    rcases rval_mem (e := []) (l := G) (x := x) with h4 | ⟨a, b, h4, h5⟩
    · rw [h4] at hs; simp at hs
    · refine ⟨⟨a, f, b, t⟩, ?_, h5, hy1, hy2⟩
      simp only [flatG, List.mem_flatMap, List.mem_map]
      exact ⟨_, h4, _, hs, rfl⟩
theorem IsForm.self {S : Int → Int → Prop} {out : List Rect} (h : IsForm S out) : IsForm (Ytekbjeagbfbbcaa.cells out) out := h.congr fun x y => (h.cells x y).symm
theorem form_rect {S : Int → Int → Prop} {out : List Rect} (h : IsForm S out) : ∀ r ∈ out, r.X0 < r.X1 ∧ r.Y0 < r.Y1 := by
  obtain ⟨G, h1, h2, h3, rfl⟩ := h
  intro r hr
  simp only [flatG, List.mem_flatMap, List.mem_map] at hr
  obtain ⟨⟨a, b, c⟩, hg, ⟨f, t, v⟩, hs, rfl⟩ := hr
  exact ⟨(canon_mem h1 hg).1, (canon_mem (h2 a b c hg) hs).1⟩
theorem form_nil : IsForm (fun _ _ => False) [] := ⟨[], trivial, by simp, by simp [rval], rfl⟩

/-! Strips -/
def stripRuns (l : List RegionStrip) : Runs Col := l.map fun s => (s.x0, s.x1, spanRuns s.column)
/-- Strips without gaps, of canonical columns. -/
structure Gapless (l : List RegionStrip) : Prop where
  pos : ∀ s ∈ l, s.x0 < s.x1
  next : ∀ i (h : i + 1 < l.length), (l[i]'(by omega)).x1 = l[i + 1].x0
  col : ∀ s ∈ l, Canon false (spanRuns s.column)

theorem equal_span_L0 {a b : List RegionSpan} (hl : a.length = b.length) (hb : a.length ≤ 1000000) :
    ∃ f, iterL (slices_Equal_span_L0 a b) (a.length + 1) 0 = some f ∧ ((a = b ∧ ∃ s, f = .ex 0 s) ∨ (a ≠ b ∧ f = .ret false)) := by
  have hs : ∀ i (hi : i < (a.zip b).length), ((a.zip b)[i].1 ≠ (a.zip b)[i].2 ∧ slices_Equal_span_L0 a b (i : Int) = some (.ret false)) ∨
      (¬ ((a.zip b)[i].1 ≠ (a.zip b)[i].2) ∧ slices_Equal_span_L0 a b (i : Int) = some (.go ((i + 1 : Nat) : Int))) := by
    intro i hi
    simp only [List.length_zip] at hi
    have h1 : i < a.length := by omega
    have h2 : i < b.length := by omega
    unfold slices_Equal_span_L0
    rw [if_pos (by simpa using h1)]
    simp only [getI_nat h1, getI_nat h2, Option.bind_some, List.getElem_zip]
    by_cases he : a[i] = b[i]
    · right
      rw [if_neg (by simpa using he)]
      simp only [addI_one (show i < 4611686018427387904 by omega), Option.bind_some]
      exact ⟨by simpa using he, trivial⟩
    · left
      rw [if_pos (by simpa using he)]
      exact ⟨he, rfl⟩
  have hd : slices_Equal_span_L0 a b ((a.zip b).length : Int) = some (.ex 0 ((a.zip b).length : Int)) := by
    have e : ((a.zip b).length : Int) = (a.length : Int) := by simp; omega
    rw [e]
    unfold slices_Equal_span_L0
    rw [if_neg (by simp)]
  rcases iter_find (l := a.zip b) (body := slices_Equal_span_L0 a b) (k := 0) (fun p => p.1 ≠ p.2) (fun _ => false) hs hd (fuel := a.length + 1) (by simp; omega) with ⟨i, hi, hp, _, h⟩ | ⟨hp, h⟩
  · refine ⟨_, h, .inr ⟨fun e => ?_, rfl⟩⟩
    subst e
    simp at hp
  · refine ⟨_, h, .inl ⟨?_, _, rfl⟩⟩
    refine List.ext_getElem hl fun i h1 h2 => ?_
    have := hp (a[i], b[i]) (by
      rw [List.mem_iff_getElem]
      exact ⟨i, by simp; omega, by simp⟩)
    simpa using this
theorem equal_span {a b : List RegionSpan} (hb : a.length ≤ 1000000) : slices_Equal_span a b = some (decide (a = b)) := by
  unfold slices_Equal_span
  by_cases hl : a.length = b.length
  · rw [if_neg (by simp [hl])]
    obtain ⟨f, hf, h⟩ := equal_span_L0 hl hb
    rw [hf, Option.bind_some]
    rcases h with ⟨h1, s, rfl⟩ | ⟨h1, rfl⟩ <;> simp [h1]
  · rw [if_pos (by simp; omega)]
    congr 1
    symm
    rw [decide_eq_false_iff_not]
    intro e; exact hl (by rw [e])

theorem ends_take {l : List RegionStrip} (h : Gapless l) : ∀ i (hi : i < l.length), EndsBy (stripRuns (l.take i)) l[i].x0
  | 0, _ => by intro r hr; simp [stripRuns] at hr
  | i + 1, hi => by
    have ih := ends_take h i (by omega)
    have hp := h.pos l[i] (List.getElem_mem _)
    have hn := h.next i hi
    intro r hr
    rw [List.take_succ_eq_append_getElem (by omega)] at hr
    simp only [stripRuns, List.map_append, List.map_cons, List.map_nil, List.mem_append, List.mem_singleton] at hr
    rcases hr with hr | hr
    · have := ih r hr; omega
    · subst hr; show (l[i]'(by omega)).x1 ≤ _; omega
theorem rval_take {l : List RegionStrip} (h : Gapless l) {i : Nat} (hi : i < l.length) (x : Int) :
    rval [] (stripRuns (l.take (i + 1))) x = if l[i].x0 ≤ x ∧ x < l[i].x1 then spanRuns l[i].column else rval [] (stripRuns (l.take i)) x := by
  rw [List.take_succ_eq_append_getElem hi]
  simp only [stripRuns, List.map_append, List.map_cons, List.map_nil]
  exact rval_snoc (ends_take h i hi) x

/-- The end of the strips from i on whose columns are that of strip i. -/
theorem write_L1 {l : List RegionStrip} (h : Gapless l) (hl : l.length ≤ 100000) (hc : ∀ s ∈ l, s.column.length ≤ 1000000) {i : Nat} (hi : i < l.length) (s : List Rect) {fuel : Nat} (hf : l.length < fuel) :
    ∃ k : Nat, iterL (region_write_L1 l (s, (i : Int))) fuel ((i + 1 : Nat) : Int) = some (.ex 2 (k : Int)) ∧ ∃ (hik : i < k) (hk : k ≤ l.length),
      (∀ x, rval [] (stripRuns (l.take k)) x = if l[i].x0 ≤ x ∧ x < (l[k - 1]'(by omega)).x1 then spanRuns l[i].column else rval [] (stripRuns (l.take i)) x) ∧
      (∀ hk' : k < l.length, l[k].column ≠ l[i].column) := by
  have key : ∀ m j, j + m = l.length → ∀ (hij : i < j) (hj : j ≤ l.length),
      (∀ x, rval [] (stripRuns (l.take j)) x = if l[i].x0 ≤ x ∧ x < (l[j - 1]'(by omega)).x1 then spanRuns l[i].column else rval [] (stripRuns (l.take i)) x) → ∀ fuel, m < fuel →
      ∃ k : Nat, iterL (region_write_L1 l (s, (i : Int))) fuel (j : Int) = some (.ex 2 (k : Int)) ∧ ∃ (hik : i < k) (hk : k ≤ l.length),
      (∀ x, rval [] (stripRuns (l.take k)) x = if l[i].x0 ≤ x ∧ x < (l[k - 1]'(by omega)).x1 then spanRuns l[i].column else rval [] (stripRuns (l.take i)) x) ∧
      (∀ hk' : k < l.length, l[k].column ≠ l[i].column) := by
    intro m
    induction m with
    | zero =>
      intro j hjm hij hj hr fuel hf
      obtain ⟨fuel, rfl⟩ : ∃ m, fuel = m + 1 := ⟨fuel - 1, by omega⟩
      refine ⟨j, ?_, hij, hj, hr, fun hk' => absurd hk' (by omega)⟩
      have e : region_write_L1 l (s, (i : Int)) (j : Int) = some (.ex 2 (j : Int)) := by
        unfold region_write_L1
        dsimp only
        rw [if_neg (by simp; omega), Option.bind_some, if_neg (by simp)]
      simp only [iterL, e]
    | succ m ih =>
      intro j hjm hij hj hr fuel hf
      obtain ⟨fuel, rfl⟩ : ∃ m, fuel = m + 1 := ⟨fuel - 1, by omega⟩
      have hjl : j < l.length := by omega
      by_cases he : l[j].column = l[i].column
      · have e : region_write_L1 l (s, (i : Int)) (j : Int) = some (.go ((j + 1 : Nat) : Int)) := by
          unfold region_write_L1
          dsimp only
          rw [if_pos (by simp; omega)]
          simp only [getI_nat hjl, getI_nat hi, Option.bind_some, equal_span (hc _ (List.getElem_mem hjl))]
          rw [if_pos (by simpa using he), addI_one (by omega), Option.bind_some]
        simp only [iterL, e]
        refine ih (j + 1) (by omega) (by omega) (by omega) (fun x => ?_) fuel (by omega)
        rw [rval_take h hjl, hr x, he]
        have hn : (l[j - 1]'(by omega)).x1 = l[j].x0 := by
          have := h.next (j - 1) (by omega)
          rw [this]; congr 2; omega
        have hp := h.pos l[j] (List.getElem_mem _)
        have hlo : ∀ q (hq : q < l.length), i ≤ q → l[i].x0 ≤ l[q].x0 := by
          intro q
          induction q with
          | zero => intro hq hiq; have : i = 0 := by omega
                    subst this; exact Int.le_refl _
          | succ q ihq =>
            intro hq hiq
            rcases Nat.lt_or_ge q i with h' | h'
            · have : i = q + 1 := by omega
              subst this; exact Int.le_refl _
            · have := ihq (by omega) h'
              have h2 := h.pos (l[q]'(by omega)) (List.getElem_mem _)
              have h3 := h.next q hq
              omega
        have := hlo j hjl (by omega)
        have e2 : (l[j + 1 - 1]'(by omega)) = l[j] := by congr 1
        rw [e2]
        by_cases c1 : l[j].x0 ≤ x ∧ x < l[j].x1
        · rw [if_pos c1, if_pos (by omega)]
        · rw [if_neg c1]
          by_cases c2 : l[i].x0 ≤ x ∧ x < (l[j - 1]'(by omega)).x1
          · rw [if_pos c2, if_pos (by omega)]
          · rw [if_neg c2, if_neg (by omega)]
      · refine ⟨j, ?_, hij, hj, hr, fun _ => he⟩
        have e : region_write_L1 l (s, (i : Int)) (j : Int) = some (.ex 2 (j : Int)) := by
          unfold region_write_L1
          dsimp only
          rw [if_pos (by simp; omega)]
          simp only [getI_nat hjl, getI_nat hi, Option.bind_some, equal_span (hc _ (List.getElem_mem hjl))]
          rw [if_neg (by simpa using he)]
        simp only [iterL, e]
  exact key (l.length - (i + 1)) (i + 1) (by omega) (by omega) (by omega) (fun x => by
    rw [rval_take h hi]
    have e2 : (l[i + 1 - 1]'(by omega)) = l[i] := by congr 1
    rw [e2]) fuel (by omega)
end Go.Proofs.Ytekbjeagbfbbcaa

namespace Go.Proofs.Ytekbjeagbfbbcaa
open Go.Gb
set_option linter.unusedVariables false
set_option linter.unusedSimpArgs false
set_option linter.unusedSectionVars false
set_option linter.unusedVariables false
set_option linter.unusedSimpArgs false

theorem rval_past {V : Type} {e : V} : ∀ {l : Runs V} {n x : Int}, EndsBy l n → n ≤ x → rval e l x = e
  | [], _, _, _, _ => rfl
  | (a, b, v) :: t, n, x, h, hx => by
    have := h (a, b, v) (by simp)
    simp only at this
    simp only [rval]
    rw [if_neg (by omega)]
    exact rval_past (fun r hr => h r (List.mem_cons_of_mem _ hr)) hx
theorem gapless_lo {l : List RegionStrip} (h : Gapless l) {i : Nat} (hi : i < l.length) : ∀ q (hq : q < l.length), i ≤ q → l[i].x0 ≤ l[q].x0
  | 0, hq, hiq => by have : i = 0 := by omega
                     subst this; exact Int.le_refl _
  | q + 1, hq, hiq => by
    rcases Nat.lt_or_ge q i with h' | h'
    · have : i = q + 1 := by omega
      subst this; exact Int.le_refl _
    · have := gapless_lo h hi q (by omega) h'
      have h2 := h.pos (l[q]'(by omega)) (List.getElem_mem _)
      have h3 := h.next q hq
      omega

theorem write_L2 {l : List RegionStrip} {i k : Nat} (hi : i < l.length) (hik : i < k) (hk : k ≤ l.length) (hl : l.length ≤ 100000) (hc : l[i].column.length ≤ 1000) (s : List Rect) {out : List Rect} (ho : out.length ≤ 1000000000) :
    iterL (region_write_L2 l (s, (i : Int)) (k : Int) l[i]) (l[i].column.length + 1) (out, 0) =
      some (.ex 4 (out ++ l[i].column.map fun s => ⟨l[i].x0, s.from_, (l[k - 1]'(by omega)).x1, s.to_⟩, (l[i].column.length : Int))) := by
  refine (iter_range (k := 4) (l := l[i].column) (fun s i => (s, i)) (fun o s => o ++ [⟨l[i].x0, s.from_, (l[k - 1]'(by omega)).x1, s.to_⟩]) (fun j o => o.length ≤ 1000000000 + j) ?_ ?_ (by omega) (by omega)).1.trans ?_
  · intro j hj o hI
    constructor
    · unfold region_write_L2
      dsimp only
      rw [if_pos (by simpa using hj), getI_nat hj, Option.bind_some, getI_nat hi, Option.bind_some]
      simp only [subI_nat (show 0 < k by omega) (by omega), Option.bind_some, getI_nat (show k - 1 < l.length by omega)]
      rw [appI_some (by simp; omega), Option.bind_some, addI_one (by omega), Option.bind_some]
    · simp; omega
  · intro o _
    unfold region_write_L2
    dsimp only
    rw [if_neg (by simp)]
  · rw [foldl_flatMap (fun s : RegionSpan => [(⟨l[i].x0, s.from_, (l[k - 1]'(by omega)).x1, s.to_⟩ : Rect)])]
    simp [List.flatMap_singleton']
    rw [List.map_eq_flatMap]

theorem write_spec {l : List RegionStrip} (h : Gapless l) (hl : l.length ≤ 100000) (hc : ∀ s ∈ l, s.column.length ≤ 1000) :
    ∃ out, region_write l = some out ∧ ∃ G : Runs Col, Canon [] G ∧ (∀ a b c, (a, b, c) ∈ G → Canon false c) ∧ (∀ x, rval [] G x = rval [] (stripRuns l) x) ∧ out = flatG G := by
  refine Exists.elim (loop_down (body := region_write_L0 l) (fun s => ∃ (i : Nat) (G : Runs Col), s.2 = (i : Int) ∧ i ≤ l.length ∧ s.1 = flatG G ∧ Canon [] G ∧ (∀ a b c, (a, b, c) ∈ G → Canon false c) ∧
      (∀ x, rval [] G x = rval [] (stripRuns (l.take i)) x) ∧ (∀ hi : i < l.length, EndsBy G l[i].x0 ∧ Lst G l[i].x0 (spanRuns l[i].column)) ∧ s.1.length ≤ 1000 * i)
    (fun s => l.length - s.2.toNat) (fun f => ∃ s G, f = .ex 0 s ∧ s.1 = flatG G ∧ Canon [] G ∧ (∀ a b c, (a, b, c) ∈ G → Canon false c) ∧ (∀ x, rval [] G x = rval [] (stripRuns l) x)) ?_
    (([] : List Rect), 0) ⟨0, [], rfl, Nat.zero_le _, rfl, trivial, by simp, fun x => by simp [stripRuns], fun _ => ⟨fun r hr => by simp at hr, fun r hr => by simp at hr⟩, by simp⟩ (l.length + ([] : List Rect).length + 1) (by simp)) ?_
  · rintro ⟨out, _⟩ ⟨i, G, rfl, hil, rfl, hG, hGc, hv, hE, hlen⟩
    dsimp only at *
    rcases Nat.lt_or_ge i l.length with hi | hi
    · left
      obtain ⟨k, hk, hik, hkl, hkv, hkn⟩ := write_L1 h hl (fun s hs => by have := hc s hs; omega) hi (flatG G) (fuel := l.length + (flatG G).length + 1) (by omega)
      have h2 := write_L2 hi hik hkl hl (hc _ (List.getElem_mem hi)) (flatG G) (out := flatG G) (by omega)
      obtain ⟨hE1, hE2⟩ := hE hi
      have hpos : l[i].x0 < (l[k - 1]'(by omega)).x1 := by
        have := gapless_lo h hi (k - 1) (by omega) (by omega)
        have := h.pos (l[k - 1]'(by omega)) (List.getElem_mem _)
        omega
      refine ⟨(flatG G ++ l[i].column.map fun s => ⟨l[i].x0, s.from_, (l[k - 1]'(by omega)).x1, s.to_⟩, (k : Int)), ?_, ?_, ?_⟩
      · unfold region_write_L0
        dsimp only
        rw [if_pos (by simpa using hi), addI_one (by omega), Option.bind_some, hk, Option.bind_some]
        dsimp only
        rw [getI_nat hi, Option.bind_some, h2, Option.bind_some]
      · have hlen' : (flatG G ++ l[i].column.map fun s => (⟨l[i].x0, s.from_, (l[k - 1]'(by omega)).x1, s.to_⟩ : Rect)).length ≤ 1000 * k := by
          have := hc _ (List.getElem_mem hi)
          simp; omega
        have hx : ∀ hk' : k < l.length, (l[k - 1]'(by omega)).x1 = l[k].x0 := fun hk' => by
          have := h.next (k - 1) (by omega)
          rw [this]; congr 2; omega
        by_cases hcol : l[i].column = []
        · refine ⟨k, G, rfl, hkl, by simp [hcol], hG, hGc, fun x => ?_, fun hk' => ⟨fun r hr => ?_, fun r hr => ?_⟩, hlen'⟩
          · rw [hkv, hv]
            split
            · rename_i hx
              rw [hcol, ← hv, rval_past hE1 hx.1]; rfl
            · rfl
          · have := hE1 r hr; have := hx hk'; omega
          · have := hE1 r (List.mem_of_getLast? hr); have := hx hk'; exact .inl (by omega)
        · have hne : spanRuns l[i].column ≠ [] := fun e => hcol (spanRuns_inj (b := []) e)
          refine ⟨k, G ++ [(l[i].x0, (l[k - 1]'(by omega)).x1, spanRuns l[i].column)], rfl, hkl, ?_, canon_snoc hG hE2 hpos hne, ?_, fun x => ?_, fun hk' => ⟨fun r hr => ?_, fun r hr => ?_⟩, hlen'⟩
          · rw [flatG_append, flatG_one]
          · intro a b c hm
            rcases List.mem_append.1 hm with hm | hm
            · exact hGc a b c hm
            · simp only [List.mem_singleton, Prod.mk.injEq] at hm
              rw [hm.2.2]
              exact h.col _ (List.getElem_mem hi)
          · rw [rval_snoc hE1, hkv, hv]
          · have := hx hk'
            rcases List.mem_append.1 hr with hr | hr
            · have := hE1 r hr; omega
            · simp only [List.mem_singleton] at hr; subst hr; show (l[k - 1]'(by omega)).x1 ≤ _; omega
          · simp at hr; subst hr
            exact .inr ⟨hx hk', fun e => hkn hk' (spanRuns_inj e.symm)⟩
      · dsimp only; simp only [Int.toNat_natCast]; omega
    · right
      obtain rfl : i = l.length := by omega
      refine ⟨.ex 0 (flatG G, (l.length : Int)), ?_, trivial, _, G, rfl, rfl, hG, hGc, fun x => by rw [hv, List.take_length]⟩
      unfold region_write_L0
      dsimp only
      rw [if_neg (by simp)]
  · rintro f ⟨hf, _, s, G, rfl, h1, h2, h3, h4⟩
    refine ⟨s.1, ?_, G, h2, h3, h4, h1⟩
    unfold region_write
    rw [hf, Option.bind_some]

/-! Strips of rectangles -/
theorem concat_Rect {ls : List (List Rect)} (hl : ls.flatten.length ≤ 1000000) (hn : ls.length ≤ 1000000) : slices_Concat_Rect ls = some ls.flatten := by
  have hle : ∀ i (hi : i < ls.length), (ls.take i).flatten.length + ls[i].length ≤ ls.flatten.length := by
    intro i hi
    have e : ls.flatten = (ls.take i).flatten ++ (ls[i] ++ (ls.drop (i + 1)).flatten) := by
      conv => lhs; rw [← List.take_append_drop i ls, List.drop_eq_getElem_cons hi]
      rw [List.flatten_append, List.flatten_cons]
    rw [e, List.length_append, List.length_append]; omega
  have htk : ∀ i (hi : i < ls.length), (ls.take (i + 1)).flatten = (ls.take i).flatten ++ ls[i] := by
    intro i hi
    rw [List.take_succ_eq_append_getElem hi, List.flatten_append, List.flatten_cons, List.flatten_nil, List.append_nil]
  unfold slices_Concat_Rect
  obtain ⟨h1, h2⟩ := iter_range (k := 0) (l := ls) (body := slices_Concat_Rect_L0 ls) (fun (s : Int) i => (s, i)) (fun s x => s + x.length) (fun i s => s = ((ls.take i).flatten.length : Int)) (by
    intro i hi s hI
    have := hle i hi
    constructor
    · unfold slices_Concat_Rect_L0
      dsimp only
      rw [if_pos (by simpa using hi), getI_nat hi, Option.bind_some, addI_some (by unfold inI; omega), Option.bind_some, if_neg (by simp; omega), addI_one (by omega), Option.bind_some]
    · rw [htk i hi, hI]; simp) (by
    intro s _
    unfold slices_Concat_Rect_L0
    dsimp only
    rw [if_neg (by simp)]) (s0 := 0) (by simp) (fuel := ls.length + 1) (by omega)
  rw [h1, Option.bind_some]
  dsimp only
  rw [List.take_length] at h2
  rw [growI_some (by omega) (by omega), Option.bind_some]
  obtain ⟨h3, h4⟩ := iter_range (k := 2) (l := ls) (body := slices_Concat_Rect_L1 ls) (fun (s : List Rect) i => (s, i)) (fun s x => s ++ x) (fun i s => s = (ls.take i).flatten) (by
    intro i hi s hI
    have := hle i hi
    constructor
    · unfold slices_Concat_Rect_L1
      dsimp only
      rw [if_pos (by simpa using hi), getI_nat hi, Option.bind_some, appI_some (by rw [hI]; omega), Option.bind_some, addI_one (by omega), Option.bind_some]
    · rw [htk i hi, hI]) (by
    intro s _
    unfold slices_Concat_Rect_L1
    dsimp only
    rw [if_neg (by simp)]) (s0 := []) (by simp) (fuel := ls.length + 1) (by omega)
  rw [h3, Option.bind_some]
  dsimp only
  rw [h4, List.take_length]

/-- The numbers at which something begins or ends, in ascending order, each once. -/
structure IsCuts (xs : List Int) (l : List Rect) : Prop where
  asc : xs.Pairwise fun a b => a < b
  mem : ∀ x, x ∈ xs ↔ ∃ r ∈ l, x = r.X0 ∨ x = r.X1
  len : xs.length ≤ 2 * l.length
theorem asc_between : ∀ {xs : List Int} {a b x : Int}, xs.Pairwise (fun a b => a < b) → a ∈ xs → b ∈ xs → a ≤ x → x < b → ∃ i, ∃ h : i + 1 < xs.length, xs[i] ≤ x ∧ x < xs[i + 1]
  | [], _, _, _, _, h, _, _, _ => by simp at h
  | [h], a, b, x, _, ha, hb, h1, h2 => by simp at ha hb; subst ha; subst hb; omega
  | h :: h2 :: t, a, b, x, hp, ha, hb, hax, hxb => by
    have hp' := List.pairwise_cons.1 hp
    rcases Int.lt_or_le x h2 with hx | hx
    · refine ⟨0, by simp, ?_, hx⟩
      rcases List.mem_cons.1 ha with rfl | ha
      · exact hax
      · have := hp'.1 a ha; show h ≤ x; omega
    · have hb' : b ∈ h2 :: t := by
        rcases List.mem_cons.1 hb with rfl | hb
        · have := hp'.1 h2 (by simp); omega
        · exact hb
      obtain ⟨i, hi, h3, h4⟩ := asc_between hp'.2 (a := h2) (by simp) hb' hx hxb
      exact ⟨i + 1, by simp only [List.length_cons] at hi ⊢; omega, by simpa using h3, by simpa using h4⟩
theorem asc_gap {xs : List Int} (hp : xs.Pairwise fun a b => a < b) {i : Nat} (h : i + 1 < xs.length) {z : Int} (hz : z ∈ xs) : z ≤ xs[i] ∨ xs[i + 1] ≤ z := by
  obtain ⟨j, hj, rfl⟩ := List.getElem_of_mem hz
  have hp := List.pairwise_iff_getElem.1 hp
  rcases Nat.lt_or_ge i j with h1 | h1
  · right
    rcases Nat.lt_or_ge (i + 1) j with h2 | h2
    · exact Int.le_of_lt (hp (i + 1) j h hj h2)
    · have : j = i + 1 := by omega
      subst this; exact Int.le_refl _
  · left
    rcases Nat.lt_or_ge j i with h2 | h2
    · exact Int.le_of_lt (hp j i hj (by omega) h2)
    · have : j = i := by omega
      subst this; exact Int.le_refl _
theorem cells_between {l : List Rect} {xs : List Int} (hx : IsCuts xs l) {i : Nat} (h : i + 1 < xs.length) {x : Int} (h1 : xs[i] ≤ x) (h2 : x < xs[i + 1]) (y : Int) : cells l xs[i] y ↔ cells l x y := by
  refine exists_congr fun r => and_congr_right fun hr => ?_
  unfold rin
  have g1 := asc_gap hx.asc h ((hx.mem r.X0).2 ⟨r, hr, .inl rfl⟩)
  have g2 := asc_gap hx.asc h ((hx.mem r.X1).2 ⟨r, hr, .inr rfl⟩)
  have g3 := (List.pairwise_iff_getElem.1 hx.asc) i (i + 1) (by omega) h (by omega)
  omega

structure StripsOf (l : List Rect) (out : List RegionStrip) : Prop where
  gapless : Gapless out
  col : ∀ s ∈ out, IsCol l s.x0 s.column
  val : ∀ x y, rval false (rval [] (stripRuns out) x) y = true ↔ cells l x y
  len : out.length ≤ 2 * l.length
  same : ∀ s ∈ out, ∀ x, s.x0 ≤ x → x < s.x1 → ∀ r ∈ l, (r.X0 ≤ x ∧ x < r.X1) ↔ (r.X0 ≤ s.x0 ∧ s.x0 < r.X1)
  cover : ∀ r ∈ l, ∀ x, r.X0 ≤ x → x < r.X1 → ∃ s ∈ out, s.x0 ≤ x ∧ x < s.x1
theorem rval_strips {l : List RegionStrip} (h : Gapless l) {i : Nat} (hi : i < l.length) {x : Int} (h1 : l[i].x0 ≤ x) (h2 : x < l[i].x1) : rval [] (stripRuns l) x = spanRuns l[i].column := by
  have key : ∀ m j, j + m = l.length → i < j → rval [] (stripRuns (l.take j)) x = rval [] (stripRuns l) x := by
    intro m
    induction m with
    | zero => intro j hj _; rw [show j = l.length by omega, List.take_length]
    | succ m ih =>
      intro j hj hij
      rw [← ih (j + 1) (by omega) (by omega), rval_take h (show j < l.length by omega), if_neg]
      have a1 := gapless_lo h (show i + 1 < l.length by omega) j (by omega) (by omega)
      have a2 := h.next i (by omega)
      omega
  rw [← key (l.length - (i + 1)) (i + 1) (by omega) (by omega), rval_take h hi, if_pos ⟨h1, h2⟩]

theorem strips_cuts {l : List Rect} (hl : l.length ≤ 100000) : ∃ ys xs zs, iterL (region_strips_L0 l) (l.length + 1) (([] : List Int), 0) = some (.ex 0 (ys, (l.length : Int))) ∧
    sortInts ys = some zs ∧ compactInts zs = some xs ∧ IsCuts xs l := by
  obtain ⟨h1, h2⟩ := iter_range (k := 0) (l := l) (body := region_strips_L0 l) (fun (s : List Int) i => (s, i)) (fun s r => s ++ [r.X0, r.X1]) (fun i s => s.length = 2 * i) (by
    intro i hi s hI
    constructor
    · unfold region_strips_L0
      dsimp only
      rw [if_pos (by simpa using hi), getI_nat hi, Option.bind_some, appI_some (by simp; omega), Option.bind_some, addI_one (by omega), Option.bind_some]
    · simp; omega) (by
    intro s _
    unfold region_strips_L0
    dsimp only
    rw [if_neg (by simp)]) (s0 := []) (by simp) (fuel := l.length + 1) (by omega)
  rw [foldl_flatMap (fun r : Rect => [r.X0, r.X1]), List.nil_append] at h1 h2
  obtain ⟨zs, h3, h4, h5⟩ := sortInts_spec (l := l.flatMap fun r => [r.X0, r.X1]) (by omega)
  have hzl := h4.length_eq
  obtain ⟨xs, h6, h7, h8, h9⟩ := compactInts_spec (l := zs) (by omega) h5
  refine ⟨_, xs, zs, h1, h3, h6, h7, fun x => ?_, by omega⟩
  rw [h8, h4.mem_iff]
  simp [List.mem_flatMap]

theorem strips_spec {ls : List (List Rect)} (hv : ∀ r ∈ ls.flatten, VR r) (hl : ls.flatten.length ≤ 100000) (hn : ls.length ≤ 1000) : ∃ out, region_strips ls = some out ∧ StripsOf ls.flatten out := by
  unfold region_strips
  rw [concat_Rect (by omega) (by omega), Option.bind_some]
  generalize ls.flatten = l at hv hl
  obtain ⟨ys, xs, zs, h1, h2, h3, hx⟩ := strips_cuts hl
  rw [h1, Option.bind_some]
  dsimp only
  simp only [h2, h3, Option.bind_some]
  have hxl := hx.len
  rcases Nat.eq_zero_or_pos xs.length with h0 | h0
  · have e : xs = [] := List.length_eq_zero_iff.1 h0
    subst e
    have hl0 : l = [] := by
      cases l with
      | nil => rfl
      | cons r l => exact absurd ((hx.mem r.X0).2 ⟨r, by simp, .inl rfl⟩) (by simp)
    subst hl0
    refine ⟨[], rfl, ⟨by simp, by simp, by simp⟩, by simp, by simp [stripRuns, rval, cells], by simp, by simp, by simp⟩
  · obtain ⟨out, h4, h5, h6⟩ := iter_from (k := 2) (body := region_strips_L1 l xs) (fun (s : List RegionStrip) i => (s, i)) 1 xs.length h0
      (fun i s => s.length + 1 = i ∧ ∀ j (hj : j < s.length) (hj' : j + 1 < xs.length), s[j].x0 = xs[j] ∧ s[j].x1 = xs[j + 1] ∧ IsCol l xs[j] s[j].column) (by
      intro i h1i hi s hI
      obtain ⟨hI1, hI2⟩ := hI
      obtain ⟨c, hc, hcol⟩ := column_spec (x := xs[i - 1]'(by omega)) hv hl
      refine ⟨s ++ [⟨xs[i - 1]'(by omega), xs[i], c⟩], ?_, by simp; omega, fun j hj hj' => ?_⟩
      · unfold region_strips_L1
        dsimp only
        rw [if_pos (by simpa using hi)]
        simp only [subI_nat (show 0 < i by omega) (by omega), Option.bind_some, getI_nat (show i - 1 < xs.length by omega), getI_nat hi, hc]
        rw [appI_some (by simp; omega), Option.bind_some, addI_one (by omega), Option.bind_some]
      · simp only [List.length_append, List.length_cons, List.length_nil] at hj
        rcases Nat.lt_or_ge j s.length with h | h
        · simp only [List.getElem_append_left h]
          exact hI2 j h hj'
        · have : j = s.length := by omega
          subst this
          simp only [List.getElem_concat_length]
          have e1 : xs[i - 1]'(by omega) = xs[s.length] := by congr 1; omega
          have e2 : xs[i] = xs[s.length + 1] := by congr 1; omega
          refine ⟨e1, e2, ?_⟩
          rw [← e1]; exact hcol) (by
      intro s _
      unfold region_strips_L1
      dsimp only
      rw [if_neg (by simp)]) (s0 := []) (by simp) (fuel := l.length + xs.length + ([] : List RegionStrip).length + 1) (by simp; omega)
    have h4' : iterL (region_strips_L1 l xs) (l.length + xs.length + ([] : List RegionStrip).length + 1) (([] : List RegionStrip), 1) = some (.ex 2 (out, (xs.length : Int))) := h4
    rw [h4', Option.bind_some]
    have hg : Gapless out := by
      refine ⟨fun s hs => ?_, fun i hi => ?_, fun s hs => ?_⟩
      · obtain ⟨j, hj, rfl⟩ := List.getElem_of_mem hs
        obtain ⟨a1, a2, _⟩ := h6 j hj (by omega)
        rw [a1, a2]
        exact (List.pairwise_iff_getElem.1 hx.asc) j (j + 1) (by omega) (by omega) (by omega)
      · rw [(h6 i (by omega) (by omega)).2.1, (h6 (i + 1) hi (by omega)).1]
      · obtain ⟨j, hj, rfl⟩ := List.getElem_of_mem hs
        exact (h6 j hj (by omega)).2.2.canon
    refine ⟨out, rfl, hg, fun s hs => ?_, fun x y => ?_, by omega, fun s hs x c1 c2 r hr => ?_, fun r hr x c1 c2 => ?_⟩
    · obtain ⟨j, hj, rfl⟩ := List.getElem_of_mem hs
      obtain ⟨a1, _, a3⟩ := h6 j hj (by omega)
      rw [a1]; exact a3
    · by_cases hs : ∃ i, ∃ h : i + 1 < xs.length, xs[i] ≤ x ∧ x < xs[i + 1]
      · obtain ⟨i, hi, b1, b2⟩ := hs
        obtain ⟨a1, a2, a3⟩ := h6 i (by omega) hi
        rw [rval_strips hg (show i < out.length by omega) (by omega) (by omega), a3.val, cells_between hx hi b1 b2]
      · constructor
        · intro h
          rcases rval_mem (e := []) (l := stripRuns out) (x := x) with h7 | ⟨a, b, h7, h8⟩
          · rw [h7] at h; simp [rval] at h
          · simp only [stripRuns, List.mem_map, Prod.mk.injEq] at h7
            obtain ⟨s, hs', e1, e2, _⟩ := h7
            obtain ⟨j, hj, rfl⟩ := List.getElem_of_mem hs'
            obtain ⟨a1, a2, _⟩ := h6 j hj (by omega)
            exact absurd ⟨j, by omega, by omega, by omega⟩ hs
        · rintro ⟨r, hr, hrx, hry⟩
          exact absurd (asc_between hx.asc ((hx.mem r.X0).2 ⟨r, hr, .inl rfl⟩) ((hx.mem r.X1).2 ⟨r, hr, .inr rfl⟩) hrx.1 hrx.2) hs
    · obtain ⟨j, hj, rfl⟩ := List.getElem_of_mem hs
      obtain ⟨a1, a2, _⟩ := h6 j hj (by omega)
      have g1 := asc_gap hx.asc (show j + 1 < xs.length by omega) ((hx.mem r.X0).2 ⟨r, hr, .inl rfl⟩)
      have g2 := asc_gap hx.asc (show j + 1 < xs.length by omega) ((hx.mem r.X1).2 ⟨r, hr, .inr rfl⟩)
      omega
    · obtain ⟨i, hi, b1, b2⟩ := asc_between hx.asc ((hx.mem r.X0).2 ⟨r, hr, .inl rfl⟩) ((hx.mem r.X1).2 ⟨r, hr, .inr rfl⟩) c1 c2
      obtain ⟨a1, a2, a3⟩ := h6 i (by omega) hi
      exact ⟨_, List.getElem_mem (show i < out.length by omega), by omega, by omega⟩
theorem write_form {l : List RegionStrip} (h : Gapless l) (hl : l.length ≤ 100000) (hc : ∀ s ∈ l, s.column.length ≤ 1000) {S : Int → Int → Prop} (hS : ∀ x y, rval false (rval [] (stripRuns l) x) y = true ↔ S x y) :
    ∃ out, region_write l = some out ∧ IsForm S out := by
  obtain ⟨out, h1, G, h2, h3, h4, h5⟩ := write_spec h hl hc
  exact ⟨out, h1, G, h2, h3, fun x y => by rw [h4, hS], h5⟩
end Go.Proofs.Ytekbjeagbfbbcaa

namespace Go.Proofs.Ytekbjeagbfbbcaa
open Go.Gb
set_option linter.unusedVariables false
set_option linter.unusedSimpArgs false
set_option linter.unusedSectionVars false
set_option linter.unusedVariables false
set_option linter.unusedSimpArgs false

theorem canon_starts {V : Type} {e : V} : ∀ {t : Runs V} {b : Int} {v : V}, Canon e t → Nxt b v t → ∀ r ∈ t, b ≤ r.1
  | [], _, _, _, _, r, hr => by simp at hr
  | (c, d, w) :: t, b, v, hc, hn, r, hr => by
    have hbc : b ≤ c := by rcases hn with h | h <;> omega
    rcases List.mem_cons.1 hr with rfl | hr
    · exact hbc
    · have := canon_starts hc.2.2.2 hc.2.2.1 r hr
      have := hc.1
      omega
/-! Merging two columns -/
end Go.Proofs.Ytekbjeagbfbbcaa

namespace Go.Proofs.Ytekbjeagbfbbcaa
open Go.Gb
set_option linter.unusedVariables false
set_option linter.unusedSimpArgs false
set_option linter.unusedSectionVars false
set_option linter.unusedVariables false
set_option linter.unusedSimpArgs false

instance (l : List Rect) (x y : Int) : Decidable (cells l x y) := inferInstanceAs (Decidable (∃ r ∈ l, rin r x y))
theorem equal_Rect_L0 {a b : List Rect} (hl : a.length = b.length) (hb : a.length ≤ 1000000) :
    ∃ f, iterL (slices_Equal_Rect_L0 a b) (a.length + 1) 0 = some f ∧ ((a = b ∧ ∃ s, f = .ex 0 s) ∨ (a ≠ b ∧ f = .ret false)) := by
  have hs : ∀ i (hi : i < (a.zip b).length), ((a.zip b)[i].1 ≠ (a.zip b)[i].2 ∧ slices_Equal_Rect_L0 a b (i : Int) = some (.ret false)) ∨
      (¬ ((a.zip b)[i].1 ≠ (a.zip b)[i].2) ∧ slices_Equal_Rect_L0 a b (i : Int) = some (.go ((i + 1 : Nat) : Int))) := by
    intro i hi
    simp only [List.length_zip] at hi
    have h1 : i < a.length := by omega
    have h2 : i < b.length := by omega
    unfold slices_Equal_Rect_L0
    rw [if_pos (by simpa using h1)]
    simp only [getI_nat h1, getI_nat h2, Option.bind_some, List.getElem_zip]
    by_cases he : a[i] = b[i]
    · right
      rw [if_neg (by simpa using he)]
      simp only [addI_one (show i < 4611686018427387904 by omega), Option.bind_some]
      exact ⟨by simpa using he, trivial⟩
    · left
      rw [if_pos (by simpa using he)]
      exact ⟨he, rfl⟩
  have hd : slices_Equal_Rect_L0 a b ((a.zip b).length : Int) = some (.ex 0 ((a.zip b).length : Int)) := by
    have e : ((a.zip b).length : Int) = (a.length : Int) := by simp; omega
    rw [e]
    unfold slices_Equal_Rect_L0
    rw [if_neg (by simp)]
  rcases iter_find (l := a.zip b) (body := slices_Equal_Rect_L0 a b) (k := 0) (fun p => p.1 ≠ p.2) (fun _ => false) hs hd (fuel := a.length + 1) (by simp; omega) with ⟨i, hi, hp, _, h⟩ | ⟨hp, h⟩
  · refine ⟨_, h, .inr ⟨fun e => ?_, rfl⟩⟩
    subst e
    simp at hp
  · refine ⟨_, h, .inl ⟨?_, _, rfl⟩⟩
    refine List.ext_getElem hl fun i h1 h2 => ?_
    have := hp (a[i], b[i]) (by
      rw [List.mem_iff_getElem]
      exact ⟨i, by simp; omega, by simp⟩)
    simpa using this
theorem equal_Rect {a b : List Rect} (hb : a.length ≤ 1000000) : slices_Equal_Rect a b = some (decide (a = b)) := by
  unfold slices_Equal_Rect
  by_cases hl : a.length = b.length
  · rw [if_neg (by simp [hl])]
    obtain ⟨f, hf, h⟩ := equal_Rect_L0 hl hb
    rw [hf, Option.bind_some]
    rcases h with ⟨h1, s, rfl⟩ | ⟨h1, rfl⟩ <;> simp [h1]
  · rw [if_pos (by simp; omega)]
    congr 1
    symm
    rw [decide_eq_false_iff_not]
    intro e; exact hl (by rw [e])
theorem region_Same_eq {a b : List Rect} (hb : a.length ≤ 1000000) : region_Same a b = some (decide (a = b)) := by
  unfold region_Same
  rw [equal_Rect hb, Option.bind_some]

/-- The form, if it is not too long. -/
def lim (out : List Rect) : List Rect × Int := if 200 < out.length then ([], 6) else (out, 0)
theorem limited_eq (out : List Rect) : region_limited out = some (lim out) := by
  unfold region_limited lim
  by_cases h : 200 < out.length
  · rw [if_pos (by simp; omega), if_pos h]
  · rw [if_neg (by simp; omega), if_neg h]
theorem Of_check {l : List Rect} (hl : l.length ≤ 100000) :
    (¬ (∀ r ∈ l, VR r) ∧ iterL (region_Of_L0 l) (l.length + 1) 0 = some (.ret ([], 1))) ∨ ((∀ r ∈ l, VR r) ∧ iterL (region_Of_L0 l) (l.length + 1) 0 = some (.ex 0 (l.length : Int))) := by
  rcases iter_find (l := l) (body := region_Of_L0 l) (k := 0) (fun r => ¬ VR r) (fun _ => (([] : List Rect), (1 : Int))) (by
    intro i hi
    unfold region_Of_L0
    rw [if_pos (by simpa using hi)]
    simp only [getI_nat hi, Option.bind_some, rect_Right_eq]
    by_cases he : VR l[i]
    · right
      rw [if_neg (by simpa using he)]
      simp only [addI_one (show i < 4611686018427387904 by omega), Option.bind_some]
      exact ⟨fun h => h he, trivial⟩
    · left
      rw [if_pos (by simpa using he)]
      exact ⟨he, rfl⟩) (by
    unfold region_Of_L0
    rw [if_neg (by simp)]) (fuel := l.length + 1) (by omega) with ⟨i, hi, hp, _, h⟩ | ⟨hp, h⟩
  · exact .inl ⟨fun h' => hp (h' _ (List.getElem_mem hi)), h⟩
  · exact .inr ⟨fun r hr => Classical.not_not.1 (hp r hr), h⟩
theorem region_Of_bad {l : List Rect} (hl : l.length ≤ 100000) (h : ¬ ∀ r ∈ l, VR r) : region_Of l = some ([], 1) := by
  unfold region_Of
  rcases Of_check hl with ⟨_, h1⟩ | ⟨h1, _⟩
  · rw [h1, Option.bind_some]
  · exact absurd h1 h
theorem region_Of_many {l : List Rect} (hl : l.length ≤ 100000) (h : ∀ r ∈ l, VR r) (hm : 400 < l.length) : region_Of l = some ([], 6) := by
  unfold region_Of
  rcases Of_check hl with ⟨h1, _⟩ | ⟨_, h1⟩
  · exact absurd h h1
  · rw [h1, Option.bind_some]
    dsimp only
    rw [if_pos (by simp; omega)]
theorem region_Of_fine {l : List Rect} (h : ∀ r ∈ l, VR r) (hm : l.length ≤ 400) : ∃ out, IsForm (cells l) out ∧ region_Of l = some (lim out) := by
  unfold region_Of
  rcases Of_check (l := l) (by omega) with ⟨h1, _⟩ | ⟨_, h1⟩
  · exact absurd h h1
  · obtain ⟨st, h2, h3⟩ := strips_spec (ls := [l]) (by simpa using h) (by simp; omega) (by simp)
    rw [show [l].flatten = l by simp] at h3
    have hlen := h3.len
    obtain ⟨out, h4, h5⟩ := write_form (S := cells l) h3.gapless (by omega) (fun s hs => by have := (h3.col s hs).len; omega) h3.val
    refine ⟨out, h5, ?_⟩
    rw [h1, Option.bind_some]
    dsimp only
    rw [if_neg (by simp; omega), h2, Option.bind_some, h4, Option.bind_some, limited_eq, Option.bind_some]

/-- The list is a region. -/
def RR (a : List Rect) : Prop := (∀ r ∈ a, VR r) ∧ a.length ≤ 200 ∧ IsForm (cells a) a
theorem region_Right_spec {a : List Rect} (hl : a.length ≤ 100000) : ∃ b, region_Right a = some b ∧ (b = true ↔ RR a) := by
  unfold region_Right
  by_cases h : ∀ r ∈ a, VR r
  · rcases Nat.lt_or_ge 400 a.length with hm | hm
    · rw [region_Of_many hl h hm, Option.bind_some, if_neg (by simp), Option.bind_some]
      exact ⟨_, rfl, by simp, fun h => absurd h.2.1 (by omega)⟩
    · obtain ⟨out, h1, h2⟩ := region_Of_fine h hm
      rw [h2, Option.bind_some]
      unfold lim
      by_cases h3 : 200 < out.length
      · rw [if_pos h3, if_neg (by simp), Option.bind_some]
        refine ⟨_, rfl, by simp, fun h => ?_⟩
        have := h.2.2.unique h1 (fun _ _ => Iff.rfl)
        rw [this] at h
        exact absurd h.2.1 (by omega)
      · rw [if_neg h3]
        dsimp only
        rw [if_pos (by simp), equal_Rect (by omega), Option.bind_some, Option.bind_some]
        refine ⟨_, rfl, ?_⟩
        simp only [decide_eq_true_eq]
        constructor
        · intro e
          rw [e] at h1 h3
          exact ⟨h, by omega, h1⟩
        · intro h4
          exact h1.unique h4.2.2 (fun _ _ => Iff.rfl)
  · rw [region_Of_bad hl h, Option.bind_some, if_neg (by simp), Option.bind_some]
    exact ⟨_, rfl, by simp, fun h' => absurd h'.1 h⟩
theorem RR.of_form {S : Int → Int → Prop} {out : List Rect} (h : IsForm S out) (hv : ∀ r ∈ out, VR r) (hl : out.length ≤ 200) : RR out := ⟨hv, hl, h.self⟩
theorem RR_nil : RR [] := ⟨by simp, by simp, form_nil.congr fun x y => by simp [cells]⟩

/-! Combining -/
end Go.Proofs.Ytekbjeagbfbbcaa

namespace Go.Proofs.Ytekbjeagbfbbcaa
open Go.Gb
set_option linter.unusedVariables false
set_option linter.unusedSimpArgs false
set_option linter.unusedSectionVars false
set_option linter.unusedVariables false
set_option linter.unusedSimpArgs false

def slabRuns (s : List Slab) : Runs (List Rect) := s.map fun x => (x.Z0, x.Z1, x.Area)
theorem slabRuns_length (a : List Slab) : (slabRuns a).length = a.length := by simp [slabRuns]
theorem slabRuns_inj : ∀ {a b : List Slab}, slabRuns a = slabRuns b → a = b
  | [], [], _ => rfl
  | [], _ :: _, h => by simp [slabRuns] at h
  | _ :: _, [], h => by simp [slabRuns] at h
  | ⟨f, t, u⟩ :: a, ⟨f', t', u'⟩ :: b, h => by
    simp only [slabRuns, List.map_cons, List.cons.injEq, Prod.mk.injEq] at h
    obtain ⟨⟨rfl, rfl, rfl⟩, h⟩ := h
    rw [slabRuns_inj (a := a) (b := b) h]
/-- The cross-section at z. -/
def sect (s : List Slab) (z : Int) : List Rect := rval [] (slabRuns s) z
/-- The cube (x, y, z) is in the solid. -/
def scells (s : List Slab) (x y z : Int) : Prop := cells (sect s z) x y
instance (s : List Slab) (x y z : Int) : Decidable (scells s x y z) := inferInstanceAs (Decidable (cells _ _ _))
/-- The list is the solid of the set of cubes. -/
structure IsSolid (S : Int → Int → Int → Prop) (out : List Slab) : Prop where
  canon : Canon [] (slabRuns out)
  form : ∀ z, IsForm (fun x y => S x y z) (sect out z)
theorem IsSolid.unique {S S' : Int → Int → Int → Prop} {out out' : List Slab} (h : IsSolid S out) (h' : IsSolid S' out') (he : ∀ x y z, S x y z ↔ S' x y z) : out = out' :=
  slabRuns_inj (canon_unique h.canon h'.canon fun z => (h.form z).unique (h'.form z) fun x y => he x y z)
theorem IsSolid.congr {S S' : Int → Int → Int → Prop} {out : List Slab} (h : IsSolid S out) (he : ∀ x y z, S x y z ↔ S' x y z) : IsSolid S' out :=
  ⟨h.canon, fun z => (h.form z).congr fun x y => he x y z⟩
theorem IsSolid.cells {S : Int → Int → Int → Prop} {out : List Slab} (h : IsSolid S out) (x y z : Int) : scells out x y z ↔ S x y z := (h.form z).cells x y
theorem IsSolid.self {S : Int → Int → Int → Prop} {out : List Slab} (h : IsSolid S out) : IsSolid (scells out) out := h.congr fun x y z => (h.cells x y z).symm

/-- The list is a solid. -/
structure SS (s : List Slab) : Prop where
  len : s.length ≤ 80
  canon : Canon [] (slabRuns s)
  ok : ∀ b ∈ s, 0 ≤ b.Z0 ∧ b.Z1 ≤ 4096 ∧ RR b.Area
theorem SS.sect {s : List Slab} (h : SS s) (z : Int) : RR (sect s z) := by
  rcases rval_mem (e := []) (l := slabRuns s) (x := z) with h1 | ⟨a, b, h1, _⟩
  · unfold Ytekbjeagbfbbcaa.sect; rw [h1]; exact RR_nil
  · obtain ⟨x, hx, he⟩ := List.mem_map.1 h1
    simp only [Prod.mk.injEq] at he
    unfold Ytekbjeagbfbbcaa.sect; rw [← he.2.2]; exact (h.ok x hx).2.2
theorem SS.solid {s : List Slab} (h : SS s) : IsSolid (scells s) s := ⟨h.canon, fun z => (h.sect z).2.2⟩
theorem SS_nil : SS [] := ⟨by simp, trivial, by simp⟩
theorem slab_mem {s : List Slab} {b : Slab} (h : b ∈ s) : (b.Z0, b.Z1, b.Area) ∈ slabRuns s := List.mem_map.2 ⟨b, h, rfl⟩
theorem slab_pos {s : List Slab} (h : Canon [] (slabRuns s)) {b : Slab} (hb : b ∈ s) : b.Z0 < b.Z1 ∧ b.Area ≠ [] := canon_mem h (slab_mem hb)
theorem sect_mem {s : List Slab} (h : Canon [] (slabRuns s)) {b : Slab} (hb : b ∈ s) {z : Int} (h1 : b.Z0 ≤ z) (h2 : z < b.Z1) : sect s z = b.Area := rval_of_mem h (slab_mem hb) h1 h2
theorem slabs_canon {s : List Slab} : Canon [] (slabRuns s) ↔ (∀ i (h : i < s.length), s[i].Z0 < s[i].Z1 ∧ s[i].Area ≠ []) ∧
    ∀ i (h : i + 1 < s.length), s[i].Z1 < s[i + 1].Z0 ∨ (s[i].Z1 = s[i + 1].Z0 ∧ s[i].Area ≠ s[i + 1].Area) := by
  rw [canon_iff]
  simp only [slabRuns_length]
  simp only [slabRuns, List.getElem_map]

/-! Right -/
theorem solid_Right_spec {s : List Slab} (ha : ∀ b ∈ s, b.Area.length ≤ 100000) : ∃ b, solid_Right s = some b ∧ (b = true ↔ SS s) := by
  unfold solid_Right
  by_cases hl : 80 < s.length
  · rw [if_pos (by simp; omega)]
    exact ⟨_, rfl, by simp, fun h => absurd h.len (by omega)⟩
  · rw [if_neg (by simp; omega)]
    have hstep : ∀ i, i < s.length → (∀ j, j < i → ¬ ¬ ((∃ h : j < s.length, 0 ≤ s[j].Z0 ∧ s[j].Z0 < s[j].Z1 ∧ s[j].Z1 ≤ 4096 ∧ s[j].Area ≠ [] ∧ RR s[j].Area) ∧ ∀ h0 : 0 < j, ∀ h : j < s.length, (s[j - 1]'(by omega)).Z1 < s[j].Z0 ∨ ((s[j - 1]'(by omega)).Z1 = s[j].Z0 ∧ (s[j - 1]'(by omega)).Area ≠ s[j].Area))) →
        (¬ ((∃ h : i < s.length, 0 ≤ s[i].Z0 ∧ s[i].Z0 < s[i].Z1 ∧ s[i].Z1 ≤ 4096 ∧ s[i].Area ≠ [] ∧ RR s[i].Area) ∧ ∀ h0 : 0 < i, ∀ h : i < s.length, (s[i - 1]'(by omega)).Z1 < s[i].Z0 ∨ ((s[i - 1]'(by omega)).Z1 = s[i].Z0 ∧ (s[i - 1]'(by omega)).Area ≠ s[i].Area)) ∧
          solid_Right_L0 s (i : Int) = some (.ret false)) ∨
        (¬ ¬ ((∃ h : i < s.length, 0 ≤ s[i].Z0 ∧ s[i].Z0 < s[i].Z1 ∧ s[i].Z1 ≤ 4096 ∧ s[i].Area ≠ [] ∧ RR s[i].Area) ∧ ∀ h0 : 0 < i, ∀ h : i < s.length, (s[i - 1]'(by omega)).Z1 < s[i].Z0 ∨ ((s[i - 1]'(by omega)).Z1 = s[i].Z0 ∧ (s[i - 1]'(by omega)).Area ≠ s[i].Area)) ∧
          solid_Right_L0 s (i : Int) = some (.go ((i + 1 : Nat) : Int))) := by
      intro i hi _
      obtain ⟨rb, hr1, hr2⟩ := region_Right_spec (a := s[i].Area) (ha _ (List.getElem_mem hi))
      unfold solid_Right_L0
      rw [if_pos (by simpa using hi), getI_nat hi, Option.bind_some]
      by_cases h1 : 0 ≤ s[i].Z0 ∧ s[i].Z0 < s[i].Z1 ∧ s[i].Z1 ≤ 4096 ∧ s[i].Area ≠ []
      · have hal : 0 < s[i].Area.length := List.length_pos_iff.2 h1.2.2.2
        rw [if_neg (by simp only [Bool.or_eq_true, decide_eq_true_eq, beq_iff_eq]; omega), hr1, Option.bind_some, Option.bind_some]
        cases rb
        · left
          rw [if_pos (by simp), Option.bind_some]
          refine ⟨fun h => ?_, rfl⟩
          obtain ⟨⟨_, _, _, _, _, h⟩, _⟩ := h
          exact absurd (hr2.2 h) (by simp)
        · have hRR := hr2.1 rfl
          rw [if_neg (by simp)]
          rcases Nat.eq_zero_or_pos i with rfl | h0
          · right
            rw [if_pos (by simp), Option.bind_some]
            dsimp only
            rw [addI_one (by omega), Option.bind_some]
            exact ⟨fun h => h ⟨⟨hi, h1.1, h1.2.1, h1.2.2.1, h1.2.2.2, hRR⟩, fun h => absurd h (Nat.lt_irrefl _)⟩, rfl⟩
          · have hsame : region_Same (s[i - 1]'(by omega)).Area s[i].Area = some (decide ((s[i - 1]'(by omega)).Area = s[i].Area)) := region_Same_eq (by have := ha _ (List.getElem_mem (show i - 1 < s.length by omega)); omega)
            rw [if_neg (by simp; omega), subI_nat h0 (by omega), Option.bind_some, getI_nat (show i - 1 < s.length by omega), Option.bind_some]
            have hcond : (if decide (s[i].Z0 < (s[i - 1]'(by omega)).Z1) = true then some true else (if ((s[i - 1]'(by omega)).Z1 == s[i].Z0) = true then (region_Same (s[i - 1]'(by omega)).Area s[i].Area).bind fun x => some x else some false).bind fun x => some x) =
                some (decide (¬ ((s[i - 1]'(by omega)).Z1 < s[i].Z0 ∨ ((s[i - 1]'(by omega)).Z1 = s[i].Z0 ∧ (s[i - 1]'(by omega)).Area ≠ s[i].Area)))) := by
              by_cases c1 : s[i].Z0 < (s[i - 1]'(by omega)).Z1
              · rw [if_pos (by simpa using c1)]; congr 1; simp; omega
              · rw [if_neg (by simpa using c1), hsame]
                by_cases c2 : (s[i - 1]'(by omega)).Z1 = s[i].Z0
                · rw [if_pos (by simpa using c2)]; simp [c2]
                · rw [if_neg (by simpa using c2)]; simp; omega
            rw [hcond, Option.bind_some]
            by_cases c : (s[i - 1]'(by omega)).Z1 < s[i].Z0 ∨ ((s[i - 1]'(by omega)).Z1 = s[i].Z0 ∧ (s[i - 1]'(by omega)).Area ≠ s[i].Area)
            · right
              rw [if_neg (by simp only [decide_eq_true_eq, Classical.not_not]; exact c), Option.bind_some]
              dsimp only
              rw [addI_one (by omega), Option.bind_some]
              exact ⟨fun h => h ⟨⟨hi, h1.1, h1.2.1, h1.2.2.1, h1.2.2.2, hRR⟩, fun _ _ => c⟩, rfl⟩
            · left
              rw [if_pos (decide_eq_true c), Option.bind_some]
              exact ⟨fun h => c (h.2 h0 hi), rfl⟩
      · left
        rw [if_pos (by
          simp only [Bool.or_eq_true, decide_eq_true_eq, beq_iff_eq]
          rcases Int.lt_or_le s[i].Z0 0 with g | g
          · exact .inl (.inl (.inl g))
          · rcases Int.lt_or_le s[i].Z0 s[i].Z1 with g2 | g2
            · rcases Int.lt_or_le 4096 s[i].Z1 with g3 | g3
              · exact .inl (.inr g3)
              · right
                have : s[i].Area = [] := Classical.not_not.1 fun h => h1 ⟨g, g2, g3, h⟩
                rw [this]; rfl
            · exact .inl (.inl (.inr g2))), Option.bind_some, if_pos rfl, Option.bind_some]
        refine ⟨fun h => h1 ?_, rfl⟩
        obtain ⟨⟨_, a, b, c, d, _⟩, _⟩ := h
        exact ⟨a, b, c, d⟩
    rcases iter_findN (body := solid_Right_L0 s) (k := 0) s.length (fun i => ¬ ((∃ h : i < s.length, 0 ≤ s[i].Z0 ∧ s[i].Z0 < s[i].Z1 ∧ s[i].Z1 ≤ 4096 ∧ s[i].Area ≠ [] ∧ RR s[i].Area) ∧ ∀ h0 : 0 < i, ∀ h : i < s.length, (s[i - 1]'(by omega)).Z1 < s[i].Z0 ∨ ((s[i - 1]'(by omega)).Z1 = s[i].Z0 ∧ (s[i - 1]'(by omega)).Area ≠ s[i].Area))) (fun _ => false) hstep (by
        unfold solid_Right_L0
        rw [if_neg (by simp)]) (fuel := s.length + 1) (by omega) with ⟨i, hi, hp, _, h⟩ | ⟨hp, h⟩
    · rw [h, Option.bind_some]
      refine ⟨_, rfl, by simp, fun hS => absurd ⟨⟨hi, ?_⟩, fun h0 _ => ?_⟩ hp⟩
      · have h1 := hS.ok _ (List.getElem_mem hi)
        have h2 := slab_pos hS.canon (List.getElem_mem hi)
        exact ⟨h1.1, h2.1, h1.2.1, h2.2, h1.2.2⟩
      · have := (slabs_canon.1 hS.canon).2 (i - 1) (by omega)
        have e : i - 1 + 1 = i := by omega
        simp only [e] at this
        exact this
    · rw [h, Option.bind_some]
      have hp' : ∀ i (hi : i < s.length), (0 ≤ s[i].Z0 ∧ s[i].Z0 < s[i].Z1 ∧ s[i].Z1 ≤ 4096 ∧ s[i].Area ≠ [] ∧ RR s[i].Area) ∧ ∀ h0 : 0 < i, (s[i - 1]'(by omega)).Z1 < s[i].Z0 ∨ ((s[i - 1]'(by omega)).Z1 = s[i].Z0 ∧ (s[i - 1]'(by omega)).Area ≠ s[i].Area) := by
        intro i hi
        have := Classical.not_not.1 (hp i hi)
        exact ⟨this.1.2, fun h0 => this.2 h0 hi⟩
      refine ⟨_, rfl, fun _ => ⟨by omega, slabs_canon.2 ⟨fun i hi => ⟨(hp' i hi).1.2.1, (hp' i hi).1.2.2.2.1⟩, fun i hi => (hp' (i + 1) hi).2 (by omega)⟩, fun b hb => ?_⟩, fun _ => rfl⟩
      obtain ⟨i, hi, rfl⟩ := List.getElem_of_mem hb
      have := (hp' i hi).1
      exact ⟨this.1, this.2.2.1, this.2.2.2.2⟩
theorem solid_Right_true {s : List Slab} (h : SS s) : solid_Right s = some true := by
  obtain ⟨b, h1, h2⟩ := solid_Right_spec (s := s) (fun b hb => by have := (h.ok b hb).2.2.2.1; omega)
  rw [h1, h2.2 h]
theorem solid_Right_false {s : List Slab} (ha : ∀ b ∈ s, b.Area.length ≤ 100000) (h : ¬ SS s) : solid_Right s = some false := by
  obtain ⟨b, h1, h2⟩ := solid_Right_spec ha
  rw [h1]; cases b
  · rfl
  · exact absurd (h2.1 rfl) h

/-! put -/
theorem put_spec {out : List Slab} {x : Slab} (hl : out.length ≤ 1000000) (ha : ∀ b ∈ out, b.Area.length ≤ 1000000) :
    ∃ o, solid_put out x = some o ∧ slabRuns o = pushR [] (slabRuns out) x.Z0 x.Z1 x.Area ∧ o.length ≤ out.length + 1 ∧ ∀ b ∈ o, b.Area = x.Area ∨ ∃ c ∈ out, b.Area = c.Area := by
  unfold solid_put
  by_cases h0 : x.Area = []
  · rw [if_pos (by simp [h0])]
    exact ⟨out, rfl, by rw [h0]; simp [pushR], by omega, fun b hb => .inr ⟨b, hb, rfl⟩⟩
  · have hlen : 0 < x.Area.length := List.length_pos_iff.2 h0
    rw [if_neg (by simp; omega)]
    rcases List.eq_nil_or_concat out with rfl | ⟨o, t, rfl⟩
    · have e : subI (([] : List Slab).length : Int) 1 = some (-1) := by decide
      rw [e, Option.bind_some, if_neg (by decide), Option.bind_some, if_neg (by simp), Option.bind_some, if_neg (by simp), appI_some (by simp), Option.bind_some]
      exact ⟨[x], rfl, by simp [pushR, slabRuns, h0], by simp, by simp⟩
    · rw [List.concat_eq_append] at *
      have hol : o.length < 1000000 := by simp at hl; omega
      have hta := ha t (by simp)
      rw [subI_len (by omega), Option.bind_some, if_pos (by simp), getI_concat rfl, Option.bind_some, Option.bind_some]
      have hp : pushR [] (slabRuns (o ++ [t])) x.Z0 x.Z1 x.Area = if t.Z1 = x.Z0 ∧ t.Area = x.Area then slabRuns o ++ [(t.Z0, x.Z1, x.Area)] else slabRuns (o ++ [t]) ++ [(x.Z0, x.Z1, x.Area)] := by
        unfold pushR
        rw [if_neg h0]
        simp [slabRuns]
      by_cases h1 : t.Z1 = x.Z0
      · rw [if_pos (by simpa using h1), Option.bind_some, region_Same_eq hta, Option.bind_some, Option.bind_some]
        by_cases h2 : t.Area = x.Area
        · rw [if_pos (by simpa using h2), Option.bind_some, Option.bind_some, set_concat (by simp)]
          refine ⟨_, rfl, ?_, by simp, fun b hb => ?_⟩
          · rw [hp, if_pos ⟨h1, h2⟩]; simp [slabRuns, h2]
          · rcases List.mem_append.1 hb with hb | hb
            · exact .inr ⟨b, by simp [hb], rfl⟩
            · simp only [List.mem_singleton] at hb; subst hb; exact .inl h2
        · rw [if_neg (by simpa using h2), appI_some (by simp; omega), Option.bind_some]
          refine ⟨_, rfl, ?_, by simp, fun b hb => ?_⟩
          · rw [hp, if_neg (fun h => h2 h.2)]; simp [slabRuns]
          · rcases List.mem_append.1 hb with hb | hb
            · exact .inr ⟨b, hb, rfl⟩
            · simp only [List.mem_singleton] at hb; subst hb; exact .inl rfl
      · rw [if_neg (by simpa using h1), Option.bind_some, if_neg (by simp), appI_some (by simp; omega), Option.bind_some]
        refine ⟨_, rfl, ?_, by simp, fun b hb => ?_⟩
        · rw [hp, if_neg (fun h => h1 h.1)]; simp [slabRuns]
        · rcases List.mem_append.1 hb with hb | hb
          · exact .inr ⟨b, hb, rfl⟩
          · simp only [List.mem_singleton] at hb; subst hb; exact .inl rfl

/-! Heights -/
structure IsZ (zs : List Int) (l : List Slab) : Prop where
  asc : zs.Pairwise fun a b => a < b
  mem : ∀ z, z ∈ zs ↔ ∃ s ∈ l, z = s.Z0 ∨ z = s.Z1
  len : zs.length ≤ 2 * l.length
theorem heights_L1 {l : List Slab} {o : List Int} (hl : l.length ≤ 100000) (ho : o.length ≤ 10000000) :
    iterL (solid_heights_L1 l) (l.length + 1) (o, 0) = some (.ex 2 (o ++ l.flatMap (fun s => [s.Z0, s.Z1]), (l.length : Int))) ∧ (o ++ l.flatMap fun s => [s.Z0, s.Z1]).length = o.length + 2 * l.length := by
  obtain ⟨h1, h2⟩ := iter_range (k := 2) (l := l) (body := solid_heights_L1 l) (fun (s : List Int) i => (s, i)) (fun s r => s ++ [r.Z0, r.Z1]) (fun i s => s.length = o.length + 2 * i) (by
    intro i hi s hI
    constructor
    · unfold solid_heights_L1
      dsimp only
      rw [if_pos (by simpa using hi), getI_nat hi, Option.bind_some, appI_some (by simp; omega), Option.bind_some, addI_one (by omega), Option.bind_some]
    · simp; omega) (by
    intro s _
    unfold solid_heights_L1
    dsimp only
    rw [if_neg (by simp)]) (s0 := o) (by omega) (fuel := l.length + 1) (by omega)
  rw [foldl_flatMap (fun r : Slab => [r.Z0, r.Z1])] at h1 h2
  exact ⟨h1, h2⟩
theorem heights_spec {ls : List (List Slab)} (hn : ls.length ≤ 1000) (hl : ∀ l ∈ ls, l.length ≤ 400) : ∃ zs, solid_heights ls = some zs ∧ IsZ zs ls.flatten := by
  unfold solid_heights
  obtain ⟨h1, h2⟩ := iter_range (k := 0) (l := ls) (body := solid_heights_L0 ls) (fun (s : List Int) i => (s, i)) (fun s l => s ++ l.flatMap fun s => [s.Z0, s.Z1]) (fun i s => s.length ≤ 800 * i ∧ s = (ls.take i).flatten.flatMap (fun s => [s.Z0, s.Z1])) (by
    intro i hi s ⟨hI, hI2⟩
    have hli := hl _ (List.getElem_mem hi)
    obtain ⟨g1, g2⟩ := heights_L1 (l := ls[i]) (o := s) (by omega) (by omega)
    refine ⟨?_, by rw [g2]; omega, ?_⟩
    · unfold solid_heights_L0
      dsimp only
      rw [if_pos (by simpa using hi), getI_nat hi, Option.bind_some, g1, Option.bind_some]
      dsimp only
      rw [addI_one (by omega), Option.bind_some]
    · rw [List.take_succ_eq_append_getElem hi, List.flatten_append, List.flatten_cons, List.flatten_nil, List.append_nil, List.flatMap_append, ← hI2]) (by
    intro s _
    unfold solid_heights_L0
    dsimp only
    rw [if_neg (by simp)]) (s0 := []) ⟨by simp, by simp⟩ (fuel := ls.length + 1) (by omega)
  rw [h1, Option.bind_some]
  dsimp only
  obtain ⟨h2, h2'⟩ := h2
  rw [List.take_length] at h2'
  generalize ls.foldl (fun s l => s ++ l.flatMap fun s => [s.Z0, s.Z1]) [] = ys at h2 h2'
  obtain ⟨ws, h3, h4, h5⟩ := sortInts_spec (l := ys) (by omega)
  have hzl := h4.length_eq
  obtain ⟨zs, h6, h7, h8, h9⟩ := compactInts_spec (l := ws) (by omega) h5
  rw [h3, Option.bind_some, h6, Option.bind_some]
  refine ⟨zs, rfl, h7, fun z => ?_, ?_⟩
  · rw [h8, h4.mem_iff, h2']
    simp [List.mem_flatMap]
  · have : ∀ l : List Slab, (l.flatMap fun s => [s.Z0, s.Z1]).length = 2 * l.length := by
      intro l
      induction l with
      | nil => rfl
      | cons a l ih => simp only [List.flatMap_cons, List.length_append, List.length_cons, List.length_nil, ih]; omega
    have := this ls.flatten
    rw [← h2'] at this
    omega

/-! The solid of a function of z that is constant between cuts -/
/-- No more than 200 rectangles in a cross-section, no more than 80 slabs. -/
def slim (out : List Slab) : List Slab × Int := if (∃ s ∈ out, 200 < s.Area.length) ∨ 80 < out.length then ([], 6) else (out, 0)
theorem fits_eq {out : List Slab} (h : ∀ s ∈ out, s.Area.length ≤ 200) : solid_fits out = some (slim out) := by
  have hno : ¬ ∃ s ∈ out, 200 < s.Area.length := fun ⟨s, hs, h'⟩ => by have := h s hs; omega
  unfold solid_fits slim
  by_cases h2 : 80 < out.length
  · rw [if_pos (by simp; omega), if_pos (.inr h2)]
  · rw [if_neg (by simp; omega), if_neg (fun h => h.elim hno h2)]
def unslab (G : Runs (List Rect)) : List Slab := G.map fun g => ⟨g.1, g.2.1, g.2.2⟩
theorem slabRuns_unslab (G : Runs (List Rect)) : slabRuns (unslab G) = G := by
  unfold slabRuns unslab
  rw [List.map_map]
  exact List.map_id'' (fun _ => rfl) G
theorem build_solid {S : Int → Int → Int → Prop} {zs : List Int} (hz : zs.Pairwise fun a b => a < b) {A : Int → List Rect} (hA : ∀ z, IsForm (fun x y => S x y z) (A z))
    (hc : ∀ i (h : i + 1 < zs.length) z, zs[i] ≤ z → z < zs[i + 1] → ∀ x y, S x y zs[i] ↔ S x y z) (ho : ∀ z, (∀ i (h : i + 1 < zs.length), ¬ (zs[i] ≤ z ∧ z < zs[i + 1])) → ∀ x y, ¬ S x y z) :
    IsSolid S (unslab (build [] zs A (zs.length - 1))) ∧ (∀ i (h : i + 1 < zs.length), A zs[i] ≠ [] → ∃ s ∈ unslab (build [] zs A (zs.length - 1)), s.Area = A zs[i]) ∧ ∀ s ∈ unslab (build [] zs A (zs.length - 1)), ∃ i, ∃ h : i + 1 < zs.length, s.Area = A zs[i] := by
  rcases Nat.eq_zero_or_pos zs.length with h0 | h0
  · have e : build [] zs A (zs.length - 1) = [] := by rw [h0]; rfl
    rw [e]
    refine ⟨⟨trivial, fun z => ?_⟩, fun i h => absurd h (by omega), by simp [unslab]⟩
    exact form_nil.congr fun x y => ⟨False.elim, fun h => ho z (fun i hi => absurd hi (by omega)) x y h⟩
  · obtain ⟨h1, _, h3, h4, h5⟩ := build_spec hz A (zs.length - 1) (by omega)
    generalize hG : build [] zs A (zs.length - 1) = G at h1 h3 h4 h5
    have hin : ∀ i (h : i + 1 < zs.length) z, zs[i] ≤ z → z < zs[i + 1] → rval [] G z = A zs[i] := fun i h z a b => h3 i h (by omega) z a b
    refine ⟨⟨by rw [slabRuns_unslab]; exact h1, fun z => ?_⟩, fun i h hne => ?_, fun s hs => ?_⟩
    · unfold sect
      rw [slabRuns_unslab]
      by_cases hz' : ∃ i, ∃ h : i + 1 < zs.length, zs[i] ≤ z ∧ z < zs[i + 1]
      · obtain ⟨i, h, a, b⟩ := hz'
        rw [hin i h z a b]
        exact (hA _).congr fun x y => hc i h z a b x y
      · have hz2 : ∀ i (h : i + 1 < zs.length), ¬ (zs[i] ≤ z ∧ z < zs[i + 1]) := fun i h hh => hz' ⟨i, h, hh⟩
        rw [h4 z fun j hj _ => hz2 j hj]
        exact form_nil.congr fun x y => ⟨False.elim, fun h => ho z hz2 x y h⟩
    · have hlt : zs[i] < zs[i + 1] := (List.pairwise_iff_getElem.1 hz) i (i + 1) (by omega) h (by omega)
      have hv := hin i h zs[i] (Int.le_refl _) hlt
      rcases rval_mem (e := []) (l := G) (x := zs[i]) with h6 | ⟨a, b, h6, _⟩
      · rw [hv] at h6; exact absurd h6 hne
      · rw [hv] at h6
        exact ⟨⟨a, b, A zs[i]⟩, List.mem_map.2 ⟨_, h6, rfl⟩, rfl⟩
    · obtain ⟨g, hg, rfl⟩ := List.mem_map.1 hs
      obtain ⟨j, hj, hjn, he⟩ := h5 g hg
      exact ⟨j, by omega, he⟩
end Go.Proofs.Ytekbjeagbfbbcaa

namespace Go.Proofs.Ytekbjeagbfbbcaa
open Go.Gb
set_option linter.unusedVariables false
set_option linter.unusedSimpArgs false
set_option linter.unusedSectionVars false
set_option linter.unusedVariables false
set_option linter.unusedSimpArgs false

/-- One slab after the other. -/
theorem solid_loop {body : List Slab × Int → Option (Flow (List Slab × Int) (List Slab × Int))} {k : Nat} {zs : List Int} {A : Int → List Rect} (hz : zs.Pairwise fun a b => a < b) (hzl : zs.length ≤ 100000)
    (hb : ∀ i (h1 : 1 ≤ i) (hi : i < zs.length) (s : List Slab), (200 < (A (zs[i - 1]'(by omega))).length → body (s, (i : Int)) = some (.ret ([], 6))) ∧
      ((A (zs[i - 1]'(by omega))).length ≤ 200 → body (s, (i : Int)) = (solid_put s ⟨zs[i - 1]'(by omega), zs[i], A (zs[i - 1]'(by omega))⟩).bind fun o => some (.go (o, ((i + 1 : Nat) : Int)))))
    (hd : ∀ s, body (s, (zs.length : Int)) = some (.ex k (s, (zs.length : Int)))) (h1 : 0 < zs.length) {fuel : Nat} (hf : zs.length < fuel) :
    (iterL body fuel (([] : List Slab), 1) = some (.ex k (unslab (build [] zs A (zs.length - 1)), (zs.length : Int))) ∧ ∀ b ∈ unslab (build [] zs A (zs.length - 1)), b.Area.length ≤ 200) ∨
    (iterL body fuel (([] : List Slab), 1) = some (.ret ([], 6)) ∧ ∃ j, ∃ h : j + 1 < zs.length, 200 < (A zs[j]).length) := by
  rcases iter_fromR (k := k) (body := body) (fun (s : List Slab) i => (s, i)) 1 zs.length h1 (fun i s => slabRuns s = build [] zs A (i - 1) ∧ s.length < i ∧ ∀ b ∈ s, b.Area.length ≤ 200)
    (fun r => r = ([], 6) ∧ ∃ j, ∃ h : j + 1 < zs.length, 200 < (A zs[j]).length) (by
    intro i h1i hi s ⟨hI1, hI2, hI3⟩
    obtain ⟨b1, b2⟩ := hb i h1i hi s
    by_cases hc : 200 < (A (zs[i - 1]'(by omega))).length
    · exact .inr ⟨_, b1 hc, rfl, i - 1, by omega, hc⟩
    · left
      obtain ⟨o, p1, p2, p3, p4⟩ := put_spec (out := s) (x := ⟨zs[i - 1]'(by omega), zs[i], A (zs[i - 1]'(by omega))⟩) (by omega) (fun b hb => by have := hI3 b hb; omega)
      refine ⟨o, by rw [b2 (by omega), p1, Option.bind_some], ?_, by omega, fun b hb => ?_⟩
      · rw [p2, hI1]
        have e : i + 1 - 1 = (i - 1) + 1 := by omega
        rw [e, build_succ (show i - 1 + 1 < zs.length by omega)]
        have e2 : zs[i - 1 + 1]'(by omega) = zs[i] := by congr 1; omega
        rw [e2]
      · rcases p4 b hb with h | ⟨c, hc', h⟩
        · rw [h]; dsimp only; omega
        · rw [h]; exact hI3 c hc') (fun s _ => hd s) (s0 := []) ⟨rfl, by simp, by simp⟩ (fuel := fuel) (by omega) with ⟨s, h2, h3, h4, h5⟩ | ⟨r, h2, rfl, h3⟩
  · left
    have e : s = unslab (build [] zs A (zs.length - 1)) := slabRuns_inj (by rw [h3, slabRuns_unslab])
    rw [← e]
    exact ⟨h2, h5⟩
  · exact .inr ⟨h2, h3⟩

/-! Of -/
def VB (b : Box) : Prop := VR b.Base ∧ 0 ≤ b.Z0 ∧ b.Z0 < b.Z1 ∧ b.Z1 ≤ 4096
instance (b : Box) : Decidable (VB b) := inferInstanceAs (Decidable (_ ∧ _))
/-- The cube (x, y, z) is in one of the boxes. -/
def bcells (l : List Box) (x y z : Int) : Prop := ∃ b ∈ l, rin b.Base x y ∧ b.Z0 ≤ z ∧ z < b.Z1
instance (l : List Box) (x y z : Int) : Decidable (bcells l x y z) := inferInstanceAs (Decidable (∃ b ∈ l, _))
def bases (l : List Box) (z : Int) : List Rect := (l.filter fun b => decide (b.Z0 ≤ z) && decide (z < b.Z1)).map (·.Base)
theorem bases_cells (l : List Box) (x y z : Int) : cells (bases l z) x y ↔ bcells l x y z := by
  unfold cells bcells bases
  constructor
  · rintro ⟨r, hr, h⟩
    obtain ⟨b, hb, rfl⟩ := List.mem_map.1 hr
    simp only [List.mem_filter, Bool.and_eq_true, decide_eq_true_eq] at hb
    exact ⟨b, hb.1, h, hb.2⟩
  · rintro ⟨b, hb, h, hz⟩
    exact ⟨b.Base, List.mem_map.2 ⟨b, by simp only [List.mem_filter, Bool.and_eq_true, decide_eq_true_eq]; exact ⟨hb, hz⟩, rfl⟩, h⟩
theorem bases_length (l : List Box) (z : Int) : (bases l z).length ≤ l.length := by unfold bases; rw [List.length_map]; exact List.length_filter_le _ _
theorem bases_right {l : List Box} (h : ∀ b ∈ l, VB b) (z : Int) : ∀ r ∈ bases l z, VR r := by
  intro r hr
  obtain ⟨b, hb, rfl⟩ := List.mem_map.1 hr
  exact (h b (List.mem_filter.1 hb).1).1
theorem Of_L0 {l : List Box} (hl : l.length ≤ 100000) :
    (¬ (∀ b ∈ l, VB b) ∧ iterL (solid_Of_L0 l) (l.length + 1) (([] : List Slab), 0) = some (.ret ([], 1))) ∨
    ((∀ b ∈ l, VB b) ∧ iterL (solid_Of_L0 l) (l.length + 1) (([] : List Slab), 0) = some (.ex 0 (l.map (fun b => ⟨b.Z0, b.Z1, []⟩), (l.length : Int)))) := by
  rcases iter_fromR (k := 0) (body := solid_Of_L0 l) (fun (s : List Slab) i => (s, i)) 0 l.length (Nat.zero_le _) (fun i s => s = (l.take i).map (fun b => ⟨b.Z0, b.Z1, []⟩) ∧ ∀ j (hj : j < l.length), j < i → VB l[j])
    (fun r => r = ([], 1) ∧ ¬ ∀ b ∈ l, VB b) (by
    rintro i - hi s ⟨rfl, hV⟩
    unfold solid_Of_L0
    dsimp only
    rw [if_pos (by simpa using hi), getI_nat hi, Option.bind_some, rect_Right_eq, Option.bind_some]
    by_cases hv : VB l[i]
    · left
      have hv' := hv
      unfold VB at hv'
      refine ⟨(l.take (i + 1)).map (fun b => ⟨b.Z0, b.Z1, []⟩), ?_, rfl, fun j hj hji => ?_⟩
      · rw [if_neg (by simp only [Bool.or_eq_true, decide_eq_true_eq, Bool.not_eq_true', decide_eq_false_iff_not]; rintro (((h | h) | h) | h) <;> first | exact h hv'.1 | omega),
          appI_some (by simp; omega), Option.bind_some, addI_one (by omega), Option.bind_some, List.take_succ_eq_append_getElem hi, List.map_append]
        rfl
      · rcases Nat.lt_or_ge j i with h | h
        · exact hV j hj h
        · obtain rfl : j = i := by omega
          exact hv
    · right
      refine ⟨_, if_pos ?_, rfl, fun h => hv (h _ (List.getElem_mem hi))⟩
      simp only [Bool.or_eq_true, decide_eq_true_eq, Bool.not_eq_true', decide_eq_false_iff_not]
      unfold VB at hv
      by_cases h1 : VR l[i].Base
      · have : ¬ (0 ≤ l[i].Z0 ∧ l[i].Z0 < l[i].Z1 ∧ l[i].Z1 ≤ 4096) := fun h => hv ⟨h1, h⟩
        omega
      · exact .inl (.inl (.inl h1))) (by
    intro s _
    unfold solid_Of_L0
    dsimp only
    rw [if_neg (by simp)]) (s0 := []) ⟨rfl, fun j _ h => absurd h (Nat.not_lt_zero j)⟩ (fuel := l.length + 1) (by omega) with ⟨s, h1, rfl, h2⟩ | ⟨r, h1, rfl, h2⟩
  · rw [List.take_length] at h1
    refine .inr ⟨fun b hb => ?_, h1⟩
    obtain ⟨j, hj, rfl⟩ := List.getElem_of_mem hb
    exact h2 j hj hj
  · exact .inl ⟨h2, h1⟩
theorem solid_Of_bad {l : List Box} (hl : l.length ≤ 100000) (h : ¬ ∀ b ∈ l, VB b) : solid_Of l = some ([], 1) := by
  unfold solid_Of
  rcases Of_L0 hl with ⟨_, h1⟩ | ⟨h1, _⟩
  · rw [h1, Option.bind_some]
  · exact absurd h1 h
theorem Of_L2 {l : List Box} (hl : l.length ≤ 100000) {zs : List Int} {s : List Slab} {i : Nat} (h1 : 1 ≤ i) (hi : i < zs.length) (hil : i < 1000000) (hz : ∀ b ∈ l, b.Z0 < zs[i] ↔ b.Z0 ≤ zs[i - 1]'(by omega)) :
    iterL (solid_Of_L2 l zs (s, (i : Int))) (l.length + 1) (([] : List Rect), 0) = some (.ex 4 (bases l (zs[i - 1]'(by omega)), (l.length : Int))) := by
  refine (iter_range (k := 4) (l := l) (fun (o : List Rect) j => (o, j)) (fun o b => if (decide (b.Z0 ≤ zs[i - 1]'(by omega)) && decide ((zs[i - 1]'(by omega)) < b.Z1)) then o ++ [b.Base] else o) (fun j o => o.length ≤ j) ?_ ?_ (s0 := []) (Nat.zero_le _) (by omega)).1.trans ?_
  · intro j hj o hI
    have hzj := hz _ (List.getElem_mem hj)
    constructor
    · unfold solid_Of_L2
      dsimp only
      rw [if_pos (by simpa using hj), getI_nat hj, Option.bind_some, getI_nat hi, Option.bind_some]
      have hcond : (if decide (l[j].Z0 < zs[i]) = true then (subI (i : Int) 1).bind fun x => (getI zs x).bind fun y => some (decide (y < l[j].Z1)) else some false) = some (decide (l[j].Z0 ≤ zs[i - 1]'(by omega)) && decide ((zs[i - 1]'(by omega)) < l[j].Z1)) := by
        by_cases c : l[j].Z0 < zs[i]
        · rw [if_pos (by simpa using c), subI_nat (by omega) (by omega), Option.bind_some, getI_nat (show i - 1 < zs.length by omega), Option.bind_some]
          simp [hzj.1 c]
        · rw [if_neg (by simpa using c)]
          have : ¬ l[j].Z0 ≤ zs[i - 1]'(by omega) := fun h => c (hzj.2 h)
          simp [this]
      rw [hcond, Option.bind_some]
      split
      · rw [appI_some (by simp; omega), Option.bind_some, Option.bind_some, addI_one (by omega), Option.bind_some]
      · rw [Option.bind_some, addI_one (by omega), Option.bind_some]
    · split
      · simp; omega
      · omega
  · intro o _
    unfold solid_Of_L2
    dsimp only
    rw [if_neg (by simp)]
  · rw [foldl_filterMap (fun b : Box => decide (b.Z0 ≤ zs[i - 1]'(by omega)) && decide ((zs[i - 1]'(by omega)) < b.Z1)) (fun b => b.Base)]
    rfl
theorem z_cut {zs : List Int} (hp : zs.Pairwise fun a b => a < b) {i : Nat} (h1 : 1 ≤ i) (hi : i < zs.length) {z : Int} (hz : z ∈ zs) : z < zs[i] ↔ z ≤ zs[i - 1]'(by omega) := by
  have e : i - 1 + 1 = i := by omega
  have hlt : (zs[i - 1]'(by omega)) < zs[i] := (List.pairwise_iff_getElem.1 hp) (i - 1) i (by omega) hi (by omega)
  have := asc_gap hp (i := i - 1) (by omega) hz
  simp only [e] at this
  omega
theorem solid_Of_fine {l : List Box} (h : ∀ b ∈ l, VB b) (hm : l.length ≤ 200) : ∃ out, IsSolid (bcells l) out ∧ solid_Of l = some (slim out) := by
  have hex : ∀ z, ∃ o, IsForm (fun x y => bcells l x y z) o ∧ region_Of (bases l z) = some (lim o) := by
    intro z
    obtain ⟨o, h1, h2⟩ := region_Of_fine (bases_right h z) (by have := bases_length l z; omega)
    exact ⟨o, h1.congr fun x y => bases_cells l x y z, h2⟩
  obtain ⟨A, hA⟩ := Classical.axiomOfChoice hex
  obtain ⟨zs, hz1, hz2⟩ := heights_spec (ls := [l.map fun b => (⟨b.Z0, b.Z1, []⟩ : Slab)]) (by simp) (by simp; omega)
  have hzl := hz2.len
  simp only [List.flatten_cons, List.flatten_nil, List.append_nil, List.length_map] at hzl
  have hmem : ∀ b ∈ l, b.Z0 ∈ zs ∧ b.Z1 ∈ zs := by
    intro b hb
    refine ⟨(hz2.mem _).2 ⟨⟨b.Z0, b.Z1, []⟩, ?_, .inl rfl⟩, (hz2.mem _).2 ⟨⟨b.Z0, b.Z1, []⟩, ?_, .inr rfl⟩⟩ <;>
    · simp only [List.flatten_cons, List.flatten_nil, List.append_nil]
      exact List.mem_map.2 ⟨b, hb, rfl⟩
  obtain ⟨hS, hS2, hS3⟩ := build_solid (S := bcells l) hz2.asc (fun z => (hA z).1) (by
    intro i hi z h1 h2 x y
    refine exists_congr fun b => and_congr_right fun hb => and_congr_right fun _ => ?_
    have g1 := asc_gap hz2.asc hi (hmem b hb).1
    have g2 := asc_gap hz2.asc hi (hmem b hb).2
    omega) (by
    rintro z hno x y ⟨b, hb, _, h1, h2⟩
    obtain ⟨i, hi, a1, a2⟩ := asc_between hz2.asc (hmem b hb).1 (hmem b hb).2 h1 h2
    exact hno i hi ⟨a1, a2⟩)
  refine ⟨_, hS, ?_⟩
  unfold solid_Of
  rcases Of_L0 (l := l) (by omega) with ⟨h1, _⟩ | ⟨_, h1⟩
  · exact absurd h h1
  · rw [h1, Option.bind_some]
    dsimp only
    rw [if_neg (by simp; omega), hz1, Option.bind_some]
    rcases Nat.eq_zero_or_pos zs.length with h0 | h0
    · obtain rfl : zs = [] := List.length_eq_zero_iff.1 h0
      have e : iterL (solid_Of_L1 l []) (l.length + ([] : List Int).length + ([] : List Slab).length + 1) (([] : List Slab), 1) = some (.ex 2 (([] : List Slab), 1)) := by
        have : solid_Of_L1 l [] (([] : List Slab), 1) = some (.ex 2 (([] : List Slab), 1)) := by
          unfold solid_Of_L1
          dsimp only
          rw [if_neg (by simp)]
        simp only [iterL, this]
      rw [e, Option.bind_some]
      dsimp only
      rw [fits_eq (by simp), Option.bind_some]
      rfl
    · rcases solid_loop (body := solid_Of_L1 l zs) (k := 2) (A := A) hz2.asc (by omega) (by
        intro i h1i hi s
        have hL2 := Of_L2 (l := l) (by omega) (s := s) h1i hi (by omega) (fun b hb => z_cut hz2.asc h1i hi (hmem b hb).1)
        have hOf := (hA (zs[i - 1]'(by omega))).2
        unfold solid_Of_L1
        dsimp only
        rw [if_pos (by simpa using hi), hL2, Option.bind_some]
        dsimp only
        rw [hOf, Option.bind_some]
        unfold lim
        constructor
        · intro hc
          rw [if_pos hc, if_pos (by decide)]
        · intro hc
          rw [if_neg (Nat.not_lt.2 hc), if_neg (by dsimp only; decide), subI_nat (by omega) (by omega), Option.bind_some, getI_nat (show i - 1 < zs.length by omega), Option.bind_some, getI_nat hi, Option.bind_some]
          rw [addI_one (by omega)]
          rfl) (by
        intro s
        unfold solid_Of_L1
        dsimp only
        rw [if_neg (by simp)]) h0 (fuel := l.length + zs.length + ([] : List Slab).length + 1) (by simp; omega) with ⟨h2, h3⟩ | ⟨h2, j, hj, h3⟩
      · rw [h2, Option.bind_some]
        dsimp only
        rw [fits_eq h3, Option.bind_some]
      · rw [h2, Option.bind_some]
        dsimp only
        obtain ⟨s, hs1, hs2⟩ := hS2 j hj (fun e => by rw [e] at h3; simp at h3)
        unfold slim
        rw [if_pos (.inl ⟨s, hs1, by rw [hs2]; exact h3⟩)]

/-! Combining -/
end Go.Proofs.Ytekbjeagbfbbcaa

namespace Go.Proofs.Ytekbjeagbfbbcaa
open Go.Gb
set_option linter.unusedVariables false
set_option linter.unusedSimpArgs false
set_option linter.unusedSectionVars false
set_option linter.unusedVariables false
set_option linter.unusedSimpArgs false

/-! What is asked of a region -/
/-! What is asked of a solid -/
def boxesOf (s : List Slab) : List Box := s.flatMap fun x => x.Area.map fun r => ⟨r, x.Z0, x.Z1⟩
theorem Boxes_L1 {x : Slab} (hx : x.Area.length ≤ 1000000) {o : List Box} (ho : o.length ≤ 100000000) :
    iterL (solid_Boxes_L1 x) (x.Area.length + 1) (o, 0) = some (.ex 2 (o ++ x.Area.map (fun r => ⟨r, x.Z0, x.Z1⟩), (x.Area.length : Int))) := by
  refine (iter_range (k := 2) (l := x.Area) (body := solid_Boxes_L1 x) (fun (s : List Box) i => (s, i)) (fun s r => s ++ [⟨r, x.Z0, x.Z1⟩]) (fun i s => s.length ≤ 100000000 + i) (by
    intro i hi s hI
    constructor
    · unfold solid_Boxes_L1
      dsimp only
      rw [if_pos (by simpa using hi), getI_nat hi, Option.bind_some, appI_some (by simp; omega), Option.bind_some, addI_one (by omega), Option.bind_some]
    · simp; omega) (by
    intro s _
    unfold solid_Boxes_L1
    dsimp only
    rw [if_neg (by simp)]) (s0 := o) (by omega) (by omega)).1.trans ?_
  rw [foldl_flatMap (fun r : Rect => [(⟨r, x.Z0, x.Z1⟩ : Box)]), List.map_eq_flatMap]
theorem solid_Boxes_fine {s : List Slab} (h : SS s) : solid_Boxes s = some (boxesOf s) := by
  unfold solid_Boxes
  rw [solid_Right_true h, Option.bind_some, if_neg (by simp)]
  have hl := h.len
  obtain ⟨h1, h2⟩ := iter_range (k := 0) (l := s) (body := solid_Boxes_L0 s) (fun (s : List Box) i => (s, i)) (fun o x => o ++ x.Area.map fun r => ⟨r, x.Z0, x.Z1⟩) (fun i o => o.length ≤ 200 * i) (by
    intro i hi o hI
    have hx := (h.ok _ (List.getElem_mem hi)).2.2.2.1
    constructor
    · unfold solid_Boxes_L0
      dsimp only
      rw [if_pos (by simpa using hi), getI_nat hi, Option.bind_some, Boxes_L1 (by omega) (by omega), Option.bind_some]
      dsimp only
      rw [addI_one (by omega), Option.bind_some]
    · simp; omega) (by
    intro o _
    unfold solid_Boxes_L0
    dsimp only
    rw [if_neg (by simp)]) (s0 := []) (by simp) (fuel := s.length + 1) (by omega)
  rw [h1, Option.bind_some, foldl_flatMap (fun x : Slab => x.Area.map fun r => (⟨r, x.Z0, x.Z1⟩ : Box))]
  rfl
theorem solid_Boxes_bad {s : List Slab} (ha : ∀ b ∈ s, b.Area.length ≤ 100000) (h : ¬ SS s) : solid_Boxes s = some [] := by
  unfold solid_Boxes
  rw [solid_Right_false ha h, Option.bind_some, if_pos (by simp)]
theorem boxesOf_length {s : List Slab} (h : SS s) : (boxesOf s).length ≤ 16000 := by
  have hl := h.len
  have key : ∀ l : List Slab, (∀ b ∈ l, b.Area.length ≤ 200) → (boxesOf l).length ≤ 200 * l.length := by
    intro l
    induction l with
    | nil => intro _; simp [boxesOf]
    | cons a l ih =>
      intro hb
      have h1 := ih fun b hb' => hb b (by simp [hb'])
      have h2 := hb a (by simp)
      unfold boxesOf at h1 ⊢
      simp only [List.flatMap_cons, List.length_append, List.length_map, List.length_cons]
      omega
  have := key s fun b hb => (h.ok b hb).2.2.2.1
  omega
theorem boxesOf_VB {s : List Slab} (h : SS s) : ∀ b ∈ boxesOf s, VB b := by
  intro b hb
  obtain ⟨x, hx, hb⟩ := List.mem_flatMap.1 hb
  obtain ⟨r, hr, rfl⟩ := List.mem_map.1 hb
  have h1 := h.ok x hx
  have h2 := slab_pos h.canon hx
  exact ⟨h1.2.2.1 r hr, h1.1, h2.1, h1.2.1⟩
theorem bcells_boxesOf {s : List Slab} (h : Canon [] (slabRuns s)) (x y z : Int) : bcells (boxesOf s) x y z ↔ scells s x y z := by
  constructor
  · rintro ⟨b, hb, h1, h2⟩
    obtain ⟨q, hq, hb⟩ := List.mem_flatMap.1 hb
    obtain ⟨r, hr, rfl⟩ := List.mem_map.1 hb
    unfold scells
    rw [sect_mem h hq h2.1 h2.2]
    exact ⟨r, hr, h1⟩
  · intro hc
    unfold scells at hc
    rcases rval_mem (e := []) (l := slabRuns s) (x := z) with h1 | ⟨p, q, h1, h2⟩
    · unfold sect at hc; rw [h1] at hc; simp [cells] at hc
    · obtain ⟨b, hb, he⟩ := List.mem_map.1 h1
      simp only [Prod.mk.injEq] at he
      obtain ⟨r, hr, hr'⟩ := hc
      refine ⟨⟨r, b.Z0, b.Z1⟩, List.mem_flatMap.2 ⟨b, hb, List.mem_map.2 ⟨r, ?_, rfl⟩⟩, hr', by dsimp only; omega⟩
      have : sect s z = b.Area := by unfold sect; rw [← he.2.2]
      rw [← this]; exact hr
/-- The height over a cell. -/
def IsTop (s : List Slab) (x y t : Int) : Prop := 0 ≤ t ∧ (∀ z, scells s x y z → z < t) ∧ (t = 0 ∨ scells s x y (t - 1))
theorem IsTop.unique {s : List Slab} {x y t t' : Int} (h : IsTop s x y t) (h' : IsTop s x y t') : t = t' := by
  obtain ⟨a1, a2, a3⟩ := h
  obtain ⟨b1, b2, b3⟩ := h'
  rcases a3 with rfl | a3
  · rcases b3 with rfl | b3
    · rfl
    · have := a2 _ b3; omega
  · have := b2 _ a3
    rcases b3 with rfl | b3
    · omega
    · have := a2 _ b3; omega
theorem solid_Same_eq {a b : List Slab} (hl : a.length ≤ 1000000) (ha : ∀ s ∈ a, s.Area.length ≤ 1000000) : solid_Same a b = some (decide (a = b)) := by
  unfold solid_Same slices_EqualFunc_Slab_Slab_Slab
  by_cases hlen : a.length = b.length
  · rw [if_neg (by simp [hlen])]
    have heq : ∀ x ∈ a, ∀ y : Slab, solid_Same_1 x y = some (decide (x = y)) := by
      intro x hx y
      unfold solid_Same_1
      obtain ⟨x0, x1, xa⟩ := x
      obtain ⟨y0, y1, ya⟩ := y
      have hxa := ha _ hx
      dsimp only at hxa ⊢
      by_cases h0 : x0 = y0
      · by_cases h1 : x1 = y1
        · rw [if_pos (by simp [h0, h1]), region_Same_eq hxa, Option.bind_some, Option.bind_some]; simp [h0, h1]
        · rw [if_neg (by simp [h1]), Option.bind_some]; simp [h1]
      · rw [if_neg (by simp [h0]), Option.bind_some]; simp [h0]
    rcases iter_find (l := a.zip b) (body := slices_EqualFunc_Slab_Slab_Slab_L0 a b solid_Same_1) (k := 0) (fun p => p.1 ≠ p.2) (fun _ => false) (by
      intro i hi
      simp only [List.length_zip] at hi
      have h1 : i < a.length := by omega
      have h2 : i < b.length := by omega
      unfold slices_EqualFunc_Slab_Slab_Slab_L0
      rw [if_pos (by simpa using h1), getI_nat h1, Option.bind_some, getI_nat h2, Option.bind_some, heq _ (List.getElem_mem h1), Option.bind_some]
      simp only [List.getElem_zip]
      by_cases he : a[i] = b[i]
      · right
        rw [if_neg (by simpa using he), addI_one (show i < 4611686018427387904 by omega), Option.bind_some]
        exact ⟨by simpa using he, rfl⟩
      · left
        rw [if_pos (by simpa using he)]
        exact ⟨he, rfl⟩) (by
      have e : ((a.zip b).length : Int) = (a.length : Int) := by simp; omega
      rw [e]
      unfold slices_EqualFunc_Slab_Slab_Slab_L0
      rw [if_neg (by simp)]) (fuel := a.length + 1) (by simp; omega) with ⟨i, hi, hp, _, h⟩ | ⟨hp, h⟩
    · rw [h, Option.bind_some]
      dsimp only
      rw [Option.bind_some]
      congr 1
      symm
      rw [decide_eq_false_iff_not]
      intro e; subst e; simp at hp
    · rw [h, Option.bind_some]
      dsimp only
      rw [Option.bind_some]
      congr 1
      symm
      rw [decide_eq_true_iff]
      refine List.ext_getElem hlen fun i h1 h2 => ?_
      have := hp (a[i], b[i]) (by
        rw [List.mem_iff_getElem]
        exact ⟨i, by simp; omega, by simp⟩)
      simpa using this
  · rw [if_pos (by simp; omega), Option.bind_some]
    congr 1
    symm
    rw [decide_eq_false_iff_not]
    intro e; exact hlen (by rw [e])
end Go.Proofs.Ytekbjeagbfbbcaa

namespace Go.Proofs.Ytekbjeagbfbbcaa
open Go.Gb
set_option linter.unusedVariables false
set_option linter.unusedSimpArgs false
set_option linter.unusedSectionVars false
set_option linter.unusedVariables false
set_option linter.unusedSimpArgs false

/-! Forms that can be checked by reckoning -/
def canonB {V : Type} [DecidableEq V] (e : V) : Runs V → Bool
  | [] => true
  | (a, b, v) :: t => decide (a < b) && decide (v ≠ e) && (match t with | [] => true | (c, _, w) :: _ => decide (b < c) || (decide (b = c) && decide (v ≠ w))) && canonB e t
theorem canonB_spec {V : Type} [DecidableEq V] {e : V} : ∀ {l : Runs V}, canonB e l = true → Canon e l
  | [], _ => trivial
  | (a, b, v) :: t, h => by
    simp only [canonB, Bool.and_eq_true, decide_eq_true_eq] at h
    obtain ⟨⟨⟨h1, h2⟩, h3⟩, h4⟩ := h
    refine ⟨h1, h2, ?_, canonB_spec h4⟩
    cases t with
    | nil => trivial
    | cons r t =>
      obtain ⟨c, d, w⟩ := r
      simp only [Bool.or_eq_true, Bool.and_eq_true, decide_eq_true_eq] at h3
      exact h3
/-- The runs of columns of a list of rectangles, neighbours with the same ends in one. -/
def runsOf : List Rect → Runs Col
  | [] => []
  | r :: l => match runsOf l with
    | [] => [(r.X0, r.X1, [(r.Y0, r.Y1, true)])]
    | (a, b, c) :: t => if r.X0 = a ∧ r.X1 = b then (a, b, (r.Y0, r.Y1, true) :: c) :: t else (r.X0, r.X1, [(r.Y0, r.Y1, true)]) :: (a, b, c) :: t
theorem flatG_cons (a b : Int) (c : Col) (t : Runs Col) : flatG ((a, b, c) :: t) = (c.map fun s => ⟨a, s.1, b, s.2.1⟩) ++ flatG t := rfl
theorem flatG_runsOf : ∀ l : List Rect, flatG (runsOf l) = l
  | [] => rfl
  | r :: l => by
    have ih := flatG_runsOf l
    simp only [runsOf]
    split
    · rename_i h
      rw [h] at ih
      rw [← ih]; rfl
    · rename_i a b c t h
      rw [h] at ih
      split
      · rename_i h2
        obtain ⟨rfl, rfl⟩ := h2
        rw [← ih, flatG_cons, flatG_cons]; rfl
      · rw [flatG_cons, ← ih]; rfl
def formB (l : List Rect) : Bool := canonB [] (runsOf l) && (runsOf l).all fun g => canonB false g.2.2
theorem formB_spec {l : List Rect} (h : formB l = true) : IsForm (cells l) l := by
  unfold formB at h
  rw [Bool.and_eq_true, List.all_eq_true] at h
  have hf : IsForm (fun x y => rval false (rval [] (runsOf l) x) y = true) l := ⟨runsOf l, canonB_spec h.1, fun a b c hm => canonB_spec (h.2 _ hm), fun _ _ => Iff.rfl, (flatG_runsOf l).symm⟩
  exact hf.self
def rrB (l : List Rect) : Bool := l.all (fun r => decide (VR r)) && decide (l.length ≤ 200) && formB l
theorem rrB_spec {l : List Rect} (h : rrB l = true) : RR l := by
  unfold rrB at h
  simp only [Bool.and_eq_true, List.all_eq_true, decide_eq_true_eq] at h
  exact ⟨h.1.1, h.1.2, formB_spec h.2⟩
def ssB (s : List Slab) : Bool := decide (s.length ≤ 80) && canonB [] (slabRuns s) && s.all fun b => decide (0 ≤ b.Z0) && decide (b.Z1 ≤ 4096) && rrB b.Area
theorem ssB_spec {s : List Slab} (h : ssB s = true) : SS s := by
  unfold ssB at h
  simp only [Bool.and_eq_true, List.all_eq_true, decide_eq_true_eq] at h
  exact ⟨h.1.1, canonB_spec h.1.2, fun b hb => ⟨(h.2 b hb).1.1, (h.2 b hb).1.2, rrB_spec (h.2 b hb).2⟩⟩
theorem slim_fine {s : List Slab} (h : SS s) : slim s = (s, 0) := by
  unfold slim
  rw [if_neg]
  rintro (⟨b, hb, h'⟩ | h')
  · have := (h.ok b hb).2.2.2.1; omega
  · have := h.len; omega
theorem scells_iff {s : List Slab} {x y z : Int} : scells s x y z ↔ cells (sect s z) x y := Iff.rfl
theorem sect_nil (z : Int) : sect [] z = [] := rfl
end Go.Proofs.Ytekbjeagbfbbcaa

namespace Go.Proofs.Ytekbjeagbfbbcaa
open Go.Gb
set_option linter.unusedVariables false
set_option linter.unusedSimpArgs false
set_option linter.unusedSectionVars false
set_option linter.unusedVariables false
set_option linter.unusedSimpArgs false

theorem nodup_le {α : Type} [DecidableEq α] : ∀ {l m : List α}, l.Nodup → (∀ x ∈ l, x ∈ m) → l.length ≤ m.length
  | [], m, _, _ => Nat.zero_le _
  | a :: l, m, hn, hs => by
    have hn' := List.nodup_cons.1 hn
    have ha := hs a (by simp)
    have ih := nodup_le (l := l) (m := m.erase a) hn'.2 fun x hx => by
      have hxa : x ≠ a := fun e => hn'.1 (e ▸ hx)
      exact (List.mem_erase_of_ne hxa).2 (hs x (by simp [hx]))
    rw [List.length_erase_of_mem ha] at ih
    have := List.length_pos_of_mem ha
    simp only [List.length_cons]; omega

/-- How many of the numbers lie in [a, b). -/
def inC (D : List Int) (a b : Int) : Nat := D.countP fun c => decide (a ≤ c) && decide (c < b)
def ends (l : List (Int × Int)) : List Int := l.flatMap fun r => [r.1, r.2]
theorem ends_cons (r : Int × Int) (l : List (Int × Int)) : ends (r :: l) = r.1 :: r.2 :: ends l := rfl
def sumNat {α : Type} (f : α → Nat) : List α → Nat
  | [] => 0
  | x :: xs => f x + sumNat f xs
theorem sumNat_le {α : Type} {f g : α → Nat} : ∀ {l : List α}, (∀ x ∈ l, f x ≤ g x) → sumNat f l ≤ sumNat g l
  | [], _ => Nat.le_refl _
  | x :: l, h => by
    have := h x (by simp)
    have := sumNat_le (l := l) fun y hy => h y (by simp [hy])
    simp only [sumNat]; omega
theorem sumNat_add {α : Type} {f g : α → Nat} : ∀ {l : List α}, sumNat (fun x => f x + g x) l = sumNat f l + sumNat g l
  | [] => rfl
  | x :: l => by simp only [sumNat, sumNat_add (l := l)]; omega
theorem sumNat_const {α : Type} {c : Nat} : ∀ {l : List α}, sumNat (fun _ => c) l = c * l.length
  | [] => rfl
  | x :: l => by simp only [sumNat, sumNat_const (l := l), List.length_cons, Nat.mul_add]; omega
/-- Numbers that are ends of intervals, each once: those in a set are no more than the ends in it. -/
theorem count_ends {l : List (Int × Int)} {q : Int → Bool} : ∀ {D : List Int}, D.Nodup → (∀ c ∈ D, c ∈ ends l) → D.countP q ≤ sumNat (fun r => (if q r.1 then 1 else 0) + (if q r.2 then 1 else 0)) l := by
  intro D hn hs
  have h1 : D.countP q = (D.filter q).length := List.countP_eq_length_filter
  have h2 : (D.filter q).length ≤ ((ends l).filter q).length := nodup_le (hn.sublist List.filter_sublist) fun x hx => by
    rw [List.mem_filter] at hx ⊢
    exact ⟨hs x hx.1, hx.2⟩
  have h3 : ∀ l : List (Int × Int), ((ends l).filter q).length = sumNat (fun r => (if q r.1 then 1 else 0) + (if q r.2 then 1 else 0)) l := by
    intro l
    induction l with
    | nil => rfl
    | cons r l ih =>
      rw [ends_cons]
      simp only [List.filter_cons, sumNat, ← ih]
      cases q r.1 <;> cases q r.2 <;> simp <;> omega
  rw [← h3]; omega
theorem pairs_sq : ∀ {l : List (Int × Int)} {D : List Int}, (∀ r ∈ l, r.1 < r.2) → D.Nodup → (∀ c ∈ D, c ∈ ends l) → sumNat (fun r => inC D r.1 r.2) l ≤ l.length * l.length
  | [], D, _, _, _ => Nat.le_refl _
  | r0 :: l, D, hlt, hn, hs => by
    have h0 := hlt r0 (by simp)
    -- the numbers that are ends of the other intervals, and those that are not
    let o : Int → Bool := fun c => decide (c ∈ ends l)
    have hD : ∀ p : Int → Bool, D.countP p = (D.filter o).countP p + (D.filter fun c => !o c).countP p := by
      intro p
      clear hn hs hlt
      induction D with
      | nil => rfl
      | cons c D ih =>
        simp only [List.countP_cons, List.filter_cons, ih]
        cases o c <;> simp [List.countP_cons] <;> omega
    have hD1 : (D.filter o).Nodup := hn.sublist List.filter_sublist
    have hs1 : ∀ c ∈ D.filter o, c ∈ ends l := fun c hc => by have := (List.mem_filter.1 hc).2; simpa [o] using this
    have hD2 : (D.filter fun c => !o c).Nodup := hn.sublist List.filter_sublist
    have hs2 : ∀ c ∈ D.filter (fun c => !o c), c ∉ ends l ∧ (c = r0.1 ∨ c = r0.2) := fun c hc => by
      have h1 := (List.mem_filter.1 hc).2
      have h2 := hs c (List.mem_filter.1 hc).1
      rw [ends_cons] at h2
      have h3 : c ∉ ends l := by simpa [o] using h1
      refine ⟨h3, ?_⟩
      rcases List.mem_cons.1 h2 with h | h
      · exact .inl h
      · rcases List.mem_cons.1 h with h | h
        · exact .inr h
        · exact absurd h h3
    have ih := pairs_sq (l := l) (D := D.filter o) (fun r hr => hlt r (by simp [hr])) hD1 hs1
    -- the new numbers within another interval
    have hnew : ∀ r ∈ l, (D.filter fun c => !o c).countP (fun c => decide (r.1 ≤ c) && decide (c < r.2)) ≤ (if r.1 < r0.1 ∧ r0.1 < r.2 then 1 else 0) + (if r.1 < r0.2 ∧ r0.2 < r.2 then 1 else 0) := by
      intro r hr
      have hrl := hlt r (by simp [hr])
      have := count_ends (l := [r0]) (q := fun c => decide (r.1 < c) && decide (c < r.2)) (D := D.filter fun c => !o c) hD2 (fun c hc => by
        have := (hs2 c hc).2
        simp [ends]; exact this)
      have e : (D.filter fun c => !o c).countP (fun c => decide (r.1 ≤ c) && decide (c < r.2)) = (D.filter fun c => !o c).countP (fun c => decide (r.1 < c) && decide (c < r.2)) := by
        refine List.countP_congr fun c hc => ?_
        have hc1 : c ≠ r.1 := fun e => (hs2 c hc).1 (by rw [e]; exact List.mem_flatMap.2 ⟨r, hr, by simp⟩)
        simp only [Bool.and_eq_true, decide_eq_true_eq]
        omega
      rw [e]
      simpa [sumNat] using this
    -- the numbers within the new interval
    have hold : inC D r0.1 r0.2 ≤ 1 + sumNat (fun r => (if r0.1 < r.1 ∧ r.1 < r0.2 then 1 else 0) + (if r0.1 < r.2 ∧ r.2 < r0.2 then 1 else 0)) l := by
      have h1 : inC D r0.1 r0.2 ≤ 1 + D.countP (fun c => decide (r0.1 < c) && decide (c < r0.2)) := by
        have h2 : D.countP (fun c => decide (c = r0.1)) ≤ 1 := by
          have := nodup_le (l := D.filter fun c => decide (c = r0.1)) (m := [r0.1]) (hn.sublist List.filter_sublist) fun x hx => by
            have := (List.mem_filter.1 hx).2
            simpa using this
          rw [List.countP_eq_length_filter]; simpa using this
        have h3 : inC D r0.1 r0.2 ≤ D.countP (fun c => decide (c = r0.1)) + D.countP (fun c => decide (r0.1 < c) && decide (c < r0.2)) := by
          unfold inC
          clear hn hs hD hD1 hs1 hD2 hs2 ih hnew h2
          induction D with
          | nil => simp
          | cons c D ih =>
            simp only [List.countP_cons]
            by_cases c1 : c = r0.1
            · subst c1; simp [h0]; omega
            · by_cases c2 : r0.1 < c ∧ c < r0.2
              · simp [c1, c2, Int.le_of_lt c2.1]; omega
              · have : ¬ (r0.1 ≤ c ∧ c < r0.2) := by omega
                simp only [Bool.and_eq_true, decide_eq_true_eq, c1, c2, this, if_false]; omega
        omega
      have h4 : D.countP (fun c => decide (r0.1 < c) && decide (c < r0.2)) ≤ sumNat (fun r => (if r0.1 < r.1 ∧ r.1 < r0.2 then 1 else 0) + (if r0.1 < r.2 ∧ r.2 < r0.2 then 1 else 0)) (r0 :: l) := by
        have := count_ends (l := r0 :: l) (q := fun c => decide (r0.1 < c) && decide (c < r0.2)) hn hs
        simpa using this
      have h5 : sumNat (fun r : Int × Int => (if r0.1 < r.1 ∧ r.1 < r0.2 then 1 else 0) + (if r0.1 < r.2 ∧ r.2 < r0.2 then 1 else 0)) (r0 :: l) = sumNat (fun r => (if r0.1 < r.1 ∧ r.1 < r0.2 then 1 else 0) + (if r0.1 < r.2 ∧ r.2 < r0.2 then 1 else 0)) l := by
        simp only [sumNat]
        rw [if_neg (by omega), if_neg (by omega)]; omega
      omega
    have hsum : sumNat (fun r => inC D r.1 r.2) l ≤ sumNat (fun r => inC (D.filter o) r.1 r.2) l + sumNat (fun r => (if r.1 < r0.1 ∧ r0.1 < r.2 then 1 else 0) + (if r.1 < r0.2 ∧ r0.2 < r.2 then 1 else 0)) l := by
      rw [← sumNat_add]
      refine sumNat_le fun r hr => ?_
      unfold inC
      rw [hD]
      have := hnew r hr
      omega
    have hpair : sumNat (fun r => (if r.1 < r0.1 ∧ r0.1 < r.2 then 1 else 0) + (if r.1 < r0.2 ∧ r0.2 < r.2 then 1 else 0)) l + sumNat (fun r => (if r0.1 < r.1 ∧ r.1 < r0.2 then 1 else 0) + (if r0.1 < r.2 ∧ r.2 < r0.2 then 1 else 0)) l ≤ 2 * l.length := by
      rw [← sumNat_add, ← sumNat_const]
      refine sumNat_le fun r hr => ?_
      have := hlt r (by simp [hr])
      repeat' split
      all_goals omega
    have e : (r0 :: l).length * (r0 :: l).length = l.length * l.length + 2 * l.length + 1 := by
      simp only [List.length_cons, Nat.add_mul, Nat.mul_add]; omega
    rw [e]
    simp only [sumNat]
    omega

/-- What holds at a cell hangs on the rectangles alone that the cell is in. -/
structure Hangs (S : Int → Int → Prop) (l : List Rect) : Prop where
  same : ∀ x y x' y', (∀ r ∈ l, rin r x y ↔ rin r x' y') → (S x y ↔ S x' y')
  none : ∀ x y, (∀ r ∈ l, ¬ rin r x y) → ¬ S x y
theorem rval_before {V : Type} {e : V} : ∀ {l : Runs V}, Canon e l → ∀ {a b : Int} {v : V}, (a, b, v) ∈ l → rval e l (a - 1) ≠ v
  | (c, d, w) :: t, hc, a, b, v, hm => by
    obtain ⟨k1, k2, k3, k4⟩ := hc
    rcases List.mem_cons.1 hm with h | h
    · simp only [Prod.mk.injEq] at h
      obtain ⟨rfl, rfl, rfl⟩ := h
      rw [canon_lt ⟨k1, k2, k3, k4⟩ (by omega)]
      exact fun h => k2 h.symm
    · have ih := rval_before k4 h
      have hst := canon_starts k4 k3 _ h
      simp only at hst
      simp only [rval]
      split
      · rename_i h2
        -- the last place of the first run: the run begins right behind it
        have had : a = d := by omega
        cases t with
        | nil => simp at h
        | cons q t =>
          obtain ⟨c', d', w'⟩ := q
          rcases List.mem_cons.1 h with h' | h'
          · simp only [Prod.mk.injEq] at h'
            obtain ⟨rfl, rfl, rfl⟩ := h'
            rcases k3 with h3 | h3
            · omega
            · exact h3.2
          · have := canon_starts k4.2.2.2 k4.2.2.1 _ h'
            simp only at this
            have h5 := k4.1
            have h6 : d ≤ c' := by rcases k3 with h3 | h3 <;> omega
            omega
      · exact ih
theorem rval_behind {V : Type} {e : V} : ∀ {l : Runs V}, Canon e l → ∀ {a b : Int} {v : V}, (a, b, v) ∈ l → rval e l b ≠ v
  | (c, d, w) :: t, hc, a, b, v, hm => by
    obtain ⟨k1, k2, k3, k4⟩ := hc
    simp only [rval]
    rcases List.mem_cons.1 hm with h | h
    · simp only [Prod.mk.injEq] at h
      obtain ⟨rfl, rfl, rfl⟩ := h
      rw [if_neg (by omega)]
      exact rval_nxt k4 k3 k2
    · have ih := rval_behind k4 h
      have h1 := (canon_mem k4 h).1
      have hst := canon_starts k4 k3 _ h
      simp only at hst
      rw [if_neg (by omega)]
      exact ih
theorem length_flatMap {α β : Type} {g : α → List β} : ∀ {l : List α}, (l.flatMap g).length = sumNat (fun x => (g x).length) l
  | [] => rfl
  | x :: l => by simp only [List.flatMap_cons, List.length_append, sumNat, length_flatMap (l := l)]
theorem starts_nodup {V : Type} {e : V} : ∀ {l : Runs V}, Canon e l → (l.map (·.1)).Nodup
  | [], _ => .nil
  | (a, b, v) :: t, h => by
    obtain ⟨k1, k2, k3, k4⟩ := h
    rw [List.map_cons, List.nodup_cons]
    refine ⟨fun hm => ?_, starts_nodup k4⟩
    obtain ⟨r, hr, he⟩ := List.mem_map.1 hm
    have := canon_starts k4 k3 r hr
    simp only at he; omega
theorem flat_nodup {c : Col} (h : Canon false c) : (c.flatMap fun s => [s.1, s.2.1]).Nodup ∧ (c.flatMap fun s => [s.1, s.2.1]).length = 2 * c.length := by
  have key : ∀ c : Col, Canon false c → (c.flatMap fun s => [s.1, s.2.1]).Pairwise (fun a b => a < b) ∧ (c.flatMap fun s => [s.1, s.2.1]).length = 2 * c.length := by
    intro c
    induction c with
    | nil => intro _; exact ⟨.nil, rfl⟩
    | cons r t ih =>
      obtain ⟨a, b, v⟩ := r
      rintro ⟨k1, k2, k3, k4⟩
      obtain ⟨i1, i2⟩ := ih k4
      have hbt : ∀ x ∈ t.flatMap (fun s => [s.1, s.2.1]), b < x := by
        intro x hx
        obtain ⟨s, hs, hx⟩ := List.mem_flatMap.1 hx
        have h1 := canon_starts k4 k3 s hs
        have h2 := (canon_mem k4 (show (s.1, s.2.1, s.2.2) ∈ t from hs)).1
        have h3 : b < s.1 := by
          cases t with
          | nil => simp at hs
          | cons q t =>
            obtain ⟨c', d', w'⟩ := q
            have hw : b < c' := by
              rcases k3 with h | ⟨_, h⟩
              · exact h
              · exfalso
                have := k4.2.1
                revert h this k2
                cases v <;> cases w' <;> simp
            rcases List.mem_cons.1 hs with rfl | hs
            · exact hw
            · have := canon_starts k4.2.2.2 k4.2.2.1 s hs
              have := k4.1
              omega
        simp at hx
        omega
      refine ⟨?_, by simp only [List.flatMap_cons, List.length_append, List.length_cons, List.length_nil, i2]; omega⟩
      simp only [List.flatMap_cons, List.cons_append, List.nil_append]
      refine List.pairwise_cons.2 ⟨fun x hx => ?_, List.pairwise_cons.2 ⟨hbt, i1⟩⟩
      rcases List.mem_cons.1 hx with rfl | hx
      · exact k1
      · have := hbt x hx; omega
  obtain ⟨h1, h2⟩ := key c h
  exact ⟨h1.imp fun h => Int.ne_of_lt h, h2⟩

theorem col_len {S : Int → Int → Prop} {l : List Rect} (hS : Hangs S l) (hl : ∀ r ∈ l, VR r) {x : Int} {c : Col} (hc : Canon false c) (hv : ∀ y, rval false c y = true ↔ S x y) : c.length ≤ (l.filter fun r => decide (r.X0 ≤ x) && decide (x < r.X1)).length := by
  obtain ⟨h1, h2⟩ := flat_nodup hc
  have hsub : ∀ z ∈ c.flatMap (fun s => [s.1, s.2.1]), z ∈ (l.filter fun r => decide (r.X0 ≤ x) && decide (x < r.X1)).flatMap (fun r => [r.Y0, r.Y1]) := by
    intro z hz
    obtain ⟨s, hs, hz⟩ := List.mem_flatMap.1 hz
    have hst : s.2.2 = true := by
      have := (canon_mem hc (show (s.1, s.2.1, s.2.2) ∈ c from hs)).2
      cases h : s.2.2
      · rw [h] at this; exact absurd rfl this
      · rfl
    have hs' : (s.1, s.2.1, true) ∈ c := by rw [← hst]; exact hs
    have hpos := (canon_mem hc hs').1
    -- something changes at z
    have hch : ¬ (S x z ↔ S x (z - 1)) := by
      rw [← hv, ← hv]
      simp at hz
      rcases hz with rfl | rfl
      · have h3 := rval_before hc hs'
        have h4 := rval_of_mem hc hs' (Int.le_refl _) hpos
        rw [h4]
        cases h5 : rval false c (s.1 - 1)
        · simp
        · exact absurd h5 h3
      · have h3 := rval_behind hc hs'
        have h4 := rval_of_mem hc hs' (show s.1 ≤ s.2.1 - 1 by omega) (by omega)
        rw [h4]
        cases h5 : rval false c s.2.1
        · simp
        · exact absurd h5 h3
    rw [List.mem_flatMap]
    refine Classical.byContradiction fun hno => hch (hS.same _ _ _ _ fun r hr => ?_)
    have hr2 : (r.X0 ≤ x ∧ x < r.X1) → z ≠ r.Y0 ∧ z ≠ r.Y1 := fun hx => by
      have hm : r ∈ l.filter fun r => decide (r.X0 ≤ x) && decide (x < r.X1) := List.mem_filter.2 ⟨hr, by simpa using hx⟩
      exact ⟨fun e => hno ⟨r, hm, by simp [e]⟩, fun e => hno ⟨r, hm, by simp [e]⟩⟩
    unfold rin
    constructor
    · rintro ⟨hx, hy⟩
      have := hr2 hx
      exact ⟨hx, by omega⟩
    · rintro ⟨hx, hy⟩
      have := hr2 hx
      exact ⟨hx, by omega⟩
  have h3 := nodup_le h1 hsub
  have h4 : ∀ m : List Rect, (m.flatMap fun r => [r.Y0, r.Y1]).length = 2 * m.length := by
    intro m
    induction m with
    | nil => rfl
    | cons a m ih => simp only [List.flatMap_cons, List.length_append, List.length_cons, List.length_nil, ih]; omega
  rw [h2, h4] at h3
  omega
theorem form_len {S : Int → Int → Prop} {l out : List Rect} (hS : Hangs S l) (hl : ∀ r ∈ l, VR r) (h : IsForm S out) : out.length ≤ l.length * l.length := by
  obtain ⟨G, h1, h2, h3, rfl⟩ := h
  let P : List (Int × Int) := l.map fun r => (r.X0, r.X1)
  have hPl : P.length = l.length := by simp [P]
  have hcol : ∀ g ∈ G, g.2.2.length ≤ (l.filter fun r => decide (r.X0 ≤ g.1) && decide (g.1 < r.X1)).length := by
    intro g hg
    obtain ⟨a, b, c⟩ := g
    have hab := (canon_mem h1 hg).1
    have hr := rval_of_mem h1 hg (Int.le_refl a) hab
    exact col_len hS hl (h2 a b c hg) fun y => by rw [← hr]; exact h3 a y
  have hstart : ∀ a ∈ G.map (·.1), a ∈ ends P := by
    intro a ha
    obtain ⟨g, hg, rfl⟩ := List.mem_map.1 ha
    obtain ⟨a, b, c⟩ := g
    have hab := (canon_mem h1 hg).1
    have hr := rval_of_mem h1 hg (Int.le_refl a) hab
    have hb := rval_before h1 hg
    dsimp only
    refine Classical.byContradiction fun hno => hb ?_
    rw [← hr]
    refine canon_unique (canon_at h2 _) (canon_at h2 _) fun y => ?_
    rw [Bool.eq_iff_iff, h3, h3]
    refine hS.same _ _ _ _ fun r hr => ?_
    have hm : (r.X0, r.X1) ∈ P := List.mem_map.2 ⟨r, hr, rfl⟩
    have e1 : a ≠ r.X0 := fun e => hno (List.mem_flatMap.2 ⟨_, hm, by simp [e]⟩)
    have e2 : a ≠ r.X1 := fun e => hno (List.mem_flatMap.2 ⟨_, hm, by simp [e]⟩)
    unfold rin
    constructor
    · rintro ⟨hx, hy⟩; exact ⟨by omega, hy⟩
    · rintro ⟨hx, hy⟩; exact ⟨by omega, hy⟩
  have hsq := pairs_sq (l := P) (D := G.map (·.1)) (fun r hr => by
    obtain ⟨q, hq, rfl⟩ := List.mem_map.1 hr
    exact (hl q hq).2.1) (starts_nodup h1) hstart
  rw [hPl] at hsq
  refine Nat.le_trans ?_ hsq
  unfold flatG
  rw [length_flatMap]
  refine Nat.le_trans (sumNat_le (g := fun g => (l.filter fun r => decide (r.X0 ≤ g.1) && decide (g.1 < r.X1)).length) fun g hg => by rw [List.length_map]; exact hcol g hg) ?_
  -- exchange the sums
  have hex : ∀ (m : List Rect) (H : Runs Col), sumNat (fun g => (m.filter fun r => decide (r.X0 ≤ g.1) && decide (g.1 < r.X1)).length) H = sumNat (fun r => inC (H.map (·.1)) r.1 r.2) (m.map fun r => (r.X0, r.X1)) := by
    intro m
    induction m with
    | nil =>
      intro H
      simp only [List.filter_nil, List.length_nil, List.map_nil, sumNat]
      rw [sumNat_const]; simp
    | cons r m ih =>
      intro H
      simp only [List.map_cons, sumNat]
      rw [← ih H]
      have e1 : sumNat (fun g : Int × Int × Col => ((r :: m).filter fun r => decide (r.X0 ≤ g.1) && decide (g.1 < r.X1)).length) H = sumNat (fun g => if (decide (r.X0 ≤ g.1) && decide (g.1 < r.X1)) = true then 1 else 0) H + sumNat (fun g => (m.filter fun r => decide (r.X0 ≤ g.1) && decide (g.1 < r.X1)).length) H := by
        rw [← sumNat_add]
        congr 1
        funext g
        by_cases hp : (decide (r.X0 ≤ g.1) && decide (g.1 < r.X1)) = true
        · rw [List.filter_cons, if_pos hp, if_pos hp, List.length_cons]; omega
        · rw [List.filter_cons, if_neg hp, if_neg hp]; omega
      have e2 : ∀ H : Runs Col, sumNat (fun g : Int × Int × Col => if (decide (r.X0 ≤ g.1) && decide (g.1 < r.X1)) = true then 1 else 0) H = inC (H.map (·.1)) r.X0 r.X1 := by
        intro H
        unfold inC
        induction H with
        | nil => rfl
        | cons g H ihH =>
          simp only [sumNat, List.map_cons, List.countP_cons, ihH]; omega
      rw [e1, e2]
  rw [hex]
  exact Nat.le_refl _

/-- What holds at a cube hangs on the boxes alone that it is in. -/
structure Hangs3 (S : Int → Int → Int → Prop) (l : List Box) : Prop where
  same : ∀ x y z x' y' z', (∀ b ∈ l, (rin b.Base x y ∧ b.Z0 ≤ z ∧ z < b.Z1) ↔ (rin b.Base x' y' ∧ b.Z0 ≤ z' ∧ z' < b.Z1)) → (S x y z ↔ S x' y' z')
  none : ∀ x y z, (∀ b ∈ l, ¬ (rin b.Base x y ∧ b.Z0 ≤ z ∧ z < b.Z1)) → ¬ S x y z
theorem Hangs3.at {S : Int → Int → Int → Prop} {l : List Box} (h : Hangs3 S l) (z : Int) : Hangs (fun x y => S x y z) (bases l z) := by
  have hb : ∀ b ∈ l, (b.Z0 ≤ z ∧ z < b.Z1) → b.Base ∈ bases l z := fun b hb hz => List.mem_map.2 ⟨b, List.mem_filter.2 ⟨hb, by simpa using hz⟩, rfl⟩
  refine ⟨fun x y x' y' he => h.same _ _ _ _ _ _ fun b hbl => ?_, fun x y hno => h.none _ _ _ fun b hbl hh => hno _ (hb b hbl hh.2) hh.1⟩
  constructor
  · rintro ⟨h1, h2⟩; exact ⟨(he _ (hb b hbl h2)).1 h1, h2⟩
  · rintro ⟨h1, h2⟩; exact ⟨(he _ (hb b hbl h2)).2 h1, h2⟩
theorem solid_len {S : Int → Int → Int → Prop} {l : List Box} {out : List Slab} (hS : Hangs3 S l) (hl : ∀ b ∈ l, VB b) (h : IsSolid S out) : out.length ≤ 2 * l.length ∧ ∀ s ∈ out, s.Area.length ≤ l.length * l.length := by
  constructor
  · have h1 := starts_nodup h.canon
    have hsub : ∀ a ∈ (slabRuns out).map (·.1), a ∈ l.flatMap fun b => [b.Z0, b.Z1] := by
      intro a ha
      obtain ⟨g, hg, rfl⟩ := List.mem_map.1 ha
      obtain ⟨a, b, c⟩ := g
      have hab := (canon_mem h.canon hg).1
      have hr := rval_of_mem h.canon hg (Int.le_refl a) hab
      have hb := rval_before h.canon hg
      dsimp only
      refine Classical.byContradiction fun hno => hb ?_
      rw [← hr]
      refine (h.form (a - 1)).unique (h.form a) fun x y => hS.same _ _ _ _ _ _ fun b hb => ?_
      have e1 : a ≠ b.Z0 := fun e => hno (List.mem_flatMap.2 ⟨b, hb, by simp [e]⟩)
      have e2 : a ≠ b.Z1 := fun e => hno (List.mem_flatMap.2 ⟨b, hb, by simp [e]⟩)
      constructor
      · rintro ⟨h1, h2⟩; exact ⟨h1, by omega⟩
      · rintro ⟨h1, h2⟩; exact ⟨h1, by omega⟩
    have h2 := nodup_le h1 hsub
    have h4 : ∀ m : List Box, (m.flatMap fun r => [r.Z0, r.Z1]).length = 2 * m.length := by
      intro m
      induction m with
      | nil => rfl
      | cons a m ih => simp only [List.flatMap_cons, List.length_append, List.length_cons, List.length_nil, ih]; omega
    rw [h4, List.length_map, slabRuns_length] at h2
    exact h2
  · intro s hs
    have hp := (slab_pos h.canon hs).1
    have he := sect_mem h.canon hs (Int.le_refl _) hp
    have := form_len (hS.at s.Z0) (bases_right hl s.Z0) (h.form s.Z0)
    rw [he] at this
    exact Nat.le_trans this (Nat.mul_le_mul (bases_length l s.Z0) (bases_length l s.Z0))
/-- With few boxes no limit is met. -/
theorem slim_few {S : Int → Int → Int → Prop} {l : List Box} {out : List Slab} (hS : Hangs3 S l) (hl : ∀ b ∈ l, VB b) (h : IsSolid S out) (hn : l.length ≤ 14) : SS out ∧ slim out = (out, 0) := by
  obtain ⟨h1, h2⟩ := solid_len hS hl h
  have hsq : l.length * l.length ≤ 14 * 14 := Nat.mul_le_mul (by omega) (by omega)
  have hex : ∀ {x y z : Int}, S x y z → ∃ b ∈ l, rin b.Base x y ∧ b.Z0 ≤ z ∧ z < b.Z1 := fun {x y z} hs => Classical.byContradiction fun hno => hS.none x y z (fun b hb hh => hno ⟨b, hb, hh⟩) hs
  have hSS : SS out := by
    refine ⟨by omega, h.canon, fun s hs => ?_⟩
    obtain ⟨hp, hne⟩ := slab_pos h.canon hs
    have hf := h.form s.Z0
    rw [sect_mem h.canon hs (Int.le_refl _) hp] at hf
    have hf1 := h.form (s.Z1 - 1)
    rw [sect_mem h.canon hs (by omega) (by omega)] at hf1
    have hpos := form_rect hf
    obtain ⟨r, hr⟩ := List.exists_mem_of_ne_nil _ hne
    have hrp := hpos r hr
    obtain ⟨b, hb, hb1, hb2⟩ := hex ((hf.cells r.X0 r.Y0).1 ⟨r, hr, ⟨Int.le_refl _, hrp.1⟩, Int.le_refl _, hrp.2⟩)
    obtain ⟨b', hb', hb1', hb2'⟩ := hex ((hf1.cells r.X0 r.Y0).1 ⟨r, hr, ⟨Int.le_refl _, hrp.1⟩, Int.le_refl _, hrp.2⟩)
    have v1 := hl b hb; have v2 := hl b' hb'
    unfold VB at v1 v2
    refine ⟨by omega, by omega, RR.of_form hf (fun q hq => ?_) (by have := h2 s hs; omega)⟩
    have hqp := hpos q hq
    obtain ⟨c, hc, hc1, _⟩ := hex ((hf.cells q.X0 q.Y0).1 ⟨q, hq, ⟨Int.le_refl _, hqp.1⟩, Int.le_refl _, hqp.2⟩)
    obtain ⟨d, hd, hd1, _⟩ := hex ((hf.cells (q.X1 - 1) (q.Y1 - 1)).1 ⟨q, hq, ⟨by omega, by omega⟩, by omega, by omega⟩)
    have w1 := (hl c hc).1; have w2 := (hl d hd).1
    unfold VR at w1 w2 ⊢
    unfold rin at hc1 hd1
    omega
  exact ⟨hSS, slim_fine hSS⟩
theorem bcells_hangs (l : List Box) : Hangs3 (bcells l) l :=
  ⟨fun x y z x' y' z' h => exists_congr fun b => and_congr_right fun hb => h b hb, fun x y z h ⟨b, hb, hh⟩ => h b hb hh⟩
theorem Hangs3.mono {S : Int → Int → Int → Prop} {l m : List Box} (h : Hangs3 S l) (hs : ∀ b ∈ l, b ∈ m) : Hangs3 S m :=
  ⟨fun x y z x' y' z' he => h.same _ _ _ _ _ _ fun b hb => he b (hs b hb), fun x y z hn => h.none x y z fun b hb => hn b (hs b hb)⟩
theorem Hangs3.congr {S T : Int → Int → Int → Prop} {l : List Box} (h : Hangs3 S l) (he : ∀ x y z, S x y z ↔ T x y z) : Hangs3 T l :=
  ⟨fun x y z x' y' z' hh => by rw [← he, ← he]; exact h.same _ _ _ _ _ _ hh, fun x y z hn => by rw [← he]; exact h.none _ _ _ hn⟩
end Go.Proofs.Ytekbjeagbfbbcaa

namespace Go.Proofs.Ytekbjeagbfbbcaa
open Go.Gb
set_option linter.unusedVariables false
set_option linter.unusedSimpArgs false
set_option linter.unusedSectionVars false
set_option maxRecDepth 100000
/-- This solid has these cubes, and its borders are those of these boxes. -/
structure Mk (l : List Box) (S : Int → Int → Int → Bool) (s : List Slab) : Prop where
  vb : ∀ b ∈ l, VB b
  ss : SS s
  is : IsSolid (fun x y z => S x y z = true) s
  hang : Hangs3 (fun x y z => S x y z = true) l
def bcB (l : List Box) (x y z : Int) : Bool := decide (bcells l x y z)
theorem bcB_iff {l : List Box} {x y z : Int} : bcB l x y z = true ↔ bcells l x y z := by unfold bcB; rw [decide_eq_true_iff]
theorem Mk.of {l m : List Box} (h : ∀ b ∈ m, VB b) (hn : m.length ≤ 14) (hs : ∀ b ∈ l, b ∈ m) (hl : l.length ≤ 200) : ∃ s, Mk m (bcB l) s ∧ solid_Of l = some (s, 0) := by
  have hv : ∀ b ∈ l, VB b := fun b hb => h b (hs b hb)
  obtain ⟨out, h1, h2⟩ := solid_Of_fine hv hl
  obtain ⟨h3, h4⟩ := slim_few ((bcells_hangs l).mono hs) h h1 hn
  exact ⟨out, ⟨h, h3, h1.congr fun x y z => bcB_iff.symm, ((bcells_hangs l).mono hs).congr fun x y z => bcB_iff.symm⟩, by rw [h2, h4]⟩
section
variable {l m : List Box} {S T : Int → Int → Int → Bool} {a b : List Slab}
theorem Mk.mono (h : Mk l S a) (hs : ∀ b ∈ l, b ∈ m) (hv : ∀ b ∈ m, VB b) : Mk m S a := ⟨hv, h.ss, h.is, h.hang.mono hs⟩
theorem Mk.right (h : Mk l S a) : solid_Right a = some true := solid_Right_true h.ss
theorem Mk.same (h : Mk l S a) (b : List Slab) : solid_Same a b = some (decide (a = b)) :=
  solid_Same_eq (by have := h.ss.len; omega) fun s hs => by have := (h.ss.ok s hs).2.2.2.1; omega
theorem Mk.nil (hv : ∀ b ∈ l, VB b) : Mk l (fun _ _ _ => false) [] := by
  refine ⟨hv, ssB_spec (by decide), (ssB_spec (s := []) (by decide)).solid.congr fun x y z => ?_, ⟨by simp, by simp⟩⟩
  rw [scells_iff, sect_nil]
  simp [cells]
end
end Go.Proofs.Ytekbjeagbfbbcaa

namespace Go.Proofs.Ytekbjeagbfbbcaa
open Go.Gb
set_option linter.unusedVariables false
set_option linter.unusedSimpArgs false
set_option linter.unusedSectionVars false
set_option maxRecDepth 100000
def sg (x y : Int) : Int := if x < y then -1 else if y < x then 1 else 0
theorem cmp_eq (x y : Int) : cmp_Compare_int x y = some (sg x y) := by
  unfold cmp_Compare_int cmp_isNaN_int sg
  simp only [bne_self_eq_false, Option.bind_some, decide_eq_true_eq]
  rw [if_neg (by simp), if_neg (by simp)]
  split
  · rfl
  · split <;> rfl
theorem mul_bounds {x y M : Int} (h0 : -M ≤ x) (h1 : x ≤ M) (h2 : 0 ≤ y) (h3 : y ≤ M) : -(M * M) ≤ x * y ∧ x * y ≤ M * M := by
  have a1 := Int.mul_le_mul_of_nonneg_right h0 h2
  have a2 := Int.mul_le_mul_of_nonneg_right h1 h2
  have a3 : M * y ≤ M * M := Int.mul_le_mul_of_nonneg_left h3 (by omega)
  constructor
  · have : -M * y = -(M * y) := Int.neg_mul M y
    omega
  · omega

/-! bounds -/
theorem cross_lt {n1 d1 n2 d2 p q : Int} (hd1 : 0 < d1) (hd2 : 0 < d2) (hq : 0 < q) (h : n1 * d2 < n2 * d1) (g : n2 * q ≤ p * d2) : n1 * q < p * d1 := by
  rcases Int.lt_or_le (n1 * q) (p * d1) with h0 | h0
  · exact h0
  · have e1 := Int.mul_le_mul_of_nonneg_right h0 (Int.le_of_lt hd2)
    have e2 := Int.mul_lt_mul_of_pos_right h hq
    have e3 := Int.mul_le_mul_of_nonneg_right g (Int.le_of_lt hd1)
    grind
theorem cross_gt {n1 d1 n2 d2 p q : Int} (hd1 : 0 < d1) (hd2 : 0 < d2) (hq : 0 < q) (h : n2 * d1 < n1 * d2) (g : p * d2 ≤ n2 * q) : p * d1 < n1 * q := by
  rcases Int.lt_or_le (p * d1) (n1 * q) with h0 | h0
  · exact h0
  · have e1 := Int.mul_le_mul_of_nonneg_right h0 (Int.le_of_lt hd2)
    have e2 := Int.mul_lt_mul_of_pos_right h hq
    have e3 := Int.mul_le_mul_of_nonneg_right g (Int.le_of_lt hd1)
    grind
theorem cross_eq {n1 d1 n2 d2 p q : Int} (hd1 : 0 < d1) (hd2 : 0 < d2) (h : n1 * d2 = n2 * d1) (g : n2 * q ≤ p * d2) : n1 * q ≤ p * d1 := by
  rcases Int.lt_or_le (p * d1) (n1 * q) with h0 | h0
  · have e1 := Int.mul_lt_mul_of_pos_right h0 hd2
    have e3 := Int.mul_le_mul_of_nonneg_right g (Int.le_of_lt hd1)
    have e4 : n1 * d2 * q = n2 * d1 * q := by rw [h]
    grind
  · exact h0
theorem cross_eq' {n1 d1 n2 d2 p q : Int} (hd1 : 0 < d1) (hd2 : 0 < d2) (h : n1 * d2 = n2 * d1) (g : p * d2 ≤ n2 * q) : p * d1 ≤ n1 * q := by
  rcases Int.lt_or_le (n1 * q) (p * d1) with h0 | h0
  · have e1 := Int.mul_lt_mul_of_pos_right h0 hd2
    have e3 := Int.mul_le_mul_of_nonneg_right g (Int.le_of_lt hd1)
    have e4 : n1 * d2 * q = n2 * d1 * q := by rw [h]
    grind
  · exact h0
/-- p/q is above, below a bound n/d -/
def loR (n d : Int) (o : Bool) (p q : Int) : Prop := n * q ≤ p * d ∧ (o = true → n * q < p * d)
def hiR (n d : Int) (o : Bool) (p q : Int) : Prop := p * d ≤ n * q ∧ (o = true → p * d < n * q)
def nK (n d : Int) : Prop := 0 < d ∧ d ≤ 4194304 ∧ -4194304 ≤ n ∧ n ≤ 4194304
section
variable {n1 d1 n2 d2 p q : Int} {o1 o2 : Bool}
theorem nK.mul (h : nK n1 d1) (g : nK n2 d2) : mulI n1 d2 = some (n1 * d2) := by
  have := mul_bounds (x := n1) (y := d2) (M := 4194304) h.2.2.1 h.2.2.2 (Int.le_of_lt g.1) g.2.1
  exact mulI_some (by unfold inI; omega)
theorem lo_lt (h : nK n1 d1) (g : nK n2 d2) (hq : 0 < q) (hc : n1 * d2 < n2 * d1) (hx : loR n2 d2 o2 p q) : loR n1 d1 o1 p q := by
  have := cross_lt h.1 g.1 hq hc hx.1
  exact ⟨by omega, fun _ => this⟩
theorem lo_eq (h : nK n1 d1) (g : nK n2 d2) (hc : n1 * d2 = n2 * d1) : (n1 * q ≤ p * d1 ↔ n2 * q ≤ p * d2) ∧ (n1 * q < p * d1 ↔ n2 * q < p * d2) := by
  have a := cross_eq (p := p) (q := q) h.1 g.1 hc
  have b := cross_eq (p := p) (q := q) g.1 h.1 hc.symm
  have c := cross_eq' (p := p) (q := q) h.1 g.1 hc
  have d := cross_eq' (p := p) (q := q) g.1 h.1 hc.symm
  refine ⟨⟨b, a⟩, ⟨fun x => ?_, fun x => ?_⟩⟩
  · rcases Int.lt_or_le (n2 * q) (p * d2) with y | y
    · exact y
    · have := c y; omega
  · rcases Int.lt_or_le (n1 * q) (p * d1) with y | y
    · exact y
    · have := d y; omega
theorem lo_or (h : nK n1 d1) (g : nK n2 d2) (hc : n1 * d2 = n2 * d1) : loR n1 d1 (o1 || o2) p q ↔ loR n1 d1 o1 p q ∧ loR n2 d2 o2 p q := by
  obtain ⟨a, b⟩ := lo_eq (p := p) (q := q) h g hc
  unfold loR
  rw [← a, ← b]
  cases o1 <;> cases o2 <;> simp <;> intro h0 _ <;> exact h0
theorem hi_lt (h : nK n1 d1) (g : nK n2 d2) (hq : 0 < q) (hc : n2 * d1 < n1 * d2) (hx : hiR n2 d2 o2 p q) : hiR n1 d1 o1 p q := by
  have := cross_gt h.1 g.1 hq hc hx.1
  exact ⟨by omega, fun _ => this⟩
theorem hi_eq (h : nK n1 d1) (g : nK n2 d2) (hc : n1 * d2 = n2 * d1) : (p * d1 ≤ n1 * q ↔ p * d2 ≤ n2 * q) ∧ (p * d1 < n1 * q ↔ p * d2 < n2 * q) := by
  obtain ⟨a, b⟩ := lo_eq (p := p) (q := q) h g hc
  constructor
  · constructor
    · intro x; rcases Int.lt_or_le (n2 * q) (p * d2) with y | y
      · have := b.2 y; omega
      · exact y
    · intro x; rcases Int.lt_or_le (n1 * q) (p * d1) with y | y
      · have := b.1 y; omega
      · exact y
  · constructor
    · intro x; rcases Int.lt_or_le (p * d2) (n2 * q) with y | y
      · exact y
      · have := a.2 y; omega
    · intro x; rcases Int.lt_or_le (p * d1) (n1 * q) with y | y
      · exact y
      · have := a.1 y; omega
theorem hi_or (h : nK n1 d1) (g : nK n2 d2) (hc : n1 * d2 = n2 * d1) : hiR n1 d1 (o1 || o2) p q ↔ hiR n1 d1 o1 p q ∧ hiR n2 d2 o2 p q := by
  obtain ⟨a, b⟩ := hi_eq (p := p) (q := q) h g hc
  unfold hiR
  rw [← a, ← b]
  cases o1 <;> cases o2 <;> simp <;> intro h0 _ <;> exact h0
/-- nothing lies between bounds in the wrong order; something does in the right one -/
theorem gap_none (h : nK n1 d1) (g : nK n2 d2) (hq : 0 < q) (hl : loR n1 d1 o1 p q) (hh : hiR n2 d2 o2 p q) : n1 * d2 ≤ n2 * d1 ∧ ((o1 = true ∨ o2 = true) → n1 * d2 < n2 * d1) := by
  constructor
  · rcases Int.lt_or_le (n2 * d1) (n1 * d2) with x | x
    · have := cross_gt h.1 g.1 hq x hh.1
      have := hl.1
      omega
    · exact x
  · intro ho
    rcases Int.lt_trichotomy (n1 * d2) (n2 * d1) with x | x | x
    · exact x
    · obtain ⟨a, b⟩ := hi_eq (p := p) (q := q) h g x
      rcases ho with ho | ho
      · have := hl.2 ho; have := a.2 hh.1; omega
      · have := b.2 (hh.2 ho); have := hl.1; omega
    · have := cross_gt h.1 g.1 hq x hh.1
      have := hl.1
      omega
theorem gap_some (h : nK n1 d1) (g : nK n2 d2) (hc : n1 * d2 < n2 * d1 ∨ (n1 * d2 = n2 * d1 ∧ o1 = false ∧ o2 = false)) : ∃ p q, 0 < q ∧ loR n1 d1 o1 p q ∧ hiR n2 d2 o2 p q := by
  rcases hc with hc | ⟨hc, rfl, rfl⟩
  · refine ⟨n1 * d2 + n2 * d1, 2 * (d1 * d2), by have := Int.mul_pos h.1 g.1; omega, ?_, ?_⟩
    · have e := Int.mul_lt_mul_of_pos_right hc h.1
      have : n1 * (2 * (d1 * d2)) < (n1 * d2 + n2 * d1) * d1 := by grind
      exact ⟨by omega, fun _ => this⟩
    · have e := Int.mul_lt_mul_of_pos_right hc g.1
      have : (n1 * d2 + n2 * d1) * d2 < n2 * (2 * (d1 * d2)) := by grind
      exact ⟨by omega, fun _ => this⟩
  · exact ⟨n1, d1, h.1, ⟨Int.le_refl _, by simp⟩, ⟨by omega, by simp⟩⟩
theorem top_some (h : nK n1 d1) : ∃ p q, 0 < q ∧ loR n1 d1 o1 p q := by
  refine ⟨n1 + d1, d1, h.1, ?_⟩
  have e := Int.mul_pos h.1 h.1
  have : n1 * d1 < (n1 + d1) * d1 := by grind
  exact ⟨by omega, fun _ => this⟩
/-- what it means that at + t * by is in a range -/
theorem lo_pos {at' by' from' : Int} (hb : 0 < by') : loR (from' - at') by' false p q ↔ from' * q ≤ at' * q + by' * p := by
  unfold loR
  constructor
  · intro h; have := h.1; grind
  · intro h; refine ⟨?_, by simp⟩; grind
theorem hi_pos {at' by' to' : Int} (hb : 0 < by') : hiR (to' - at') by' true p q ↔ at' * q + by' * p < to' * q := by
  unfold hiR
  constructor
  · intro h; have := h.2 rfl; grind
  · intro h; have : p * by' < (to' - at') * q := by grind
    exact ⟨by omega, fun _ => this⟩
theorem lo_neg {at' by' to' : Int} : loR (at' - to') (0 - by') true p q ↔ at' * q + by' * p < to' * q := by
  unfold loR
  constructor
  · intro h; have := h.2 rfl; grind
  · intro h; have : (at' - to') * q < p * (0 - by') := by grind
    exact ⟨by omega, fun _ => this⟩
theorem hi_neg {at' by' from' : Int} : hiR (at' - from') (0 - by') false p q ↔ from' * q ≤ at' * q + by' * p := by
  unfold hiR
  constructor
  · intro h; have := h.1; grind
  · intro h; refine ⟨?_, by simp⟩; grind
end
end Go.Proofs.Ytekbjeagbfbbcaa

namespace Go.Proofs.Ytekbjeagbfbbcaa
open Go.Gb
set_option linter.unusedVariables false
set_option linter.unusedSimpArgs false
set_option linter.unusedSectionVars false
set_option maxRecDepth 100000
theorem sg_pos {a b : Int} : 0 < sg a b ↔ b < a := by unfold sg; split <;> (try split) <;> omega
theorem sg_neg {a b : Int} : sg a b < 0 ↔ a < b := by unfold sg; split <;> (try split) <;> omega
theorem sg_zero {a b : Int} : sg a b = 0 ↔ a = b := by unfold sg; split <;> (try split) <;> omega
def bK (x : SightBound) : Prop := nK x.n x.d
def IvK (i : SightInterval) : Prop := bK i.lo ∧ (i.top = true → bK i.hi)
def Mem (i : SightInterval) (p q : Int) : Prop := i.none_ = false ∧ loR i.lo.n i.lo.d i.lo.open_ p q ∧ (i.top = true → hiR i.hi.n i.hi.d i.hi.open_ p q)
theorem compare_eq {x y : SightBound} (hx : bK x) (hy : bK y) : sight_bound_compare x y = some (sg (x.n * y.d) (y.n * x.d)) := by
  unfold sight_bound_compare
  rw [nK.mul hx hy, Option.bind_some, nK.mul hy hx, Option.bind_some, cmp_eq, Option.bind_some]
theorem above_eq {i : SightInterval} {b : SightBound} (hi : IvK i) (hb : bK b) :
    ∃ j, sight_interval_above i b = some j ∧ IvK j ∧ j.top = i.top ∧ ∀ p q, 0 < q → (Mem j p q ↔ Mem i p q ∧ loR b.n b.d b.open_ p q) := by
  unfold sight_interval_above
  rw [compare_eq hb hi.1, Option.bind_some]
  by_cases c1 : i.lo.n * b.d < b.n * i.lo.d
  · rw [if_pos (by rw [decide_eq_true_iff]; exact sg_pos.2 c1), Option.bind_some]
    refine ⟨_, rfl, ⟨hb, hi.2⟩, rfl, fun p q hq => ?_⟩
    unfold Mem
    dsimp only
    constructor
    · rintro ⟨h1, h2, h3⟩
      exact ⟨⟨h1, lo_lt hi.1 hb hq c1 h2, h3⟩, h2⟩
    · rintro ⟨⟨h1, _, h3⟩, h2⟩
      exact ⟨h1, h2, h3⟩
  · rw [if_neg (by rw [decide_eq_true_iff]; exact fun h => c1 (sg_pos.1 h))]
    by_cases c2 : b.n * i.lo.d = i.lo.n * b.d
    · rw [if_pos (by rw [beq_iff_eq]; exact sg_zero.2 c2), Option.bind_some, Option.bind_some]
      refine ⟨_, rfl, ⟨hi.1, hi.2⟩, rfl, fun p q hq => ?_⟩
      unfold Mem
      dsimp only
      rw [lo_or hi.1 hb c2.symm]
      constructor
      · rintro ⟨h1, ⟨h2, h4⟩, h3⟩
        exact ⟨⟨h1, h2, h3⟩, h4⟩
      · rintro ⟨⟨h1, h2, h3⟩, h4⟩
        exact ⟨h1, ⟨h2, h4⟩, h3⟩
    · rw [if_neg (by rw [beq_iff_eq]; exact fun h => c2 (sg_zero.1 h)), Option.bind_some, Option.bind_some]
      refine ⟨_, rfl, hi, rfl, fun p q hq => ⟨fun h => ⟨h, ?_⟩, fun h => h.1⟩⟩
      exact lo_lt hb hi.1 hq (by omega) h.2.1
theorem below_eq {i : SightInterval} {b : SightBound} (hi : IvK i) (hb : bK b) :
    ∃ j, sight_interval_below i b = some j ∧ IvK j ∧ j.top = true ∧ ∀ p q, 0 < q → (Mem j p q ↔ Mem i p q ∧ hiR b.n b.d b.open_ p q) := by
  unfold sight_interval_below
  by_cases ht : i.top = true
  · have hh := hi.2 ht
    rw [if_pos ht, compare_eq hb hh, Option.bind_some, Option.bind_some]
    by_cases c1 : b.n * i.hi.d < i.hi.n * b.d
    · rw [if_pos (by rw [decide_eq_true_iff]; exact sg_neg.2 c1), Option.bind_some]
      refine ⟨_, rfl, ⟨hi.1, fun _ => hb⟩, rfl, fun p q hq => ?_⟩
      unfold Mem
      dsimp only
      constructor
      · rintro ⟨h1, h2, h3⟩
        exact ⟨⟨h1, h2, fun _ => hi_lt hh hb hq (by omega) (h3 rfl)⟩, h3 rfl⟩
      · rintro ⟨⟨h1, h2, _⟩, h3⟩
        exact ⟨h1, h2, fun _ => h3⟩
    · rw [if_neg (by rw [decide_eq_true_iff]; exact fun h => c1 (sg_neg.1 h))]
      by_cases c2 : b.n * i.hi.d = i.hi.n * b.d
      · rw [if_pos (by rw [beq_iff_eq]; exact sg_zero.2 c2), Option.bind_some, Option.bind_some]
        refine ⟨_, rfl, ⟨hi.1, fun _ => hh⟩, ht, fun p q hq => ?_⟩
        unfold Mem
        dsimp only
        rw [hi_or hh hb c2.symm]
        constructor
        · rintro ⟨h1, h2, h3⟩
          exact ⟨⟨h1, h2, fun h => (h3 h).1⟩, (h3 ht).2⟩
        · rintro ⟨⟨h1, h2, h3⟩, h4⟩
          exact ⟨h1, h2, fun h => ⟨h3 h, h4⟩⟩
      · rw [if_neg (by rw [beq_iff_eq]; exact fun h => c2 (sg_zero.1 h)), Option.bind_some, Option.bind_some]
        refine ⟨_, rfl, hi, ht, fun p q hq => ⟨fun h => ⟨h, ?_⟩, fun h => h.1⟩⟩
        exact hi_lt hb hh hq (by omega) (h.2.2 ht)
  · rw [if_neg ht, Option.bind_some, if_pos (by decide), Option.bind_some]
    refine ⟨_, rfl, ⟨hi.1, fun _ => hb⟩, rfl, fun p q hq => ?_⟩
    unfold Mem
    dsimp only
    constructor
    · rintro ⟨h1, h2, h3⟩
      exact ⟨⟨h1, h2, fun h => absurd h ht⟩, h3 rfl⟩
    · rintro ⟨⟨h1, h2, _⟩, h3⟩
      exact ⟨h1, h2, fun _ => h3⟩
/-- coordinates, and steps, that can be reckoned with -/
def cK (x : Int) : Prop := -2097152 ≤ x ∧ x ≤ 2097152
theorem narrow_eq {i : SightInterval} {at' by' from' to' : Int} (hi : IvK i) (h1 : cK at') (h2 : cK by') (h3 : cK from') (h4 : cK to') :
    ∃ j, sight_interval_narrow i at' by' from' to' = some j ∧ IvK j ∧ (i.top = true → j.top = true) ∧ ∀ p q, 0 < q → (Mem j p q ↔ Mem i p q ∧ from' * q ≤ at' * q + by' * p ∧ at' * q + by' * p < to' * q) := by
  unfold cK at h1 h2 h3 h4
  unfold sight_interval_narrow
  by_cases c1 : 0 < by'
  · rw [if_pos (by simpa using c1), subI_some (by unfold inI; omega), Option.bind_some]
    obtain ⟨j, e1, e2, e3, e4⟩ := above_eq (b := ⟨from' - at', by', false⟩) hi (by unfold bK nK; dsimp only; omega)
    rw [e1, Option.bind_some, subI_some (by unfold inI; omega), Option.bind_some]
    obtain ⟨j', g1, g2, g3, g4⟩ := below_eq (b := ⟨to' - at', by', true⟩) e2 (by unfold bK nK; dsimp only; omega)
    rw [g1, Option.bind_some, Option.bind_some]
    refine ⟨j', rfl, g2, fun _ => g3, fun p q hq => ?_⟩
    rw [g4 p q hq, e4 p q hq]
    dsimp only
    rw [lo_pos c1, hi_pos c1, and_assoc]
  · rw [if_neg (by simpa using c1)]
    by_cases c2 : by' < 0
    · rw [if_pos (by simpa using c2), subI_some (by unfold inI; omega), Option.bind_some, subI_some (by unfold inI; omega), Option.bind_some]
      obtain ⟨j, e1, e2, e3, e4⟩ := above_eq (b := ⟨at' - to', 0 - by', true⟩) hi (by unfold bK nK; dsimp only; omega)
      rw [e1, Option.bind_some, subI_some (by unfold inI; omega), Option.bind_some, Option.bind_some]
      obtain ⟨j', g1, g2, g3, g4⟩ := below_eq (b := ⟨at' - from', 0 - by', false⟩) e2 (by unfold bK nK; dsimp only; omega)
      rw [g1, Option.bind_some, Option.bind_some, Option.bind_some]
      refine ⟨j', rfl, g2, fun _ => g3, fun p q hq => ?_⟩
      rw [g4 p q hq, e4 p q hq]
      dsimp only
      rw [lo_neg, hi_neg, and_assoc]
      exact and_congr_right fun _ => and_comm
    · have hb : by' = 0 := by omega
      subst hb
      rw [if_neg (by simp)]
      by_cases c3 : at' < from' ∨ to' ≤ at'
      · rw [if_pos (by simpa using c3), Option.bind_some, Option.bind_some, Option.bind_some]
        refine ⟨_, rfl, hi, fun h => h, fun p q hq => ?_⟩
        unfold Mem
        dsimp only
        constructor
        · rintro ⟨h, _⟩; simp at h
        · rintro ⟨_, g1, g2⟩
          rw [Int.zero_mul, Int.add_zero] at g1 g2
          have a1 := Int.le_of_mul_le_mul_right g1 hq
          have a2 := Int.lt_of_mul_lt_mul_right g2 (Int.le_of_lt hq)
          omega
      · rw [if_neg (by simpa using c3), Option.bind_some, Option.bind_some, Option.bind_some]
        refine ⟨_, rfl, hi, fun h => h, fun p q hq => ⟨fun h => ⟨h, ?_, ?_⟩, fun h => h.1⟩⟩
        · rw [Int.zero_mul, Int.add_zero]; exact Int.mul_le_mul_of_nonneg_right (by omega) (Int.le_of_lt hq)
        · rw [Int.zero_mul, Int.add_zero]; exact Int.mul_lt_mul_of_pos_right (by omega) hq
theorem empty_eq {i : SightInterval} (hi : IvK i) : ∃ e, sight_interval_empty i = some e ∧ (e = false ↔ ∃ p q, 0 < q ∧ Mem i p q) := by
  unfold sight_interval_empty
  by_cases hn : i.none_ = true
  · rw [if_pos (by simp [hn])]
    exact ⟨_, rfl, by simp [hn], fun ⟨p, q, _, h⟩ => by have := h.1; rw [hn] at this; simp at this⟩
  · by_cases ht : i.top = true
    · have hh := hi.2 ht
      rw [if_neg (by simp [hn, ht]), compare_eq hi.1 hh, Option.bind_some]
      refine ⟨_, rfl, ?_⟩
      have hn' : i.none_ = false := by simpa using hn
      constructor
      · intro h
        simp only [Bool.or_eq_false_iff, decide_eq_false_iff_not, Bool.and_eq_false_iff, beq_eq_false_iff_ne] at h
        rw [sg_pos] at h
        obtain ⟨p, q, hq, h1, h2⟩ := gap_some (o1 := i.lo.open_) (o2 := i.hi.open_) hi.1 hh (by
          rcases Int.lt_trichotomy (i.lo.n * i.hi.d) (i.hi.n * i.lo.d) with x | x | x
          · exact .inl x
          · right
            rcases h.2 with h' | h'
            · exact absurd (sg_zero.2 x) h'
            · exact ⟨x, h'⟩
          · exact absurd x h.1)
        exact ⟨p, q, hq, hn', h1, fun _ => h2⟩
      · rintro ⟨p, q, hq, _, h1, h2⟩
        obtain ⟨g1, g2⟩ := gap_none hi.1 hh hq h1 (h2 ht)
        simp only [Bool.or_eq_false_iff, decide_eq_false_iff_not, Bool.and_eq_false_iff, beq_eq_false_iff_ne]
        rw [sg_pos]
        refine ⟨by omega, ?_⟩
        by_cases ho : i.lo.open_ = true ∨ i.hi.open_ = true
        · left
          intro hz
          have := g2 ho
          rw [sg_zero] at hz
          omega
        · right
          simpa using ho
    · rw [if_pos (by simp [ht])]
      have hn' : i.none_ = false := by simpa using hn
      refine ⟨_, rfl, fun _ => ?_, fun _ => hn'⟩
      obtain ⟨p, q, hq, h⟩ := top_some (o1 := i.lo.open_) hi.1
      exact ⟨p, q, hq, hn', h, fun h => absurd h ht⟩

/-! boxes -/
/-- p + (a/b) v is in a box -/
def inBox (x : Box) (p v : Point3) (a b : Int) : Prop :=
  (x.Base.X0 * b ≤ p.X * b + v.X * a ∧ p.X * b + v.X * a < x.Base.X1 * b) ∧ (x.Base.Y0 * b ≤ p.Y * b + v.Y * a ∧ p.Y * b + v.Y * a < x.Base.Y1 * b) ∧ (x.Z0 * b ≤ p.Z * b + v.Z * a ∧ p.Z * b + v.Z * a < x.Z1 * b)
def pK (p : Point3) : Prop := cK p.X ∧ cK p.Y ∧ cK p.Z
theorem boxK {x : Box} (h : VB x) : cK x.Base.X0 ∧ cK x.Base.X1 ∧ cK x.Base.Y0 ∧ cK x.Base.Y1 ∧ cK x.Z0 ∧ cK x.Z1 := by
  unfold VB VR at h; unfold cK; omega
theorem meets_L0_eq {p v : Point3} {t : SightInterval} {l : List Box} (hp : pK p) (hv : pK v) (ht : IvK t) (hl : ∀ x ∈ l, VB x) (hn : l.length ≤ 1000000) :
    ∃ r, (iterL (sight_meets_L0 p v t l) (l.length + 1) 0).bind (fun f => match f with | .go _ => none | .ex _ _ => some false | .ret r => some r) = some r ∧
      (r = true ↔ ∃ x ∈ l, ∃ a b, 0 < b ∧ Mem t a b ∧ inBox x p v a b) := by
  rcases iter_find (l := l) (body := sight_meets_L0 p v t l) (k := 0) (fun x => ∃ a b, 0 < b ∧ Mem t a b ∧ inBox x p v a b) (fun _ => true) (by
    intro i hi
    obtain ⟨k1, k2, k3, k4, k5, k6⟩ := boxK (hl _ (List.getElem_mem hi))
    obtain ⟨j1, a1, a2, _, a4⟩ := narrow_eq ht hp.1 hv.1 k1 k2
    obtain ⟨j2, b1, b2, _, b4⟩ := narrow_eq a2 hp.2.1 hv.2.1 k3 k4
    obtain ⟨j3, c1, c2, _, c4⟩ := narrow_eq b2 hp.2.2 hv.2.2 k5 k6
    obtain ⟨e, e1, e2⟩ := empty_eq c2
    have he : e = false ↔ ∃ a b, 0 < b ∧ Mem t a b ∧ inBox l[i] p v a b := by
      rw [e2]
      refine exists_congr fun a => exists_congr fun b => and_congr_right fun hb => ?_
      rw [c4 a b hb, b4 a b hb, a4 a b hb]
      unfold inBox
      simp only [and_assoc]
    unfold sight_meets_L0
    rw [if_pos (by simpa using hi), getI_nat hi, Option.bind_some, a1, Option.bind_some, b1, Option.bind_some, c1, Option.bind_some, e1, Option.bind_some]
    cases e
    · left
      rw [if_pos (by rfl)]
      exact ⟨he.1 rfl, rfl⟩
    · right
      rw [if_neg (by simp), addI_one (by omega), Option.bind_some]
      exact ⟨fun h => by simpa using he.2 h, rfl⟩) (by
    unfold sight_meets_L0
    rw [if_neg (by simp)]) (fuel := l.length + 1) (by omega) with ⟨i, hi, hp, _, h⟩ | ⟨hp, h⟩
  · rw [h, Option.bind_some]
    exact ⟨_, rfl, fun _ => ⟨_, List.getElem_mem hi, hp⟩, fun _ => rfl⟩
  · rw [h, Option.bind_some]
    exact ⟨_, rfl, by simp, fun ⟨x, hx, h⟩ => absurd h (hp x hx)⟩
/-- p + (a/b) v is in a set of cubes -/
def Hit (S : Int → Int → Int → Prop) (p v : Point3) (a b : Int) : Prop := S ((p.X * b + v.X * a) / b) ((p.Y * b + v.Y * a) / b) ((p.Z * b + v.Z * a) / b)
theorem inBox_iff {x : Box} {p v : Point3} {a b : Int} (hb : 0 < b) :
    inBox x p v a b ↔ rin x.Base ((p.X * b + v.X * a) / b) ((p.Y * b + v.Y * a) / b) ∧ x.Z0 ≤ (p.Z * b + v.Z * a) / b ∧ (p.Z * b + v.Z * a) / b < x.Z1 := by
  unfold inBox rin
  rw [Int.le_ediv_iff_mul_le hb, Int.le_ediv_iff_mul_le hb, Int.le_ediv_iff_mul_le hb, Int.ediv_lt_iff_lt_mul hb, Int.ediv_lt_iff_lt_mul hb, Int.ediv_lt_iff_lt_mul hb]
  simp only [and_assoc]
theorem hit_boxes {l : List Box} {p v : Point3} {a b : Int} (hb : 0 < b) : Hit (bcells l) p v a b ↔ ∃ x ∈ l, inBox x p v a b := by
  unfold Hit bcells
  exact exists_congr fun x => and_congr_right fun _ => (inBox_iff hb).symm
theorem meets_eq {s : List Slab} {p v : Point3} {t : SightInterval} (hp : pK p) (hv : pK v) (ht : IvK t) (hs : ∀ b ∈ s, b.Area.length ≤ 100000) :
    ∃ r, sight_meets s p v t = some r ∧ (r = true ↔ SS s ∧ ∃ a b, 0 < b ∧ Mem t a b ∧ Hit (scells s) p v a b) := by
  unfold sight_meets
  by_cases h : SS s
  · rw [solid_Boxes_fine h, Option.bind_some]
    obtain ⟨r, h1, h2⟩ := meets_L0_eq hp hv ht (boxesOf_VB h) (by have := boxesOf_length h; omega)
    refine ⟨r, h1, h2.trans ?_⟩
    constructor
    · rintro ⟨x, hx, a, b, hb, hm, hi⟩
      refine ⟨h, a, b, hb, hm, ?_⟩
      have := (hit_boxes (l := boxesOf s) hb).2 ⟨x, hx, hi⟩
      unfold Hit at this ⊢
      exact (bcells_boxesOf h.canon _ _ _).1 this
    · rintro ⟨_, a, b, hb, hm, hi⟩
      obtain ⟨x, hx, hi⟩ := (hit_boxes (l := boxesOf s) (p := p) (v := v) (a := a) hb).1 ((bcells_boxesOf h.canon _ _ _).2 hi)
      exact ⟨x, hx, a, b, hb, hm, hi⟩
  · rw [solid_Boxes_bad hs h, Option.bind_some]
    obtain ⟨r, h1, h2⟩ := meets_L0_eq (l := []) hp hv ht (by simp) (by simp)
    refine ⟨r, h1, h2.trans ⟨fun ⟨x, hx, _⟩ => by simp at hx, fun h' => absurd h'.1 h⟩⟩
def onP (p : Point3) : Prop := 0 ≤ p.X ∧ p.X ≤ 1048576 ∧ 0 ≤ p.Y ∧ p.Y ≤ 1048576 ∧ 0 ≤ p.Z ∧ p.Z ≤ 4096
instance (p : Point3) : Decidable (onP p) := by unfold onP; infer_instance
theorem on_eq (p : Point3) : sight_on p = some (decide (onP p)) := by
  unfold sight_on
  congr 1
  rw [Bool.eq_iff_iff, decide_eq_true_iff]
  unfold onP
  simp only [Bool.and_eq_true, decide_eq_true_eq]
  omega
theorem onP.pK {p : Point3} (h : onP p) : Ytekbjeagbfbbcaa.pK p := by unfold onP at h; unfold Ytekbjeagbfbbcaa.pK cK; omega
def RayP (S : Int → Int → Int → Prop) (p d : Point3) : Prop := ∃ a b, 0 < b ∧ 0 < a ∧ Hit S p d a b
def dirP (d : Point3) : Prop := ¬ (d.X = 0 ∧ d.Y = 0 ∧ d.Z = 0) ∧ (-1048576 ≤ d.X ∧ d.X ≤ 1048576) ∧ (-1048576 ≤ d.Y ∧ d.Y ≤ 1048576) ∧ (-1048576 ≤ d.Z ∧ d.Z ≤ 1048576)
instance (p : Point3) : Decidable (dirP p) := by unfold dirP; infer_instance
theorem Ray_eq {s : List Slab} {p d : Point3} (hs : ∀ b ∈ s, b.Area.length ≤ 100000) :
    ∃ r, sight_Ray s p d = some r ∧ (r = true ↔ onP p ∧ dirP d ∧ SS s ∧ RayP (scells s) p d) := by
  unfold sight_Ray
  rw [on_eq, Option.bind_some]
  have hz : d = ⟨0, 0, 0⟩ ↔ d.X = 0 ∧ d.Y = 0 ∧ d.Z = 0 := by
    obtain ⟨x, y, z⟩ := d
    simp
  by_cases h : onP p ∧ dirP d
  · obtain ⟨hp, hd⟩ := h
    have hd' := hd
    unfold dirP at hd'
    rw [if_neg (by
      simp only [Bool.or_eq_true, Bool.not_eq_true', decide_eq_false_iff_not, decide_eq_true_eq]
      rintro (((h | h) | h) | h)
      · exact h hp
      · exact hd.1 (hz.1 h)
      · omega
      · omega)]
    obtain ⟨r, h1, h2⟩ := meets_eq (s := s) (p := p) (v := d) (t := ⟨⟨0, 1, true⟩, ⟨0, 0, false⟩, false, false⟩) hp.pK (by unfold pK cK; omega) (by unfold IvK bK nK; dsimp only; exact ⟨by omega, fun h => by simp at h⟩) hs
    rw [h1, Option.bind_some]
    refine ⟨r, rfl, h2.trans ⟨fun ⟨g1, a, b, g2, g3, g4⟩ => ⟨hp, hd, g1, a, b, g2, ?_, g4⟩, fun ⟨_, _, g1, a, b, g2, g3, g5⟩ => ⟨g1, a, b, g2, ⟨rfl, ?_, fun h => by simp at h⟩, g5⟩⟩⟩
    · have := g3.2.1.2 rfl; dsimp only at this; omega
    · unfold loR; dsimp only; omega
  · rw [if_pos (by
      simp only [Bool.or_eq_true, Bool.not_eq_true', decide_eq_false_iff_not, decide_eq_true_eq]
      by_cases hp : onP p
      · by_cases h0 : d = ⟨0, 0, 0⟩
        · exact .inl (.inl (.inr h0))
        · have hd : ¬ dirP d := fun hd => h ⟨hp, hd⟩
          rw [hz] at h0
          unfold dirP at hd
          have : ¬ ((-1048576 ≤ d.X ∧ d.X ≤ 1048576) ∧ (-1048576 ≤ d.Y ∧ d.Y ≤ 1048576) ∧ (-1048576 ≤ d.Z ∧ d.Z ≤ 1048576)) := fun hh => hd ⟨h0, hh⟩
          by_cases hm : min (min d.X d.Y) d.Z < -1048576
          · exact .inl (.inr hm)
          · exact .inr (by omega)
      · exact .inl (.inl (.inl hp)))]
    exact ⟨_, rfl, by simp, fun h' => absurd ⟨h'.1, h'.2.1⟩ h⟩
end Go.Proofs.Ytekbjeagbfbbcaa

namespace Go.Proofs.Ytekbjeagbfbbcaa
open Go.Gb
set_option linter.unusedVariables false
set_option linter.unusedSimpArgs false
set_option linter.unusedSectionVars false
set_option maxRecDepth 100000
/-! points on a line -/
def mul3 (n : Int) (v : Point3) : Point3 := ⟨n * v.X, n * v.Y, n * v.Z⟩
theorem mul_abs {k n m M : Int} (hk : 0 ≤ k ∧ k ≤ n) (hm : -M ≤ m ∧ m ≤ M) : -(n * M) ≤ k * m ∧ k * m ≤ n * M := by
  have hM : 0 ≤ M := by omega
  have a1 := Int.mul_le_mul_of_nonneg_left hm.1 hk.1
  have a2 := Int.mul_le_mul_of_nonneg_left hm.2 hk.1
  have a3 := Int.mul_le_mul_of_nonneg_right hk.2 hM
  have e : k * -M = -(k * M) := by grind
  omega
end Go.Proofs.Ytekbjeagbfbbcaa

namespace Go.Proofs.Ytekbjeagbfbbcaa
open Go.Gb
set_option linter.unusedVariables false
set_option linter.unusedSimpArgs false
set_option linter.unusedSectionVars false

def bM (f : Nat → Bool) : Nat → Int
  | 0 => 0
  | n + 1 => bM f n + if f n then 2 ^ n else 0
theorem bM_bounds (f : Nat → Bool) : ∀ n, 0 ≤ bM f n ∧ bM f n < 2 ^ n
  | 0 => by simp [bM]
  | n + 1 => by
    have h := bM_bounds f n
    have h2 : (2 : Int) ^ (n + 1) = 2 * 2 ^ n := by rw [Int.pow_succ]; omega
    simp only [bM]
    split <;> omega
theorem bM_congr {f g : Nat → Bool} : ∀ {n}, (∀ i, i < n → f i = g i) → bM f n = bM g n
  | 0, _ => rfl
  | n + 1, h => by simp only [bM]; rw [bM_congr fun i hi => h i (by omega), h n (by omega)]
theorem bM_full : ∀ n, bM (fun _ => true) n = 2 ^ n - 1
  | 0 => rfl
  | n + 1 => by
    have h2 : (2 : Int) ^ (n + 1) = 2 * 2 ^ n := by rw [Int.pow_succ]; omega
    simp only [bM, bM_full n, if_true]; omega
theorem bM_none : ∀ n, bM (fun _ => false) n = 0
  | 0 => rfl
  | n + 1 => by simp [bM, bM_none n]
/-- the lowest bit apart -/
theorem bM_low (f : Nat → Bool) : ∀ n, bM f (n + 1) = (if f 0 then 1 else 0) + 2 * bM (fun j => f (j + 1)) n
  | 0 => by simp [bM]
  | n + 1 => by
    have h2 : (2 : Int) ^ (n + 1) = 2 * 2 ^ n := by rw [Int.pow_succ]; omega
    have e : bM f (n + 1 + 1) = bM f (n + 1) + if f (n + 1) then 2 ^ (n + 1) else 0 := rfl
    have e2 : bM (fun j => f (j + 1)) (n + 1) = bM (fun j => f (j + 1)) n + if f (n + 1) then 2 ^ n else 0 := rfl
    rw [e, e2, bM_low f n]
    split <;> split <;> omega
theorem pow_pos2 (i : Nat) : (0 : Int) < 2 ^ i := Int.pow_pos (by decide)
theorem bM_div (f : Nat → Bool) : ∀ i m, bM f (i + m) / 2 ^ i = bM (fun j => f (i + j)) m
  | 0, m => by simp
  | i + 1, m => by
    have e : (2 : Int) ^ (i + 1) = 2 * 2 ^ i := by rw [Int.pow_succ]; omega
    rw [show i + 1 + m = (i + m) + 1 by omega, bM_low, e, ← Int.ediv_ediv_of_nonneg (by decide)]
    have : ((if f 0 = true then 1 else 0) + 2 * bM (fun j => f (j + 1)) (i + m)) / 2 = bM (fun j => f (j + 1)) (i + m) := by split <;> omega
    rw [this, bM_div (fun j => f (j + 1)) i m]
    exact bM_congr fun j _ => by rw [show i + j + 1 = i + 1 + j by omega]
theorem bM_bit (f : Nat → Bool) {i n : Nat} (h : i < n) : bM f n / 2 ^ i % 2 = if f i then 1 else 0 := by
  obtain ⟨m, rfl⟩ : ∃ m, n = i + (m + 1) := ⟨n - i - 1, by omega⟩
  rw [bM_div, bM_low]
  simp only [Nat.add_zero]
  split <;> omega
theorem bM_high (f : Nat → Bool) {i n : Nat} (h : n ≤ i) : bM f n / 2 ^ i = 0 := by
  have h1 := bM_bounds f n
  refine Int.ediv_eq_zero_of_lt h1.1 (Int.lt_of_lt_of_le h1.2 ?_)
  exact_mod_cast Nat.pow_le_pow_right (by omega) h
theorem bM_succ (f : Nat → Bool) (n : Nat) : bM f (n + 1) = bM f n + if f n = true then 2 ^ n else 0 := rfl
theorem bM_clear (f : Nat → Bool) {i : Nat} (hf : f i = true) : ∀ {n}, i < n → bM f n - 2 ^ i = bM (fun j => f j && !(j == i)) n
  | 0, h => by omega
  | n + 1, h => by
    rw [bM_succ, bM_succ]
    by_cases e : i = n
    · subst e
      have : bM (fun j => f j && !(j == i)) i = bM f i := bM_congr fun j hj => by simp [Nat.ne_of_lt hj]
      rw [this, if_pos hf, if_neg (by simp)]; omega
    · have := bM_clear f hf (n := n) (by omega)
      have hn : (f n && !(n == i)) = f n := by simp [Ne.symm e]
      simp only [hn]
      rw [← this]; omega
theorem bM_add {f g : Nat → Bool} : ∀ {n}, (∀ i, i < n → ¬ (f i = true ∧ g i = true)) → bM f n + bM g n = bM (fun i => f i || g i) n
  | 0, _ => rfl
  | n + 1, h => by
    rw [bM_succ, bM_succ, bM_succ]
    have := bM_add (n := n) fun i hi => h i (by omega)
    have h2 := h n (by omega)
    rw [← this]
    by_cases hf : f n = true
    · by_cases hg : g n = true
      · exact absurd ⟨hf, hg⟩ h2
      · rw [if_pos hf, if_neg hg, if_pos (by simp [hf])]; omega
    · by_cases hg : g n = true
      · rw [if_neg hf, if_pos hg, if_pos (by simp [hg])]; omega
      · rw [if_neg hf, if_neg hg, if_neg (by simp [hf, hg])]; omega
theorem bM_test (f : Nat → Bool) (n i : Nat) : (bM f n).toNat.testBit i = (decide (i < n) && f i) := by
  have h := bM_bounds f n
  rw [Nat.testBit_eq_decide_div_mod_eq]
  have e : (((bM f n).toNat / 2 ^ i % 2 : Nat) : Int) = bM f n / 2 ^ i % 2 := by
    rw [Int.natCast_emod, Int.natCast_ediv, Int.toNat_of_nonneg h.1]
    simp
  by_cases hi : i < n
  · rw [bM_bit f hi] at e
    simp only [hi, decide_true, Bool.true_and]
    cases hf : f i with
    | true =>
      rw [hf, if_pos rfl] at e
      have e' : (bM f n).toNat / 2 ^ i % 2 = 1 := by exact_mod_cast e
      simp [e']
    | false =>
      rw [hf, if_neg (by simp)] at e
      have e' : (bM f n).toNat / 2 ^ i % 2 = 0 := by exact_mod_cast e
      simp [e']
  · rw [bM_high f (by omega)] at e
    simp only [hi, decide_false, Bool.false_and]
    have e' : (bM f n).toNat / 2 ^ i % 2 = 0 := by
      rw [Int.zero_emod] at e
      exact_mod_cast e
    simp [e']
theorem pow_small {n : Nat} (h : n ≤ 62) : (2 : Int) ^ n ≤ 4611686018427387904 := by
  have h1 : (2 : Nat) ^ n ≤ 2 ^ 62 := Nat.pow_le_pow_right (by decide) h
  have h2 : ((2 ^ n : Nat) : Int) ≤ ((2 ^ 62 : Nat) : Int) := Int.ofNat_le.2 h1
  have e1 : ((2 ^ n : Nat) : Int) = (2 : Int) ^ n := by push_cast; rfl
  have e2 : ((2 ^ 62 : Nat) : Int) = 4611686018427387904 := by decide
  rw [e1, e2] at h2; exact h2
theorem wrap_small {x : Int} (h0 : 0 ≤ x) (h : x < 9223372036854775808) : IntKind.i64.wrap x = x := by
  have e : IntKind.i64.wrap x = if x % 18446744073709551616 ≥ 9223372036854775808 then x % 18446744073709551616 - 18446744073709551616 else x % 18446744073709551616 := by
    unfold IntKind.wrap
    have e1 : (2 : Int) ^ IntKind.i64.bits = 18446744073709551616 := by decide
    have e2 : (2 : Int) ^ (IntKind.i64.bits - 1) = 9223372036854775808 := by decide
    rw [e1, e2]
    simp [IntKind.signed]
  rw [e, Int.emod_eq_of_lt h0 (by omega), if_neg (by omega)]
theorem ofInt_small {x : Int} (h0 : 0 ≤ x) (h : x < 9223372036854775808) : (BitVec.ofInt 64 x).toNat = x.toNat := by
  rw [BitVec.toNat_ofInt]
  have e1 : ((2 ^ 64 : Nat) : Int) = 18446744073709551616 := by decide
  rw [e1, Int.emod_eq_of_lt h0 (by omega)]
theorem nat_bM {f : Nat → Bool} {n x : Nat} (hn : n ≤ 62) (hx : ∀ i, x.testBit i = (decide (i < n) && f i)) : (x : Int) = bM f n := by
  have h := bM_bounds f n
  have : x = (bM f n).toNat := Nat.eq_of_testBit_eq fun i => by rw [hx, bM_test]
  rw [this, Int.toNat_of_nonneg h.1]
theorem bM_and (f g : Nat → Bool) {n : Nat} (hn : n ≤ 62) : andI (bM f n) (bM g n) = bM (fun i => f i && g i) n := by
  have h1 := bM_bounds f n; have h2 := bM_bounds g n; have hp := pow_small hn
  have h3 := bM_bounds (fun i => f i && g i) n
  unfold andI
  have : (((BitVec.ofInt 64 (bM f n) &&& BitVec.ofInt 64 (bM g n)).toNat : Nat) : Int) = bM (fun i => f i && g i) n := nat_bM hn fun i => by
    rw [BitVec.toNat_and, ofInt_small h1.1 (by omega), ofInt_small h2.1 (by omega), Nat.testBit_and, bM_test, bM_test]
    cases decide (i < n) <;> simp
  rw [this]
  exact wrap_small h3.1 (by omega)
theorem bM_andn (f g : Nat → Bool) {n : Nat} (hn : n ≤ 62) : andnI (bM f n) (bM g n) = bM (fun i => f i && !g i) n := by
  have h1 := bM_bounds f n; have h2 := bM_bounds g n; have hp := pow_small hn
  have h3 := bM_bounds (fun i => f i && !g i) n
  unfold andnI
  have : (((BitVec.ofInt 64 (bM f n) &&& ~~~BitVec.ofInt 64 (bM g n)).toNat : Nat) : Int) = bM (fun i => f i && !g i) n := nat_bM hn fun i => by
    have e1 : ∀ j, (BitVec.ofInt 64 (bM f n)).getLsbD j = (decide (j < n) && f j) := fun j => by
      rw [BitVec.getLsbD, ofInt_small h1.1 (by omega), bM_test]
    have e2 : ∀ j, (BitVec.ofInt 64 (bM g n)).getLsbD j = (decide (j < n) && g j) := fun j => by
      rw [BitVec.getLsbD, ofInt_small h2.1 (by omega), bM_test]
    show (BitVec.ofInt 64 (bM f n) &&& ~~~BitVec.ofInt 64 (bM g n)).getLsbD i = _
    rw [BitVec.getLsbD_and, BitVec.getLsbD_not, e1, e2]
    by_cases hi : i < n
    · have : i < 64 := by omega
      simp [hi, this]
    · simp [hi]
  rw [this]
  exact wrap_small h3.1 (by omega)
theorem andI_one (x : Int) : andI x 1 = x % 2 := by
  unfold andI
  have h : (BitVec.ofInt 64 x &&& BitVec.ofInt 64 1).toNat = (x % 2).toNat := by
    rw [BitVec.toNat_and, show (BitVec.ofInt 64 1).toNat = 2 ^ 1 - 1 from rfl, Nat.and_two_pow_sub_one_eq_mod, BitVec.toNat_ofInt]
    have h1 : 0 ≤ x % 2 ^ 64 := Int.emod_nonneg _ (by decide)
    have h2 : (x % 2 ^ 64) % 2 = x % 2 := Int.emod_emod_of_dvd x (by decide)
    omega
  rw [h]
  have h1 : 0 ≤ x % 2 := Int.emod_nonneg _ (by decide)
  have h2 : x % 2 < 2 := Int.emod_lt_of_pos _ (by decide)
  rw [Int.toNat_of_nonneg h1]
  exact wrap_small h1 (by omega)
theorem shlI_one {i : Nat} (h : i ≤ 62) : shlI 1 (i : Int) = some (2 ^ i) := by
  have hp := pow_small h
  have h0 : (0 : Int) ≤ 2 ^ i := Int.le_of_lt (Int.pow_pos (by decide))
  unfold shlI
  rw [if_pos (by omega)]
  congr 1
  rw [Int.toNat_natCast, Nat.min_eq_left (by omega), Int.one_mul]
  exact wrap_small h0 (by omega)
theorem shrI_nat {x : Int} {i : Nat} (h : i ≤ 64) : shrI x (i : Int) = some (x / 2 ^ i) := by
  unfold shrI
  rw [if_pos (by omega), Int.toNat_natCast, Nat.min_eq_left h, Int.fdiv_eq_ediv_of_nonneg _ (Int.le_of_lt (Int.pow_pos (by decide)))]
end Go.Proofs.Ytekbjeagbfbbcaa

namespace Go.Proofs.Ytekbjeagbfbbcaa
open Go.Gb
set_option linter.unusedVariables false
set_option linter.unusedSimpArgs false
set_option linter.unusedSectionVars false
set_option linter.unusedVariables false
set_option linter.unusedSimpArgs false

def dirT (d : Point3) : Prop := (-4096 ≤ d.X ∧ d.X ≤ 4096) ∧ (-4096 ≤ d.Y ∧ d.Y ≤ 4096) ∧ 1 ≤ d.Z ∧ d.Z ≤ 4096
instance (d : Point3) : Decidable (dirT d) := by unfold dirT; infer_instance
theorem dirT.dirP {d : Point3} (h : dirT d) : Ytekbjeagbfbbcaa.dirP d := by unfold dirT at h; unfold Ytekbjeagbfbbcaa.dirP; omega
/-- A table that is right. -/
def tR (t : List Point3) : Prop := t.length ≤ 24 ∧ ∀ d ∈ t, dirT d
instance (t : List Point3) : Decidable (tR t) := by unfold tR; infer_instance
theorem sunRight_eq {t : List Point3} (hl : t.length ≤ 1000000) : sun_Right t = some (decide (tR t)) := by
  unfold sun_Right
  rcases iter_find (l := t) (body := sun_Right_L0 t) (k := 0) (fun d => ¬ dirT d) (fun _ => false) (by
    intro i hi
    unfold sun_Right_L0
    rw [if_pos (by simpa using hi), getI_nat hi, Option.bind_some]
    by_cases hc : dirT t[i]
    · right
      have h := hc; unfold dirT at h
      rw [if_neg (by simp only [Bool.or_eq_true, decide_eq_true_eq]; omega), addI_one (by omega), Option.bind_some]
      exact ⟨fun g => g hc, rfl⟩
    · left
      have h := hc; unfold dirT at h
      rw [if_pos (by simp only [Bool.or_eq_true, decide_eq_true_eq]; omega)]
      exact ⟨hc, rfl⟩) (by
    unfold sun_Right_L0
    rw [if_neg (by simp)]) (fuel := t.length + 1) (by omega) with ⟨i, hi, hp, _, h⟩ | ⟨hp, h⟩
  · rw [h, Option.bind_some]
    dsimp only
    rw [decide_eq_false fun g => hp (g.2 _ (List.getElem_mem hi))]
  · rw [h, Option.bind_some]
    dsimp only
    congr 1
    rw [Bool.eq_iff_iff, decide_eq_true_iff, decide_eq_true_iff]
    unfold tR
    exact ⟨fun g => ⟨by omega, fun d hd => Classical.byContradiction fun c => hp d hd c⟩, fun g => by have := g.1; omega⟩
/-- Everything that a mask is asked of is right. -/
def sOk (t : List Point3) (l : List (List Slab)) (p : Point3) : Prop := tR t ∧ onP p ∧ ∀ s ∈ l, SS s
noncomputable def okB (t : List Point3) (l : List (List Slab)) (p : Point3) : Bool := @decide (sOk t l p) (Classical.propDecidable _)
theorem okB_true {t : List Point3} {l : List (List Slab)} {p : Point3} : okB t l p = true ↔ sOk t l p := @decide_eq_true_iff _ (Classical.propDecidable _)
theorem okB_false {t : List Point3} {l : List (List Slab)} {p : Point3} : okB t l p = false ↔ ¬ sOk t l p := @decide_eq_false_iff_not _ (Classical.propDecidable _)
def fineL (l : List (List Slab)) : Prop := l.length ≤ 1000 ∧ ∀ s ∈ l, ∀ b ∈ s, b.Area.length ≤ 100000
theorem whole_eq {t : List Point3} {l : List (List Slab)} {p : Point3} (ht : t.length ≤ 62) (hl : fineL l) :
    sun_whole t l p = some (bM (fun _ => okB t l p) t.length) := by
  unfold sun_whole
  rw [sunRight_eq (by omega), Option.bind_some]
  by_cases h1 : tR t ∧ onP p
  · have hp := h1.2
    unfold onP at hp
    rw [if_neg (by simp only [h1.1, decide_true, Bool.not_true, Bool.false_or, Bool.or_eq_true, decide_eq_true_eq]; omega)]
    rcases iter_find (l := l) (body := sun_whole_L0 l) (k := 0) (fun s => ¬ SS s) (fun _ => 0) (by
      intro i hi
      unfold sun_whole_L0
      rw [if_pos (by simpa using hi), getI_nat hi, Option.bind_some]
      by_cases hc : SS l[i]
      · right
        rw [solid_Right_true hc, Option.bind_some, if_neg (by simp), addI_one (by have := hl.1; omega), Option.bind_some]
        exact ⟨fun g => g hc, rfl⟩
      · left
        rw [solid_Right_false (hl.2 _ (List.getElem_mem hi)) hc, Option.bind_some, if_pos (by simp)]
        exact ⟨hc, rfl⟩) (by
      unfold sun_whole_L0
      rw [if_neg (by simp)]) (fuel := l.length + 1) (by omega) with ⟨i, hi, hs, _, h⟩ | ⟨hs, h⟩
    · rw [h, Option.bind_some, okB_false.2 fun g => hs (g.2.2 _ (List.getElem_mem hi)), bM_none]
    · have hp := pow_small ht
      have hq := pow_pos2 t.length
      rw [h, Option.bind_some, okB_true.2 ⟨h1.1, h1.2, fun s hs' => Classical.byContradiction fun c => hs s hs' c⟩, bM_full]
      dsimp only
      rw [shlI_one ht, Option.bind_some, subI_some (by unfold inI; omega), Option.bind_some]
  · rw [okB_false.2 fun g => h1 ⟨g.1, g.2.1⟩, bM_none, if_pos]
    by_cases h2 : tR t
    · have hp : ¬ onP p := fun g => h1 ⟨h2, g⟩
      unfold onP at hp
      simp only [h2, decide_true, Bool.not_true, Bool.false_or, Bool.or_eq_true, decide_eq_true_eq]
      omega
    · simp [h2]

/-- The direction of a bit. -/
def dirOf (t : List Point3) (i : Nat) : Point3 := t.getD i ⟨0, 0, 0⟩
theorem dirOf_lt {t : List Point3} {i : Nat} (h : i < t.length) : dirOf t i = t[i] := by unfold dirOf; simp [h]
noncomputable def rayB (s : List Slab) (p d : Point3) : Bool := (sight_Ray s p d).getD false
theorem rayB_eq {s : List Slab} {p d : Point3} (hs : ∀ b ∈ s, b.Area.length ≤ 100000) : sight_Ray s p d = some (rayB s p d) := by
  obtain ⟨r, h, _⟩ := Ray_eq (s := s) (p := p) (d := d) hs
  unfold rayB
  rw [h]; rfl
theorem rayB_iff {s : List Slab} {p d : Point3} (hs : ∀ b ∈ s, b.Area.length ≤ 100000) : rayB s p d = true ↔ onP p ∧ dirP d ∧ SS s ∧ RayP (scells s) p d := by
  obtain ⟨r, h, h2⟩ := Ray_eq (s := s) (p := p) (d := d) hs
  unfold rayB
  rw [h]; exact h2
/-- The sun of a bit comes past the solids. -/
noncomputable def free (t : List Point3) (l : List (List Slab)) (p : Point3) (i : Nat) : Bool := l.all fun s => !rayB s p (dirOf t i)

theorem MaskOf_L1 {t : List Point3} {p : Point3} {s : List Slab} {f : Nat → Bool} (ht : t.length ≤ 62) (hs : ∀ b ∈ s, b.Area.length ≤ 100000) :
    iterL (sun_MaskOf_L1 t p s) (t.length + 1) (bM f t.length, 0) = some (.ex 2 (bM (fun i => f i && !rayB s p (dirOf t i)) t.length, (t.length : Int))) := by
  obtain ⟨s', h1, h2⟩ := iter_from (k := 2) (body := sun_MaskOf_L1 t p s) (fun (s : Int) i => (s, i)) 0 t.length (Nat.zero_le _) (fun i m => m = bM (fun j => f j && (!rayB s p (dirOf t j) || decide (i ≤ j))) t.length) (by
    rintro i - hi m rfl
    unfold sun_MaskOf_L1
    dsimp only
    rw [if_pos (by simpa using hi), getI_nat hi, Option.bind_some, shrI_nat (by omega), Option.bind_some, andI_one, bM_bit _ hi]
    rw [show (f i && (!rayB s p (dirOf t i) || decide (i ≤ i))) = f i by simp]
    by_cases hf : f i = true
    · rw [if_pos hf, if_pos (by rfl), rayB_eq hs, Option.bind_some, Option.bind_some, ← dirOf_lt hi]
      by_cases hr : rayB s p (dirOf t i) = true
      · have hb := bM_bounds (fun j => f j && (!rayB s p (dirOf t j) || decide (i ≤ j))) t.length
        have hp := pow_small (n := i) (by omega)
        have hp' := pow_small ht
        have hq := pow_pos2 i
        rw [if_pos hr, shlI_one (by omega), Option.bind_some, subI_some (by unfold inI; omega), Option.bind_some, Option.bind_some, addI_one (by omega), Option.bind_some]
        refine ⟨_, rfl, ?_⟩
        rw [bM_clear _ (by simp [hf]) hi]
        apply bM_congr
        intro j hj
        by_cases hij : j = i
        · subst hij; simp [hr]
        · have : (decide (i ≤ j)) = decide (i + 1 ≤ j) := by rw [Bool.eq_iff_iff, decide_eq_true_iff, decide_eq_true_iff]; omega
          rw [this]; simp [hij]
      · rw [if_neg hr, Option.bind_some, addI_one (by omega), Option.bind_some]
        refine ⟨_, rfl, ?_⟩
        apply bM_congr
        intro j hj
        by_cases hij : j = i
        · subst hij; simp [hr]
        · have : (decide (i ≤ j)) = decide (i + 1 ≤ j) := by rw [Bool.eq_iff_iff, decide_eq_true_iff, decide_eq_true_iff]; omega
          rw [this]
    · rw [if_neg hf, if_neg (by decide), Option.bind_some, if_neg (by simp), Option.bind_some, addI_one (by omega), Option.bind_some]
      refine ⟨_, rfl, ?_⟩
      apply bM_congr
      intro j hj
      by_cases hij : j = i
      · subst hij; simp [hf]
      · have : (decide (i ≤ j)) = decide (i + 1 ≤ j) := by rw [Bool.eq_iff_iff, decide_eq_true_iff, decide_eq_true_iff]; omega
        rw [this]) (by
    rintro m -
    unfold sun_MaskOf_L1
    dsimp only
    rw [if_neg (by simp)]) (s0 := bM f t.length) (by
      apply bM_congr; intro j hj; simp) (fuel := t.length + 1) (by omega)
  rw [show ((0 : Nat) : Int) = 0 from rfl] at h1
  rw [h1, h2]
  congr 3
  apply bM_congr
  intro j hj
  rw [decide_eq_false (by omega)]; simp
theorem MaskOf_eq {t : List Point3} {l : List (List Slab)} {p : Point3} (ht : t.length ≤ 62) (hl : fineL l) :
    sun_MaskOf t l p = some (bM (fun i => okB t l p && free t l p i) t.length) := by
  unfold sun_MaskOf
  rw [whole_eq ht hl, Option.bind_some]
  obtain ⟨s', h1, h2⟩ := iter_from (k := 0) (body := sun_MaskOf_L0 t l p) (fun (s : Int) i => (s, i)) 0 l.length (Nat.zero_le _) (fun i m => m = bM (fun j => okB t l p && free t (l.take i) p j) t.length) (by
    rintro i - hi m rfl
    unfold sun_MaskOf_L0
    dsimp only
    rw [if_pos (by simpa using hi), getI_nat hi, Option.bind_some, MaskOf_L1 ht (hl.2 _ (List.getElem_mem hi)), Option.bind_some]
    dsimp only
    rw [addI_one (by have := hl.1; omega), Option.bind_some]
    refine ⟨_, rfl, ?_⟩
    apply bM_congr
    intro j hj
    unfold free
    rw [List.take_succ_eq_append_getElem hi, List.all_append, Bool.and_assoc]
    simp) (by
    rintro m -
    unfold sun_MaskOf_L0
    dsimp only
    rw [if_neg (by simp)]) (s0 := bM (fun _ => okB t l p) t.length) (by
      apply bM_congr; intro j hj; simp [free]) (fuel := l.length + 1) (by omega)
  rw [show ((0 : Nat) : Int) = 0 from rfl] at h1
  rw [h1, h2, Option.bind_some, List.take_length]
theorem fineL_one {s : List Slab} (hs : ∀ b ∈ s, b.Area.length ≤ 100000) : fineL [s] := ⟨by simp, by simpa using hs⟩
/-- The bits of one solid. -/
noncomputable def mk1 (t : List Point3) (s : List Slab) (p : Point3) (i : Nat) : Bool := okB t [s] p && !rayB s p (dirOf t i)
theorem Mask_eq {t : List Point3} {s : List Slab} {p : Point3} (ht : t.length ≤ 62) (hs : ∀ b ∈ s, b.Area.length ≤ 100000) :
    sun_Mask t s p = some (bM (mk1 t s p) t.length) := by
  unfold sun_Mask
  rw [MaskOf_eq ht (fineL_one hs), Option.bind_some]
  congr 1
  apply bM_congr
  intro j hj
  simp [free, mk1]
theorem sOk_one {t : List Point3} {s : List Slab} {p : Point3} : sOk t [s] p ↔ tR t ∧ onP p ∧ SS s := by simp [sOk]
end Go.Proofs.Ytekbjeagbfbbcaa

namespace Go.Proofs.Ytekbjeagbfbbcaa
open Go.Gb
set_option linter.unusedVariables false
set_option linter.unusedSimpArgs false
set_option linter.unusedSectionVars false
set_option linter.unusedVariables false
set_option linter.unusedSimpArgs false

theorem okB_iff {t : List Point3} {l m : List (List Slab)} {p : Point3} (h : (∀ s ∈ l, SS s) ↔ ∀ s ∈ m, SS s) : okB t l p = okB t m p := by
  rw [Bool.eq_iff_iff, okB_true, okB_true]
  unfold sOk
  rw [h]
theorem Lost_eq {t : List Point3} {a b : List Slab} {p : Point3} (ht : t.length ≤ 62) (ha : ∀ s ∈ a, s.Area.length ≤ 100000) (hb : ∀ s ∈ b, s.Area.length ≤ 100000) :
    sun_Lost t a b p = some (bM (fun i => okB t [a, b] p && (rayB b p (dirOf t i) && !rayB a p (dirOf t i))) t.length) := by
  unfold sun_Lost
  rw [whole_eq ht ⟨by simp, by simp only [List.mem_cons, List.not_mem_nil, or_false, forall_eq_or_imp, forall_eq]; exact ⟨ha, hb⟩⟩, Option.bind_some]
  by_cases hok : okB t [a, b] p = true
  · have hs := okB_true.1 hok
    have sa : SS a := hs.2.2 a (by simp)
    have sb : SS b := hs.2.2 b (by simp)
    by_cases h0 : t.length = 0
    · rw [h0]; rfl
    · have hp : (2 : Int) ^ 1 ≤ 2 ^ t.length := by
        obtain ⟨n, hn⟩ : ∃ n, t.length = n + 1 := ⟨t.length - 1, by omega⟩
        rw [hn, Int.pow_succ]
        have := pow_pos2 n
        omega
      have e : bM (fun _ => okB t [a, b] p) t.length = 2 ^ t.length - 1 := by rw [hok]; exact bM_full _
      rw [e, if_neg (by rw [beq_iff_eq]; omega), Mask_eq ht ha, Option.bind_some, Mask_eq ht hb, Option.bind_some, bM_andn _ _ ht]
      congr 1
      apply bM_congr
      intro i hi
      unfold mk1
      rw [hok, okB_true.2 (sOk_one.2 ⟨hs.1, hs.2.1, sa⟩), okB_true.2 (sOk_one.2 ⟨hs.1, hs.2.1, sb⟩)]
      cases rayB b p (dirOf t i) <;> cases rayB a p (dirOf t i) <;> rfl
  · rw [Bool.not_eq_true] at hok
    rw [hok]
    simp only [Bool.false_and]
    rw [bM_none]; rfl

def exY : List Slab := [⟨0, 3, [⟨2, 0, 3, 1⟩]⟩]
theorem exY_SS : SS exY := ssB_spec (by decide)
theorem exY_area : ∀ b ∈ exY, b.Area.length ≤ 100000 := by unfold exY; simp
theorem exRY (p d : Point3) (r : Bool) (h : ((sight_on p).bind fun x => if ((((!x) || (decide (d = (⟨0, 0, 0⟩ : Point3)))) || (decide ((min (min d.X d.Y) d.Z) < (-1048576)))) || (decide (1048576 < (max (max d.X d.Y) d.Z)))) then some false else
    ((iterL (sight_meets_L0 p d ⟨⟨0, 1, true⟩, ⟨0, 0, false⟩, false, false⟩ [⟨⟨2, 0, 3, 1⟩, 0, 3⟩]) 2 0).bind fun f => match f with | .go _ => none | .ex _ _ => some false | .ret r => some r).bind fun x => some x) = some r) :
    rayB exY p d = r := by
  have h1 : sight_Ray exY p d = some r := by
    unfold sight_Ray sight_meets
    rw [solid_Boxes_fine exY_SS]
    exact h
  unfold rayB
  rw [h1]; rfl
def exT : List Point3 := [(⟨1, 0, 1⟩ : Point3), (⟨0, 0, 1⟩ : Point3), (⟨(-1), 0, 1⟩ : Point3)]
theorem exT_tR : tR exT := by decide
theorem exMk {p : Point3} {l : List (List Slab)} {a b c : Bool} (hl : fineL l) (hs : ∀ s ∈ l, SS s) (hp : onP p) (h0 : (l.all fun s => !rayB s p ⟨1, 0, 1⟩) = a) (h1 : (l.all fun s => !rayB s p ⟨0, 0, 1⟩) = b) (h2 : (l.all fun s => !rayB s p ⟨-1, 0, 1⟩) = c) :
    sun_MaskOf exT l p = some ((if a then 1 else 0) + (if b then 2 else 0) + (if c then 4 else 0)) := by
  rw [MaskOf_eq (by decide) hl]
  have ok : okB exT l p = true := okB_true.2 ⟨exT_tR, hp, hs⟩
  have f0 : free exT l p 0 = a := h0
  have f1 : free exT l p 1 = b := h1
  have f2 : free exT l p 2 = c := h2
  show some (bM _ (0 + 1 + 1 + 1)) = _
  simp only [bM_succ, ok, Bool.true_and, f0, f1, f2]
  congr 1
  show (0 : Int) + (if a = true then 1 else 0) + (if b = true then 2 else 0) + (if c = true then 4 else 0) = _
  rw [Int.zero_add]
theorem exM1 {p : Point3} {a b c : Bool} (hp : onP p) (h0 : rayB exY p ⟨1, 0, 1⟩ = a) (h1 : rayB exY p ⟨0, 0, 1⟩ = b) (h2 : rayB exY p ⟨-1, 0, 1⟩ = c) :
    sun_Mask exT exY p = some ((if a then 0 else 1) + (if b then 0 else 2) + (if c then 0 else 4)) := by
  unfold sun_Mask
  rw [exMk (a := !a) (b := !b) (c := !c) (fineL_one exY_area) (by simpa using exY_SS) hp (by simp [h0]) (by simp [h1]) (by simp [h2]), Option.bind_some]
  cases a <;> cases b <;> cases c <;> rfl
theorem ray_nil {p d : Point3} : rayB [] p d = false := by
  rw [Bool.eq_false_iff, Ne, rayB_iff (by simp)]
  rintro ⟨_, _, _, a, b, _, _, h⟩
  unfold Hit at h
  rw [scells_iff, sect_nil] at h
  obtain ⟨r, hr, _⟩ := h
  simp at hr
theorem small12_true : law12_small = some true := by
  have m0 : sun_Mask exT exY ⟨0, 0, 0⟩ = some 6 := exM1 (a := true) (b := false) (c := false) (by decide) (exRY _ _ _ (by decide)) (exRY _ _ _ (by decide)) (exRY _ _ _ (by decide))
  have m1 : sun_Mask exT exY ⟨4, 0, 0⟩ = some 3 := exM1 (a := false) (b := false) (c := true) (by decide) (exRY _ _ _ (by decide)) (exRY _ _ _ (by decide)) (exRY _ _ _ (by decide))
  have m2 : sun_Mask exT exY ⟨2, 0, 1⟩ = some 4 := exM1 (a := true) (b := true) (c := false) (by decide) (exRY _ _ _ (by decide)) (exRY _ _ _ (by decide)) (exRY _ _ _ (by decide))
  have m3 : sun_Mask exT exY ⟨2, 0, 3⟩ = some 7 := exM1 (a := false) (b := false) (c := false) (by decide) (exRY _ _ _ (by decide)) (exRY _ _ _ (by decide)) (exRY _ _ _ (by decide))
  have r0 : rayB exY ⟨0, 0, 0⟩ ⟨1, 0, 1⟩ = true := exRY _ _ _ (by decide)
  have r1 : rayB exY ⟨0, 0, 0⟩ ⟨0, 0, 1⟩ = false := exRY _ _ _ (by decide)
  have r2 : rayB exY ⟨0, 0, 0⟩ ⟨-1, 0, 1⟩ = false := exRY _ _ _ (by decide)
  have m4 : sun_MaskOf exT [exY, []] ⟨0, 0, 0⟩ = some 6 := exMk (a := false) (b := true) (c := true) ⟨by decide, by unfold exY; simp⟩ (by simp only [List.mem_cons, List.not_mem_nil, or_false, forall_eq_or_imp, forall_eq]; exact ⟨exY_SS, SS_nil⟩) (by decide) (by simp [r0]) (by simp [r1, ray_nil]) (by simp [r2, ray_nil])
  have m5 : sun_MaskOf exT [] ⟨0, 0, 0⟩ = some 7 := exMk (a := true) (b := true) (c := true) ⟨by decide, by simp⟩ (by simp) (by decide) rfl rfl rfl
  have m6 : sun_Lost exT [] exY ⟨0, 0, 0⟩ = some 1 := by
    rw [Lost_eq (by decide) (by simp) exY_area]
    have ok : okB exT [[], exY] ⟨0, 0, 0⟩ = true := okB_true.2 ⟨exT_tR, by decide, by simp only [List.mem_cons, List.not_mem_nil, or_false, forall_eq_or_imp, forall_eq]; exact ⟨SS_nil, exY_SS⟩⟩
    have d0 : dirOf exT 0 = ⟨1, 0, 1⟩ := rfl
    have d1 : dirOf exT 1 = ⟨0, 0, 1⟩ := rfl
    have d2 : dirOf exT 2 = ⟨-1, 0, 1⟩ := rfl
    show some (bM _ (0 + 1 + 1 + 1)) = _
    simp only [bM_succ, ok, Bool.true_and, ray_nil, Bool.not_false, Bool.and_true]
    rw [d0, d1, d2, r0, r1, r2]
    rfl
  have m7 : sun_Mask [⟨1, 0, 0⟩] [] ⟨0, 0, 0⟩ = some 0 := by
    rw [Mask_eq (by decide) (by simp)]
    have : okB [⟨1, 0, 0⟩] [[]] ⟨0, 0, 0⟩ = false := okB_false.2 fun h => absurd h.1 (by decide)
    unfold mk1
    rw [this]
    rfl
  have m8 : sun_Mask exT [] ⟨-1, 0, 0⟩ = some 0 := by
    rw [Mask_eq (by decide) (by simp)]
    have : okB exT [[]] ⟨-1, 0, 0⟩ = false := okB_false.2 fun h => absurd h.2.1 (by decide)
    unfold mk1
    rw [this]
    rfl
  have c5 : sun_Count 5 = some 2 := by rfl
  have c6 : sun_Count 6 = some 2 := by rfl
  have q1 : sun_Right exT = some true := by rw [sunRight_eq (by decide)]; rfl
  have q2 : sun_Right [⟨1, 0, 0⟩] = some false := by rw [sunRight_eq (by decide)]; rfl
  have m9 : sun_Hours exT exY ⟨0, 0, 0⟩ = some 2 := by
    unfold sun_Hours
    rw [m0, Option.bind_some, c6]; rfl
  unfold law12_small
  change (sun_Mask exT exY ⟨0, 0, 0⟩).bind (fun x => (if (x == 6) = true then (sun_Hours exT exY ⟨0, 0, 0⟩).bind fun x => some (x == 2) else some false).bind fun x => (if x = true then (sun_Mask exT exY ⟨4, 0, 0⟩).bind fun x => some (x == 3) else some false).bind fun x =>
    (if x = true then (sun_Mask exT exY ⟨2, 0, 1⟩).bind fun x => some (x == 4) else some false).bind fun x => (if x = true then (sun_Mask exT exY ⟨2, 0, 3⟩).bind fun x => some (x == 7) else some false).bind fun y =>
    (sun_MaskOf exT [exY, []] ⟨0, 0, 0⟩).bind fun x => (if (x == 6) = true then (sun_MaskOf exT [] ⟨0, 0, 0⟩).bind fun x => some (x == 7) else some false).bind fun x => (if x = true then (sun_Lost exT [] exY ⟨0, 0, 0⟩).bind fun x => some (x == 1) else some false).bind fun x =>
    (if x = true then (sun_Right exT).bind fun x => some x else some false).bind fun x => (if x = true then (sun_Right [⟨1, 0, 0⟩]).bind fun x => some (!x) else some false).bind fun x => (if x = true then (sun_Count 5).bind fun x => some (x == 2) else some false).bind fun x =>
    (if (y && x) = true then (sun_Mask [⟨1, 0, 0⟩] [] ⟨0, 0, 0⟩).bind fun x => some (x == 0) else some false).bind fun x => (if x = true then (sun_Mask exT [] ⟨-1, 0, 0⟩).bind fun x => some (x == 0) else some false).bind fun x => some x) = some true
  rw [m0, m1, m2, m3, m4, m5, m6, m7, m8, m9, c5, q1, q2]
  rfl

end Go.Proofs.Ytekbjeagbfbbcaa

namespace Go.Proofs.Ytekbjeagbfbbcaa
open Go.Gb
set_option linter.unusedVariables false
set_option linter.unusedSimpArgs false
set_option linter.unusedSectionVars false
set_option linter.unusedVariables false
set_option linter.unusedSimpArgs false

def nearD (d : Point3) : Prop := (-1000 ≤ d.X ∧ d.X ≤ 1000) ∧ (-1000 ≤ d.Y ∧ d.Y ≤ 1000) ∧ 1 ≤ d.Z ∧ d.Z ≤ 1000
theorem nearD.dirT {d : Point3} (h : nearD d) : Ytekbjeagbfbbcaa.dirT d := by unfold nearD at h; unfold Ytekbjeagbfbbcaa.dirT; omega
theorem nearD.mul {d : Point3} {n : Int} (h : nearD d) (hn : 1 ≤ n ∧ n ≤ 4) : Ytekbjeagbfbbcaa.dirT (mul3 n d) := by
  unfold nearD at h; unfold Ytekbjeagbfbbcaa.dirT mul3
  dsimp only
  have b1 := mul_abs (k := n) (n := 4) (m := d.X) (M := 1000) (by omega) (by omega)
  have b2 := mul_abs (k := n) (n := 4) (m := d.Y) (M := 1000) (by omega) (by omega)
  have b3 := mul_abs (k := n) (n := 4) (m := d.Z) (M := 1000) (by omega) (by omega)
  have b4 := Int.mul_le_mul hn.1 h.2.2.1 (by omega) (by omega)
  omega
end Go.Proofs.Ytekbjeagbfbbcaa

namespace Go.Proofs.Ytekbjeagbfbbcaa
open Go.Gb
set_option linter.unusedVariables false
set_option linter.unusedSimpArgs false
set_option linter.unusedSectionVars false
set_option linter.unusedVariables false
set_option linter.unusedSimpArgs false

def dg (w : Nat) (d : Nat → Nat) : Nat → Nat
  | 0 => 0
  | n + 1 => d 0 + 2 ^ w * dg w (fun j => d (j + 1)) n
def nS (f : Nat → Nat) : Nat → Nat
  | 0 => 0
  | n + 1 => nS f n + f n
theorem dg_succ (w : Nat) (d : Nat → Nat) (n : Nat) : dg w d (n + 1) = d 0 + 2 ^ w * dg w (fun j => d (j + 1)) n := rfl
theorem dg_congr {w : Nat} : ∀ {n : Nat} {d e : Nat → Nat}, (∀ j, d j = e j) → dg w d n = dg w e n
  | 0, _, _, _ => rfl
  | n + 1, d, e, h => by rw [dg_succ, dg_succ, h 0, dg_congr (n := n) fun j => h (j + 1)]
theorem dg_add {w : Nat} : ∀ {n : Nat} {d e : Nat → Nat}, dg w d n + dg w e n = dg w (fun j => d j + e j) n
  | 0, _, _ => rfl
  | n + 1, d, e => by
    rw [dg_succ, dg_succ, dg_succ, ← dg_add (n := n), Nat.mul_add]; omega
theorem dg_top {w : Nat} : ∀ {n : Nat} {d : Nat → Nat}, d n = 0 → dg w d (n + 1) = dg w d n
  | 0, d, h => by simp [dg, h]
  | n + 1, d, h => by rw [dg_succ, dg_top (n := n) h, dg_succ]
theorem dg_bits : ∀ {n x : Nat}, x < 2 ^ n → dg 1 (fun j => x / 2 ^ j % 2) n = x
  | 0, x, h => by simp [dg] at h ⊢; omega
  | n + 1, x, h => by
    have e : dg 1 (fun j => x / 2 ^ (j + 1) % 2) n = x / 2 := by
      refine Eq.trans ?_ (dg_bits (n := n) (x := x / 2) (by rw [Nat.pow_succ] at h; omega))
      apply dg_congr
      intro j
      rw [Nat.div_div_eq_div_mul, Nat.pow_succ, Nat.mul_comm]
    rw [dg_succ, e]
    simp only [Nat.pow_zero, Nat.div_one, Nat.pow_one]
    omega
theorem and_low {k a m x y : Nat} (ha : a < 2 ^ k) (hm : m < 2 ^ k) : (a + 2 ^ k * x) &&& (m + 2 ^ k * y) = (a &&& m) + 2 ^ k * (x &&& y) := by
  have h1 : ((a + 2 ^ k * x) &&& (m + 2 ^ k * y)) % 2 ^ k = a &&& m := by
    rw [Nat.and_mod_two_pow, Nat.add_mul_mod_self_left, Nat.add_mul_mod_self_left, Nat.mod_eq_of_lt ha, Nat.mod_eq_of_lt hm]
  have h2 : ((a + 2 ^ k * x) &&& (m + 2 ^ k * y)) / 2 ^ k = x &&& y := by
    rw [Nat.and_div_two_pow, Nat.add_mul_div_left _ _ (Nat.two_pow_pos k), Nat.add_mul_div_left _ _ (Nat.two_pow_pos k), Nat.div_eq_of_lt ha, Nat.div_eq_of_lt hm, Nat.zero_add, Nat.zero_add]
  rw [← h1, ← h2, Nat.mod_add_div]
theorem two_digits {w a b : Nat} (ha : a < 2 ^ w) (hb : b < 2 ^ w) : a + 2 ^ w * b < 2 ^ (2 * w) := by
  have h : 2 ^ w * (b + 1) ≤ 2 ^ w * 2 ^ w := Nat.mul_le_mul_left _ hb
  rw [Nat.mul_add] at h
  rw [show 2 * w = w + w by omega, Nat.pow_add]
  omega
theorem low_mask {w : Nat} : 2 ^ w - 1 < 2 ^ (2 * w) := by
  have h := two_digits (w := w) (a := 2 ^ w - 1) (b := 0) (by have := Nat.two_pow_pos w; omega) (Nat.two_pow_pos w)
  rwa [Nat.mul_zero, Nat.add_zero] at h
theorem mask_even {w : Nat} : ∀ {n : Nat} {d : Nat → Nat}, (∀ j, d j < 2 ^ w) → dg w d (2 * n) &&& dg (2 * w) (fun _ => 2 ^ w - 1) n = dg (2 * w) (fun j => d (2 * j)) n
  | 0, _, _ => by simp [dg]
  | n + 1, d, h => by
    have e : dg w d (2 * (n + 1)) = (d 0 + 2 ^ w * d 1) + 2 ^ (2 * w) * dg w (fun j => d (j + 2)) (2 * n) := by
      rw [show 2 * (n + 1) = 2 * n + 1 + 1 by omega, dg_succ, dg_succ, Nat.mul_add, show 2 * w = w + w by omega, Nat.pow_add, Nat.mul_assoc, Nat.add_assoc]
    rw [e, dg_succ, and_low (two_digits (h 0) (h 1)) low_mask, mask_even (n := n) fun j => h (j + 2), Nat.and_two_pow_sub_one_eq_mod, Nat.add_mul_mod_self_left, Nat.mod_eq_of_lt (h 0), dg_succ]
    rfl
theorem mask_odd {w : Nat} : ∀ {n : Nat} {d : Nat → Nat}, (∀ j, d j < 2 ^ w) → (dg w d (2 * n) / 2 ^ w) &&& dg (2 * w) (fun _ => 2 ^ w - 1) n = dg (2 * w) (fun j => d (2 * j + 1)) n
  | 0, _, _ => by simp [dg]
  | n + 1, d, h => by
    have e : dg w d (2 * (n + 1)) / 2 ^ w = (d 1 + 2 ^ w * (dg w (fun j => d (j + 2)) (2 * n) % 2 ^ w)) + 2 ^ (2 * w) * (dg w (fun j => d (j + 2)) (2 * n) / 2 ^ w) := by
      rw [show 2 * (n + 1) = 2 * n + 1 + 1 by omega, dg_succ, Nat.add_mul_div_left _ _ (Nat.two_pow_pos w), Nat.div_eq_of_lt (h 0), Nat.zero_add, dg_succ, show 2 * w = w + w by omega, Nat.pow_add, Nat.mul_assoc, Nat.add_assoc, ← Nat.mul_add, Nat.mod_add_div]
    rw [e, dg_succ, and_low (two_digits (h 1) (Nat.mod_lt _ (Nat.two_pow_pos w))) low_mask, mask_odd (n := n) fun j => h (j + 2), Nat.and_two_pow_sub_one_eq_mod, Nat.add_mul_mod_self_left, Nat.mod_eq_of_lt (h 1), dg_succ]
    rfl
theorem nS_pairs {d : Nat → Nat} : ∀ {n : Nat}, nS (fun j => d (2 * j + 1) + d (2 * j)) n = nS d (2 * n)
  | 0 => rfl
  | n + 1 => by
    rw [show 2 * (n + 1) = 2 * n + 1 + 1 by omega, nS, nS, nS, nS_pairs (n := n)]; omega

def U (a : Nat) : IK .u64 := ⟨(a : Int)⟩
theorem u64_wrap {a : Nat} (h : a < 18446744073709551616) : IntKind.u64.wrap (a : Int) = a := by
  unfold IntKind.wrap
  simp [IntKind.bits, IntKind.signed]
  omega
theorem U_shr {a k : Nat} : IK.shr (U a) (k : Int) = U (a / 2 ^ k) := by
  unfold IK.shr U
  rw [Int.toNat_natCast, Int.fdiv_eq_ediv_of_nonneg _ (Int.le_of_lt (Int.pow_pos (by decide)))]
  congr 1
theorem U_and {a b : Nat} (ha : a < 18446744073709551616) (hb : b < 18446744073709551616) : IK.and (U a) (U b) = U (a &&& b) := by
  have e : (BitVec.ofInt 64 (a : Int) &&& BitVec.ofInt 64 (b : Int)).toNat = a &&& b := by
    rw [BitVec.toNat_and, BitVec.ofInt_natCast, BitVec.ofInt_natCast, BitVec.toNat_ofNat, BitVec.toNat_ofNat, Nat.mod_eq_of_lt ha, Nat.mod_eq_of_lt hb]
  show (⟨IntKind.u64.wrap ((BitVec.ofInt 64 (a : Int) &&& BitVec.ofInt 64 (b : Int)).toNat : Int)⟩ : IK .u64) = _
  rw [e, u64_wrap (Nat.lt_of_le_of_lt Nat.and_le_left ha)]
  rfl
theorem U_add {a b : Nat} (h : a + b < 18446744073709551616) : IK.add (U a) (U b) = U (a + b) := by
  unfold IK.add U
  dsimp only
  rw [← Int.natCast_add, u64_wrap h]
theorem andI_127 (x : Int) : andI x 127 = x % 128 := by
  unfold andI
  have h : (BitVec.ofInt 64 x &&& BitVec.ofInt 64 127).toNat = (x % 128).toNat := by
    rw [BitVec.toNat_and, show (BitVec.ofInt 64 127).toNat = 2 ^ 7 - 1 from rfl, Nat.and_two_pow_sub_one_eq_mod, BitVec.toNat_ofInt]
    have h1 : 0 ≤ x % 2 ^ 64 := Int.emod_nonneg _ (by decide)
    have h2 : (x % 2 ^ 64) % 128 = x % 128 := Int.emod_emod_of_dvd x (by decide)
    omega
  rw [h]
  have h1 : 0 ≤ x % 128 := Int.emod_nonneg _ (by decide)
  have h2 : x % 128 < 128 := Int.emod_lt_of_pos _ (by decide)
  rw [Int.toNat_of_nonneg h1]
  exact wrap_small h1 (by omega)
theorem dg_lt {w : Nat} : ∀ {n : Nat} {d : Nat → Nat}, (∀ j, d j < 2 ^ w) → dg w d n < 2 ^ (w * n)
  | 0, _, _ => by simp [dg]
  | n + 1, d, h => by
    have h1 := dg_lt (n := n) fun j => h (j + 1)
    have h2 : 2 ^ w * (dg w (fun j => d (j + 1)) n + 1) ≤ 2 ^ w * 2 ^ (w * n) := Nat.mul_le_mul_left _ h1
    have h3 := h 0
    rw [dg_succ, Nat.mul_succ, Nat.add_comm (w * n) w, Nat.pow_add]
    rw [Nat.mul_add] at h2
    omega
theorem fold_bytes {a0 a1 a2 a3 a4 a5 a6 a7 y z : Nat} (c0 : a0 ≤ 8) (c1 : a1 ≤ 8) (c2 : a2 ≤ 8) (c3 : a3 ≤ 8) (c4 : a4 ≤ 8) (c5 : a5 ≤ 8) (c6 : a6 ≤ 8) (c7 : a7 ≤ 8)
    (hy : y = a0 + 256 * (a1 + 256 * (a2 + 256 * (a3 + 256 * (a4 + 256 * (a5 + 256 * (a6 + 256 * a7))))))) (hz : z = y + y / 2 ^ 8 + (y + y / 2 ^ 8) / 2 ^ 16) :
    (z + z / 2 ^ 32) % 128 = a0 + a1 + a2 + a3 + a4 + a5 + a6 + a7 := by
  have e1 : y + y / 2 ^ 8 = (a0 + a1) + 256 * ((a1 + a2) + 256 * ((a2 + a3) + 256 * ((a3 + a4) + 256 * ((a4 + a5) + 256 * ((a5 + a6) + 256 * ((a6 + a7) + 256 * a7)))))) := by omega
  have e2 : z = (a0 + a1 + (a2 + a3)) + 256 * ((a1 + a2 + (a3 + a4)) + 256 * ((a2 + a3 + (a4 + a5)) + 256 * ((a3 + a4 + (a5 + a6)) + 256 * ((a4 + a5 + (a6 + a7)) + 256 * ((a5 + a6 + a7) + 256 * ((a6 + a7) + 256 * a7)))))) := by
    rw [hz, e1]; clear hz e1 hy; omega
  clear e1 hz hy
  have e3 : z / 2 ^ 32 = (a4 + a5 + (a6 + a7)) + 256 * ((a5 + a6 + a7) + 256 * ((a6 + a7) + 256 * a7)) := by omega
  rw [e3, e2]
  omega
theorem stage1 {x : Nat} {b : Nat → Nat} (hb : ∀ j, b j ≤ 1) (ex : x = dg 1 b (2 * 32)) : (x / 2 ^ 1 &&& 6148914691236517205) + (x &&& 6148914691236517205) = dg 2 (fun j => b (2 * j + 1) + b (2 * j)) 32 := by
  have m0 : 6148914691236517205 = dg (2 * 1) (fun _ => 2 ^ 1 - 1) 32 := by decide
  rw [m0, ex, mask_odd fun j => by have := hb j; omega, mask_even fun j => by have := hb j; omega, dg_add]
theorem stage2 {x : Nat} {b : Nat → Nat} (hb : ∀ j, b j ≤ 2) (ex : x = dg 2 b (2 * 16)) : (x / 2 ^ 2 &&& 3689348814741910323) + (x &&& 3689348814741910323) = dg 4 (fun j => b (2 * j + 1) + b (2 * j)) 16 := by
  have m1 : 3689348814741910323 = dg (2 * 2) (fun _ => 2 ^ 2 - 1) 16 := by decide
  rw [m1, ex, mask_odd fun j => by have := hb j; omega, mask_even fun j => by have := hb j; omega, dg_add]
theorem stage3 {x : Nat} {b : Nat → Nat} (hb : ∀ j, b j ≤ 4) (h0 : b 16 = 0) (ex : x = dg 4 b 16) : x / 2 ^ 4 + x = dg 4 (fun j => b (j + 1) + b j) 16 := by
  have : dg 4 b 16 / 2 ^ 4 = dg 4 (fun j => b (j + 1)) 16 := by
    rw [dg_top (n := 15) (d := fun j => b (j + 1)) h0]
    show dg 4 b (15 + 1) / 2 ^ 4 = _
    rw [dg_succ, Nat.add_mul_div_left _ _ (by decide), Nat.div_eq_of_lt (by have := hb 0; omega), Nat.zero_add]
  rw [ex, this, dg_add]
theorem stage4 {x : Nat} {b : Nat → Nat} (hb : ∀ j, b j ≤ 8) (ex : x = dg 4 b (2 * 8)) : x &&& 1085102592571150095 = dg 8 (fun j => b (2 * j)) 8 := by
  have m2 : 1085102592571150095 = dg (2 * 4) (fun _ => 2 ^ 4 - 1) 8 := by decide
  rw [m2, ex, mask_even (w := 4) fun j => by have := hb j; omega]
theorem ones_nat {x y1 y2 y3 y4 z : Nat} (h1 : y1 = (x / 2 ^ 1 &&& 6148914691236517205) + (x &&& 6148914691236517205)) (h2 : y2 = (y1 / 2 ^ 2 &&& 3689348814741910323) + (y1 &&& 3689348814741910323)) (h3 : y3 = y2 / 2 ^ 4 + y2) (h4 : y4 = y3 &&& 1085102592571150095) (hz : z = y4 + y4 / 2 ^ 8 + (y4 + y4 / 2 ^ 8) / 2 ^ 16) (hx : x < 18446744073709551616) :
    y1 < 18446744073709551616 ∧ y2 < 18446744073709551616 ∧ y3 < 18446744073709551616 ∧ y4 ≤ 578721382704613384 ∧ (z + z / 2 ^ 32) % 128 = nS (fun j => x / 2 ^ j % 2) 64 := by
  obtain ⟨b, hbd⟩ : ∃ b : Nat → Nat, b = fun j => x / 2 ^ j % 2 := ⟨_, rfl⟩
  obtain ⟨d1, hd1⟩ : ∃ d : Nat → Nat, d = fun j => b (2 * j + 1) + b (2 * j) := ⟨_, rfl⟩
  obtain ⟨d2, hd2⟩ : ∃ d : Nat → Nat, d = fun j => d1 (2 * j + 1) + d1 (2 * j) := ⟨_, rfl⟩
  obtain ⟨d3, hd3⟩ : ∃ d : Nat → Nat, d = fun j => d2 (2 * j + 1) + d2 (2 * j) := ⟨_, rfl⟩
  have q1 : ∀ j, d1 j = b (2 * j + 1) + b (2 * j) := fun j => by rw [hd1]
  have q2 : ∀ j, d2 j = d1 (2 * j + 1) + d1 (2 * j) := fun j => by rw [hd2]
  have q3 : ∀ j, d3 j = d2 (2 * j + 1) + d2 (2 * j) := fun j => by rw [hd3]
  have g0 : ∀ j, b j ≤ 1 := fun j => by rw [hbd]; dsimp only; omega
  have hb0 : ∀ j, 64 ≤ j → b j = 0 := fun j hj => by
    rw [hbd]
    dsimp only
    rw [Nat.div_eq_of_lt (Nat.lt_of_lt_of_le hx (Nat.pow_le_pow_right (n := 2) (by decide) hj))]
  have g1 : ∀ j, d1 j ≤ 2 := fun j => by have := g0 (2 * j + 1); have := g0 (2 * j); rw [q1]; omega
  have g2 : ∀ j, d2 j ≤ 4 := fun j => by have := g1 (2 * j + 1); have := g1 (2 * j); rw [q2]; omega
  have g3 : ∀ j, d3 j ≤ 8 := fun j => by have := g2 (2 * j + 1); have := g2 (2 * j); rw [q3]; omega
  have h20 : d2 16 = 0 := by
    rw [q2, q1, q1, hb0 _ (by decide), hb0 _ (by decide), hb0 _ (by decide), hb0 _ (by decide)]
  have ex : x = dg 1 b (2 * 32) := by rw [hbd]; exact (dg_bits (n := 64) hx).symm
  have k1 : y1 = dg 2 d1 (2 * 16) := by rw [h1, stage1 g0 ex, hd1]
  have k2 : y2 = dg 4 d2 16 := by rw [h2, stage2 g1 k1, hd2]
  have k3 : y3 = dg 4 (fun j => d2 (j + 1) + d2 j) (2 * 8) := by rw [h3, stage3 g2 h20 k2]
  have k4 : y4 = dg 8 d3 8 := by rw [h4, stage4 (fun j => by have := g2 j; have := g2 (j + 1); omega) k3, hd3]
  have e6 : y4 = d3 0 + 256 * (d3 1 + 256 * (d3 2 + 256 * (d3 3 + 256 * (d3 4 + 256 * (d3 5 + 256 * (d3 6 + 256 * d3 7)))))) := k4
  have e5 : nS b 64 = d3 0 + d3 1 + d3 2 + d3 3 + d3 4 + d3 5 + d3 6 + d3 7 := by
    have : nS b 64 = nS d3 8 := by
      rw [show 64 = 2 * (2 * (2 * 8)) from rfl, ← nS_pairs, ← hd1, ← nS_pairs, ← hd2, ← nS_pairs, ← hd3]
    rw [this]
    show 0 + d3 0 + d3 1 + d3 2 + d3 3 + d3 4 + d3 5 + d3 6 + d3 7 = _
    rw [Nat.zero_add]
  have f0 := g3 0; have f1 := g3 1; have f2 := g3 2; have f3 := g3 3; have f4 := g3 4; have f5 := g3 5; have f6 := g3 6; have f7 := g3 7
  refine ⟨?_, ?_, ?_, ?_, ?_⟩
  · rw [k1]; exact dg_lt (w := 2) (n := 32) fun j => by have := g1 j; omega
  · rw [k2]; exact dg_lt (w := 4) (n := 16) fun j => by have := g2 j; omega
  · rw [k3]; exact dg_lt (w := 4) (n := 16) fun j => by have := g2 j; have := g2 (j + 1); omega
  · clear h1 h2 h3 h4 hz hx hbd hd1 hd2 hd3 ex k1 k2 k3 k4 e5; omega
  · rw [← hbd, e5]; exact fold_bytes f0 f1 f2 f3 f4 f5 f6 f7 e6 hz
theorem ones_eq {x : Nat} (hx : x < 18446744073709551616) : bits_OnesCount64 (U x) = some ((nS (fun j => x / 2 ^ j % 2) 64 : Nat) : Int) := by
  obtain ⟨y1, h1⟩ : ∃ y, y = (x / 2 ^ 1 &&& 6148914691236517205) + (x &&& 6148914691236517205) := ⟨_, rfl⟩
  obtain ⟨y2, h2⟩ : ∃ y, y = (y1 / 2 ^ 2 &&& 3689348814741910323) + (y1 &&& 3689348814741910323) := ⟨_, rfl⟩
  obtain ⟨y3, h3⟩ : ∃ y, y = y2 / 2 ^ 4 + y2 := ⟨_, rfl⟩
  obtain ⟨y4, h4⟩ : ∃ y, y = y3 &&& 1085102592571150095 := ⟨_, rfl⟩
  obtain ⟨z, hz⟩ : ∃ y, y = y4 + y4 / 2 ^ 8 + (y4 + y4 / 2 ^ 8) / 2 ^ 16 := ⟨_, rfl⟩
  obtain ⟨l1, l2, l3, l4, hn⟩ := ones_nat h1 h2 h3 h4 hz hx
  have lx1 : x / 2 ^ 1 < 18446744073709551616 := by omega
  have lx2 : y1 / 2 ^ 2 < 18446744073709551616 := by omega
  have g1 : IK.add (IK.and (IK.shr (U x) 1) (IK.mk 6148914691236517205 : IK .u64)) (IK.and (U x) (IK.mk 6148914691236517205 : IK .u64)) = U y1 := by
    show IK.add (IK.and (IK.shr (U x) ((1 : Nat) : Int)) (U 6148914691236517205)) (IK.and (U x) (U 6148914691236517205)) = _
    rw [U_shr, U_and lx1 (by decide), U_and hx (by decide), U_add (by rw [← h1]; exact l1), h1]
  have g2 : IK.add (IK.and (IK.shr (U y1) 2) (IK.mk 3689348814741910323 : IK .u64)) (IK.and (U y1) (IK.mk 3689348814741910323 : IK .u64)) = U y2 := by
    show IK.add (IK.and (IK.shr (U y1) ((2 : Nat) : Int)) (U 3689348814741910323)) (IK.and (U y1) (U 3689348814741910323)) = _
    rw [U_shr, U_and lx2 (by decide), U_and l1 (by decide), U_add (by rw [← h2]; exact l2), h2]
  have g3 : IK.and (IK.add (IK.shr (U y2) 4) (U y2)) (IK.mk 1085102592571150095 : IK .u64) = U y4 := by
    show IK.and (IK.add (IK.shr (U y2) ((4 : Nat) : Int)) (U y2)) (U 1085102592571150095) = _
    rw [U_shr, U_add (by rw [← h3]; exact l3), ← h3, U_and l3 (by decide), h4]
  clear h1 h2 h3 h4
  have g4 : IK.add (U y4) (IK.shr (U y4) 8) = U (y4 + y4 / 2 ^ 8) := by
    show IK.add (U y4) (IK.shr (U y4) ((8 : Nat) : Int)) = _
    rw [U_shr, U_add (by omega)]
  have g5 : IK.add (U (y4 + y4 / 2 ^ 8)) (IK.shr (U (y4 + y4 / 2 ^ 8)) 16) = U z := by
    show IK.add (U (y4 + y4 / 2 ^ 8)) (IK.shr (U (y4 + y4 / 2 ^ 8)) ((16 : Nat) : Int)) = _
    rw [U_shr, U_add (by omega), ← hz]
  have hzl : z ≤ 1000000000000000000 := by omega
  have g6 : IK.add (U z) (IK.shr (U z) 32) = U (z + z / 2 ^ 32) := by
    show IK.add (U z) (IK.shr (U z) ((32 : Nat) : Int)) = _
    rw [U_shr, U_add (by omega)]
  unfold bits_OnesCount64
  rw [g1, g2, g3, g4, g5, g6, andI_127]
  have hw : IntKind.i64.wrap (U (z + z / 2 ^ 32)).n = ((z + z / 2 ^ 32 : Nat) : Int) := wrap_small (Int.natCast_nonneg _) (by show ((z + z / 2 ^ 32 : Nat) : Int) < _; omega)
  rw [hw, ← hn]
  rfl
end Go.Proofs.Ytekbjeagbfbbcaa

