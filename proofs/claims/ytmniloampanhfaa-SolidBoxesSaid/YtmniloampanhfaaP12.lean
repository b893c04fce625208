/- Solids: small examples, reckoned by the forms that they have. -/
import Derived.Test.YtmniloampanhfaaP11
namespace Go.Proofs.Ytmniloampanhfaa
open Go.Gb
set_option linter.unusedVariables false
set_option linter.unusedSimpArgs false
set_option linter.unusedSectionVars false
set_option linter.unusedVariables false
set_option linter.unusedSimpArgs false

/-! Forms that can be checked by reckoning -/
def canonB {V : Type} [DecidableEq V] (e : V) : Runs V → Bool
  | [] => true
  | (a, b, v) :: t => decide (a < b) && decide (v ≠ e) && (match t with | [] => true | (c, _, w) :: _ => decide (b < c) || (decide (b = c) && decide (v ≠ w))) && canonB e t
theorem canonB_spec {V : Type} [DecidableEq V] {e : V} : ∀ {l : Runs V}, canonB e l = true → Canon e l
  | [], _ => trivial
  | (a, b, v) :: t, h => by
    simp only [canonB, Bool.and_eq_true, decide_eq_true_eq] at h
    obtain ⟨⟨⟨h1, h2⟩, h3⟩, h4⟩ := h
    refine ⟨h1, h2, ?_, canonB_spec h4⟩
    cases t with
    | nil => trivial
    | cons r t =>
      obtain ⟨c, d, w⟩ := r
      simp only [Bool.or_eq_true, Bool.and_eq_true, decide_eq_true_eq] at h3
      exact h3
/-- The runs of columns of a list of rectangles, neighbours with the same ends in one. -/
def runsOf : List Rect → Runs Col
  | [] => []
  | r :: l => match runsOf l with
    | [] => [(r.X0, r.X1, [(r.Y0, r.Y1, true)])]
    | (a, b, c) :: t => if r.X0 = a ∧ r.X1 = b then (a, b, (r.Y0, r.Y1, true) :: c) :: t else (r.X0, r.X1, [(r.Y0, r.Y1, true)]) :: (a, b, c) :: t
theorem flatG_cons (a b : Int) (c : Col) (t : Runs Col) : flatG ((a, b, c) :: t) = (c.map fun s => ⟨a, s.1, b, s.2.1⟩) ++ flatG t := rfl
theorem flatG_runsOf : ∀ l : List Rect, flatG (runsOf l) = l
  | [] => rfl
  | r :: l => by
    have ih := flatG_runsOf l
    simp only [runsOf]
    split
    · rename_i h
      rw [h] at ih
      rw [← ih]; rfl
    · rename_i a b c t h
      rw [h] at ih
      split
      · rename_i h2
        obtain ⟨rfl, rfl⟩ := h2
        rw [← ih, flatG_cons, flatG_cons]; rfl
      · rw [flatG_cons, ← ih]; rfl
def formB (l : List Rect) : Bool := canonB [] (runsOf l) && (runsOf l).all fun g => canonB false g.2.2
theorem formB_spec {l : List Rect} (h : formB l = true) : IsForm (cells l) l := by
  unfold formB at h
  rw [Bool.and_eq_true, List.all_eq_true] at h
  have hf : IsForm (fun x y => rval false (rval [] (runsOf l) x) y = true) l := ⟨runsOf l, canonB_spec h.1, fun a b c hm => canonB_spec (h.2 _ hm), fun _ _ => Iff.rfl, (flatG_runsOf l).symm⟩
  exact hf.self
def rrB (l : List Rect) : Bool := l.all (fun r => decide (VR r)) && decide (l.length ≤ 200) && formB l
theorem rrB_spec {l : List Rect} (h : rrB l = true) : RR l := by
  unfold rrB at h
  simp only [Bool.and_eq_true, List.all_eq_true, decide_eq_true_eq] at h
  exact ⟨h.1.1, h.1.2, formB_spec h.2⟩
def ssB (s : List Slab) : Bool := decide (s.length ≤ 80) && canonB [] (slabRuns s) && s.all fun b => decide (0 ≤ b.Z0) && decide (b.Z1 ≤ 4096) && rrB b.Area
theorem ssB_spec {s : List Slab} (h : ssB s = true) : SS s := by
  unfold ssB at h
  simp only [Bool.and_eq_true, List.all_eq_true, decide_eq_true_eq] at h
  exact ⟨h.1.1, canonB_spec h.1.2, fun b hb => ⟨(h.2 b hb).1.1, (h.2 b hb).1.2, rrB_spec (h.2 b hb).2⟩⟩
theorem slim_fine {s : List Slab} (h : SS s) : slim s = (s, 0) := by
  unfold slim
  rw [if_neg]
  rintro (⟨b, hb, h'⟩ | h')
  · have := (h.ok b hb).2.2.2.1; omega
  · have := h.len; omega
theorem Of_is {l : List Box} {w : List Slab} (hl : l.all (fun b => decide (VB b)) = true) (hn : l.length ≤ 200) (hw : ssB w = true) (he : ∀ x y z, bcells l x y z ↔ scells w x y z) : solid_Of l = some (w, 0) := by
  have hS := ssB_spec hw
  obtain ⟨out, h1, h2⟩ := solid_Of_fine (l := l) (by simpa using hl) hn
  rw [h2, h1.unique hS.solid he, slim_fine hS]
theorem op_is {op : Int} {a b w : List Slab} (ha : SS a) (hb : SS b) (hw : SS w) (he : ∀ x y z, sopS op a b x y z ↔ scells w x y z) : solidOp op a b = some (w, 0) := by
  obtain ⟨out, h1, h2⟩ := solidOp_fine (op := op) ha hb
  rw [h2, h1.unique hw.solid he, slim_fine hw]
theorem top_is {s : List Slab} (h : SS s) {x y t : Int} (ht : IsTop s x y t) : solid_Top s x y = some t := by
  obtain ⟨t', h1, h2⟩ := solid_Top_fine h x y
  rw [h1, h2.unique ht]
theorem scells_iff {s : List Slab} {x y z : Int} : scells s x y z ↔ cells (sect s z) x y := Iff.rfl
theorem sect_cons (b : Slab) (s : List Slab) (z : Int) : sect (b :: s) z = if b.Z0 ≤ z ∧ z < b.Z1 then b.Area else sect s z := rfl
theorem sect_nil (z : Int) : sect [] z = [] := rfl
theorem cells_if {p : Prop} [Decidable p] {a b : List Rect} {x y : Int} : cells (if p then a else b) x y ↔ (p ∧ cells a x y) ∨ (¬ p ∧ cells b x y) := by
  split <;> simp [*]
theorem rsame_is {a b : List Rect} (hb : a.length ≤ 1000000) : ref06_Same a b = some (decide (a = b)) := by
  unfold ref06_Same
  by_cases hl : a.length = b.length
  · rw [if_neg (by simp [hl])]
    rcases iter_find (l := a.zip b) (body := ref06_Same_L0 a b) (k := 0) (fun p => p.1 ≠ p.2) (fun _ => false) (by
      intro i hi
      simp only [List.length_zip] at hi
      have h1 : i < a.length := by omega
      have h2 : i < b.length := by omega
      unfold ref06_Same_L0
      rw [if_pos (by simpa using h1), getI_nat h1, Option.bind_some, getI_nat h2, Option.bind_some]
      simp only [List.getElem_zip]
      by_cases he : a[i] = b[i]
      · right
        rw [if_neg (by simpa using he), addI_one (show i < 4611686018427387904 by omega), Option.bind_some]
        exact ⟨by simpa using he, rfl⟩
      · left
        rw [if_pos (by simpa using he)]
        exact ⟨he, rfl⟩) (by
      have e : ((a.zip b).length : Int) = (a.length : Int) := by simp; omega
      rw [e]
      unfold ref06_Same_L0
      rw [if_neg (by simp)]) (fuel := a.length + b.length + 1) (by simp; omega) with ⟨i, hi, hp, _, h⟩ | ⟨hp, h⟩
    · rw [h, Option.bind_some]
      dsimp only
      congr 1
      symm
      rw [decide_eq_false_iff_not]
      intro e; subst e; simp at hp
    · rw [h, Option.bind_some]
      dsimp only
      congr 1
      symm
      rw [decide_eq_true_iff]
      refine List.ext_getElem hl fun i h1 h2 => ?_
      have := hp (a[i], b[i]) (by
        rw [List.mem_iff_getElem]
        exact ⟨i, by simp; omega, by simp⟩)
      simpa using this
  · rw [if_pos (by simp; omega)]
    congr 1
    symm
    rw [decide_eq_false_iff_not]
    intro e; exact hl (by rw [e])
theorem sSame_eq {a b : List Slab} (hl : a.length ≤ 1000000) (ha : ∀ s ∈ a, s.Area.length ≤ 1000000) : ref09_Same a b = some (decide (a = b)) := by
  unfold ref09_Same
  by_cases hlen : a.length = b.length
  · rw [if_neg (by simp [hlen])]
    rcases iter_find (l := a.zip b) (body := ref09_Same_L0 a b) (k := 0) (fun p => p.1 ≠ p.2) (fun _ => false) (by
      intro i hi
      simp only [List.length_zip] at hi
      have h1 : i < a.length := by omega
      have h2 : i < b.length := by omega
      have hs : ref09_Same_L0 a b (i : Int) = if a[i] = b[i] then some (.go ((i + 1 : Nat) : Int)) else some (.ret false) := by
        have hai := ha _ (List.getElem_mem h1)
        unfold ref09_Same_L0
        rw [if_pos (by simpa using h1)]
        simp only [getI_nat h1, getI_nat h2, Option.bind_some, rsame_is hai, addI_one (show i < 4611686018427387904 by omega)]
        generalize a[i] = p at hai ⊢
        generalize b[i] = q
        obtain ⟨x0, x1, xa⟩ := p
        obtain ⟨y0, y1, ya⟩ := q
        by_cases c0 : x0 = y0
        · by_cases c1 : x1 = y1
          · by_cases c2 : xa = ya
            · simp [c0, c1, c2]
            · simp [c0, c1, c2]
          · simp [c0, c1]
        · simp [c0]
      rw [hs]
      simp only [List.getElem_zip]
      by_cases he : a[i] = b[i]
      · right
        rw [if_pos he]
        exact ⟨fun h => h he, rfl⟩
      · left
        rw [if_neg he]
        exact ⟨he, rfl⟩) (by
      have e : ((a.zip b).length : Int) = (a.length : Int) := by simp; omega
      rw [e]
      unfold ref09_Same_L0
      rw [if_neg (by simp)]) (fuel := a.length + b.length + 1) (by simp; omega) with ⟨i, hi, hp, _, h⟩ | ⟨hp, h⟩
    · rw [h, Option.bind_some]
      dsimp only
      congr 1
      symm
      rw [decide_eq_false_iff_not]
      intro e; subst e; simp at hp
    · rw [h, Option.bind_some]
      dsimp only
      congr 1
      symm
      rw [decide_eq_true_iff]
      refine List.ext_getElem hlen fun i h1 h2 => ?_
      have := hp (a[i], b[i]) (by
        rw [List.mem_iff_getElem]
        exact ⟨i, by simp; omega, by simp⟩)
      simpa using this
  · rw [if_pos (by simp; omega)]
    congr 1
    symm
    rw [decide_eq_false_iff_not]
    intro e; exact hlen (by rw [e])

/-- The examples of the documentation. -/
def exU : List Slab := [⟨0, 3, [⟨0, 0, 2, 2⟩]⟩, ⟨3, 5, [⟨0, 0, 1, 2⟩]⟩]
def exV : List Slab := [⟨1, 5, [⟨0, 0, 2, 1⟩]⟩]
def exM : List Slab := [⟨0, 1, [⟨0, 0, 2, 2⟩]⟩, ⟨1, 3, [⟨0, 1, 2, 2⟩]⟩, ⟨3, 5, [⟨0, 1, 1, 2⟩]⟩]
theorem exU_fine : SS exU := ssB_spec (by decide)
theorem exV_fine : SS exV := ssB_spec (by decide)
theorem exM_fine : SS exM := ssB_spec (by decide)
theorem ex1 : solid_Of [⟨⟨0, 0, 2, 2⟩, 0, 3⟩, ⟨⟨0, 0, 1, 2⟩, 2, 5⟩] = some (exU, 0) := by
  refine Of_is (by decide) (by decide) (by decide) fun x y z => ?_
  simp only [scells_iff, exU, sect_cons, sect_nil, cells_if]
  simp only [bcells, cells, List.mem_cons, List.not_mem_nil, or_false, exists_eq_or_imp, exists_eq_left, false_and, exists_false, and_false, or_false, rin]
  omega
theorem ex2 : solid_Of [⟨⟨0, 0, 2, 1⟩, 1, 5⟩] = some (exV, 0) := by
  refine Of_is (by decide) (by decide) (by decide) fun x y z => ?_
  simp only [scells_iff, exV, sect_cons, sect_nil, cells_if]
  simp only [bcells, cells, List.mem_cons, List.not_mem_nil, or_false, exists_eq_or_imp, exists_eq_left, false_and, exists_false, and_false, or_false, rin]
  omega
theorem ex3 : solid_Minus exU exV = some (exM, 0) := by
  have h := op_is (op := 2) exU_fine exV_fine exM_fine (fun x y z => by
    unfold sopS opB
    rw [if_neg (by decide), if_pos rfl]
    simp only [Bool.and_eq_true, Bool.not_eq_true', decide_eq_true_eq, decide_eq_false_iff_not]
    simp only [scells_iff, exU, exV, exM, sect_cons, sect_nil, cells_if]
    simp only [cells, List.mem_cons, List.not_mem_nil, or_false, exists_eq_or_imp, exists_eq_left, false_and, exists_false, and_false, or_false, rin]
    omega)
  exact h
theorem ex4 : solid_Of [⟨⟨0, 0, 2, 1⟩, 1, 1⟩] = some ([], 1) := solid_Of_bad (by decide) (by decide)
theorem exTop (x y t : Int) (h : (0 ≤ t ∧ (∀ z, ((0 ≤ z ∧ z < 3) ∧ (0 ≤ x ∧ x < 2) ∧ 0 ≤ y ∧ y < 2) ∨ ((3 ≤ z ∧ z < 5) ∧ (0 ≤ x ∧ x < 1) ∧ 0 ≤ y ∧ y < 2) → z < t)) ∧ (t = 0 ∨ ((0 ≤ t - 1 ∧ t - 1 < 3) ∧ (0 ≤ x ∧ x < 2) ∧ 0 ≤ y ∧ y < 2) ∨ ((3 ≤ t - 1 ∧ t - 1 < 5) ∧ (0 ≤ x ∧ x < 1) ∧ 0 ≤ y ∧ y < 2))) : solid_Top exU x y = some t := by
  have e : ∀ z, scells exU x y z ↔ ((0 ≤ z ∧ z < 3) ∧ (0 ≤ x ∧ x < 2) ∧ 0 ≤ y ∧ y < 2) ∨ ((3 ≤ z ∧ z < 5) ∧ (0 ≤ x ∧ x < 1) ∧ 0 ≤ y ∧ y < 2) := by
    intro z
    simp only [scells_iff, exU, sect_cons, sect_nil, cells_if]
    simp only [cells, List.mem_cons, List.not_mem_nil, or_false, exists_eq_or_imp, exists_eq_left, false_and, exists_false, and_false, or_false, rin]
    omega
  refine top_is exU_fine ⟨h.1.1, fun z hz => h.1.2 z ((e z).1 hz), ?_⟩
  rcases h.2 with h | h
  · exact .inl h
  · exact .inr ((e _).2 h)
theorem small_true : law09_small = some true := by
  unfold law09_small law09_square
  rw [ex1, Option.bind_some, ex2, Option.bind_some]
  dsimp only
  rw [ex3, Option.bind_some, ex4]
  simp only [Option.bind_some]
  have hs1 : ref09_Same exU [⟨0, 3, [⟨0, 0, 2, 2⟩]⟩, ⟨3, 5, [⟨0, 0, 1, 2⟩]⟩] = some true := sSame_eq (by decide) (by decide)
  have hs2 : ref09_Same exM [⟨0, 1, [⟨0, 0, 2, 2⟩]⟩, ⟨1, 3, [⟨0, 1, 2, 2⟩]⟩, ⟨3, 5, [⟨0, 1, 1, 2⟩]⟩] = some true := sSame_eq (by decide) (by decide)
  have hs3 : solid_Same exM [⟨0, 1, [⟨0, 0, 2, 2⟩]⟩, ⟨1, 3, [⟨0, 1, 2, 2⟩]⟩, ⟨3, 5, [⟨0, 1, 1, 2⟩]⟩] = some true := solid_Same_eq (by decide) (by decide)
  have hv : solid_Volume exU = some 16 := solid_Volume_fine exU_fine
  have ht1 := exTop 0 1 5 ⟨⟨by omega, fun z hz => by omega⟩, by omega⟩
  have ht2 := exTop 1 1 3 ⟨⟨by omega, fun z hz => by omega⟩, by omega⟩
  have ht3 := exTop 2 0 0 ⟨⟨by omega, fun z hz => by omega⟩, by omega⟩
  have hc1 : solid_Section exU 2 = some [⟨0, 0, 2, 2⟩] := solid_Section_fine exU_fine 2
  have hc2 : solid_Section exU 5 = some [] := solid_Section_fine exU_fine 5
  have hb : solid_Boxes exU = some [⟨⟨0, 0, 2, 2⟩, 0, 3⟩, ⟨⟨0, 0, 1, 2⟩, 3, 5⟩] := solid_Boxes_fine exU_fine
  have hh1 : solid_Has exU 0 0 4 = some true := by rw [solid_Has_fine exU_fine]; decide
  have hh2 : solid_Has exU 1 0 4 = some false := by rw [solid_Has_fine exU_fine]; decide
  have hr1 : solid_Right [] = some true := solid_Right_true SS_nil
  have hr2 : solid_Right [⟨0, 1, []⟩] = some false := solid_Right_false (by decide) (fun h => (slab_pos h.canon (List.mem_singleton.2 rfl)).2 rfl)
  simp [hs1, hs2, hs3, hv, ht1, ht2, ht3, hc1, hc2, hb, hh1, hh2, hr1, hr2]
end Go.Proofs.Ytmniloampanhfaa
