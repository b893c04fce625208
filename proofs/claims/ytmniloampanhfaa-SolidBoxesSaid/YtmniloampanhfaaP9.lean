/- Solids: canonical lists of slabs; put, heights, Of, Right, combining. -/
import Derived.Test.YtmniloampanhfaaP5
namespace Go.Proofs.Ytmniloampanhfaa
open Go.Gb
set_option linter.unusedVariables false
set_option linter.unusedSimpArgs false
set_option linter.unusedSectionVars false
set_option linter.unusedVariables false
set_option linter.unusedSimpArgs false

def slabRuns (s : List Slab) : Runs (List Rect) := s.map fun x => (x.Z0, x.Z1, x.Area)
theorem slabRuns_append (a b : List Slab) : slabRuns (a ++ b) = slabRuns a ++ slabRuns b := List.map_append
theorem slabRuns_length (a : List Slab) : (slabRuns a).length = a.length := by simp [slabRuns]
theorem slabRuns_inj : ∀ {a b : List Slab}, slabRuns a = slabRuns b → a = b
  | [], [], _ => rfl
  | [], _ :: _, h => by simp [slabRuns] at h
  | _ :: _, [], h => by simp [slabRuns] at h
  | ⟨f, t, u⟩ :: a, ⟨f', t', u'⟩ :: b, h => by
    simp only [slabRuns, List.map_cons, List.cons.injEq, Prod.mk.injEq] at h
    obtain ⟨⟨rfl, rfl, rfl⟩, h⟩ := h
    rw [slabRuns_inj (a := a) (b := b) h]
/-- The cross-section at z. -/
def sect (s : List Slab) (z : Int) : List Rect := rval [] (slabRuns s) z
/-- The cube (x, y, z) is in the solid. -/
def scells (s : List Slab) (x y z : Int) : Prop := cells (sect s z) x y
instance (s : List Slab) (x y z : Int) : Decidable (scells s x y z) := inferInstanceAs (Decidable (cells _ _ _))
/-- The list is the solid of the set of cubes. -/
structure IsSolid (S : Int → Int → Int → Prop) (out : List Slab) : Prop where
  canon : Canon [] (slabRuns out)
  form : ∀ z, IsForm (fun x y => S x y z) (sect out z)
theorem IsSolid.unique {S S' : Int → Int → Int → Prop} {out out' : List Slab} (h : IsSolid S out) (h' : IsSolid S' out') (he : ∀ x y z, S x y z ↔ S' x y z) : out = out' :=
  slabRuns_inj (canon_unique h.canon h'.canon fun z => (h.form z).unique (h'.form z) fun x y => he x y z)
theorem IsSolid.congr {S S' : Int → Int → Int → Prop} {out : List Slab} (h : IsSolid S out) (he : ∀ x y z, S x y z ↔ S' x y z) : IsSolid S' out :=
  ⟨h.canon, fun z => (h.form z).congr fun x y => he x y z⟩
theorem IsSolid.cells {S : Int → Int → Int → Prop} {out : List Slab} (h : IsSolid S out) (x y z : Int) : scells out x y z ↔ S x y z := (h.form z).cells x y
theorem IsSolid.self {S : Int → Int → Int → Prop} {out : List Slab} (h : IsSolid S out) : IsSolid (scells out) out := h.congr fun x y z => (h.cells x y z).symm

/-- The list is a solid. -/
structure SS (s : List Slab) : Prop where
  len : s.length ≤ 80
  canon : Canon [] (slabRuns s)
  ok : ∀ b ∈ s, 0 ≤ b.Z0 ∧ b.Z1 ≤ 4096 ∧ RR b.Area
theorem SS.sect {s : List Slab} (h : SS s) (z : Int) : RR (sect s z) := by
  rcases rval_mem (e := []) (l := slabRuns s) (x := z) with h1 | ⟨a, b, h1, _⟩
  · unfold Ytmniloampanhfaa.sect; rw [h1]; exact RR_nil
  · obtain ⟨x, hx, he⟩ := List.mem_map.1 h1
    simp only [Prod.mk.injEq] at he
    unfold Ytmniloampanhfaa.sect; rw [← he.2.2]; exact (h.ok x hx).2.2
theorem SS.solid {s : List Slab} (h : SS s) : IsSolid (scells s) s := ⟨h.canon, fun z => (h.sect z).2.2⟩
theorem SS_nil : SS [] := ⟨by simp, trivial, by simp⟩
theorem slab_mem {s : List Slab} {b : Slab} (h : b ∈ s) : (b.Z0, b.Z1, b.Area) ∈ slabRuns s := List.mem_map.2 ⟨b, h, rfl⟩
theorem slab_pos {s : List Slab} (h : Canon [] (slabRuns s)) {b : Slab} (hb : b ∈ s) : b.Z0 < b.Z1 ∧ b.Area ≠ [] := canon_mem h (slab_mem hb)
theorem sect_mem {s : List Slab} (h : Canon [] (slabRuns s)) {b : Slab} (hb : b ∈ s) {z : Int} (h1 : b.Z0 ≤ z) (h2 : z < b.Z1) : sect s z = b.Area := rval_of_mem h (slab_mem hb) h1 h2
theorem slabs_canon {s : List Slab} : Canon [] (slabRuns s) ↔ (∀ i (h : i < s.length), s[i].Z0 < s[i].Z1 ∧ s[i].Area ≠ []) ∧
    ∀ i (h : i + 1 < s.length), s[i].Z1 < s[i + 1].Z0 ∨ (s[i].Z1 = s[i + 1].Z0 ∧ s[i].Area ≠ s[i + 1].Area) := by
  rw [canon_iff]
  simp only [slabRuns_length]
  simp only [slabRuns, List.getElem_map]

/-! Right -/
theorem solid_Right_spec {s : List Slab} (ha : ∀ b ∈ s, b.Area.length ≤ 100000) : ∃ b, solid_Right s = some b ∧ (b = true ↔ SS s) := by
  unfold solid_Right
  by_cases hl : 80 < s.length
  · rw [if_pos (by simp; omega)]
    exact ⟨_, rfl, by simp, fun h => absurd h.len (by omega)⟩
  · rw [if_neg (by simp; omega)]
    have hstep : ∀ i, i < s.length → (∀ j, j < i → ¬ ¬ ((∃ h : j < s.length, 0 ≤ s[j].Z0 ∧ s[j].Z0 < s[j].Z1 ∧ s[j].Z1 ≤ 4096 ∧ s[j].Area ≠ [] ∧ RR s[j].Area) ∧ ∀ h0 : 0 < j, ∀ h : j < s.length, (s[j - 1]'(by omega)).Z1 < s[j].Z0 ∨ ((s[j - 1]'(by omega)).Z1 = s[j].Z0 ∧ (s[j - 1]'(by omega)).Area ≠ s[j].Area))) →
        (¬ ((∃ h : i < s.length, 0 ≤ s[i].Z0 ∧ s[i].Z0 < s[i].Z1 ∧ s[i].Z1 ≤ 4096 ∧ s[i].Area ≠ [] ∧ RR s[i].Area) ∧ ∀ h0 : 0 < i, ∀ h : i < s.length, (s[i - 1]'(by omega)).Z1 < s[i].Z0 ∨ ((s[i - 1]'(by omega)).Z1 = s[i].Z0 ∧ (s[i - 1]'(by omega)).Area ≠ s[i].Area)) ∧
          solid_Right_L0 s (i : Int) = some (.ret false)) ∨
        (¬ ¬ ((∃ h : i < s.length, 0 ≤ s[i].Z0 ∧ s[i].Z0 < s[i].Z1 ∧ s[i].Z1 ≤ 4096 ∧ s[i].Area ≠ [] ∧ RR s[i].Area) ∧ ∀ h0 : 0 < i, ∀ h : i < s.length, (s[i - 1]'(by omega)).Z1 < s[i].Z0 ∨ ((s[i - 1]'(by omega)).Z1 = s[i].Z0 ∧ (s[i - 1]'(by omega)).Area ≠ s[i].Area)) ∧
          solid_Right_L0 s (i : Int) = some (.go ((i + 1 : Nat) : Int))) := by
      intro i hi _
      obtain ⟨rb, hr1, hr2⟩ := region_Right_spec (a := s[i].Area) (ha _ (List.getElem_mem hi))
      unfold solid_Right_L0
      rw [if_pos (by simpa using hi), getI_nat hi, Option.bind_some]
      by_cases h1 : 0 ≤ s[i].Z0 ∧ s[i].Z0 < s[i].Z1 ∧ s[i].Z1 ≤ 4096 ∧ s[i].Area ≠ []
      · have hal : 0 < s[i].Area.length := List.length_pos_iff.2 h1.2.2.2
        rw [if_neg (by simp only [Bool.or_eq_true, decide_eq_true_eq, beq_iff_eq]; omega), hr1, Option.bind_some, Option.bind_some]
        cases rb
        · left
          rw [if_pos (by simp), Option.bind_some]
          refine ⟨fun h => ?_, rfl⟩
          obtain ⟨⟨_, _, _, _, _, h⟩, _⟩ := h
          exact absurd (hr2.2 h) (by simp)
        · have hRR := hr2.1 rfl
          rw [if_neg (by simp)]
          rcases Nat.eq_zero_or_pos i with rfl | h0
          · right
            rw [if_pos (by simp), Option.bind_some]
            dsimp only
            rw [addI_one (by omega), Option.bind_some]
            exact ⟨fun h => h ⟨⟨hi, h1.1, h1.2.1, h1.2.2.1, h1.2.2.2, hRR⟩, fun h => absurd h (Nat.lt_irrefl _)⟩, rfl⟩
          · have hsame : region_Same (s[i - 1]'(by omega)).Area s[i].Area = some (decide ((s[i - 1]'(by omega)).Area = s[i].Area)) := region_Same_eq (by have := ha _ (List.getElem_mem (show i - 1 < s.length by omega)); omega)
            rw [if_neg (by simp; omega), subI_nat h0 (by omega), Option.bind_some, getI_nat (show i - 1 < s.length by omega), Option.bind_some]
            have hcond : (if decide (s[i].Z0 < (s[i - 1]'(by omega)).Z1) = true then some true else (if ((s[i - 1]'(by omega)).Z1 == s[i].Z0) = true then (region_Same (s[i - 1]'(by omega)).Area s[i].Area).bind fun x => some x else some false).bind fun x => some x) =
                some (decide (¬ ((s[i - 1]'(by omega)).Z1 < s[i].Z0 ∨ ((s[i - 1]'(by omega)).Z1 = s[i].Z0 ∧ (s[i - 1]'(by omega)).Area ≠ s[i].Area)))) := by
              by_cases c1 : s[i].Z0 < (s[i - 1]'(by omega)).Z1
              · rw [if_pos (by simpa using c1)]; congr 1; simp; omega
              · rw [if_neg (by simpa using c1), hsame]
                by_cases c2 : (s[i - 1]'(by omega)).Z1 = s[i].Z0
                · rw [if_pos (by simpa using c2)]; simp [c2]
                · rw [if_neg (by simpa using c2)]; simp; omega
            rw [hcond, Option.bind_some]
            by_cases c : (s[i - 1]'(by omega)).Z1 < s[i].Z0 ∨ ((s[i - 1]'(by omega)).Z1 = s[i].Z0 ∧ (s[i - 1]'(by omega)).Area ≠ s[i].Area)
            · right
              rw [if_neg (by simp only [decide_eq_true_eq, Classical.not_not]; exact c), Option.bind_some]
              dsimp only
              rw [addI_one (by omega), Option.bind_some]
              exact ⟨fun h => h ⟨⟨hi, h1.1, h1.2.1, h1.2.2.1, h1.2.2.2, hRR⟩, fun _ _ => c⟩, rfl⟩
            · left
              rw [if_pos (decide_eq_true c), Option.bind_some]
              exact ⟨fun h => c (h.2 h0 hi), rfl⟩
      · left
        rw [if_pos (by
          simp only [Bool.or_eq_true, decide_eq_true_eq, beq_iff_eq]
          rcases Int.lt_or_le s[i].Z0 0 with g | g
          · exact .inl (.inl (.inl g))
          · rcases Int.lt_or_le s[i].Z0 s[i].Z1 with g2 | g2
            · rcases Int.lt_or_le 4096 s[i].Z1 with g3 | g3
              · exact .inl (.inr g3)
              · right
                have : s[i].Area = [] := Classical.not_not.1 fun h => h1 ⟨g, g2, g3, h⟩
                rw [this]; rfl
            · exact .inl (.inl (.inr g2))), Option.bind_some, if_pos rfl, Option.bind_some]
        refine ⟨fun h => h1 ?_, rfl⟩
        obtain ⟨⟨_, a, b, c, d, _⟩, _⟩ := h
        exact ⟨a, b, c, d⟩
    rcases iter_findN (body := solid_Right_L0 s) (k := 0) s.length (fun i => ¬ ((∃ h : i < s.length, 0 ≤ s[i].Z0 ∧ s[i].Z0 < s[i].Z1 ∧ s[i].Z1 ≤ 4096 ∧ s[i].Area ≠ [] ∧ RR s[i].Area) ∧ ∀ h0 : 0 < i, ∀ h : i < s.length, (s[i - 1]'(by omega)).Z1 < s[i].Z0 ∨ ((s[i - 1]'(by omega)).Z1 = s[i].Z0 ∧ (s[i - 1]'(by omega)).Area ≠ s[i].Area))) (fun _ => false) hstep (by
        unfold solid_Right_L0
        rw [if_neg (by simp)]) (fuel := s.length + 1) (by omega) with ⟨i, hi, hp, _, h⟩ | ⟨hp, h⟩
    · rw [h, Option.bind_some]
      refine ⟨_, rfl, by simp, fun hS => absurd ⟨⟨hi, ?_⟩, fun h0 _ => ?_⟩ hp⟩
      · have h1 := hS.ok _ (List.getElem_mem hi)
        have h2 := slab_pos hS.canon (List.getElem_mem hi)
        exact ⟨h1.1, h2.1, h1.2.1, h2.2, h1.2.2⟩
      · have := (slabs_canon.1 hS.canon).2 (i - 1) (by omega)
        have e : i - 1 + 1 = i := by omega
        simp only [e] at this
        exact this
    · rw [h, Option.bind_some]
      have hp' : ∀ i (hi : i < s.length), (0 ≤ s[i].Z0 ∧ s[i].Z0 < s[i].Z1 ∧ s[i].Z1 ≤ 4096 ∧ s[i].Area ≠ [] ∧ RR s[i].Area) ∧ ∀ h0 : 0 < i, (s[i - 1]'(by omega)).Z1 < s[i].Z0 ∨ ((s[i - 1]'(by omega)).Z1 = s[i].Z0 ∧ (s[i - 1]'(by omega)).Area ≠ s[i].Area) := by
        intro i hi
        have := Classical.not_not.1 (hp i hi)
        exact ⟨this.1.2, fun h0 => this.2 h0 hi⟩
      refine ⟨_, rfl, fun _ => ⟨by omega, slabs_canon.2 ⟨fun i hi => ⟨(hp' i hi).1.2.1, (hp' i hi).1.2.2.2.1⟩, fun i hi => (hp' (i + 1) hi).2 (by omega)⟩, fun b hb => ?_⟩, fun _ => rfl⟩
      obtain ⟨i, hi, rfl⟩ := List.getElem_of_mem hb
      have := (hp' i hi).1
      exact ⟨this.1, this.2.2.1, this.2.2.2.2⟩
theorem solid_Right_true {s : List Slab} (h : SS s) : solid_Right s = some true := by
  obtain ⟨b, h1, h2⟩ := solid_Right_spec (s := s) (fun b hb => by have := (h.ok b hb).2.2.2.1; omega)
  rw [h1, h2.2 h]
theorem solid_Right_false {s : List Slab} (ha : ∀ b ∈ s, b.Area.length ≤ 100000) (h : ¬ SS s) : solid_Right s = some false := by
  obtain ⟨b, h1, h2⟩ := solid_Right_spec ha
  rw [h1]; cases b
  · rfl
  · exact absurd (h2.1 rfl) h

/-! put -/
theorem put_spec {out : List Slab} {x : Slab} (hl : out.length ≤ 1000000) (ha : ∀ b ∈ out, b.Area.length ≤ 1000000) :
    ∃ o, solid_put out x = some o ∧ slabRuns o = pushR [] (slabRuns out) x.Z0 x.Z1 x.Area ∧ o.length ≤ out.length + 1 ∧ ∀ b ∈ o, b.Area = x.Area ∨ ∃ c ∈ out, b.Area = c.Area := by
  unfold solid_put
  by_cases h0 : x.Area = []
  · rw [if_pos (by simp [h0])]
    exact ⟨out, rfl, by rw [h0]; simp [pushR], by omega, fun b hb => .inr ⟨b, hb, rfl⟩⟩
  · have hlen : 0 < x.Area.length := List.length_pos_iff.2 h0
    rw [if_neg (by simp; omega)]
    rcases List.eq_nil_or_concat out with rfl | ⟨o, t, rfl⟩
    · have e : subI (([] : List Slab).length : Int) 1 = some (-1) := by decide
      rw [e, Option.bind_some, if_neg (by decide), Option.bind_some, if_neg (by simp), Option.bind_some, if_neg (by simp), appI_some (by simp), Option.bind_some]
      exact ⟨[x], rfl, by simp [pushR, slabRuns, h0], by simp, by simp⟩
    · rw [List.concat_eq_append] at *
      have hol : o.length < 1000000 := by simp at hl; omega
      have hta := ha t (by simp)
      rw [subI_len (by omega), Option.bind_some, if_pos (by simp), getI_concat rfl, Option.bind_some, Option.bind_some]
      have hp : pushR [] (slabRuns (o ++ [t])) x.Z0 x.Z1 x.Area = if t.Z1 = x.Z0 ∧ t.Area = x.Area then slabRuns o ++ [(t.Z0, x.Z1, x.Area)] else slabRuns (o ++ [t]) ++ [(x.Z0, x.Z1, x.Area)] := by
        unfold pushR
        rw [if_neg h0]
        simp [slabRuns]
      by_cases h1 : t.Z1 = x.Z0
      · rw [if_pos (by simpa using h1), Option.bind_some, region_Same_eq hta, Option.bind_some, Option.bind_some]
        by_cases h2 : t.Area = x.Area
        · rw [if_pos (by simpa using h2), Option.bind_some, Option.bind_some, set_concat (by simp)]
          refine ⟨_, rfl, ?_, by simp, fun b hb => ?_⟩
          · rw [hp, if_pos ⟨h1, h2⟩]; simp [slabRuns, h2]
          · rcases List.mem_append.1 hb with hb | hb
            · exact .inr ⟨b, by simp [hb], rfl⟩
            · simp only [List.mem_singleton] at hb; subst hb; exact .inl h2
        · rw [if_neg (by simpa using h2), appI_some (by simp; omega), Option.bind_some]
          refine ⟨_, rfl, ?_, by simp, fun b hb => ?_⟩
          · rw [hp, if_neg (fun h => h2 h.2)]; simp [slabRuns]
          · rcases List.mem_append.1 hb with hb | hb
            · exact .inr ⟨b, hb, rfl⟩
            · simp only [List.mem_singleton] at hb; subst hb; exact .inl rfl
      · rw [if_neg (by simpa using h1), Option.bind_some, if_neg (by simp), appI_some (by simp; omega), Option.bind_some]
        refine ⟨_, rfl, ?_, by simp, fun b hb => ?_⟩
        · rw [hp, if_neg (fun h => h1 h.1)]; simp [slabRuns]
        · rcases List.mem_append.1 hb with hb | hb
          · exact .inr ⟨b, hb, rfl⟩
          · simp only [List.mem_singleton] at hb; subst hb; exact .inl rfl

/-! Heights -/
structure IsZ (zs : List Int) (l : List Slab) : Prop where
  asc : zs.Pairwise fun a b => a < b
  mem : ∀ z, z ∈ zs ↔ ∃ s ∈ l, z = s.Z0 ∨ z = s.Z1
  len : zs.length ≤ 2 * l.length
theorem heights_L1 {l : List Slab} {o : List Int} (hl : l.length ≤ 100000) (ho : o.length ≤ 10000000) :
    iterL (solid_heights_L1 l) (l.length + 1) (o, 0) = some (.ex 2 (o ++ l.flatMap (fun s => [s.Z0, s.Z1]), (l.length : Int))) ∧ (o ++ l.flatMap fun s => [s.Z0, s.Z1]).length = o.length + 2 * l.length := by
  obtain ⟨h1, h2⟩ := iter_range (k := 2) (l := l) (body := solid_heights_L1 l) (fun (s : List Int) i => (s, i)) (fun s r => s ++ [r.Z0, r.Z1]) (fun i s => s.length = o.length + 2 * i) (by
    intro i hi s hI
    constructor
    · unfold solid_heights_L1
      dsimp only
      rw [if_pos (by simpa using hi), getI_nat hi, Option.bind_some, appI_some (by simp; omega), Option.bind_some, addI_one (by omega), Option.bind_some]
    · simp; omega) (by
    intro s _
    unfold solid_heights_L1
    dsimp only
    rw [if_neg (by simp)]) (s0 := o) (by omega) (fuel := l.length + 1) (by omega)
  rw [foldl_flatMap (fun r : Slab => [r.Z0, r.Z1])] at h1 h2
  exact ⟨h1, h2⟩
theorem heights_spec {ls : List (List Slab)} (hn : ls.length ≤ 1000) (hl : ∀ l ∈ ls, l.length ≤ 400) : ∃ zs, solid_heights ls = some zs ∧ IsZ zs ls.flatten := by
  unfold solid_heights
  obtain ⟨h1, h2⟩ := iter_range (k := 0) (l := ls) (body := solid_heights_L0 ls) (fun (s : List Int) i => (s, i)) (fun s l => s ++ l.flatMap fun s => [s.Z0, s.Z1]) (fun i s => s.length ≤ 800 * i ∧ s = (ls.take i).flatten.flatMap (fun s => [s.Z0, s.Z1])) (by
    intro i hi s ⟨hI, hI2⟩
    have hli := hl _ (List.getElem_mem hi)
    obtain ⟨g1, g2⟩ := heights_L1 (l := ls[i]) (o := s) (by omega) (by omega)
    refine ⟨?_, by rw [g2]; omega, ?_⟩
    · unfold solid_heights_L0
      dsimp only
      rw [if_pos (by simpa using hi), getI_nat hi, Option.bind_some, g1, Option.bind_some]
      dsimp only
      rw [addI_one (by omega), Option.bind_some]
    · rw [List.take_succ_eq_append_getElem hi, List.flatten_append, List.flatten_cons, List.flatten_nil, List.append_nil, List.flatMap_append, ← hI2]) (by
    intro s _
    unfold solid_heights_L0
    dsimp only
    rw [if_neg (by simp)]) (s0 := []) ⟨by simp, by simp⟩ (fuel := ls.length + 1) (by omega)
  rw [h1, Option.bind_some]
  dsimp only
  obtain ⟨h2, h2'⟩ := h2
  rw [List.take_length] at h2'
  generalize ls.foldl (fun s l => s ++ l.flatMap fun s => [s.Z0, s.Z1]) [] = ys at h2 h2'
  obtain ⟨ws, h3, h4, h5⟩ := sortInts_spec (l := ys) (by omega)
  have hzl := h4.length_eq
  obtain ⟨zs, h6, h7, h8, h9⟩ := compactInts_spec (l := ws) (by omega) h5
  rw [h3, Option.bind_some, h6, Option.bind_some]
  refine ⟨zs, rfl, h7, fun z => ?_, ?_⟩
  · rw [h8, h4.mem_iff, h2']
    simp [List.mem_flatMap]
  · have : ∀ l : List Slab, (l.flatMap fun s => [s.Z0, s.Z1]).length = 2 * l.length := by
      intro l
      induction l with
      | nil => rfl
      | cons a l ih => simp only [List.flatMap_cons, List.length_append, List.length_cons, List.length_nil, ih]; omega
    have := this ls.flatten
    rw [← h2'] at this
    omega

/-! The solid of a function of z that is constant between cuts -/
/-- No more than 200 rectangles in a cross-section, no more than 80 slabs. -/
def slim (out : List Slab) : List Slab × Int := if (∃ s ∈ out, 200 < s.Area.length) ∨ 80 < out.length then ([], 6) else (out, 0)
theorem fits_eq {out : List Slab} (h : ∀ s ∈ out, s.Area.length ≤ 200) : solid_fits out = some (slim out) := by
  have hno : ¬ ∃ s ∈ out, 200 < s.Area.length := fun ⟨s, hs, h'⟩ => by have := h s hs; omega
  unfold solid_fits slim
  by_cases h2 : 80 < out.length
  · rw [if_pos (by simp; omega), if_pos (.inr h2)]
  · rw [if_neg (by simp; omega), if_neg (fun h => h.elim hno h2)]
def unslab (G : Runs (List Rect)) : List Slab := G.map fun g => ⟨g.1, g.2.1, g.2.2⟩
theorem slabRuns_unslab (G : Runs (List Rect)) : slabRuns (unslab G) = G := by
  unfold slabRuns unslab
  rw [List.map_map]
  exact List.map_id'' (fun _ => rfl) G
theorem build_solid {S : Int → Int → Int → Prop} {zs : List Int} (hz : zs.Pairwise fun a b => a < b) {A : Int → List Rect} (hA : ∀ z, IsForm (fun x y => S x y z) (A z))
    (hc : ∀ i (h : i + 1 < zs.length) z, zs[i] ≤ z → z < zs[i + 1] → ∀ x y, S x y zs[i] ↔ S x y z) (ho : ∀ z, (∀ i (h : i + 1 < zs.length), ¬ (zs[i] ≤ z ∧ z < zs[i + 1])) → ∀ x y, ¬ S x y z) :
    IsSolid S (unslab (build [] zs A (zs.length - 1))) ∧ (∀ i (h : i + 1 < zs.length), A zs[i] ≠ [] → ∃ s ∈ unslab (build [] zs A (zs.length - 1)), s.Area = A zs[i]) ∧ ∀ s ∈ unslab (build [] zs A (zs.length - 1)), ∃ i, ∃ h : i + 1 < zs.length, s.Area = A zs[i] := by
  rcases Nat.eq_zero_or_pos zs.length with h0 | h0
  · have e : build [] zs A (zs.length - 1) = [] := by rw [h0]; rfl
    rw [e]
    refine ⟨⟨trivial, fun z => ?_⟩, fun i h => absurd h (by omega), by simp [unslab]⟩
    exact form_nil.congr fun x y => ⟨False.elim, fun h => ho z (fun i hi => absurd hi (by omega)) x y h⟩
  · obtain ⟨h1, _, h3, h4, h5⟩ := build_spec hz A (zs.length - 1) (by omega)
    generalize hG : build [] zs A (zs.length - 1) = G at h1 h3 h4 h5
    have hin : ∀ i (h : i + 1 < zs.length) z, zs[i] ≤ z → z < zs[i + 1] → rval [] G z = A zs[i] := fun i h z a b => h3 i h (by omega) z a b
    refine ⟨⟨by rw [slabRuns_unslab]; exact h1, fun z => ?_⟩, fun i h hne => ?_, fun s hs => ?_⟩
    · unfold sect
      rw [slabRuns_unslab]
      by_cases hz' : ∃ i, ∃ h : i + 1 < zs.length, zs[i] ≤ z ∧ z < zs[i + 1]
      · obtain ⟨i, h, a, b⟩ := hz'
        rw [hin i h z a b]
        exact (hA _).congr fun x y => hc i h z a b x y
      · have hz2 : ∀ i (h : i + 1 < zs.length), ¬ (zs[i] ≤ z ∧ z < zs[i + 1]) := fun i h hh => hz' ⟨i, h, hh⟩
        rw [h4 z fun j hj _ => hz2 j hj]
        exact form_nil.congr fun x y => ⟨False.elim, fun h => ho z hz2 x y h⟩
    · have hlt : zs[i] < zs[i + 1] := (List.pairwise_iff_getElem.1 hz) i (i + 1) (by omega) h (by omega)
      have hv := hin i h zs[i] (Int.le_refl _) hlt
      rcases rval_mem (e := []) (l := G) (x := zs[i]) with h6 | ⟨a, b, h6, _⟩
      · rw [hv] at h6; exact absurd h6 hne
      · rw [hv] at h6
        exact ⟨⟨a, b, A zs[i]⟩, List.mem_map.2 ⟨_, h6, rfl⟩, rfl⟩
    · obtain ⟨g, hg, rfl⟩ := List.mem_map.1 hs
      obtain ⟨j, hj, hjn, he⟩ := h5 g hg
      exact ⟨j, by omega, he⟩
end Go.Proofs.Ytmniloampanhfaa
