/- Solids: Of, combining, and what is asked of a solid. -/
import Derived.Test.YtmniloampanhfaaP9
namespace Go.Proofs.Ytmniloampanhfaa
open Go.Gb
set_option linter.unusedVariables false
set_option linter.unusedSimpArgs false
set_option linter.unusedSectionVars false
set_option linter.unusedVariables false
set_option linter.unusedSimpArgs false

/-- One slab after the other. -/
theorem solid_loop {body : List Slab × Int → Option (Flow (List Slab × Int) (List Slab × Int))} {k : Nat} {zs : List Int} {A : Int → List Rect} (hz : zs.Pairwise fun a b => a < b) (hzl : zs.length ≤ 100000)
    (hb : ∀ i (h1 : 1 ≤ i) (hi : i < zs.length) (s : List Slab), (200 < (A (zs[i - 1]'(by omega))).length → body (s, (i : Int)) = some (.ret ([], 6))) ∧
      ((A (zs[i - 1]'(by omega))).length ≤ 200 → body (s, (i : Int)) = (solid_put s ⟨zs[i - 1]'(by omega), zs[i], A (zs[i - 1]'(by omega))⟩).bind fun o => some (.go (o, ((i + 1 : Nat) : Int)))))
    (hd : ∀ s, body (s, (zs.length : Int)) = some (.ex k (s, (zs.length : Int)))) (h1 : 0 < zs.length) {fuel : Nat} (hf : zs.length < fuel) :
    (iterL body fuel (([] : List Slab), 1) = some (.ex k (unslab (build [] zs A (zs.length - 1)), (zs.length : Int))) ∧ ∀ b ∈ unslab (build [] zs A (zs.length - 1)), b.Area.length ≤ 200) ∨
    (iterL body fuel (([] : List Slab), 1) = some (.ret ([], 6)) ∧ ∃ j, ∃ h : j + 1 < zs.length, 200 < (A zs[j]).length) := by
  rcases iter_fromR (k := k) (body := body) (fun (s : List Slab) i => (s, i)) 1 zs.length h1 (fun i s => slabRuns s = build [] zs A (i - 1) ∧ s.length < i ∧ ∀ b ∈ s, b.Area.length ≤ 200)
    (fun r => r = ([], 6) ∧ ∃ j, ∃ h : j + 1 < zs.length, 200 < (A zs[j]).length) (by
    intro i h1i hi s ⟨hI1, hI2, hI3⟩
    obtain ⟨b1, b2⟩ := hb i h1i hi s
    by_cases hc : 200 < (A (zs[i - 1]'(by omega))).length
    · exact .inr ⟨_, b1 hc, rfl, i - 1, by omega, hc⟩
    · left
      obtain ⟨o, p1, p2, p3, p4⟩ := put_spec (out := s) (x := ⟨zs[i - 1]'(by omega), zs[i], A (zs[i - 1]'(by omega))⟩) (by omega) (fun b hb => by have := hI3 b hb; omega)
      refine ⟨o, by rw [b2 (by omega), p1, Option.bind_some], ?_, by omega, fun b hb => ?_⟩
      · rw [p2, hI1]
        have e : i + 1 - 1 = (i - 1) + 1 := by omega
        rw [e, build_succ (show i - 1 + 1 < zs.length by omega)]
        have e2 : zs[i - 1 + 1]'(by omega) = zs[i] := by congr 1; omega
        rw [e2]
      · rcases p4 b hb with h | ⟨c, hc', h⟩
        · rw [h]; dsimp only; omega
        · rw [h]; exact hI3 c hc') (fun s _ => hd s) (s0 := []) ⟨rfl, by simp, by simp⟩ (fuel := fuel) (by omega) with ⟨s, h2, h3, h4, h5⟩ | ⟨r, h2, rfl, h3⟩
  · left
    have e : s = unslab (build [] zs A (zs.length - 1)) := slabRuns_inj (by rw [h3, slabRuns_unslab])
    rw [← e]
    exact ⟨h2, h5⟩
  · exact .inr ⟨h2, h3⟩

/-! Of -/
def VB (b : Box) : Prop := VR b.Base ∧ 0 ≤ b.Z0 ∧ b.Z0 < b.Z1 ∧ b.Z1 ≤ 4096
instance (b : Box) : Decidable (VB b) := inferInstanceAs (Decidable (_ ∧ _))
/-- The cube (x, y, z) is in one of the boxes. -/
def bcells (l : List Box) (x y z : Int) : Prop := ∃ b ∈ l, rin b.Base x y ∧ b.Z0 ≤ z ∧ z < b.Z1
instance (l : List Box) (x y z : Int) : Decidable (bcells l x y z) := inferInstanceAs (Decidable (∃ b ∈ l, _))
def bases (l : List Box) (z : Int) : List Rect := (l.filter fun b => decide (b.Z0 ≤ z) && decide (z < b.Z1)).map (·.Base)
theorem bases_cells (l : List Box) (x y z : Int) : cells (bases l z) x y ↔ bcells l x y z := by
  unfold cells bcells bases
  constructor
  · rintro ⟨r, hr, h⟩
    obtain ⟨b, hb, rfl⟩ := List.mem_map.1 hr
    simp only [List.mem_filter, Bool.and_eq_true, decide_eq_true_eq] at hb
    exact ⟨b, hb.1, h, hb.2⟩
  · rintro ⟨b, hb, h, hz⟩
    exact ⟨b.Base, List.mem_map.2 ⟨b, by simp only [List.mem_filter, Bool.and_eq_true, decide_eq_true_eq]; exact ⟨hb, hz⟩, rfl⟩, h⟩
theorem bases_length (l : List Box) (z : Int) : (bases l z).length ≤ l.length := by unfold bases; rw [List.length_map]; exact List.length_filter_le _ _
theorem bases_right {l : List Box} (h : ∀ b ∈ l, VB b) (z : Int) : ∀ r ∈ bases l z, VR r := by
  intro r hr
  obtain ⟨b, hb, rfl⟩ := List.mem_map.1 hr
  exact (h b (List.mem_filter.1 hb).1).1
theorem Of_L0 {l : List Box} (hl : l.length ≤ 100000) :
    (¬ (∀ b ∈ l, VB b) ∧ iterL (solid_Of_L0 l) (l.length + 1) (([] : List Slab), 0) = some (.ret ([], 1))) ∨
    ((∀ b ∈ l, VB b) ∧ iterL (solid_Of_L0 l) (l.length + 1) (([] : List Slab), 0) = some (.ex 0 (l.map (fun b => ⟨b.Z0, b.Z1, []⟩), (l.length : Int)))) := by
  rcases iter_fromR (k := 0) (body := solid_Of_L0 l) (fun (s : List Slab) i => (s, i)) 0 l.length (Nat.zero_le _) (fun i s => s = (l.take i).map (fun b => ⟨b.Z0, b.Z1, []⟩) ∧ ∀ j (hj : j < l.length), j < i → VB l[j])
    (fun r => r = ([], 1) ∧ ¬ ∀ b ∈ l, VB b) (by
    rintro i - hi s ⟨rfl, hV⟩
    unfold solid_Of_L0
    dsimp only
    rw [if_pos (by simpa using hi), getI_nat hi, Option.bind_some, rect_Right_eq, Option.bind_some]
    by_cases hv : VB l[i]
    · left
      have hv' := hv
      unfold VB at hv'
      refine ⟨(l.take (i + 1)).map (fun b => ⟨b.Z0, b.Z1, []⟩), ?_, rfl, fun j hj hji => ?_⟩
      · rw [if_neg (by simp only [Bool.or_eq_true, decide_eq_true_eq, Bool.not_eq_true', decide_eq_false_iff_not]; rintro (((h | h) | h) | h) <;> first | exact h hv'.1 | omega),
          appI_some (by simp; omega), Option.bind_some, addI_one (by omega), Option.bind_some, List.take_succ_eq_append_getElem hi, List.map_append]
        rfl
      · rcases Nat.lt_or_ge j i with h | h
        · exact hV j hj h
        · obtain rfl : j = i := by omega
          exact hv
    · right
      refine ⟨_, if_pos ?_, rfl, fun h => hv (h _ (List.getElem_mem hi))⟩
      simp only [Bool.or_eq_true, decide_eq_true_eq, Bool.not_eq_true', decide_eq_false_iff_not]
      unfold VB at hv
      by_cases h1 : VR l[i].Base
      · have : ¬ (0 ≤ l[i].Z0 ∧ l[i].Z0 < l[i].Z1 ∧ l[i].Z1 ≤ 4096) := fun h => hv ⟨h1, h⟩
        omega
      · exact .inl (.inl (.inl h1))) (by
    intro s _
    unfold solid_Of_L0
    dsimp only
    rw [if_neg (by simp)]) (s0 := []) ⟨rfl, fun j _ h => absurd h (Nat.not_lt_zero j)⟩ (fuel := l.length + 1) (by omega) with ⟨s, h1, rfl, h2⟩ | ⟨r, h1, rfl, h2⟩
  · rw [List.take_length] at h1
    refine .inr ⟨fun b hb => ?_, h1⟩
    obtain ⟨j, hj, rfl⟩ := List.getElem_of_mem hb
    exact h2 j hj hj
  · exact .inl ⟨h2, h1⟩
theorem solid_Of_bad {l : List Box} (hl : l.length ≤ 100000) (h : ¬ ∀ b ∈ l, VB b) : solid_Of l = some ([], 1) := by
  unfold solid_Of
  rcases Of_L0 hl with ⟨_, h1⟩ | ⟨h1, _⟩
  · rw [h1, Option.bind_some]
  · exact absurd h1 h
theorem solid_Of_many {l : List Box} (hl : l.length ≤ 100000) (h : ∀ b ∈ l, VB b) (hm : 200 < l.length) : solid_Of l = some ([], 6) := by
  unfold solid_Of
  rcases Of_L0 hl with ⟨h1, _⟩ | ⟨_, h1⟩
  · exact absurd h h1
  · rw [h1, Option.bind_some]
    dsimp only
    rw [if_pos (by simp; omega)]
theorem Of_L2 {l : List Box} (hl : l.length ≤ 100000) {zs : List Int} {s : List Slab} {i : Nat} (h1 : 1 ≤ i) (hi : i < zs.length) (hil : i < 1000000) (hz : ∀ b ∈ l, b.Z0 < zs[i] ↔ b.Z0 ≤ zs[i - 1]'(by omega)) :
    iterL (solid_Of_L2 l zs (s, (i : Int))) (l.length + 1) (([] : List Rect), 0) = some (.ex 4 (bases l (zs[i - 1]'(by omega)), (l.length : Int))) := by
  refine (iter_range (k := 4) (l := l) (fun (o : List Rect) j => (o, j)) (fun o b => if (decide (b.Z0 ≤ zs[i - 1]'(by omega)) && decide ((zs[i - 1]'(by omega)) < b.Z1)) then o ++ [b.Base] else o) (fun j o => o.length ≤ j) ?_ ?_ (s0 := []) (Nat.zero_le _) (by omega)).1.trans ?_
  · intro j hj o hI
    have hzj := hz _ (List.getElem_mem hj)
    constructor
    · unfold solid_Of_L2
      dsimp only
      rw [if_pos (by simpa using hj), getI_nat hj, Option.bind_some, getI_nat hi, Option.bind_some]
      have hcond : (if decide (l[j].Z0 < zs[i]) = true then (subI (i : Int) 1).bind fun x => (getI zs x).bind fun y => some (decide (y < l[j].Z1)) else some false) = some (decide (l[j].Z0 ≤ zs[i - 1]'(by omega)) && decide ((zs[i - 1]'(by omega)) < l[j].Z1)) := by
        by_cases c : l[j].Z0 < zs[i]
        · rw [if_pos (by simpa using c), subI_nat (by omega) (by omega), Option.bind_some, getI_nat (show i - 1 < zs.length by omega), Option.bind_some]
          simp [hzj.1 c]
        · rw [if_neg (by simpa using c)]
          have : ¬ l[j].Z0 ≤ zs[i - 1]'(by omega) := fun h => c (hzj.2 h)
          simp [this]
      rw [hcond, Option.bind_some]
      split
      · rw [appI_some (by simp; omega), Option.bind_some, Option.bind_some, addI_one (by omega), Option.bind_some]
      · rw [Option.bind_some, addI_one (by omega), Option.bind_some]
    · split
      · simp; omega
      · omega
  · intro o _
    unfold solid_Of_L2
    dsimp only
    rw [if_neg (by simp)]
  · rw [foldl_filterMap (fun b : Box => decide (b.Z0 ≤ zs[i - 1]'(by omega)) && decide ((zs[i - 1]'(by omega)) < b.Z1)) (fun b => b.Base)]
    rfl
theorem z_cut {zs : List Int} (hp : zs.Pairwise fun a b => a < b) {i : Nat} (h1 : 1 ≤ i) (hi : i < zs.length) {z : Int} (hz : z ∈ zs) : z < zs[i] ↔ z ≤ zs[i - 1]'(by omega) := by
  have e : i - 1 + 1 = i := by omega
  have hlt : (zs[i - 1]'(by omega)) < zs[i] := (List.pairwise_iff_getElem.1 hp) (i - 1) i (by omega) hi (by omega)
  have := asc_gap hp (i := i - 1) (by omega) hz
  simp only [e] at this
  omega
theorem solid_Of_fine {l : List Box} (h : ∀ b ∈ l, VB b) (hm : l.length ≤ 200) : ∃ out, IsSolid (bcells l) out ∧ solid_Of l = some (slim out) := by
  have hex : ∀ z, ∃ o, IsForm (fun x y => bcells l x y z) o ∧ region_Of (bases l z) = some (lim o) := by
    intro z
    obtain ⟨o, h1, h2⟩ := region_Of_fine (bases_right h z) (by have := bases_length l z; omega)
    exact ⟨o, h1.congr fun x y => bases_cells l x y z, h2⟩
  obtain ⟨A, hA⟩ := Classical.axiomOfChoice hex
  obtain ⟨zs, hz1, hz2⟩ := heights_spec (ls := [l.map fun b => (⟨b.Z0, b.Z1, []⟩ : Slab)]) (by simp) (by simp; omega)
  have hzl := hz2.len
  simp only [List.flatten_cons, List.flatten_nil, List.append_nil, List.length_map] at hzl
  have hmem : ∀ b ∈ l, b.Z0 ∈ zs ∧ b.Z1 ∈ zs := by
    intro b hb
    refine ⟨(hz2.mem _).2 ⟨⟨b.Z0, b.Z1, []⟩, ?_, .inl rfl⟩, (hz2.mem _).2 ⟨⟨b.Z0, b.Z1, []⟩, ?_, .inr rfl⟩⟩ <;>
    · simp only [List.flatten_cons, List.flatten_nil, List.append_nil]
      exact List.mem_map.2 ⟨b, hb, rfl⟩
  obtain ⟨hS, hS2, hS3⟩ := build_solid (S := bcells l) hz2.asc (fun z => (hA z).1) (by
    intro i hi z h1 h2 x y
    refine exists_congr fun b => and_congr_right fun hb => and_congr_right fun _ => ?_
    have g1 := asc_gap hz2.asc hi (hmem b hb).1
    have g2 := asc_gap hz2.asc hi (hmem b hb).2
    omega) (by
    rintro z hno x y ⟨b, hb, _, h1, h2⟩
    obtain ⟨i, hi, a1, a2⟩ := asc_between hz2.asc (hmem b hb).1 (hmem b hb).2 h1 h2
    exact hno i hi ⟨a1, a2⟩)
  refine ⟨_, hS, ?_⟩
  unfold solid_Of
  rcases Of_L0 (l := l) (by omega) with ⟨h1, _⟩ | ⟨_, h1⟩
  · exact absurd h h1
  · rw [h1, Option.bind_some]
    dsimp only
    rw [if_neg (by simp; omega), hz1, Option.bind_some]
    rcases Nat.eq_zero_or_pos zs.length with h0 | h0
    · obtain rfl : zs = [] := List.length_eq_zero_iff.1 h0
      have e : iterL (solid_Of_L1 l []) (l.length + ([] : List Int).length + ([] : List Slab).length + 1) (([] : List Slab), 1) = some (.ex 2 (([] : List Slab), 1)) := by
        have : solid_Of_L1 l [] (([] : List Slab), 1) = some (.ex 2 (([] : List Slab), 1)) := by
          unfold solid_Of_L1
          dsimp only
          rw [if_neg (by simp)]
        simp only [iterL, this]
      rw [e, Option.bind_some]
      dsimp only
      rw [fits_eq (by simp), Option.bind_some]
      rfl
    · rcases solid_loop (body := solid_Of_L1 l zs) (k := 2) (A := A) hz2.asc (by omega) (by
        intro i h1i hi s
        have hL2 := Of_L2 (l := l) (by omega) (s := s) h1i hi (by omega) (fun b hb => z_cut hz2.asc h1i hi (hmem b hb).1)
        have hOf := (hA (zs[i - 1]'(by omega))).2
        unfold solid_Of_L1
        dsimp only
        rw [if_pos (by simpa using hi), hL2, Option.bind_some]
        dsimp only
        rw [hOf, Option.bind_some]
        unfold lim
        constructor
        · intro hc
          rw [if_pos hc, if_pos (by decide)]
        · intro hc
          rw [if_neg (Nat.not_lt.2 hc), if_neg (by dsimp only; decide), subI_nat (by omega) (by omega), Option.bind_some, getI_nat (show i - 1 < zs.length by omega), Option.bind_some, getI_nat hi, Option.bind_some]
          rw [addI_one (by omega)]
          rfl) (by
        intro s
        unfold solid_Of_L1
        dsimp only
        rw [if_neg (by simp)]) h0 (fuel := l.length + zs.length + ([] : List Slab).length + 1) (by simp; omega) with ⟨h2, h3⟩ | ⟨h2, j, hj, h3⟩
      · rw [h2, Option.bind_some]
        dsimp only
        rw [fits_eq h3, Option.bind_some]
      · rw [h2, Option.bind_some]
        dsimp only
        obtain ⟨s, hs1, hs2⟩ := hS2 j hj (fun e => by rw [e] at h3; simp at h3)
        unfold slim
        rw [if_pos (.inl ⟨s, hs1, by rw [hs2]; exact h3⟩)]

/-! Combining -/
theorem at_eq {s : List Slab} (hl : s.length ≤ 100000) (z : Int) : solid_at s z = some (sect s z) := by
  unfold solid_at
  have hval : ∀ i (hi : i < s.length), (s[i].Z0 ≤ z ∧ z < s[i].Z1) → (∀ j (hj : j < i), ¬ ((s[j]'(by omega)).Z0 ≤ z ∧ z < (s[j]'(by omega)).Z1)) → sect s z = s[i].Area := by
    clear hl
    induction s with
    | nil => intro i hi; simp at hi
    | cons a s ih =>
      intro i hi h1 h2
      show (if a.Z0 ≤ z ∧ z < a.Z1 then a.Area else sect s z) = _
      cases i with
      | zero => exact if_pos h1
      | succ i =>
        have h3 : ¬ (a.Z0 ≤ z ∧ z < a.Z1) := h2 0 (by omega)
        rw [if_neg h3]
        exact ih i (by simpa using hi) h1 fun j hj => by simpa using h2 (j + 1) (by omega)
  have hnone : (∀ b ∈ s, ¬ (b.Z0 ≤ z ∧ z < b.Z1)) → sect s z = [] := by
    clear hl hval
    induction s with
    | nil => intro _; rfl
    | cons a s ih =>
      intro h
      show (if a.Z0 ≤ z ∧ z < a.Z1 then a.Area else sect s z) = _
      rw [if_neg (h a (by simp))]
      exact ih fun b hb => h b (by simp [hb])
  rcases iter_find (l := s) (body := solid_at_L0 s z) (k := 0) (fun b => b.Z0 ≤ z ∧ z < b.Z1) (fun i => (s[i]?.getD default).Area) (by
    intro i hi
    unfold solid_at_L0
    rw [if_pos (by simpa using hi), getI_nat hi, Option.bind_some]
    by_cases hc : s[i].Z0 ≤ z ∧ z < s[i].Z1
    · left
      rw [if_pos (by simpa using hc), List.getElem?_eq_getElem hi]
      exact ⟨hc, rfl⟩
    · right
      rw [if_neg (by simpa using hc), addI_one (by omega), Option.bind_some]
      exact ⟨hc, rfl⟩) (by
    unfold solid_at_L0
    rw [if_neg (by simp)]) (fuel := s.length + 1) (by omega) with ⟨i, hi, hp, hq, h⟩ | ⟨hp, h⟩
  · rw [h, Option.bind_some]
    dsimp only
    rw [List.getElem?_eq_getElem hi, hval i hi hp fun j hj => hq j hj]
    rfl
  · rw [h, Option.bind_some, hnone hp]
theorem slim_area {s : List Slab} (h : SS s) : s.length ≤ 80 := h.len
theorem scombine_bad {op : List Rect → List Rect → Option (List Rect × Int)} {a b : List Slab} (ha : ∀ s ∈ a, s.Area.length ≤ 100000) (hb : ∀ s ∈ b, s.Area.length ≤ 100000) (h : ¬ (SS a ∧ SS b)) : solid_combine a b op = some ([], 1) := by
  unfold solid_combine
  by_cases h1 : SS a
  · have h2 : ¬ SS b := fun h2 => h ⟨h1, h2⟩
    rw [solid_Right_true h1, Option.bind_some, if_neg (by simp), solid_Right_false hb h2, Option.bind_some, Option.bind_some, if_pos (by simp)]
  · rw [solid_Right_false ha h1, Option.bind_some, if_pos (by simp), Option.bind_some, if_pos rfl]
theorem scombine_fine {f : List Rect → List Rect → Option (List Rect × Int)} {op : Int} (hop : ∀ a b, RR a → RR b → ∃ out, IsForm (opS op a b) out ∧ f a b = some (lim out)) {a b : List Slab} (ha : SS a) (hb : SS b) :
    ∃ out, IsSolid (fun x y z => opB op (decide (scells a x y z)) (decide (scells b x y z)) = true) out ∧ solid_combine a b f = some (slim out) := by
  have la := ha.len; have lb := hb.len
  obtain ⟨A, hA⟩ := Classical.axiomOfChoice fun z => hop (sect a z) (sect b z) (ha.sect z) (hb.sect z)
  obtain ⟨zs, hz1, hz2⟩ := heights_spec (ls := [a, b]) (by simp) (by
    intro l hl
    simp only [List.mem_cons, List.not_mem_nil, or_false] at hl
    rcases hl with rfl | rfl <;> omega)
  have hfl : [a, b].flatten = a ++ b := by simp
  rw [hfl] at hz2
  have hzl := hz2.len
  simp only [List.length_append] at hzl
  have hmem : ∀ s ∈ a ++ b, s.Z0 ∈ zs ∧ s.Z1 ∈ zs := fun s hs => ⟨(hz2.mem _).2 ⟨s, hs, .inl rfl⟩, (hz2.mem _).2 ⟨s, hs, .inr rfl⟩⟩
  have hsame : ∀ c : List Slab, (∀ s ∈ c, s ∈ a ++ b) → ∀ i (hi : i + 1 < zs.length) z, zs[i] ≤ z → z < zs[i + 1] → sect c zs[i] = sect c z := by
    intro c hc i hi z h1 h2
    refine rval_between (fun r hr => ?_) h1
    obtain ⟨s, hs, rfl⟩ := List.mem_map.1 hr
    have g1 := asc_gap hz2.asc hi (hmem s (hc s hs)).1
    have g2 := asc_gap hz2.asc hi (hmem s (hc s hs)).2
    dsimp only; omega
  have hout : ∀ c : List Slab, (∀ s ∈ c, s ∈ a ++ b) → ∀ z, (∀ i (h : i + 1 < zs.length), ¬ (zs[i] ≤ z ∧ z < zs[i + 1])) → sect c z = [] := by
    intro c hc z hno
    rcases rval_mem (e := []) (l := slabRuns c) (x := z) with h7 | ⟨p, q, h7, h8, h9⟩
    · exact h7
    · obtain ⟨s, hs, he⟩ := List.mem_map.1 h7
      simp only [Prod.mk.injEq] at he
      obtain ⟨i, hi, a1, a2⟩ := asc_between hz2.asc (hmem s (hc s hs)).1 (hmem s (hc s hs)).2 (by omega) (by omega : z < s.Z1)
      exact absurd ⟨a1, a2⟩ (hno i hi)
  have hma : ∀ s ∈ a, s ∈ a ++ b := fun s hs => List.mem_append_left _ hs
  have hmb : ∀ s ∈ b, s ∈ a ++ b := fun s hs => List.mem_append_right _ hs
  obtain ⟨hS, hS2, hS3⟩ := build_solid (S := fun x y z => opB op (decide (scells a x y z)) (decide (scells b x y z)) = true) hz2.asc (fun z => (hA z).1) (by
    intro i hi z h1 h2 x y
    have key : ∀ c : List Slab, sect c zs[i] = sect c z → decide (scells c x y zs[i]) = decide (scells c x y z) := by
      intro c hc
      rw [decide_eq_decide]
      unfold scells; rw [hc]
    rw [key a (hsame a hma i hi z h1 h2), key b (hsame b hmb i hi z h1 h2)]) (by
    intro z hno x y h
    have e : ∀ c : List Slab, sect c z = [] → decide (scells c x y z) = false := by
      intro c hc
      rw [decide_eq_false_iff_not]
      unfold scells; rw [hc]; simp [cells]
    rw [e a (hout a hma z hno), e b (hout b hmb z hno), opB_false] at h
    simp at h)
  refine ⟨_, hS, ?_⟩
  unfold solid_combine
  rw [solid_Right_true ha, Option.bind_some, if_neg (by simp), solid_Right_true hb, Option.bind_some, Option.bind_some, if_neg (by simp), hz1, Option.bind_some]
  rcases Nat.eq_zero_or_pos zs.length with h0 | h0
  · obtain rfl : zs = [] := List.length_eq_zero_iff.1 h0
    have e : iterL (solid_combine_L0 a b f []) (a.length + b.length + ([] : List Int).length + ([] : List Slab).length + 1) (([] : List Slab), 1) = some (.ex 0 (([] : List Slab), 1)) := by
      have : solid_combine_L0 a b f [] (([] : List Slab), 1) = some (.ex 0 (([] : List Slab), 1)) := by
        unfold solid_combine_L0
        dsimp only
        rw [if_neg (by simp)]
      simp only [iterL, this]
    rw [e, Option.bind_some]
    dsimp only
    rw [fits_eq (by simp), Option.bind_some]
    rfl
  · rcases solid_loop (body := solid_combine_L0 a b f zs) (k := 0) (A := A) hz2.asc (by omega) (by
      intro i h1i hi s
      have hf := (hA (zs[i - 1]'(by omega))).2
      unfold solid_combine_L0
      dsimp only
      rw [if_pos (by simpa using hi)]
      have hsub : subI (i : Int) 1 = some ((i - 1 : Nat) : Int) := subI_nat (by omega) (by omega)
      have hg : getI zs ((i - 1 : Nat) : Int) = some (zs[i - 1]'(by omega)) := getI_nat (by omega)
      have e1 := at_eq (s := a) (by omega) (zs[i - 1]'(by omega))
      have e2 := at_eq (s := b) (by omega) (zs[i - 1]'(by omega))
      have hadd : addI (i : Int) 1 = some ((i + 1 : Nat) : Int) := addI_one (by omega)
      simp only [hsub, hg, e1, e2, hf, getI_nat hi, hadd, Option.bind_some]
      unfold lim
      constructor
      · intro hc
        rw [if_pos hc, if_pos (by decide)]
      · intro hc
        rw [if_neg (Nat.not_lt.2 hc), if_neg (by dsimp only; decide)]) (by
      intro s
      unfold solid_combine_L0
      dsimp only
      rw [if_neg (by simp)]) h0 (fuel := a.length + b.length + zs.length + ([] : List Slab).length + 1) (by simp; omega) with ⟨h2, h3⟩ | ⟨h2, j, hj, h3⟩
    · rw [h2, Option.bind_some]
      dsimp only
      rw [fits_eq h3, Option.bind_some]
    · rw [h2, Option.bind_some]
      dsimp only
      obtain ⟨s, hs1, hs2⟩ := hS2 j hj (fun e => by rw [e] at h3; simp at h3)
      unfold slim
      rw [if_pos (.inl ⟨s, hs1, by rw [hs2]; exact h3⟩)]
/-- What the operation makes of two solids. -/
def sopS (op : Int) (a b : List Slab) (x y z : Int) : Prop := opB op (decide (scells a x y z)) (decide (scells b x y z)) = true
noncomputable def solidOp (op : Int) (a b : List Slab) : Option (List Slab × Int) := if op = 1 then solid_Common a b else if op = 2 then solid_Minus a b else solid_Union a b
theorem solidOp_bad {op : Int} {a b : List Slab} (ha : ∀ s ∈ a, s.Area.length ≤ 100000) (hb : ∀ s ∈ b, s.Area.length ≤ 100000) (h : ¬ (SS a ∧ SS b)) : solidOp op a b = some ([], 1) := by
  unfold solidOp
  split
  · unfold solid_Common; rw [scombine_bad ha hb h, Option.bind_some]
  · split
    · unfold solid_Minus; rw [scombine_bad ha hb h, Option.bind_some]
    · unfold solid_Union; rw [scombine_bad ha hb h, Option.bind_some]
theorem solidOp_fine {op : Int} {a b : List Slab} (ha : SS a) (hb : SS b) : ∃ out, IsSolid (sopS op a b) out ∧ solidOp op a b = some (slim out) := by
  have hr := fun p q (hp : RR p) (hq : RR q) => regionOp_fine (op := op) hp hq
  unfold regionOp at hr
  unfold solidOp sopS
  split
  · rename_i h; simp only [h, if_true] at hr
    obtain ⟨out, h1, h2⟩ := scombine_fine (f := region_Common) (op := op) (by rw [h]; exact hr) ha hb
    exact ⟨out, h1, by unfold solid_Common; rw [h2, Option.bind_some]⟩
  · rename_i h
    split
    · rename_i h'
      obtain ⟨out, h1, h2⟩ := scombine_fine (f := region_Minus) (op := op) (fun p q hp hq => by have := hr p q hp hq; rwa [if_neg h, if_pos h'] at this) ha hb
      exact ⟨out, h1, by unfold solid_Minus; rw [h2, Option.bind_some]⟩
    · rename_i h'
      obtain ⟨out, h1, h2⟩ := scombine_fine (f := region_Union) (op := op) (fun p q hp hq => by have := hr p q hp hq; rwa [if_neg h, if_neg h'] at this) ha hb
      exact ⟨out, h1, by unfold solid_Union; rw [h2, Option.bind_some]⟩
end Go.Proofs.Ytmniloampanhfaa
