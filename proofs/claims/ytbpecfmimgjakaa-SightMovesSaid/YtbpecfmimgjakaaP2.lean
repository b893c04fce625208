/- The plain part of the proof (no program in sight), part 2 -/
import Derived.Test.YtbpecfmimgjakaaP1
namespace Go.Proofs.Ytbpecfmimgjakaa
open Go.Gb
set_option linter.unusedVariables false
set_option linter.unusedSimpArgs false
set_option linter.unusedSectionVars false
set_option linter.unusedVariables false
set_option linter.unusedSimpArgs false

/-- One slab after the other. -/
theorem solid_loop {body : List Slab × Int → Option (Flow (List Slab × Int) (List Slab × Int))} {k : Nat} {zs : List Int} {A : Int → List Rect} (hz : zs.Pairwise fun a b => a < b) (hzl : zs.length ≤ 100000)
    (hb : ∀ i (h1 : 1 ≤ i) (hi : i < zs.length) (s : List Slab), (200 < (A (zs[i - 1]'(by omega))).length → body (s, (i : Int)) = some (.ret ([], 6))) ∧
      ((A (zs[i - 1]'(by omega))).length ≤ 200 → body (s, (i : Int)) = (solid_put s ⟨zs[i - 1]'(by omega), zs[i], A (zs[i - 1]'(by omega))⟩).bind fun o => some (.go (o, ((i + 1 : Nat) : Int)))))
    (hd : ∀ s, body (s, (zs.length : Int)) = some (.ex k (s, (zs.length : Int)))) (h1 : 0 < zs.length) {fuel : Nat} (hf : zs.length < fuel) :
    (iterL body fuel (([] : List Slab), 1) = some (.ex k (unslab (build [] zs A (zs.length - 1)), (zs.length : Int))) ∧ ∀ b ∈ unslab (build [] zs A (zs.length - 1)), b.Area.length ≤ 200) ∨
    (iterL body fuel (([] : List Slab), 1) = some (.ret ([], 6)) ∧ ∃ j, ∃ h : j + 1 < zs.length, 200 < (A zs[j]).length) := by
  rcases iter_fromR (k := k) (body := body) (fun (s : List Slab) i => (s, i)) 1 zs.length h1 (fun i s => slabRuns s = build [] zs A (i - 1) ∧ s.length < i ∧ ∀ b ∈ s, b.Area.length ≤ 200)
    (fun r => r = ([], 6) ∧ ∃ j, ∃ h : j + 1 < zs.length, 200 < (A zs[j]).length) (by
    intro i h1i hi s ⟨hI1, hI2, hI3⟩
    obtain ⟨b1, b2⟩ := hb i h1i hi s
    by_cases hc : 200 < (A (zs[i - 1]'(by omega))).length
    · exact .inr ⟨_, b1 hc, rfl, i - 1, by omega, hc⟩
    · left
      obtain ⟨o, p1, p2, p3, p4⟩ := put_spec (out := s) (x := ⟨zs[i - 1]'(by omega), zs[i], A (zs[i - 1]'(by omega))⟩) (by omega) (fun b hb => by have := hI3 b hb; omega)
      refine ⟨o, by rw [b2 (by omega), p1, Option.bind_some], ?_, by omega, fun b hb => ?_⟩
      · rw [p2, hI1]
        have e : i + 1 - 1 = (i - 1) + 1 := by omega
        rw [e, build_succ (show i - 1 + 1 < zs.length by omega)]
        have e2 : zs[i - 1 + 1]'(by omega) = zs[i] := by congr 1; omega
        rw [e2]
      · rcases p4 b hb with h | ⟨c, hc', h⟩
        · rw [h]; dsimp only; omega
        · rw [h]; exact hI3 c hc') (fun s _ => hd s) (s0 := []) ⟨rfl, by simp, by simp⟩ (fuel := fuel) (by omega) with ⟨s, h2, h3, h4, h5⟩ | ⟨r, h2, rfl, h3⟩
  · left
    have e : s = unslab (build [] zs A (zs.length - 1)) := slabRuns_inj (by rw [h3, slabRuns_unslab])
    rw [← e]
    exact ⟨h2, h5⟩
  · exact .inr ⟨h2, h3⟩

/-! Of -/
def VB (b : Box) : Prop := VR b.Base ∧ 0 ≤ b.Z0 ∧ b.Z0 < b.Z1 ∧ b.Z1 ≤ 4096
instance (b : Box) : Decidable (VB b) := inferInstanceAs (Decidable (_ ∧ _))
/-- The cube (x, y, z) is in one of the boxes. -/
def bcells (l : List Box) (x y z : Int) : Prop := ∃ b ∈ l, rin b.Base x y ∧ b.Z0 ≤ z ∧ z < b.Z1
instance (l : List Box) (x y z : Int) : Decidable (bcells l x y z) := inferInstanceAs (Decidable (∃ b ∈ l, _))
def bases (l : List Box) (z : Int) : List Rect := (l.filter fun b => decide (b.Z0 ≤ z) && decide (z < b.Z1)).map (·.Base)
theorem bases_cells (l : List Box) (x y z : Int) : cells (bases l z) x y ↔ bcells l x y z := by
  unfold cells bcells bases
  constructor
  · rintro ⟨r, hr, h⟩
    obtain ⟨b, hb, rfl⟩ := List.mem_map.1 hr
    simp only [List.mem_filter, Bool.and_eq_true, decide_eq_true_eq] at hb
    exact ⟨b, hb.1, h, hb.2⟩
  · rintro ⟨b, hb, h, hz⟩
    exact ⟨b.Base, List.mem_map.2 ⟨b, by simp only [List.mem_filter, Bool.and_eq_true, decide_eq_true_eq]; exact ⟨hb, hz⟩, rfl⟩, h⟩
theorem bases_length (l : List Box) (z : Int) : (bases l z).length ≤ l.length := by unfold bases; rw [List.length_map]; exact List.length_filter_le _ _
theorem bases_right {l : List Box} (h : ∀ b ∈ l, VB b) (z : Int) : ∀ r ∈ bases l z, VR r := by
  intro r hr
  obtain ⟨b, hb, rfl⟩ := List.mem_map.1 hr
  exact (h b (List.mem_filter.1 hb).1).1
theorem Of_L0 {l : List Box} (hl : l.length ≤ 100000) :
    (¬ (∀ b ∈ l, VB b) ∧ iterL (solid_Of_L0 l) (l.length + 1) (([] : List Slab), 0) = some (.ret ([], 1))) ∨
    ((∀ b ∈ l, VB b) ∧ iterL (solid_Of_L0 l) (l.length + 1) (([] : List Slab), 0) = some (.ex 0 (l.map (fun b => ⟨b.Z0, b.Z1, []⟩), (l.length : Int)))) := by
  rcases iter_fromR (k := 0) (body := solid_Of_L0 l) (fun (s : List Slab) i => (s, i)) 0 l.length (Nat.zero_le _) (fun i s => s = (l.take i).map (fun b => ⟨b.Z0, b.Z1, []⟩) ∧ ∀ j (hj : j < l.length), j < i → VB l[j])
    (fun r => r = ([], 1) ∧ ¬ ∀ b ∈ l, VB b) (by
    rintro i - hi s ⟨rfl, hV⟩
    unfold solid_Of_L0
    dsimp only
    rw [if_pos (by simpa using hi), getI_nat hi, Option.bind_some, rect_Right_eq, Option.bind_some]
    by_cases hv : VB l[i]
    · left
      have hv' := hv
      unfold VB at hv'
      refine ⟨(l.take (i + 1)).map (fun b => ⟨b.Z0, b.Z1, []⟩), ?_, rfl, fun j hj hji => ?_⟩
      · rw [if_neg (by simp only [Bool.or_eq_true, decide_eq_true_eq, Bool.not_eq_true', decide_eq_false_iff_not]; rintro (((h | h) | h) | h) <;> first | exact h hv'.1 | omega),
          appI_some (by simp; omega), Option.bind_some, addI_one (by omega), Option.bind_some, List.take_succ_eq_append_getElem hi, List.map_append]
        rfl
      · rcases Nat.lt_or_ge j i with h | h
        · exact hV j hj h
        · obtain rfl : j = i := by omega
          exact hv
    · right
      refine ⟨_, if_pos ?_, rfl, fun h => hv (h _ (List.getElem_mem hi))⟩
      simp only [Bool.or_eq_true, decide_eq_true_eq, Bool.not_eq_true', decide_eq_false_iff_not]
      unfold VB at hv
      by_cases h1 : VR l[i].Base
      · have : ¬ (0 ≤ l[i].Z0 ∧ l[i].Z0 < l[i].Z1 ∧ l[i].Z1 ≤ 4096) := fun h => hv ⟨h1, h⟩
        omega
      · exact .inl (.inl (.inl h1))) (by
    intro s _
    unfold solid_Of_L0
    dsimp only
    rw [if_neg (by simp)]) (s0 := []) ⟨rfl, fun j _ h => absurd h (Nat.not_lt_zero j)⟩ (fuel := l.length + 1) (by omega) with ⟨s, h1, rfl, h2⟩ | ⟨r, h1, rfl, h2⟩
  · rw [List.take_length] at h1
    refine .inr ⟨fun b hb => ?_, h1⟩
    obtain ⟨j, hj, rfl⟩ := List.getElem_of_mem hb
    exact h2 j hj hj
  · exact .inl ⟨h2, h1⟩
theorem solid_Of_bad {l : List Box} (hl : l.length ≤ 100000) (h : ¬ ∀ b ∈ l, VB b) : solid_Of l = some ([], 1) := by
  unfold solid_Of
  rcases Of_L0 hl with ⟨_, h1⟩ | ⟨h1, _⟩
  · rw [h1, Option.bind_some]
  · exact absurd h1 h
theorem solid_Of_many {l : List Box} (hl : l.length ≤ 100000) (h : ∀ b ∈ l, VB b) (hm : 200 < l.length) : solid_Of l = some ([], 6) := by
  unfold solid_Of
  rcases Of_L0 hl with ⟨h1, _⟩ | ⟨_, h1⟩
  · exact absurd h h1
  · rw [h1, Option.bind_some]
    dsimp only
    rw [if_pos (by simp; omega)]
theorem Of_L2 {l : List Box} (hl : l.length ≤ 100000) {zs : List Int} {s : List Slab} {i : Nat} (h1 : 1 ≤ i) (hi : i < zs.length) (hil : i < 1000000) (hz : ∀ b ∈ l, b.Z0 < zs[i] ↔ b.Z0 ≤ zs[i - 1]'(by omega)) :
    iterL (solid_Of_L2 l zs (s, (i : Int))) (l.length + 1) (([] : List Rect), 0) = some (.ex 4 (bases l (zs[i - 1]'(by omega)), (l.length : Int))) := by
  refine (iter_range (k := 4) (l := l) (fun (o : List Rect) j => (o, j)) (fun o b => if (decide (b.Z0 ≤ zs[i - 1]'(by omega)) && decide ((zs[i - 1]'(by omega)) < b.Z1)) then o ++ [b.Base] else o) (fun j o => o.length ≤ j) ?_ ?_ (s0 := []) (Nat.zero_le _) (by omega)).1.trans ?_
  · intro j hj o hI
    have hzj := hz _ (List.getElem_mem hj)
    constructor
    · unfold solid_Of_L2
      dsimp only
      rw [if_pos (by simpa using hj), getI_nat hj, Option.bind_some, getI_nat hi, Option.bind_some]
      have hcond : (if decide (l[j].Z0 < zs[i]) = true then (subI (i : Int) 1).bind fun x => (getI zs x).bind fun y => some (decide (y < l[j].Z1)) else some false) = some (decide (l[j].Z0 ≤ zs[i - 1]'(by omega)) && decide ((zs[i - 1]'(by omega)) < l[j].Z1)) := by
        by_cases c : l[j].Z0 < zs[i]
        · rw [if_pos (by simpa using c), subI_nat (by omega) (by omega), Option.bind_some, getI_nat (show i - 1 < zs.length by omega), Option.bind_some]
          simp [hzj.1 c]
        · rw [if_neg (by simpa using c)]
          have : ¬ l[j].Z0 ≤ zs[i - 1]'(by omega) := fun h => c (hzj.2 h)
          simp [this]
      rw [hcond, Option.bind_some]
      split
      · rw [appI_some (by simp; omega), Option.bind_some, Option.bind_some, addI_one (by omega), Option.bind_some]
      · rw [Option.bind_some, addI_one (by omega), Option.bind_some]
    · split
      · simp; omega
      · omega
  · intro o _
    unfold solid_Of_L2
    dsimp only
    rw [if_neg (by simp)]
  · rw [foldl_filterMap (fun b : Box => decide (b.Z0 ≤ zs[i - 1]'(by omega)) && decide ((zs[i - 1]'(by omega)) < b.Z1)) (fun b => b.Base)]
    rfl
theorem z_cut {zs : List Int} (hp : zs.Pairwise fun a b => a < b) {i : Nat} (h1 : 1 ≤ i) (hi : i < zs.length) {z : Int} (hz : z ∈ zs) : z < zs[i] ↔ z ≤ zs[i - 1]'(by omega) := by
  have e : i - 1 + 1 = i := by omega
  have hlt : (zs[i - 1]'(by omega)) < zs[i] := (List.pairwise_iff_getElem.1 hp) (i - 1) i (by omega) hi (by omega)
  have := asc_gap hp (i := i - 1) (by omega) hz
  simp only [e] at this
  omega
theorem solid_Of_fine {l : List Box} (h : ∀ b ∈ l, VB b) (hm : l.length ≤ 200) : ∃ out, IsSolid (bcells l) out ∧ solid_Of l = some (slim out) := by
  have hex : ∀ z, ∃ o, IsForm (fun x y => bcells l x y z) o ∧ region_Of (bases l z) = some (lim o) := by
    intro z
    obtain ⟨o, h1, h2⟩ := region_Of_fine (bases_right h z) (by have := bases_length l z; omega)
    exact ⟨o, h1.congr fun x y => bases_cells l x y z, h2⟩
  obtain ⟨A, hA⟩ := Classical.axiomOfChoice hex
  obtain ⟨zs, hz1, hz2⟩ := heights_spec (ls := [l.map fun b => (⟨b.Z0, b.Z1, []⟩ : Slab)]) (by simp) (by simp; omega)
  have hzl := hz2.len
  simp only [List.flatten_cons, List.flatten_nil, List.append_nil, List.length_map] at hzl
  have hmem : ∀ b ∈ l, b.Z0 ∈ zs ∧ b.Z1 ∈ zs := by
    intro b hb
    refine ⟨(hz2.mem _).2 ⟨⟨b.Z0, b.Z1, []⟩, ?_, .inl rfl⟩, (hz2.mem _).2 ⟨⟨b.Z0, b.Z1, []⟩, ?_, .inr rfl⟩⟩ <;>
    · simp only [List.flatten_cons, List.flatten_nil, List.append_nil]
      exact List.mem_map.2 ⟨b, hb, rfl⟩
  obtain ⟨hS, hS2, hS3⟩ := build_solid (S := bcells l) hz2.asc (fun z => (hA z).1) (by
    intro i hi z h1 h2 x y
    refine exists_congr fun b => and_congr_right fun hb => and_congr_right fun _ => ?_
    have g1 := asc_gap hz2.asc hi (hmem b hb).1
    have g2 := asc_gap hz2.asc hi (hmem b hb).2
    omega) (by
    rintro z hno x y ⟨b, hb, _, h1, h2⟩
    obtain ⟨i, hi, a1, a2⟩ := asc_between hz2.asc (hmem b hb).1 (hmem b hb).2 h1 h2
    exact hno i hi ⟨a1, a2⟩)
  refine ⟨_, hS, ?_⟩
  unfold solid_Of
  rcases Of_L0 (l := l) (by omega) with ⟨h1, _⟩ | ⟨_, h1⟩
  · exact absurd h h1
  · rw [h1, Option.bind_some]
    dsimp only
    rw [if_neg (by simp; omega), hz1, Option.bind_some]
    rcases Nat.eq_zero_or_pos zs.length with h0 | h0
    · obtain rfl : zs = [] := List.length_eq_zero_iff.1 h0
      have e : iterL (solid_Of_L1 l []) (l.length + ([] : List Int).length + ([] : List Slab).length + 1) (([] : List Slab), 1) = some (.ex 2 (([] : List Slab), 1)) := by
        have : solid_Of_L1 l [] (([] : List Slab), 1) = some (.ex 2 (([] : List Slab), 1)) := by
          unfold solid_Of_L1
          dsimp only
          rw [if_neg (by simp)]
        simp only [iterL, this]
      rw [e, Option.bind_some]
      dsimp only
      rw [fits_eq (by simp), Option.bind_some]
      rfl
    · rcases solid_loop (body := solid_Of_L1 l zs) (k := 2) (A := A) hz2.asc (by omega) (by
        intro i h1i hi s
        have hL2 := Of_L2 (l := l) (by omega) (s := s) h1i hi (by omega) (fun b hb => z_cut hz2.asc h1i hi (hmem b hb).1)
        have hOf := (hA (zs[i - 1]'(by omega))).2
        unfold solid_Of_L1
        dsimp only
        rw [if_pos (by simpa using hi), hL2, Option.bind_some]
        dsimp only
        rw [hOf, Option.bind_some]
        unfold lim
        constructor
        · intro hc
          rw [if_pos hc, if_pos (by decide)]
        · intro hc
          rw [if_neg (Nat.not_lt.2 hc), if_neg (by dsimp only; decide), subI_nat (by omega) (by omega), Option.bind_some, getI_nat (show i - 1 < zs.length by omega), Option.bind_some, getI_nat hi, Option.bind_some]
          rw [addI_one (by omega)]
          rfl) (by
        intro s
        unfold solid_Of_L1
        dsimp only
        rw [if_neg (by simp)]) h0 (fuel := l.length + zs.length + ([] : List Slab).length + 1) (by simp; omega) with ⟨h2, h3⟩ | ⟨h2, j, hj, h3⟩
      · rw [h2, Option.bind_some]
        dsimp only
        rw [fits_eq h3, Option.bind_some]
      · rw [h2, Option.bind_some]
        dsimp only
        obtain ⟨s, hs1, hs2⟩ := hS2 j hj (fun e => by rw [e] at h3; simp at h3)
        unfold slim
        rw [if_pos (.inl ⟨s, hs1, by rw [hs2]; exact h3⟩)]

/-! Combining -/
theorem at_eq {s : List Slab} (hl : s.length ≤ 100000) (z : Int) : solid_at s z = some (sect s z) := by
  unfold solid_at
  have hval : ∀ i (hi : i < s.length), (s[i].Z0 ≤ z ∧ z < s[i].Z1) → (∀ j (hj : j < i), ¬ ((s[j]'(by omega)).Z0 ≤ z ∧ z < (s[j]'(by omega)).Z1)) → sect s z = s[i].Area := by
    clear hl
    induction s with
    | nil => intro i hi; simp at hi
    | cons a s ih =>
      intro i hi h1 h2
      show (if a.Z0 ≤ z ∧ z < a.Z1 then a.Area else sect s z) = _
      cases i with
      | zero => exact if_pos h1
      | succ i =>
        have h3 : ¬ (a.Z0 ≤ z ∧ z < a.Z1) := h2 0 (by omega)
        rw [if_neg h3]
        exact ih i (by simpa using hi) h1 fun j hj => by simpa using h2 (j + 1) (by omega)
  have hnone : (∀ b ∈ s, ¬ (b.Z0 ≤ z ∧ z < b.Z1)) → sect s z = [] := by
    clear hl hval
    induction s with
    | nil => intro _; rfl
    | cons a s ih =>
      intro h
      show (if a.Z0 ≤ z ∧ z < a.Z1 then a.Area else sect s z) = _
      rw [if_neg (h a (by simp))]
      exact ih fun b hb => h b (by simp [hb])
  rcases iter_find (l := s) (body := solid_at_L0 s z) (k := 0) (fun b => b.Z0 ≤ z ∧ z < b.Z1) (fun i => (s[i]?.getD default).Area) (by
    intro i hi
    unfold solid_at_L0
    rw [if_pos (by simpa using hi), getI_nat hi, Option.bind_some]
    by_cases hc : s[i].Z0 ≤ z ∧ z < s[i].Z1
    · left
      rw [if_pos (by simpa using hc), List.getElem?_eq_getElem hi]
      exact ⟨hc, rfl⟩
    · right
      rw [if_neg (by simpa using hc), addI_one (by omega), Option.bind_some]
      exact ⟨hc, rfl⟩) (by
    unfold solid_at_L0
    rw [if_neg (by simp)]) (fuel := s.length + 1) (by omega) with ⟨i, hi, hp, hq, h⟩ | ⟨hp, h⟩
  · rw [h, Option.bind_some]
    dsimp only
    rw [List.getElem?_eq_getElem hi, hval i hi hp fun j hj => hq j hj]
    rfl
  · rw [h, Option.bind_some, hnone hp]
theorem scombine_fine {f : List Rect → List Rect → Option (List Rect × Int)} {op : Int} (hop : ∀ a b, RR a → RR b → ∃ out, IsForm (opS op a b) out ∧ f a b = some (lim out)) {a b : List Slab} (ha : SS a) (hb : SS b) :
    ∃ out, IsSolid (fun x y z => opB op (decide (scells a x y z)) (decide (scells b x y z)) = true) out ∧ solid_combine a b f = some (slim out) := by
  have la := ha.len; have lb := hb.len
  obtain ⟨A, hA⟩ := Classical.axiomOfChoice fun z => hop (sect a z) (sect b z) (ha.sect z) (hb.sect z)
  obtain ⟨zs, hz1, hz2⟩ := heights_spec (ls := [a, b]) (by simp) (by
    intro l hl
    simp only [List.mem_cons, List.not_mem_nil, or_false] at hl
    rcases hl with rfl | rfl <;> omega)
  have hfl : [a, b].flatten = a ++ b := by simp
  rw [hfl] at hz2
  have hzl := hz2.len
  simp only [List.length_append] at hzl
  have hmem : ∀ s ∈ a ++ b, s.Z0 ∈ zs ∧ s.Z1 ∈ zs := fun s hs => ⟨(hz2.mem _).2 ⟨s, hs, .inl rfl⟩, (hz2.mem _).2 ⟨s, hs, .inr rfl⟩⟩
  have hsame : ∀ c : List Slab, (∀ s ∈ c, s ∈ a ++ b) → ∀ i (hi : i + 1 < zs.length) z, zs[i] ≤ z → z < zs[i + 1] → sect c zs[i] = sect c z := by
    intro c hc i hi z h1 h2
    refine rval_between (fun r hr => ?_) h1
    obtain ⟨s, hs, rfl⟩ := List.mem_map.1 hr
    have g1 := asc_gap hz2.asc hi (hmem s (hc s hs)).1
    have g2 := asc_gap hz2.asc hi (hmem s (hc s hs)).2
    dsimp only; omega
  have hout : ∀ c : List Slab, (∀ s ∈ c, s ∈ a ++ b) → ∀ z, (∀ i (h : i + 1 < zs.length), ¬ (zs[i] ≤ z ∧ z < zs[i + 1])) → sect c z = [] := by
    intro c hc z hno
    rcases rval_mem (e := []) (l := slabRuns c) (x := z) with h7 | ⟨p, q, h7, h8, h9⟩
    · exact h7
    · obtain ⟨s, hs, he⟩ := List.mem_map.1 h7
      simp only [Prod.mk.injEq] at he
      obtain ⟨i, hi, a1, a2⟩ := asc_between hz2.asc (hmem s (hc s hs)).1 (hmem s (hc s hs)).2 (by omega) (by omega : z < s.Z1)
      exact absurd ⟨a1, a2⟩ (hno i hi)
  have hma : ∀ s ∈ a, s ∈ a ++ b := fun s hs => List.mem_append_left _ hs
  have hmb : ∀ s ∈ b, s ∈ a ++ b := fun s hs => List.mem_append_right _ hs
  obtain ⟨hS, hS2, hS3⟩ := build_solid (S := fun x y z => opB op (decide (scells a x y z)) (decide (scells b x y z)) = true) hz2.asc (fun z => (hA z).1) (by
    intro i hi z h1 h2 x y
    have key : ∀ c : List Slab, sect c zs[i] = sect c z → decide (scells c x y zs[i]) = decide (scells c x y z) := by
      intro c hc
      rw [decide_eq_decide]
      unfold scells; rw [hc]
    rw [key a (hsame a hma i hi z h1 h2), key b (hsame b hmb i hi z h1 h2)]) (by
    intro z hno x y h
    have e : ∀ c : List Slab, sect c z = [] → decide (scells c x y z) = false := by
      intro c hc
      rw [decide_eq_false_iff_not]
      unfold scells; rw [hc]; simp [cells]
    rw [e a (hout a hma z hno), e b (hout b hmb z hno), opB_false] at h
    simp at h)
  refine ⟨_, hS, ?_⟩
  unfold solid_combine
  rw [solid_Right_true ha, Option.bind_some, if_neg (by simp), solid_Right_true hb, Option.bind_some, Option.bind_some, if_neg (by simp), hz1, Option.bind_some]
  rcases Nat.eq_zero_or_pos zs.length with h0 | h0
  · obtain rfl : zs = [] := List.length_eq_zero_iff.1 h0
    have e : iterL (solid_combine_L0 a b f []) (a.length + b.length + ([] : List Int).length + ([] : List Slab).length + 1) (([] : List Slab), 1) = some (.ex 0 (([] : List Slab), 1)) := by
      have : solid_combine_L0 a b f [] (([] : List Slab), 1) = some (.ex 0 (([] : List Slab), 1)) := by
        unfold solid_combine_L0
        dsimp only
        rw [if_neg (by simp)]
      simp only [iterL, this]
    rw [e, Option.bind_some]
    dsimp only
    rw [fits_eq (by simp), Option.bind_some]
    rfl
  · rcases solid_loop (body := solid_combine_L0 a b f zs) (k := 0) (A := A) hz2.asc (by omega) (by
      intro i h1i hi s
      have hf := (hA (zs[i - 1]'(by omega))).2
      unfold solid_combine_L0
      dsimp only
      rw [if_pos (by simpa using hi)]
      have hsub : subI (i : Int) 1 = some ((i - 1 : Nat) : Int) := subI_nat (by omega) (by omega)
      have hg : getI zs ((i - 1 : Nat) : Int) = some (zs[i - 1]'(by omega)) := getI_nat (by omega)
      have e1 := at_eq (s := a) (by omega) (zs[i - 1]'(by omega))
      have e2 := at_eq (s := b) (by omega) (zs[i - 1]'(by omega))
      have hadd : addI (i : Int) 1 = some ((i + 1 : Nat) : Int) := addI_one (by omega)
      simp only [hsub, hg, e1, e2, hf, getI_nat hi, hadd, Option.bind_some]
      unfold lim
      constructor
      · intro hc
        rw [if_pos hc, if_pos (by decide)]
      · intro hc
        rw [if_neg (Nat.not_lt.2 hc), if_neg (by dsimp only; decide)]) (by
      intro s
      unfold solid_combine_L0
      dsimp only
      rw [if_neg (by simp)]) h0 (fuel := a.length + b.length + zs.length + ([] : List Slab).length + 1) (by simp; omega) with ⟨h2, h3⟩ | ⟨h2, j, hj, h3⟩
    · rw [h2, Option.bind_some]
      dsimp only
      rw [fits_eq h3, Option.bind_some]
    · rw [h2, Option.bind_some]
      dsimp only
      obtain ⟨s, hs1, hs2⟩ := hS2 j hj (fun e => by rw [e] at h3; simp at h3)
      unfold slim
      rw [if_pos (.inl ⟨s, hs1, by rw [hs2]; exact h3⟩)]
/-- What the operation makes of two solids. -/
def sopS (op : Int) (a b : List Slab) (x y z : Int) : Prop := opB op (decide (scells a x y z)) (decide (scells b x y z)) = true
noncomputable def solidOp (op : Int) (a b : List Slab) : Option (List Slab × Int) := if op = 1 then solid_Common a b else if op = 2 then solid_Minus a b else solid_Union a b
theorem solidOp_fine {op : Int} {a b : List Slab} (ha : SS a) (hb : SS b) : ∃ out, IsSolid (sopS op a b) out ∧ solidOp op a b = some (slim out) := by
  have hr := fun p q (hp : RR p) (hq : RR q) => regionOp_fine (op := op) hp hq
  unfold regionOp at hr
  unfold solidOp sopS
  split
  · rename_i h; simp only [h, if_true] at hr
    obtain ⟨out, h1, h2⟩ := scombine_fine (f := region_Common) (op := op) (by rw [h]; exact hr) ha hb
    exact ⟨out, h1, by unfold solid_Common; rw [h2, Option.bind_some]⟩
  · rename_i h
    split
    · rename_i h'
      obtain ⟨out, h1, h2⟩ := scombine_fine (f := region_Minus) (op := op) (fun p q hp hq => by have := hr p q hp hq; rwa [if_neg h, if_pos h'] at this) ha hb
      exact ⟨out, h1, by unfold solid_Minus; rw [h2, Option.bind_some]⟩
    · rename_i h'
      obtain ⟨out, h1, h2⟩ := scombine_fine (f := region_Union) (op := op) (fun p q hp hq => by have := hr p q hp hq; rwa [if_neg h, if_neg h'] at this) ha hb
      exact ⟨out, h1, by unfold solid_Union; rw [h2, Option.bind_some]⟩
end Go.Proofs.Ytbpecfmimgjakaa

namespace Go.Proofs.Ytbpecfmimgjakaa
open Go.Gb
set_option linter.unusedVariables false
set_option linter.unusedSimpArgs false
set_option linter.unusedSectionVars false
set_option linter.unusedVariables false
set_option linter.unusedSimpArgs false

/-! What is asked of a region -/
/-! What is asked of a solid -/
def boxesOf (s : List Slab) : List Box := s.flatMap fun x => x.Area.map fun r => ⟨r, x.Z0, x.Z1⟩
theorem Boxes_L1 {x : Slab} (hx : x.Area.length ≤ 1000000) {o : List Box} (ho : o.length ≤ 100000000) :
    iterL (solid_Boxes_L1 x) (x.Area.length + 1) (o, 0) = some (.ex 2 (o ++ x.Area.map (fun r => ⟨r, x.Z0, x.Z1⟩), (x.Area.length : Int))) := by
  refine (iter_range (k := 2) (l := x.Area) (body := solid_Boxes_L1 x) (fun (s : List Box) i => (s, i)) (fun s r => s ++ [⟨r, x.Z0, x.Z1⟩]) (fun i s => s.length ≤ 100000000 + i) (by
    intro i hi s hI
    constructor
    · unfold solid_Boxes_L1
      dsimp only
      rw [if_pos (by simpa using hi), getI_nat hi, Option.bind_some, appI_some (by simp; omega), Option.bind_some, addI_one (by omega), Option.bind_some]
    · simp; omega) (by
    intro s _
    unfold solid_Boxes_L1
    dsimp only
    rw [if_neg (by simp)]) (s0 := o) (by omega) (by omega)).1.trans ?_
  rw [foldl_flatMap (fun r : Rect => [(⟨r, x.Z0, x.Z1⟩ : Box)]), List.map_eq_flatMap]
theorem solid_Boxes_fine {s : List Slab} (h : SS s) : solid_Boxes s = some (boxesOf s) := by
  unfold solid_Boxes
  rw [solid_Right_true h, Option.bind_some, if_neg (by simp)]
  have hl := h.len
  obtain ⟨h1, h2⟩ := iter_range (k := 0) (l := s) (body := solid_Boxes_L0 s) (fun (s : List Box) i => (s, i)) (fun o x => o ++ x.Area.map fun r => ⟨r, x.Z0, x.Z1⟩) (fun i o => o.length ≤ 200 * i) (by
    intro i hi o hI
    have hx := (h.ok _ (List.getElem_mem hi)).2.2.2.1
    constructor
    · unfold solid_Boxes_L0
      dsimp only
      rw [if_pos (by simpa using hi), getI_nat hi, Option.bind_some, Boxes_L1 (by omega) (by omega), Option.bind_some]
      dsimp only
      rw [addI_one (by omega), Option.bind_some]
    · simp; omega) (by
    intro o _
    unfold solid_Boxes_L0
    dsimp only
    rw [if_neg (by simp)]) (s0 := []) (by simp) (fuel := s.length + 1) (by omega)
  rw [h1, Option.bind_some, foldl_flatMap (fun x : Slab => x.Area.map fun r => (⟨r, x.Z0, x.Z1⟩ : Box))]
  rfl
theorem solid_Boxes_bad {s : List Slab} (ha : ∀ b ∈ s, b.Area.length ≤ 100000) (h : ¬ SS s) : solid_Boxes s = some [] := by
  unfold solid_Boxes
  rw [solid_Right_false ha h, Option.bind_some, if_pos (by simp)]
theorem boxesOf_length {s : List Slab} (h : SS s) : (boxesOf s).length ≤ 16000 := by
  have hl := h.len
  have key : ∀ l : List Slab, (∀ b ∈ l, b.Area.length ≤ 200) → (boxesOf l).length ≤ 200 * l.length := by
    intro l
    induction l with
    | nil => intro _; simp [boxesOf]
    | cons a l ih =>
      intro hb
      have h1 := ih fun b hb' => hb b (by simp [hb'])
      have h2 := hb a (by simp)
      unfold boxesOf at h1 ⊢
      simp only [List.flatMap_cons, List.length_append, List.length_map, List.length_cons]
      omega
  have := key s fun b hb => (h.ok b hb).2.2.2.1
  omega
theorem boxesOf_VB {s : List Slab} (h : SS s) : ∀ b ∈ boxesOf s, VB b := by
  intro b hb
  obtain ⟨x, hx, hb⟩ := List.mem_flatMap.1 hb
  obtain ⟨r, hr, rfl⟩ := List.mem_map.1 hb
  have h1 := h.ok x hx
  have h2 := slab_pos h.canon hx
  exact ⟨h1.2.2.1 r hr, h1.1, h2.1, h1.2.1⟩
theorem bcells_boxesOf {s : List Slab} (h : Canon [] (slabRuns s)) (x y z : Int) : bcells (boxesOf s) x y z ↔ scells s x y z := by
  constructor
  · rintro ⟨b, hb, h1, h2⟩
    obtain ⟨q, hq, hb⟩ := List.mem_flatMap.1 hb
    obtain ⟨r, hr, rfl⟩ := List.mem_map.1 hb
    unfold scells
    rw [sect_mem h hq h2.1 h2.2]
    exact ⟨r, hr, h1⟩
  · intro hc
    unfold scells at hc
    rcases rval_mem (e := []) (l := slabRuns s) (x := z) with h1 | ⟨p, q, h1, h2⟩
    · unfold sect at hc; rw [h1] at hc; simp [cells] at hc
    · obtain ⟨b, hb, he⟩ := List.mem_map.1 h1
      simp only [Prod.mk.injEq] at he
      obtain ⟨r, hr, hr'⟩ := hc
      refine ⟨⟨r, b.Z0, b.Z1⟩, List.mem_flatMap.2 ⟨b, hb, List.mem_map.2 ⟨r, ?_, rfl⟩⟩, hr', by dsimp only; omega⟩
      have : sect s z = b.Area := by unfold sect; rw [← he.2.2]
      rw [← this]; exact hr
/-- The height over a cell. -/
def IsTop (s : List Slab) (x y t : Int) : Prop := 0 ≤ t ∧ (∀ z, scells s x y z → z < t) ∧ (t = 0 ∨ scells s x y (t - 1))
theorem IsTop.unique {s : List Slab} {x y t t' : Int} (h : IsTop s x y t) (h' : IsTop s x y t') : t = t' := by
  obtain ⟨a1, a2, a3⟩ := h
  obtain ⟨b1, b2, b3⟩ := h'
  rcases a3 with rfl | a3
  · rcases b3 with rfl | b3
    · rfl
    · have := a2 _ b3; omega
  · have := b2 _ a3
    rcases b3 with rfl | b3
    · omega
    · have := a2 _ b3; omega
theorem solid_Same_eq {a b : List Slab} (hl : a.length ≤ 1000000) (ha : ∀ s ∈ a, s.Area.length ≤ 1000000) : solid_Same a b = some (decide (a = b)) := by
  unfold solid_Same slices_EqualFunc_Slab_Slab_Slab
  by_cases hlen : a.length = b.length
  · rw [if_neg (by simp [hlen])]
    have heq : ∀ x ∈ a, ∀ y : Slab, solid_Same_1 x y = some (decide (x = y)) := by
      intro x hx y
      unfold solid_Same_1
      obtain ⟨x0, x1, xa⟩ := x
      obtain ⟨y0, y1, ya⟩ := y
      have hxa := ha _ hx
      dsimp only at hxa ⊢
      by_cases h0 : x0 = y0
      · by_cases h1 : x1 = y1
        · rw [if_pos (by simp [h0, h1]), region_Same_eq hxa, Option.bind_some, Option.bind_some]; simp [h0, h1]
        · rw [if_neg (by simp [h1]), Option.bind_some]; simp [h1]
      · rw [if_neg (by simp [h0]), Option.bind_some]; simp [h0]
    rcases iter_find (l := a.zip b) (body := slices_EqualFunc_Slab_Slab_Slab_L0 a b solid_Same_1) (k := 0) (fun p => p.1 ≠ p.2) (fun _ => false) (by
      intro i hi
      simp only [List.length_zip] at hi
      have h1 : i < a.length := by omega
      have h2 : i < b.length := by omega
      unfold slices_EqualFunc_Slab_Slab_Slab_L0
      rw [if_pos (by simpa using h1), getI_nat h1, Option.bind_some, getI_nat h2, Option.bind_some, heq _ (List.getElem_mem h1), Option.bind_some]
      simp only [List.getElem_zip]
      by_cases he : a[i] = b[i]
      · right
        rw [if_neg (by simpa using he), addI_one (show i < 4611686018427387904 by omega), Option.bind_some]
        exact ⟨by simpa using he, rfl⟩
      · left
        rw [if_pos (by simpa using he)]
        exact ⟨he, rfl⟩) (by
      have e : ((a.zip b).length : Int) = (a.length : Int) := by simp; omega
      rw [e]
      unfold slices_EqualFunc_Slab_Slab_Slab_L0
      rw [if_neg (by simp)]) (fuel := a.length + 1) (by simp; omega) with ⟨i, hi, hp, _, h⟩ | ⟨hp, h⟩
    · rw [h, Option.bind_some]
      dsimp only
      rw [Option.bind_some]
      congr 1
      symm
      rw [decide_eq_false_iff_not]
      intro e; subst e; simp at hp
    · rw [h, Option.bind_some]
      dsimp only
      rw [Option.bind_some]
      congr 1
      symm
      rw [decide_eq_true_iff]
      refine List.ext_getElem hlen fun i h1 h2 => ?_
      have := hp (a[i], b[i]) (by
        rw [List.mem_iff_getElem]
        exact ⟨i, by simp; omega, by simp⟩)
      simpa using this
  · rw [if_pos (by simp; omega), Option.bind_some]
    congr 1
    symm
    rw [decide_eq_false_iff_not]
    intro e; exact hlen (by rw [e])
end Go.Proofs.Ytbpecfmimgjakaa

namespace Go.Proofs.Ytbpecfmimgjakaa
open Go.Gb
set_option linter.unusedVariables false
set_option linter.unusedSimpArgs false
set_option linter.unusedSectionVars false
set_option linter.unusedVariables false
set_option linter.unusedSimpArgs false

/-! Forms that can be checked by reckoning -/
def canonB {V : Type} [DecidableEq V] (e : V) : Runs V → Bool
  | [] => true
  | (a, b, v) :: t => decide (a < b) && decide (v ≠ e) && (match t with | [] => true | (c, _, w) :: _ => decide (b < c) || (decide (b = c) && decide (v ≠ w))) && canonB e t
theorem canonB_spec {V : Type} [DecidableEq V] {e : V} : ∀ {l : Runs V}, canonB e l = true → Canon e l
  | [], _ => trivial
  | (a, b, v) :: t, h => by
    simp only [canonB, Bool.and_eq_true, decide_eq_true_eq] at h
    obtain ⟨⟨⟨h1, h2⟩, h3⟩, h4⟩ := h
    refine ⟨h1, h2, ?_, canonB_spec h4⟩
    cases t with
    | nil => trivial
    | cons r t =>
      obtain ⟨c, d, w⟩ := r
      simp only [Bool.or_eq_true, Bool.and_eq_true, decide_eq_true_eq] at h3
      exact h3
/-- The runs of columns of a list of rectangles, neighbours with the same ends in one. -/
def runsOf : List Rect → Runs Col
  | [] => []
  | r :: l => match runsOf l with
    | [] => [(r.X0, r.X1, [(r.Y0, r.Y1, true)])]
    | (a, b, c) :: t => if r.X0 = a ∧ r.X1 = b then (a, b, (r.Y0, r.Y1, true) :: c) :: t else (r.X0, r.X1, [(r.Y0, r.Y1, true)]) :: (a, b, c) :: t
theorem flatG_cons (a b : Int) (c : Col) (t : Runs Col) : flatG ((a, b, c) :: t) = (c.map fun s => ⟨a, s.1, b, s.2.1⟩) ++ flatG t := rfl
theorem flatG_runsOf : ∀ l : List Rect, flatG (runsOf l) = l
  | [] => rfl
  | r :: l => by
    have ih := flatG_runsOf l
    simp only [runsOf]
    split
    · rename_i h
      rw [h] at ih
      rw [← ih]; rfl
    · rename_i a b c t h
      rw [h] at ih
      split
      · rename_i h2
        obtain ⟨rfl, rfl⟩ := h2
        rw [← ih, flatG_cons, flatG_cons]; rfl
      · rw [flatG_cons, ← ih]; rfl
def formB (l : List Rect) : Bool := canonB [] (runsOf l) && (runsOf l).all fun g => canonB false g.2.2
theorem formB_spec {l : List Rect} (h : formB l = true) : IsForm (cells l) l := by
  unfold formB at h
  rw [Bool.and_eq_true, List.all_eq_true] at h
  have hf : IsForm (fun x y => rval false (rval [] (runsOf l) x) y = true) l := ⟨runsOf l, canonB_spec h.1, fun a b c hm => canonB_spec (h.2 _ hm), fun _ _ => Iff.rfl, (flatG_runsOf l).symm⟩
  exact hf.self
def rrB (l : List Rect) : Bool := l.all (fun r => decide (VR r)) && decide (l.length ≤ 200) && formB l
theorem rrB_spec {l : List Rect} (h : rrB l = true) : RR l := by
  unfold rrB at h
  simp only [Bool.and_eq_true, List.all_eq_true, decide_eq_true_eq] at h
  exact ⟨h.1.1, h.1.2, formB_spec h.2⟩
def ssB (s : List Slab) : Bool := decide (s.length ≤ 80) && canonB [] (slabRuns s) && s.all fun b => decide (0 ≤ b.Z0) && decide (b.Z1 ≤ 4096) && rrB b.Area
theorem ssB_spec {s : List Slab} (h : ssB s = true) : SS s := by
  unfold ssB at h
  simp only [Bool.and_eq_true, List.all_eq_true, decide_eq_true_eq] at h
  exact ⟨h.1.1, canonB_spec h.1.2, fun b hb => ⟨(h.2 b hb).1.1, (h.2 b hb).1.2, rrB_spec (h.2 b hb).2⟩⟩
theorem slim_fine {s : List Slab} (h : SS s) : slim s = (s, 0) := by
  unfold slim
  rw [if_neg]
  rintro (⟨b, hb, h'⟩ | h')
  · have := (h.ok b hb).2.2.2.1; omega
  · have := h.len; omega
theorem Of_is {l : List Box} {w : List Slab} (hl : l.all (fun b => decide (VB b)) = true) (hn : l.length ≤ 200) (hw : ssB w = true) (he : ∀ x y z, bcells l x y z ↔ scells w x y z) : solid_Of l = some (w, 0) := by
  have hS := ssB_spec hw
  obtain ⟨out, h1, h2⟩ := solid_Of_fine (l := l) (by simpa using hl) hn
  rw [h2, h1.unique hS.solid he, slim_fine hS]
theorem scells_iff {s : List Slab} {x y z : Int} : scells s x y z ↔ cells (sect s z) x y := Iff.rfl
theorem sect_cons (b : Slab) (s : List Slab) (z : Int) : sect (b :: s) z = if b.Z0 ≤ z ∧ z < b.Z1 then b.Area else sect s z := rfl
theorem sect_nil (z : Int) : sect [] z = [] := rfl
theorem cells_if {p : Prop} [Decidable p] {a b : List Rect} {x y : Int} : cells (if p then a else b) x y ↔ (p ∧ cells a x y) ∨ (¬ p ∧ cells b x y) := by
  split <;> simp [*]
end Go.Proofs.Ytbpecfmimgjakaa

namespace Go.Proofs.Ytbpecfmimgjakaa
open Go.Gb
set_option linter.unusedVariables false
set_option linter.unusedSimpArgs false
set_option linter.unusedSectionVars false
set_option linter.unusedVariables false
set_option linter.unusedSimpArgs false

theorem nodup_le {α : Type} [DecidableEq α] : ∀ {l m : List α}, l.Nodup → (∀ x ∈ l, x ∈ m) → l.length ≤ m.length
  | [], m, _, _ => Nat.zero_le _
  | a :: l, m, hn, hs => by
    have hn' := List.nodup_cons.1 hn
    have ha := hs a (by simp)
    have ih := nodup_le (l := l) (m := m.erase a) hn'.2 fun x hx => by
      have hxa : x ≠ a := fun e => hn'.1 (e ▸ hx)
      exact (List.mem_erase_of_ne hxa).2 (hs x (by simp [hx]))
    rw [List.length_erase_of_mem ha] at ih
    have := List.length_pos_of_mem ha
    simp only [List.length_cons]; omega

/-- How many of the numbers lie in [a, b). -/
def inC (D : List Int) (a b : Int) : Nat := D.countP fun c => decide (a ≤ c) && decide (c < b)
def ends (l : List (Int × Int)) : List Int := l.flatMap fun r => [r.1, r.2]
theorem ends_cons (r : Int × Int) (l : List (Int × Int)) : ends (r :: l) = r.1 :: r.2 :: ends l := rfl
def sumNat {α : Type} (f : α → Nat) : List α → Nat
  | [] => 0
  | x :: xs => f x + sumNat f xs
theorem sumNat_le {α : Type} {f g : α → Nat} : ∀ {l : List α}, (∀ x ∈ l, f x ≤ g x) → sumNat f l ≤ sumNat g l
  | [], _ => Nat.le_refl _
  | x :: l, h => by
    have := h x (by simp)
    have := sumNat_le (l := l) fun y hy => h y (by simp [hy])
    simp only [sumNat]; omega
theorem sumNat_add {α : Type} {f g : α → Nat} : ∀ {l : List α}, sumNat (fun x => f x + g x) l = sumNat f l + sumNat g l
  | [] => rfl
  | x :: l => by simp only [sumNat, sumNat_add (l := l)]; omega
theorem sumNat_const {α : Type} {c : Nat} : ∀ {l : List α}, sumNat (fun _ => c) l = c * l.length
  | [] => rfl
  | x :: l => by simp only [sumNat, sumNat_const (l := l), List.length_cons, Nat.mul_add]; omega
/-- Numbers that are ends of intervals, each once: those in a set are no more than the ends in it. -/
theorem count_ends {l : List (Int × Int)} {q : Int → Bool} : ∀ {D : List Int}, D.Nodup → (∀ c ∈ D, c ∈ ends l) → D.countP q ≤ sumNat (fun r => (if q r.1 then 1 else 0) + (if q r.2 then 1 else 0)) l := by
  intro D hn hs
  have h1 : D.countP q = (D.filter q).length := List.countP_eq_length_filter
  have h2 : (D.filter q).length ≤ ((ends l).filter q).length := nodup_le (hn.sublist List.filter_sublist) fun x hx => by
    rw [List.mem_filter] at hx ⊢
    exact ⟨hs x hx.1, hx.2⟩
  have h3 : ∀ l : List (Int × Int), ((ends l).filter q).length = sumNat (fun r => (if q r.1 then 1 else 0) + (if q r.2 then 1 else 0)) l := by
    intro l
    induction l with
    | nil => rfl
    | cons r l ih =>
      rw [ends_cons]
      simp only [List.filter_cons, sumNat, ← ih]
      cases q r.1 <;> cases q r.2 <;> simp <;> omega
  rw [← h3]; omega
theorem pairs_sq : ∀ {l : List (Int × Int)} {D : List Int}, (∀ r ∈ l, r.1 < r.2) → D.Nodup → (∀ c ∈ D, c ∈ ends l) → sumNat (fun r => inC D r.1 r.2) l ≤ l.length * l.length
  | [], D, _, _, _ => Nat.le_refl _
  | r0 :: l, D, hlt, hn, hs => by
    have h0 := hlt r0 (by simp)
    -- the numbers that are ends of the other intervals, and those that are not
    let o : Int → Bool := fun c => decide (c ∈ ends l)
    have hD : ∀ p : Int → Bool, D.countP p = (D.filter o).countP p + (D.filter fun c => !o c).countP p := by
      intro p
      clear hn hs hlt
      induction D with
      | nil => rfl
      | cons c D ih =>
        simp only [List.countP_cons, List.filter_cons, ih]
        cases o c <;> simp [List.countP_cons] <;> omega
    have hD1 : (D.filter o).Nodup := hn.sublist List.filter_sublist
    have hs1 : ∀ c ∈ D.filter o, c ∈ ends l := fun c hc => by have := (List.mem_filter.1 hc).2; simpa [o] using this
    have hD2 : (D.filter fun c => !o c).Nodup := hn.sublist List.filter_sublist
    have hs2 : ∀ c ∈ D.filter (fun c => !o c), c ∉ ends l ∧ (c = r0.1 ∨ c = r0.2) := fun c hc => by
      have h1 := (List.mem_filter.1 hc).2
      have h2 := hs c (List.mem_filter.1 hc).1
      rw [ends_cons] at h2
      have h3 : c ∉ ends l := by simpa [o] using h1
      refine ⟨h3, ?_⟩
      rcases List.mem_cons.1 h2 with h | h
      · exact .inl h
      · rcases List.mem_cons.1 h with h | h
        · exact .inr h
        · exact absurd h h3
    have ih := pairs_sq (l := l) (D := D.filter o) (fun r hr => hlt r (by simp [hr])) hD1 hs1
    -- the new numbers within another interval
    have hnew : ∀ r ∈ l, (D.filter fun c => !o c).countP (fun c => decide (r.1 ≤ c) && decide (c < r.2)) ≤ (if r.1 < r0.1 ∧ r0.1 < r.2 then 1 else 0) + (if r.1 < r0.2 ∧ r0.2 < r.2 then 1 else 0) := by
      intro r hr
      have hrl := hlt r (by simp [hr])
      have := count_ends (l := [r0]) (q := fun c => decide (r.1 < c) && decide (c < r.2)) (D := D.filter fun c => !o c) hD2 (fun c hc => by
        have := (hs2 c hc).2
        simp [ends]; exact this)
      have e : (D.filter fun c => !o c).countP (fun c => decide (r.1 ≤ c) && decide (c < r.2)) = (D.filter fun c => !o c).countP (fun c => decide (r.1 < c) && decide (c < r.2)) := by
        refine List.countP_congr fun c hc => ?_
        have hc1 : c ≠ r.1 := fun e => (hs2 c hc).1 (by rw [e]; exact List.mem_flatMap.2 ⟨r, hr, by simp⟩)
        simp only [Bool.and_eq_true, decide_eq_true_eq]
        omega
      rw [e]
      simpa [sumNat] using this
    -- the numbers within the new interval
    have hold : inC D r0.1 r0.2 ≤ 1 + sumNat (fun r => (if r0.1 < r.1 ∧ r.1 < r0.2 then 1 else 0) + (if r0.1 < r.2 ∧ r.2 < r0.2 then 1 else 0)) l := by
      have h1 : inC D r0.1 r0.2 ≤ 1 + D.countP (fun c => decide (r0.1 < c) && decide (c < r0.2)) := by
        have h2 : D.countP (fun c => decide (c = r0.1)) ≤ 1 := by
          have := nodup_le (l := D.filter fun c => decide (c = r0.1)) (m := [r0.1]) (hn.sublist List.filter_sublist) fun x hx => by
            have := (List.mem_filter.1 hx).2
            simpa using this
          rw [List.countP_eq_length_filter]; simpa using this
        have h3 : inC D r0.1 r0.2 ≤ D.countP (fun c => decide (c = r0.1)) + D.countP (fun c => decide (r0.1 < c) && decide (c < r0.2)) := by
          unfold inC
          clear hn hs hD hD1 hs1 hD2 hs2 ih hnew h2
          induction D with
          | nil => simp
          | cons c D ih =>
            simp only [List.countP_cons]
            by_cases c1 : c = r0.1
            · subst c1; simp [h0]; omega
            · by_cases c2 : r0.1 < c ∧ c < r0.2
              · simp [c1, c2, Int.le_of_lt c2.1]; omega
              · have : ¬ (r0.1 ≤ c ∧ c < r0.2) := by omega
                simp only [Bool.and_eq_true, decide_eq_true_eq, c1, c2, this, if_false]; omega
        omega
      have h4 : D.countP (fun c => decide (r0.1 < c) && decide (c < r0.2)) ≤ sumNat (fun r => (if r0.1 < r.1 ∧ r.1 < r0.2 then 1 else 0) + (if r0.1 < r.2 ∧ r.2 < r0.2 then 1 else 0)) (r0 :: l) := by
        have := count_ends (l := r0 :: l) (q := fun c => decide (r0.1 < c) && decide (c < r0.2)) hn hs
        simpa using this
      have h5 : sumNat (fun r : Int × Int => (if r0.1 < r.1 ∧ r.1 < r0.2 then 1 else 0) + (if r0.1 < r.2 ∧ r.2 < r0.2 then 1 else 0)) (r0 :: l) = sumNat (fun r => (if r0.1 < r.1 ∧ r.1 < r0.2 then 1 else 0) + (if r0.1 < r.2 ∧ r.2 < r0.2 then 1 else 0)) l := by
        simp only [sumNat]
        rw [if_neg (by omega), if_neg (by omega)]; omega
      omega
    have hsum : sumNat (fun r => inC D r.1 r.2) l ≤ sumNat (fun r => inC (D.filter o) r.1 r.2) l + sumNat (fun r => (if r.1 < r0.1 ∧ r0.1 < r.2 then 1 else 0) + (if r.1 < r0.2 ∧ r0.2 < r.2 then 1 else 0)) l := by
      rw [← sumNat_add]
      refine sumNat_le fun r hr => ?_
      unfold inC
      rw [hD]
      have := hnew r hr
      omega
    have hpair : sumNat (fun r => (if r.1 < r0.1 ∧ r0.1 < r.2 then 1 else 0) + (if r.1 < r0.2 ∧ r0.2 < r.2 then 1 else 0)) l + sumNat (fun r => (if r0.1 < r.1 ∧ r.1 < r0.2 then 1 else 0) + (if r0.1 < r.2 ∧ r.2 < r0.2 then 1 else 0)) l ≤ 2 * l.length := by
      rw [← sumNat_add, ← sumNat_const]
      refine sumNat_le fun r hr => ?_
      have := hlt r (by simp [hr])
      repeat' split
      all_goals omega
    have e : (r0 :: l).length * (r0 :: l).length = l.length * l.length + 2 * l.length + 1 := by
      simp only [List.length_cons, Nat.add_mul, Nat.mul_add]; omega
    rw [e]
    simp only [sumNat]
    omega

/-- What holds at a cell hangs on the rectangles alone that the cell is in. -/
structure Hangs (S : Int → Int → Prop) (l : List Rect) : Prop where
  same : ∀ x y x' y', (∀ r ∈ l, rin r x y ↔ rin r x' y') → (S x y ↔ S x' y')
  none : ∀ x y, (∀ r ∈ l, ¬ rin r x y) → ¬ S x y
theorem rval_before {V : Type} {e : V} : ∀ {l : Runs V}, Canon e l → ∀ {a b : Int} {v : V}, (a, b, v) ∈ l → rval e l (a - 1) ≠ v
  | (c, d, w) :: t, hc, a, b, v, hm => by
    obtain ⟨k1, k2, k3, k4⟩ := hc
    rcases List.mem_cons.1 hm with h | h
    · simp only [Prod.mk.injEq] at h
      obtain ⟨rfl, rfl, rfl⟩ := h
      rw [canon_lt ⟨k1, k2, k3, k4⟩ (by omega)]
      exact fun h => k2 h.symm
    · have ih := rval_before k4 h
      have hst := canon_starts k4 k3 _ h
      simp only at hst
      simp only [rval]
      split
      · rename_i h2
        -- the last place of the first run: the run begins right behind it
        have had : a = d := by omega
        cases t with
        | nil => simp at h
        | cons q t =>
          obtain ⟨c', d', w'⟩ := q
          rcases List.mem_cons.1 h with h' | h'
          · simp only [Prod.mk.injEq] at h'
            obtain ⟨rfl, rfl, rfl⟩ := h'
            rcases k3 with h3 | h3
            · omega
            · exact h3.2
          · have := canon_starts k4.2.2.2 k4.2.2.1 _ h'
            simp only at this
            have h5 := k4.1
            have h6 : d ≤ c' := by rcases k3 with h3 | h3 <;> omega
            omega
      · exact ih
theorem rval_behind {V : Type} {e : V} : ∀ {l : Runs V}, Canon e l → ∀ {a b : Int} {v : V}, (a, b, v) ∈ l → rval e l b ≠ v
  | (c, d, w) :: t, hc, a, b, v, hm => by
    obtain ⟨k1, k2, k3, k4⟩ := hc
    simp only [rval]
    rcases List.mem_cons.1 hm with h | h
    · simp only [Prod.mk.injEq] at h
      obtain ⟨rfl, rfl, rfl⟩ := h
      rw [if_neg (by omega)]
      exact rval_nxt k4 k3 k2
    · have ih := rval_behind k4 h
      have h1 := (canon_mem k4 h).1
      have hst := canon_starts k4 k3 _ h
      simp only at hst
      rw [if_neg (by omega)]
      exact ih
theorem length_flatMap {α β : Type} {g : α → List β} : ∀ {l : List α}, (l.flatMap g).length = sumNat (fun x => (g x).length) l
  | [] => rfl
  | x :: l => by simp only [List.flatMap_cons, List.length_append, sumNat, length_flatMap (l := l)]
theorem starts_nodup {V : Type} {e : V} : ∀ {l : Runs V}, Canon e l → (l.map (·.1)).Nodup
  | [], _ => .nil
  | (a, b, v) :: t, h => by
    obtain ⟨k1, k2, k3, k4⟩ := h
    rw [List.map_cons, List.nodup_cons]
    refine ⟨fun hm => ?_, starts_nodup k4⟩
    obtain ⟨r, hr, he⟩ := List.mem_map.1 hm
    have := canon_starts k4 k3 r hr
    simp only at he; omega
theorem flat_nodup {c : Col} (h : Canon false c) : (c.flatMap fun s => [s.1, s.2.1]).Nodup ∧ (c.flatMap fun s => [s.1, s.2.1]).length = 2 * c.length := by
  have key : ∀ c : Col, Canon false c → (c.flatMap fun s => [s.1, s.2.1]).Pairwise (fun a b => a < b) ∧ (c.flatMap fun s => [s.1, s.2.1]).length = 2 * c.length := by
    intro c
    induction c with
    | nil => intro _; exact ⟨.nil, rfl⟩
    | cons r t ih =>
      obtain ⟨a, b, v⟩ := r
      rintro ⟨k1, k2, k3, k4⟩
      obtain ⟨i1, i2⟩ := ih k4
      have hbt : ∀ x ∈ t.flatMap (fun s => [s.1, s.2.1]), b < x := by
        intro x hx
        obtain ⟨s, hs, hx⟩ := List.mem_flatMap.1 hx
        have h1 := canon_starts k4 k3 s hs
        have h2 := (canon_mem k4 (show (s.1, s.2.1, s.2.2) ∈ t from hs)).1
        have h3 : b < s.1 := by
          cases t with
          | nil => simp at hs
          | cons q t =>
            obtain ⟨c', d', w'⟩ := q
            have hw : b < c' := by
              rcases k3 with h | ⟨_, h⟩
              · exact h
              · exfalso
                have := k4.2.1
                revert h this k2
                cases v <;> cases w' <;> simp
            rcases List.mem_cons.1 hs with rfl | hs
            · exact hw
            · have := canon_starts k4.2.2.2 k4.2.2.1 s hs
              have := k4.1
              omega
        simp at hx
        omega
      refine ⟨?_, by simp only [List.flatMap_cons, List.length_append, List.length_cons, List.length_nil, i2]; omega⟩
      simp only [List.flatMap_cons, List.cons_append, List.nil_append]
      refine List.pairwise_cons.2 ⟨fun x hx => ?_, List.pairwise_cons.2 ⟨hbt, i1⟩⟩
      rcases List.mem_cons.1 hx with rfl | hx
      · exact k1
      · have := hbt x hx; omega
  obtain ⟨h1, h2⟩ := key c h
  exact ⟨h1.imp fun h => Int.ne_of_lt h, h2⟩

theorem col_len {S : Int → Int → Prop} {l : List Rect} (hS : Hangs S l) (hl : ∀ r ∈ l, VR r) {x : Int} {c : Col} (hc : Canon false c) (hv : ∀ y, rval false c y = true ↔ S x y) : c.length ≤ (l.filter fun r => decide (r.X0 ≤ x) && decide (x < r.X1)).length := by
  obtain ⟨h1, h2⟩ := flat_nodup hc
  have hsub : ∀ z ∈ c.flatMap (fun s => [s.1, s.2.1]), z ∈ (l.filter fun r => decide (r.X0 ≤ x) && decide (x < r.X1)).flatMap (fun r => [r.Y0, r.Y1]) := by
    intro z hz
    obtain ⟨s, hs, hz⟩ := List.mem_flatMap.1 hz
    have hst : s.2.2 = true := by
      have := (canon_mem hc (show (s.1, s.2.1, s.2.2) ∈ c from hs)).2
      cases h : s.2.2
      · rw [h] at this; exact absurd rfl this
      · rfl
    have hs' : (s.1, s.2.1, true) ∈ c := by rw [← hst]; exact hs
    have hpos := (canon_mem hc hs').1
    -- something changes at z
    have hch : ¬ (S x z ↔ S x (z - 1)) := by
      rw [← hv, ← hv]
      simp at hz
      rcases hz with rfl | rfl
      · have h3 := rval_before hc hs'
        have h4 := rval_of_mem hc hs' (Int.le_refl _) hpos
        rw [h4]
        cases h5 : rval false c (s.1 - 1)
        · simp
        · exact absurd h5 h3
      · have h3 := rval_behind hc hs'
        have h4 := rval_of_mem hc hs' (show s.1 ≤ s.2.1 - 1 by omega) (by omega)
        rw [h4]
        cases h5 : rval false c s.2.1
        · simp
        · exact absurd h5 h3
    rw [List.mem_flatMap]
    refine Classical.byContradiction fun hno => hch (hS.same _ _ _ _ fun r hr => ?_)
    have hr2 : (r.X0 ≤ x ∧ x < r.X1) → z ≠ r.Y0 ∧ z ≠ r.Y1 := fun hx => by
      have hm : r ∈ l.filter fun r => decide (r.X0 ≤ x) && decide (x < r.X1) := List.mem_filter.2 ⟨hr, by simpa using hx⟩
      exact ⟨fun e => hno ⟨r, hm, by simp [e]⟩, fun e => hno ⟨r, hm, by simp [e]⟩⟩
    unfold rin
    constructor
    · rintro ⟨hx, hy⟩
      have := hr2 hx
      exact ⟨hx, by omega⟩
    · rintro ⟨hx, hy⟩
      have := hr2 hx
      exact ⟨hx, by omega⟩
  have h3 := nodup_le h1 hsub
  have h4 : ∀ m : List Rect, (m.flatMap fun r => [r.Y0, r.Y1]).length = 2 * m.length := by
    intro m
    induction m with
    | nil => rfl
    | cons a m ih => simp only [List.flatMap_cons, List.length_append, List.length_cons, List.length_nil, ih]; omega
  rw [h2, h4] at h3
  omega
theorem form_len {S : Int → Int → Prop} {l out : List Rect} (hS : Hangs S l) (hl : ∀ r ∈ l, VR r) (h : IsForm S out) : out.length ≤ l.length * l.length := by
  obtain ⟨G, h1, h2, h3, rfl⟩ := h
  let P : List (Int × Int) := l.map fun r => (r.X0, r.X1)
  have hPl : P.length = l.length := by simp [P]
  have hcol : ∀ g ∈ G, g.2.2.length ≤ (l.filter fun r => decide (r.X0 ≤ g.1) && decide (g.1 < r.X1)).length := by
    intro g hg
    obtain ⟨a, b, c⟩ := g
    have hab := (canon_mem h1 hg).1
    have hr := rval_of_mem h1 hg (Int.le_refl a) hab
    exact col_len hS hl (h2 a b c hg) fun y => by rw [← hr]; exact h3 a y
  have hstart : ∀ a ∈ G.map (·.1), a ∈ ends P := by
    intro a ha
    obtain ⟨g, hg, rfl⟩ := List.mem_map.1 ha
    obtain ⟨a, b, c⟩ := g
    have hab := (canon_mem h1 hg).1
    have hr := rval_of_mem h1 hg (Int.le_refl a) hab
    have hb := rval_before h1 hg
    dsimp only
    refine Classical.byContradiction fun hno => hb ?_
    rw [← hr]
    refine canon_unique (canon_at h2 _) (canon_at h2 _) fun y => ?_
    rw [Bool.eq_iff_iff, h3, h3]
    refine hS.same _ _ _ _ fun r hr => ?_
    have hm : (r.X0, r.X1) ∈ P := List.mem_map.2 ⟨r, hr, rfl⟩
    have e1 : a ≠ r.X0 := fun e => hno (List.mem_flatMap.2 ⟨_, hm, by simp [e]⟩)
    have e2 : a ≠ r.X1 := fun e => hno (List.mem_flatMap.2 ⟨_, hm, by simp [e]⟩)
    unfold rin
    constructor
    · rintro ⟨hx, hy⟩; exact ⟨by omega, hy⟩
    · rintro ⟨hx, hy⟩; exact ⟨by omega, hy⟩
  have hsq := pairs_sq (l := P) (D := G.map (·.1)) (fun r hr => by
    obtain ⟨q, hq, rfl⟩ := List.mem_map.1 hr
    exact (hl q hq).2.1) (starts_nodup h1) hstart
  rw [hPl] at hsq
  refine Nat.le_trans ?_ hsq
  unfold flatG
  rw [length_flatMap]
  refine Nat.le_trans (sumNat_le (g := fun g => (l.filter fun r => decide (r.X0 ≤ g.1) && decide (g.1 < r.X1)).length) fun g hg => by rw [List.length_map]; exact hcol g hg) ?_
  -- exchange the sums
  have hex : ∀ (m : List Rect) (H : Runs Col), sumNat (fun g => (m.filter fun r => decide (r.X0 ≤ g.1) && decide (g.1 < r.X1)).length) H = sumNat (fun r => inC (H.map (·.1)) r.1 r.2) (m.map fun r => (r.X0, r.X1)) := by
    intro m
    induction m with
    | nil =>
      intro H
      simp only [List.filter_nil, List.length_nil, List.map_nil, sumNat]
      rw [sumNat_const]; simp
    | cons r m ih =>
      intro H
      simp only [List.map_cons, sumNat]
      rw [← ih H]
      have e1 : sumNat (fun g : Int × Int × Col => ((r :: m).filter fun r => decide (r.X0 ≤ g.1) && decide (g.1 < r.X1)).length) H = sumNat (fun g => if (decide (r.X0 ≤ g.1) && decide (g.1 < r.X1)) = true then 1 else 0) H + sumNat (fun g => (m.filter fun r => decide (r.X0 ≤ g.1) && decide (g.1 < r.X1)).length) H := by
        rw [← sumNat_add]
        congr 1
        funext g
        by_cases hp : (decide (r.X0 ≤ g.1) && decide (g.1 < r.X1)) = true
        · rw [List.filter_cons, if_pos hp, if_pos hp, List.length_cons]; omega
        · rw [List.filter_cons, if_neg hp, if_neg hp]; omega
      have e2 : ∀ H : Runs Col, sumNat (fun g : Int × Int × Col => if (decide (r.X0 ≤ g.1) && decide (g.1 < r.X1)) = true then 1 else 0) H = inC (H.map (·.1)) r.X0 r.X1 := by
        intro H
        unfold inC
        induction H with
        | nil => rfl
        | cons g H ihH =>
          simp only [sumNat, List.map_cons, List.countP_cons, ihH]; omega
      rw [e1, e2]
  rw [hex]
  exact Nat.le_refl _

/-- What holds at a cube hangs on the boxes alone that it is in. -/
structure Hangs3 (S : Int → Int → Int → Prop) (l : List Box) : Prop where
  same : ∀ x y z x' y' z', (∀ b ∈ l, (rin b.Base x y ∧ b.Z0 ≤ z ∧ z < b.Z1) ↔ (rin b.Base x' y' ∧ b.Z0 ≤ z' ∧ z' < b.Z1)) → (S x y z ↔ S x' y' z')
  none : ∀ x y z, (∀ b ∈ l, ¬ (rin b.Base x y ∧ b.Z0 ≤ z ∧ z < b.Z1)) → ¬ S x y z
theorem Hangs3.at {S : Int → Int → Int → Prop} {l : List Box} (h : Hangs3 S l) (z : Int) : Hangs (fun x y => S x y z) (bases l z) := by
  have hb : ∀ b ∈ l, (b.Z0 ≤ z ∧ z < b.Z1) → b.Base ∈ bases l z := fun b hb hz => List.mem_map.2 ⟨b, List.mem_filter.2 ⟨hb, by simpa using hz⟩, rfl⟩
  refine ⟨fun x y x' y' he => h.same _ _ _ _ _ _ fun b hbl => ?_, fun x y hno => h.none _ _ _ fun b hbl hh => hno _ (hb b hbl hh.2) hh.1⟩
  constructor
  · rintro ⟨h1, h2⟩; exact ⟨(he _ (hb b hbl h2)).1 h1, h2⟩
  · rintro ⟨h1, h2⟩; exact ⟨(he _ (hb b hbl h2)).2 h1, h2⟩
theorem solid_len {S : Int → Int → Int → Prop} {l : List Box} {out : List Slab} (hS : Hangs3 S l) (hl : ∀ b ∈ l, VB b) (h : IsSolid S out) : out.length ≤ 2 * l.length ∧ ∀ s ∈ out, s.Area.length ≤ l.length * l.length := by
  constructor
  · have h1 := starts_nodup h.canon
    have hsub : ∀ a ∈ (slabRuns out).map (·.1), a ∈ l.flatMap fun b => [b.Z0, b.Z1] := by
      intro a ha
      obtain ⟨g, hg, rfl⟩ := List.mem_map.1 ha
      obtain ⟨a, b, c⟩ := g
      have hab := (canon_mem h.canon hg).1
      have hr := rval_of_mem h.canon hg (Int.le_refl a) hab
      have hb := rval_before h.canon hg
      dsimp only
      refine Classical.byContradiction fun hno => hb ?_
      rw [← hr]
      refine (h.form (a - 1)).unique (h.form a) fun x y => hS.same _ _ _ _ _ _ fun b hb => ?_
      have e1 : a ≠ b.Z0 := fun e => hno (List.mem_flatMap.2 ⟨b, hb, by simp [e]⟩)
      have e2 : a ≠ b.Z1 := fun e => hno (List.mem_flatMap.2 ⟨b, hb, by simp [e]⟩)
      constructor
      · rintro ⟨h1, h2⟩; exact ⟨h1, by omega⟩
      · rintro ⟨h1, h2⟩; exact ⟨h1, by omega⟩
    have h2 := nodup_le h1 hsub
    have h4 : ∀ m : List Box, (m.flatMap fun r => [r.Z0, r.Z1]).length = 2 * m.length := by
      intro m
      induction m with
      | nil => rfl
      | cons a m ih => simp only [List.flatMap_cons, List.length_append, List.length_cons, List.length_nil, ih]; omega
    rw [h4, List.length_map, slabRuns_length] at h2
    exact h2
  · intro s hs
    have hp := (slab_pos h.canon hs).1
    have he := sect_mem h.canon hs (Int.le_refl _) hp
    have := form_len (hS.at s.Z0) (bases_right hl s.Z0) (h.form s.Z0)
    rw [he] at this
    exact Nat.le_trans this (Nat.mul_le_mul (bases_length l s.Z0) (bases_length l s.Z0))
/-- With few boxes no limit is met. -/
theorem slim_few {S : Int → Int → Int → Prop} {l : List Box} {out : List Slab} (hS : Hangs3 S l) (hl : ∀ b ∈ l, VB b) (h : IsSolid S out) (hn : l.length ≤ 14) : SS out ∧ slim out = (out, 0) := by
  obtain ⟨h1, h2⟩ := solid_len hS hl h
  have hsq : l.length * l.length ≤ 14 * 14 := Nat.mul_le_mul (by omega) (by omega)
  have hex : ∀ {x y z : Int}, S x y z → ∃ b ∈ l, rin b.Base x y ∧ b.Z0 ≤ z ∧ z < b.Z1 := fun {x y z} hs => Classical.byContradiction fun hno => hS.none x y z (fun b hb hh => hno ⟨b, hb, hh⟩) hs
  have hSS : SS out := by
    refine ⟨by omega, h.canon, fun s hs => ?_⟩
    obtain ⟨hp, hne⟩ := slab_pos h.canon hs
    have hf := h.form s.Z0
    rw [sect_mem h.canon hs (Int.le_refl _) hp] at hf
    have hf1 := h.form (s.Z1 - 1)
    rw [sect_mem h.canon hs (by omega) (by omega)] at hf1
    have hpos := form_rect hf
    obtain ⟨r, hr⟩ := List.exists_mem_of_ne_nil _ hne
    have hrp := hpos r hr
    obtain ⟨b, hb, hb1, hb2⟩ := hex ((hf.cells r.X0 r.Y0).1 ⟨r, hr, ⟨Int.le_refl _, hrp.1⟩, Int.le_refl _, hrp.2⟩)
    obtain ⟨b', hb', hb1', hb2'⟩ := hex ((hf1.cells r.X0 r.Y0).1 ⟨r, hr, ⟨Int.le_refl _, hrp.1⟩, Int.le_refl _, hrp.2⟩)
    have v1 := hl b hb; have v2 := hl b' hb'
    unfold VB at v1 v2
    refine ⟨by omega, by omega, RR.of_form hf (fun q hq => ?_) (by have := h2 s hs; omega)⟩
    have hqp := hpos q hq
    obtain ⟨c, hc, hc1, _⟩ := hex ((hf.cells q.X0 q.Y0).1 ⟨q, hq, ⟨Int.le_refl _, hqp.1⟩, Int.le_refl _, hqp.2⟩)
    obtain ⟨d, hd, hd1, _⟩ := hex ((hf.cells (q.X1 - 1) (q.Y1 - 1)).1 ⟨q, hq, ⟨by omega, by omega⟩, by omega, by omega⟩)
    have w1 := (hl c hc).1; have w2 := (hl d hd).1
    unfold VR at w1 w2 ⊢
    unfold rin at hc1 hd1
    omega
  exact ⟨hSS, slim_fine hSS⟩
theorem bcells_hangs (l : List Box) : Hangs3 (bcells l) l :=
  ⟨fun x y z x' y' z' h => exists_congr fun b => and_congr_right fun hb => h b hb, fun x y z h ⟨b, hb, hh⟩ => h b hb hh⟩
theorem Hangs3.mono {S : Int → Int → Int → Prop} {l m : List Box} (h : Hangs3 S l) (hs : ∀ b ∈ l, b ∈ m) : Hangs3 S m :=
  ⟨fun x y z x' y' z' he => h.same _ _ _ _ _ _ fun b hb => he b (hs b hb), fun x y z hn => h.none x y z fun b hb => hn b (hs b hb)⟩
theorem Hangs3.op {S T : Int → Int → Int → Prop} [∀ x y z, Decidable (S x y z)] [∀ x y z, Decidable (T x y z)] {l : List Box} (h : Hangs3 S l) (g : Hangs3 T l) (op : Int) : Hangs3 (fun x y z => opB op (decide (S x y z)) (decide (T x y z)) = true) l := by
  refine ⟨fun x y z x' y' z' he => ?_, fun x y z hn => ?_⟩
  · have e1 : decide (S x y z) = decide (S x' y' z') := by rw [decide_eq_decide]; exact h.same _ _ _ _ _ _ he
    have e2 : decide (T x y z) = decide (T x' y' z') := by rw [decide_eq_decide]; exact g.same _ _ _ _ _ _ he
    rw [e1, e2]
  · have e1 : decide (S x y z) = false := by rw [decide_eq_false_iff_not]; exact h.none _ _ _ hn
    have e2 : decide (T x y z) = false := by rw [decide_eq_false_iff_not]; exact g.none _ _ _ hn
    rw [e1, e2, opB_false]; simp
theorem Hangs3.congr {S T : Int → Int → Int → Prop} {l : List Box} (h : Hangs3 S l) (he : ∀ x y z, S x y z ↔ T x y z) : Hangs3 T l :=
  ⟨fun x y z x' y' z' hh => by rw [← he, ← he]; exact h.same _ _ _ _ _ _ hh, fun x y z hn => by rw [← he]; exact h.none _ _ _ hn⟩
end Go.Proofs.Ytbpecfmimgjakaa

namespace Go.Proofs.Ytbpecfmimgjakaa
open Go.Gb
set_option linter.unusedVariables false
set_option linter.unusedSimpArgs false
set_option linter.unusedSectionVars false
set_option maxRecDepth 100000
theorem bases_snoc (l : List Box) (z : Int) {i : Nat} (hi : i < l.length) :
    bases (l.take (i + 1)) z = bases (l.take i) z ++ (if l[i].Z0 ≤ z ∧ z < l[i].Z1 then [l[i].Base] else []) := by
  unfold bases
  rw [List.take_succ_eq_append_getElem hi, List.filter_append, List.map_append]
  congr 1
  by_cases h : l[i].Z0 ≤ z ∧ z < l[i].Z1
  · rw [if_pos h]; simp [h]
  · rw [if_neg h]
    simp only [List.filter_cons, List.filter_nil]
    rw [if_neg (by simpa using h)]; rfl
end Go.Proofs.Ytbpecfmimgjakaa

namespace Go.Proofs.Ytbpecfmimgjakaa
open Go.Gb
set_option linter.unusedVariables false
set_option linter.unusedSimpArgs false
set_option linter.unusedSectionVars false
set_option maxRecDepth 100000
/-- This solid has these cubes, and its borders are those of these boxes. -/
structure Mk (l : List Box) (S : Int → Int → Int → Bool) (s : List Slab) : Prop where
  vb : ∀ b ∈ l, VB b
  ss : SS s
  is : IsSolid (fun x y z => S x y z = true) s
  hang : Hangs3 (fun x y z => S x y z = true) l
theorem Mk.op {l : List Box} {S T : Int → Int → Int → Bool} {a b : List Slab} (h : Mk l S a) (g : Mk l T b) (hn : l.length ≤ 14) (op : Int) :
    ∃ s, Mk l (fun x y z => opB op (S x y z) (T x y z)) s ∧ solidOp op a b = some (s, 0) := by
  obtain ⟨out, h1, h2⟩ := solidOp_fine (op := op) h.ss g.ss
  have e : ∀ x y z, sopS op a b x y z ↔ opB op (S x y z) (T x y z) = true := by
    intro x y z
    unfold sopS
    have e1 : decide (scells a x y z) = S x y z := by rw [Bool.eq_iff_iff, decide_eq_true_iff]; exact h.is.cells x y z
    have e2 : decide (scells b x y z) = T x y z := by rw [Bool.eq_iff_iff, decide_eq_true_iff]; exact g.is.cells x y z
    rw [e1, e2]
  have hh : Hangs3 (fun x y z => opB op (S x y z) (T x y z) = true) l := (h.hang.op g.hang op).congr fun x y z => by
    rw [Bool.decide_eq_true, Bool.decide_eq_true]
  have h1' := h1.congr e
  obtain ⟨h3, h4⟩ := slim_few hh h.vb h1' hn
  exact ⟨out, ⟨h.vb, h3, h1', hh⟩, by rw [h2, h4]⟩
section
variable {l m : List Box} {S T : Int → Int → Int → Bool} {a b : List Slab}
theorem Mk.mono (h : Mk l S a) (hs : ∀ b ∈ l, b ∈ m) (hv : ∀ b ∈ m, VB b) : Mk m S a := ⟨hv, h.ss, h.is, h.hang.mono hs⟩
theorem Mk.right (h : Mk l S a) : solid_Right a = some true := solid_Right_true h.ss
theorem Mk.same (h : Mk l S a) (b : List Slab) : solid_Same a b = some (decide (a = b)) :=
  solid_Same_eq (by have := h.ss.len; omega) fun s hs => by have := (h.ss.ok s hs).2.2.2.1; omega
theorem Mk.nil (hv : ∀ b ∈ l, VB b) : Mk l (fun _ _ _ => false) [] := by
  refine ⟨hv, ssB_spec (by decide), (ssB_spec (s := []) (by decide)).solid.congr fun x y z => ?_, ⟨by simp, by simp⟩⟩
  rw [scells_iff, sect_nil]
  simp [cells]
end
end Go.Proofs.Ytbpecfmimgjakaa

namespace Go.Proofs.Ytbpecfmimgjakaa
open Go.Gb
set_option linter.unusedVariables false
set_option linter.unusedSimpArgs false
set_option linter.unusedSectionVars false
set_option maxRecDepth 100000
theorem rRightBox_eq (b : Box) : ref09_RightBox b = some (decide (VB b)) := by
  unfold ref09_RightBox ref06_RightRect
  rw [Option.bind_some]
  congr 1
  rw [Bool.eq_iff_iff, decide_eq_true_iff]
  unfold VB VR
  simp only [Bool.and_eq_true, decide_eq_true_eq]
  omega
end Go.Proofs.Ytbpecfmimgjakaa

namespace Go.Proofs.Ytbpecfmimgjakaa
open Go.Gb
set_option linter.unusedVariables false
set_option linter.unusedSimpArgs false
set_option linter.unusedSectionVars false
set_option maxRecDepth 100000
def sg (x y : Int) : Int := if x < y then -1 else if y < x then 1 else 0
theorem cmp_eq (x y : Int) : cmp_Compare_int x y = some (sg x y) := by
  unfold cmp_Compare_int cmp_isNaN_int sg
  simp only [bne_self_eq_false, Option.bind_some, decide_eq_true_eq]
  rw [if_neg (by simp), if_neg (by simp)]
  split
  · rfl
  · split <;> rfl
theorem mul_bounds {x y M : Int} (h0 : -M ≤ x) (h1 : x ≤ M) (h2 : 0 ≤ y) (h3 : y ≤ M) : -(M * M) ≤ x * y ∧ x * y ≤ M * M := by
  have a1 := Int.mul_le_mul_of_nonneg_right h0 h2
  have a2 := Int.mul_le_mul_of_nonneg_right h1 h2
  have a3 : M * y ≤ M * M := Int.mul_le_mul_of_nonneg_left h3 (by omega)
  constructor
  · have : -M * y = -(M * y) := Int.neg_mul M y
    omega
  · omega

/-! bounds -/
theorem cross_lt {n1 d1 n2 d2 p q : Int} (hd1 : 0 < d1) (hd2 : 0 < d2) (hq : 0 < q) (h : n1 * d2 < n2 * d1) (g : n2 * q ≤ p * d2) : n1 * q < p * d1 := by
  rcases Int.lt_or_le (n1 * q) (p * d1) with h0 | h0
  · exact h0
  · have e1 := Int.mul_le_mul_of_nonneg_right h0 (Int.le_of_lt hd2)
    have e2 := Int.mul_lt_mul_of_pos_right h hq
    have e3 := Int.mul_le_mul_of_nonneg_right g (Int.le_of_lt hd1)
    grind
theorem cross_gt {n1 d1 n2 d2 p q : Int} (hd1 : 0 < d1) (hd2 : 0 < d2) (hq : 0 < q) (h : n2 * d1 < n1 * d2) (g : p * d2 ≤ n2 * q) : p * d1 < n1 * q := by
  rcases Int.lt_or_le (p * d1) (n1 * q) with h0 | h0
  · exact h0
  · have e1 := Int.mul_le_mul_of_nonneg_right h0 (Int.le_of_lt hd2)
    have e2 := Int.mul_lt_mul_of_pos_right h hq
    have e3 := Int.mul_le_mul_of_nonneg_right g (Int.le_of_lt hd1)
    grind
theorem cross_eq {n1 d1 n2 d2 p q : Int} (hd1 : 0 < d1) (hd2 : 0 < d2) (h : n1 * d2 = n2 * d1) (g : n2 * q ≤ p * d2) : n1 * q ≤ p * d1 := by
  rcases Int.lt_or_le (p * d1) (n1 * q) with h0 | h0
  · have e1 := Int.mul_lt_mul_of_pos_right h0 hd2
    have e3 := Int.mul_le_mul_of_nonneg_right g (Int.le_of_lt hd1)
    have e4 : n1 * d2 * q = n2 * d1 * q := by rw [h]
    grind
  · exact h0
theorem cross_eq' {n1 d1 n2 d2 p q : Int} (hd1 : 0 < d1) (hd2 : 0 < d2) (h : n1 * d2 = n2 * d1) (g : p * d2 ≤ n2 * q) : p * d1 ≤ n1 * q := by
  rcases Int.lt_or_le (n1 * q) (p * d1) with h0 | h0
  · have e1 := Int.mul_lt_mul_of_pos_right h0 hd2
    have e3 := Int.mul_le_mul_of_nonneg_right g (Int.le_of_lt hd1)
    have e4 : n1 * d2 * q = n2 * d1 * q := by rw [h]
    grind
  · exact h0
/-- p/q is above, below a bound n/d -/
def loR (n d : Int) (o : Bool) (p q : Int) : Prop := n * q ≤ p * d ∧ (o = true → n * q < p * d)
def hiR (n d : Int) (o : Bool) (p q : Int) : Prop := p * d ≤ n * q ∧ (o = true → p * d < n * q)
def nK (n d : Int) : Prop := 0 < d ∧ d ≤ 4194304 ∧ -4194304 ≤ n ∧ n ≤ 4194304
section
variable {n1 d1 n2 d2 p q : Int} {o1 o2 : Bool}
theorem nK.mul (h : nK n1 d1) (g : nK n2 d2) : mulI n1 d2 = some (n1 * d2) := by
  have := mul_bounds (x := n1) (y := d2) (M := 4194304) h.2.2.1 h.2.2.2 (Int.le_of_lt g.1) g.2.1
  exact mulI_some (by unfold inI; omega)
theorem lo_lt (h : nK n1 d1) (g : nK n2 d2) (hq : 0 < q) (hc : n1 * d2 < n2 * d1) (hx : loR n2 d2 o2 p q) : loR n1 d1 o1 p q := by
  have := cross_lt h.1 g.1 hq hc hx.1
  exact ⟨by omega, fun _ => this⟩
theorem lo_eq (h : nK n1 d1) (g : nK n2 d2) (hc : n1 * d2 = n2 * d1) : (n1 * q ≤ p * d1 ↔ n2 * q ≤ p * d2) ∧ (n1 * q < p * d1 ↔ n2 * q < p * d2) := by
  have a := cross_eq (p := p) (q := q) h.1 g.1 hc
  have b := cross_eq (p := p) (q := q) g.1 h.1 hc.symm
  have c := cross_eq' (p := p) (q := q) h.1 g.1 hc
  have d := cross_eq' (p := p) (q := q) g.1 h.1 hc.symm
  refine ⟨⟨b, a⟩, ⟨fun x => ?_, fun x => ?_⟩⟩
  · rcases Int.lt_or_le (n2 * q) (p * d2) with y | y
    · exact y
    · have := c y; omega
  · rcases Int.lt_or_le (n1 * q) (p * d1) with y | y
    · exact y
    · have := d y; omega
theorem lo_or (h : nK n1 d1) (g : nK n2 d2) (hc : n1 * d2 = n2 * d1) : loR n1 d1 (o1 || o2) p q ↔ loR n1 d1 o1 p q ∧ loR n2 d2 o2 p q := by
  obtain ⟨a, b⟩ := lo_eq (p := p) (q := q) h g hc
  unfold loR
  rw [← a, ← b]
  cases o1 <;> cases o2 <;> simp <;> intro h0 _ <;> exact h0
theorem hi_lt (h : nK n1 d1) (g : nK n2 d2) (hq : 0 < q) (hc : n2 * d1 < n1 * d2) (hx : hiR n2 d2 o2 p q) : hiR n1 d1 o1 p q := by
  have := cross_gt h.1 g.1 hq hc hx.1
  exact ⟨by omega, fun _ => this⟩
theorem hi_eq (h : nK n1 d1) (g : nK n2 d2) (hc : n1 * d2 = n2 * d1) : (p * d1 ≤ n1 * q ↔ p * d2 ≤ n2 * q) ∧ (p * d1 < n1 * q ↔ p * d2 < n2 * q) := by
  obtain ⟨a, b⟩ := lo_eq (p := p) (q := q) h g hc
  constructor
  · constructor
    · intro x; rcases Int.lt_or_le (n2 * q) (p * d2) with y | y
      · have := b.2 y; omega
      · exact y
    · intro x; rcases Int.lt_or_le (n1 * q) (p * d1) with y | y
      · have := b.1 y; omega
      · exact y
  · constructor
    · intro x; rcases Int.lt_or_le (p * d2) (n2 * q) with y | y
      · exact y
      · have := a.2 y; omega
    · intro x; rcases Int.lt_or_le (p * d1) (n1 * q) with y | y
      · exact y
      · have := a.1 y; omega
theorem hi_or (h : nK n1 d1) (g : nK n2 d2) (hc : n1 * d2 = n2 * d1) : hiR n1 d1 (o1 || o2) p q ↔ hiR n1 d1 o1 p q ∧ hiR n2 d2 o2 p q := by
  obtain ⟨a, b⟩ := hi_eq (p := p) (q := q) h g hc
  unfold hiR
  rw [← a, ← b]
  cases o1 <;> cases o2 <;> simp <;> intro h0 _ <;> exact h0
/-- nothing lies between bounds in the wrong order; something does in the right one -/
theorem gap_none (h : nK n1 d1) (g : nK n2 d2) (hq : 0 < q) (hl : loR n1 d1 o1 p q) (hh : hiR n2 d2 o2 p q) : n1 * d2 ≤ n2 * d1 ∧ ((o1 = true ∨ o2 = true) → n1 * d2 < n2 * d1) := by
  constructor
  · rcases Int.lt_or_le (n2 * d1) (n1 * d2) with x | x
    · have := cross_gt h.1 g.1 hq x hh.1
      have := hl.1
      omega
    · exact x
  · intro ho
    rcases Int.lt_trichotomy (n1 * d2) (n2 * d1) with x | x | x
    · exact x
    · obtain ⟨a, b⟩ := hi_eq (p := p) (q := q) h g x
      rcases ho with ho | ho
      · have := hl.2 ho; have := a.2 hh.1; omega
      · have := b.2 (hh.2 ho); have := hl.1; omega
    · have := cross_gt h.1 g.1 hq x hh.1
      have := hl.1
      omega
theorem gap_some (h : nK n1 d1) (g : nK n2 d2) (hc : n1 * d2 < n2 * d1 ∨ (n1 * d2 = n2 * d1 ∧ o1 = false ∧ o2 = false)) : ∃ p q, 0 < q ∧ loR n1 d1 o1 p q ∧ hiR n2 d2 o2 p q := by
  rcases hc with hc | ⟨hc, rfl, rfl⟩
  · refine ⟨n1 * d2 + n2 * d1, 2 * (d1 * d2), by have := Int.mul_pos h.1 g.1; omega, ?_, ?_⟩
    · have e := Int.mul_lt_mul_of_pos_right hc h.1
      have : n1 * (2 * (d1 * d2)) < (n1 * d2 + n2 * d1) * d1 := by grind
      exact ⟨by omega, fun _ => this⟩
    · have e := Int.mul_lt_mul_of_pos_right hc g.1
      have : (n1 * d2 + n2 * d1) * d2 < n2 * (2 * (d1 * d2)) := by grind
      exact ⟨by omega, fun _ => this⟩
  · exact ⟨n1, d1, h.1, ⟨Int.le_refl _, by simp⟩, ⟨by omega, by simp⟩⟩
theorem top_some (h : nK n1 d1) : ∃ p q, 0 < q ∧ loR n1 d1 o1 p q := by
  refine ⟨n1 + d1, d1, h.1, ?_⟩
  have e := Int.mul_pos h.1 h.1
  have : n1 * d1 < (n1 + d1) * d1 := by grind
  exact ⟨by omega, fun _ => this⟩
/-- what it means that at + t * by is in a range -/
theorem lo_pos {at' by' from' : Int} (hb : 0 < by') : loR (from' - at') by' false p q ↔ from' * q ≤ at' * q + by' * p := by
  unfold loR
  constructor
  · intro h; have := h.1; grind
  · intro h; refine ⟨?_, by simp⟩; grind
theorem hi_pos {at' by' to' : Int} (hb : 0 < by') : hiR (to' - at') by' true p q ↔ at' * q + by' * p < to' * q := by
  unfold hiR
  constructor
  · intro h; have := h.2 rfl; grind
  · intro h; have : p * by' < (to' - at') * q := by grind
    exact ⟨by omega, fun _ => this⟩
theorem lo_neg {at' by' to' : Int} : loR (at' - to') (0 - by') true p q ↔ at' * q + by' * p < to' * q := by
  unfold loR
  constructor
  · intro h; have := h.2 rfl; grind
  · intro h; have : (at' - to') * q < p * (0 - by') := by grind
    exact ⟨by omega, fun _ => this⟩
theorem hi_neg {at' by' from' : Int} : hiR (at' - from') (0 - by') false p q ↔ from' * q ≤ at' * q + by' * p := by
  unfold hiR
  constructor
  · intro h; have := h.1; grind
  · intro h; refine ⟨?_, by simp⟩; grind
end
end Go.Proofs.Ytbpecfmimgjakaa

namespace Go.Proofs.Ytbpecfmimgjakaa
open Go.Gb
set_option linter.unusedVariables false
set_option linter.unusedSimpArgs false
set_option linter.unusedSectionVars false
set_option maxRecDepth 100000
theorem sg_pos {a b : Int} : 0 < sg a b ↔ b < a := by unfold sg; split <;> (try split) <;> omega
theorem sg_neg {a b : Int} : sg a b < 0 ↔ a < b := by unfold sg; split <;> (try split) <;> omega
theorem sg_zero {a b : Int} : sg a b = 0 ↔ a = b := by unfold sg; split <;> (try split) <;> omega
def bK (x : SightBound) : Prop := nK x.n x.d
def IvK (i : SightInterval) : Prop := bK i.lo ∧ (i.top = true → bK i.hi)
def Mem (i : SightInterval) (p q : Int) : Prop := i.none_ = false ∧ loR i.lo.n i.lo.d i.lo.open_ p q ∧ (i.top = true → hiR i.hi.n i.hi.d i.hi.open_ p q)
theorem compare_eq {x y : SightBound} (hx : bK x) (hy : bK y) : sight_bound_compare x y = some (sg (x.n * y.d) (y.n * x.d)) := by
  unfold sight_bound_compare
  rw [nK.mul hx hy, Option.bind_some, nK.mul hy hx, Option.bind_some, cmp_eq, Option.bind_some]
theorem above_eq {i : SightInterval} {b : SightBound} (hi : IvK i) (hb : bK b) :
    ∃ j, sight_interval_above i b = some j ∧ IvK j ∧ j.top = i.top ∧ ∀ p q, 0 < q → (Mem j p q ↔ Mem i p q ∧ loR b.n b.d b.open_ p q) := by
  unfold sight_interval_above
  rw [compare_eq hb hi.1, Option.bind_some]
  by_cases c1 : i.lo.n * b.d < b.n * i.lo.d
  · rw [if_pos (by rw [decide_eq_true_iff]; exact sg_pos.2 c1), Option.bind_some]
    refine ⟨_, rfl, ⟨hb, hi.2⟩, rfl, fun p q hq => ?_⟩
    unfold Mem
    dsimp only
    constructor
    · rintro ⟨h1, h2, h3⟩
      exact ⟨⟨h1, lo_lt hi.1 hb hq c1 h2, h3⟩, h2⟩
    · rintro ⟨⟨h1, _, h3⟩, h2⟩
      exact ⟨h1, h2, h3⟩
  · rw [if_neg (by rw [decide_eq_true_iff]; exact fun h => c1 (sg_pos.1 h))]
    by_cases c2 : b.n * i.lo.d = i.lo.n * b.d
    · rw [if_pos (by rw [beq_iff_eq]; exact sg_zero.2 c2), Option.bind_some, Option.bind_some]
      refine ⟨_, rfl, ⟨hi.1, hi.2⟩, rfl, fun p q hq => ?_⟩
      unfold Mem
      dsimp only
      rw [lo_or hi.1 hb c2.symm]
      constructor
      · rintro ⟨h1, ⟨h2, h4⟩, h3⟩
        exact ⟨⟨h1, h2, h3⟩, h4⟩
      · rintro ⟨⟨h1, h2, h3⟩, h4⟩
        exact ⟨h1, ⟨h2, h4⟩, h3⟩
    · rw [if_neg (by rw [beq_iff_eq]; exact fun h => c2 (sg_zero.1 h)), Option.bind_some, Option.bind_some]
      refine ⟨_, rfl, hi, rfl, fun p q hq => ⟨fun h => ⟨h, ?_⟩, fun h => h.1⟩⟩
      exact lo_lt hb hi.1 hq (by omega) h.2.1
theorem below_eq {i : SightInterval} {b : SightBound} (hi : IvK i) (hb : bK b) :
    ∃ j, sight_interval_below i b = some j ∧ IvK j ∧ j.top = true ∧ ∀ p q, 0 < q → (Mem j p q ↔ Mem i p q ∧ hiR b.n b.d b.open_ p q) := by
  unfold sight_interval_below
  by_cases ht : i.top = true
  · have hh := hi.2 ht
    rw [if_pos ht, compare_eq hb hh, Option.bind_some, Option.bind_some]
    by_cases c1 : b.n * i.hi.d < i.hi.n * b.d
    · rw [if_pos (by rw [decide_eq_true_iff]; exact sg_neg.2 c1), Option.bind_some]
      refine ⟨_, rfl, ⟨hi.1, fun _ => hb⟩, rfl, fun p q hq => ?_⟩
      unfold Mem
      dsimp only
      constructor
      · rintro ⟨h1, h2, h3⟩
        exact ⟨⟨h1, h2, fun _ => hi_lt hh hb hq (by omega) (h3 rfl)⟩, h3 rfl⟩
      · rintro ⟨⟨h1, h2, _⟩, h3⟩
        exact ⟨h1, h2, fun _ => h3⟩
    · rw [if_neg (by rw [decide_eq_true_iff]; exact fun h => c1 (sg_neg.1 h))]
      by_cases c2 : b.n * i.hi.d = i.hi.n * b.d
      · rw [if_pos (by rw [beq_iff_eq]; exact sg_zero.2 c2), Option.bind_some, Option.bind_some]
        refine ⟨_, rfl, ⟨hi.1, fun _ => hh⟩, ht, fun p q hq => ?_⟩
        unfold Mem
        dsimp only
        rw [hi_or hh hb c2.symm]
        constructor
        · rintro ⟨h1, h2, h3⟩
          exact ⟨⟨h1, h2, fun h => (h3 h).1⟩, (h3 ht).2⟩
        · rintro ⟨⟨h1, h2, h3⟩, h4⟩
          exact ⟨h1, h2, fun h => ⟨h3 h, h4⟩⟩
      · rw [if_neg (by rw [beq_iff_eq]; exact fun h => c2 (sg_zero.1 h)), Option.bind_some, Option.bind_some]
        refine ⟨_, rfl, hi, ht, fun p q hq => ⟨fun h => ⟨h, ?_⟩, fun h => h.1⟩⟩
        exact hi_lt hb hh hq (by omega) (h.2.2 ht)
  · rw [if_neg ht, Option.bind_some, if_pos (by decide), Option.bind_some]
    refine ⟨_, rfl, ⟨hi.1, fun _ => hb⟩, rfl, fun p q hq => ?_⟩
    unfold Mem
    dsimp only
    constructor
    · rintro ⟨h1, h2, h3⟩
      exact ⟨⟨h1, h2, fun h => absurd h ht⟩, h3 rfl⟩
    · rintro ⟨⟨h1, h2, _⟩, h3⟩
      exact ⟨h1, h2, fun _ => h3⟩
/-- coordinates, and steps, that can be reckoned with -/
def cK (x : Int) : Prop := -2097152 ≤ x ∧ x ≤ 2097152
theorem narrow_eq {i : SightInterval} {at' by' from' to' : Int} (hi : IvK i) (h1 : cK at') (h2 : cK by') (h3 : cK from') (h4 : cK to') :
    ∃ j, sight_interval_narrow i at' by' from' to' = some j ∧ IvK j ∧ (i.top = true → j.top = true) ∧ ∀ p q, 0 < q → (Mem j p q ↔ Mem i p q ∧ from' * q ≤ at' * q + by' * p ∧ at' * q + by' * p < to' * q) := by
  unfold cK at h1 h2 h3 h4
  unfold sight_interval_narrow
  by_cases c1 : 0 < by'
  · rw [if_pos (by simpa using c1), subI_some (by unfold inI; omega), Option.bind_some]
    obtain ⟨j, e1, e2, e3, e4⟩ := above_eq (b := ⟨from' - at', by', false⟩) hi (by unfold bK nK; dsimp only; omega)
    rw [e1, Option.bind_some, subI_some (by unfold inI; omega), Option.bind_some]
    obtain ⟨j', g1, g2, g3, g4⟩ := below_eq (b := ⟨to' - at', by', true⟩) e2 (by unfold bK nK; dsimp only; omega)
    rw [g1, Option.bind_some, Option.bind_some]
    refine ⟨j', rfl, g2, fun _ => g3, fun p q hq => ?_⟩
    rw [g4 p q hq, e4 p q hq]
    dsimp only
    rw [lo_pos c1, hi_pos c1, and_assoc]
  · rw [if_neg (by simpa using c1)]
    by_cases c2 : by' < 0
    · rw [if_pos (by simpa using c2), subI_some (by unfold inI; omega), Option.bind_some, subI_some (by unfold inI; omega), Option.bind_some]
      obtain ⟨j, e1, e2, e3, e4⟩ := above_eq (b := ⟨at' - to', 0 - by', true⟩) hi (by unfold bK nK; dsimp only; omega)
      rw [e1, Option.bind_some, subI_some (by unfold inI; omega), Option.bind_some, Option.bind_some]
      obtain ⟨j', g1, g2, g3, g4⟩ := below_eq (b := ⟨at' - from', 0 - by', false⟩) e2 (by unfold bK nK; dsimp only; omega)
      rw [g1, Option.bind_some, Option.bind_some, Option.bind_some]
      refine ⟨j', rfl, g2, fun _ => g3, fun p q hq => ?_⟩
      rw [g4 p q hq, e4 p q hq]
      dsimp only
      rw [lo_neg, hi_neg, and_assoc]
      exact and_congr_right fun _ => and_comm
    · have hb : by' = 0 := by omega
      subst hb
      rw [if_neg (by simp)]
      by_cases c3 : at' < from' ∨ to' ≤ at'
      · rw [if_pos (by simpa using c3), Option.bind_some, Option.bind_some, Option.bind_some]
        refine ⟨_, rfl, hi, fun h => h, fun p q hq => ?_⟩
        unfold Mem
        dsimp only
        constructor
        · rintro ⟨h, _⟩; simp at h
        · rintro ⟨_, g1, g2⟩
          rw [Int.zero_mul, Int.add_zero] at g1 g2
          have a1 := Int.le_of_mul_le_mul_right g1 hq
          have a2 := Int.lt_of_mul_lt_mul_right g2 (Int.le_of_lt hq)
          omega
      · rw [if_neg (by simpa using c3), Option.bind_some, Option.bind_some, Option.bind_some]
        refine ⟨_, rfl, hi, fun h => h, fun p q hq => ⟨fun h => ⟨h, ?_, ?_⟩, fun h => h.1⟩⟩
        · rw [Int.zero_mul, Int.add_zero]; exact Int.mul_le_mul_of_nonneg_right (by omega) (Int.le_of_lt hq)
        · rw [Int.zero_mul, Int.add_zero]; exact Int.mul_lt_mul_of_pos_right (by omega) hq
theorem empty_eq {i : SightInterval} (hi : IvK i) : ∃ e, sight_interval_empty i = some e ∧ (e = false ↔ ∃ p q, 0 < q ∧ Mem i p q) := by
  unfold sight_interval_empty
  by_cases hn : i.none_ = true
  · rw [if_pos (by simp [hn])]
    exact ⟨_, rfl, by simp [hn], fun ⟨p, q, _, h⟩ => by have := h.1; rw [hn] at this; simp at this⟩
  · by_cases ht : i.top = true
    · have hh := hi.2 ht
      rw [if_neg (by simp [hn, ht]), compare_eq hi.1 hh, Option.bind_some]
      refine ⟨_, rfl, ?_⟩
      have hn' : i.none_ = false := by simpa using hn
      constructor
      · intro h
        simp only [Bool.or_eq_false_iff, decide_eq_false_iff_not, Bool.and_eq_false_iff, beq_eq_false_iff_ne] at h
        rw [sg_pos] at h
        obtain ⟨p, q, hq, h1, h2⟩ := gap_some (o1 := i.lo.open_) (o2 := i.hi.open_) hi.1 hh (by
          rcases Int.lt_trichotomy (i.lo.n * i.hi.d) (i.hi.n * i.lo.d) with x | x | x
          · exact .inl x
          · right
            rcases h.2 with h' | h'
            · exact absurd (sg_zero.2 x) h'
            · exact ⟨x, h'⟩
          · exact absurd x h.1)
        exact ⟨p, q, hq, hn', h1, fun _ => h2⟩
      · rintro ⟨p, q, hq, _, h1, h2⟩
        obtain ⟨g1, g2⟩ := gap_none hi.1 hh hq h1 (h2 ht)
        simp only [Bool.or_eq_false_iff, decide_eq_false_iff_not, Bool.and_eq_false_iff, beq_eq_false_iff_ne]
        rw [sg_pos]
        refine ⟨by omega, ?_⟩
        by_cases ho : i.lo.open_ = true ∨ i.hi.open_ = true
        · left
          intro hz
          have := g2 ho
          rw [sg_zero] at hz
          omega
        · right
          simpa using ho
    · rw [if_pos (by simp [ht])]
      have hn' : i.none_ = false := by simpa using hn
      refine ⟨_, rfl, fun _ => ?_, fun _ => hn'⟩
      obtain ⟨p, q, hq, h⟩ := top_some (o1 := i.lo.open_) hi.1
      exact ⟨p, q, hq, hn', h, fun h => absurd h ht⟩

/-! boxes -/
/-- p + (a/b) v is in a box -/
def inBox (x : Box) (p v : Point3) (a b : Int) : Prop :=
  (x.Base.X0 * b ≤ p.X * b + v.X * a ∧ p.X * b + v.X * a < x.Base.X1 * b) ∧ (x.Base.Y0 * b ≤ p.Y * b + v.Y * a ∧ p.Y * b + v.Y * a < x.Base.Y1 * b) ∧ (x.Z0 * b ≤ p.Z * b + v.Z * a ∧ p.Z * b + v.Z * a < x.Z1 * b)
def pK (p : Point3) : Prop := cK p.X ∧ cK p.Y ∧ cK p.Z
theorem boxK {x : Box} (h : VB x) : cK x.Base.X0 ∧ cK x.Base.X1 ∧ cK x.Base.Y0 ∧ cK x.Base.Y1 ∧ cK x.Z0 ∧ cK x.Z1 := by
  unfold VB VR at h; unfold cK; omega
theorem meets_L0_eq {p v : Point3} {t : SightInterval} {l : List Box} (hp : pK p) (hv : pK v) (ht : IvK t) (hl : ∀ x ∈ l, VB x) (hn : l.length ≤ 1000000) :
    ∃ r, (iterL (sight_meets_L0 p v t l) (l.length + 1) 0).bind (fun f => match f with | .go _ => none | .ex _ _ => some false | .ret r => some r) = some r ∧
      (r = true ↔ ∃ x ∈ l, ∃ a b, 0 < b ∧ Mem t a b ∧ inBox x p v a b) := by
  rcases iter_find (l := l) (body := sight_meets_L0 p v t l) (k := 0) (fun x => ∃ a b, 0 < b ∧ Mem t a b ∧ inBox x p v a b) (fun _ => true) (by
    intro i hi
    obtain ⟨k1, k2, k3, k4, k5, k6⟩ := boxK (hl _ (List.getElem_mem hi))
    obtain ⟨j1, a1, a2, _, a4⟩ := narrow_eq ht hp.1 hv.1 k1 k2
    obtain ⟨j2, b1, b2, _, b4⟩ := narrow_eq a2 hp.2.1 hv.2.1 k3 k4
    obtain ⟨j3, c1, c2, _, c4⟩ := narrow_eq b2 hp.2.2 hv.2.2 k5 k6
    obtain ⟨e, e1, e2⟩ := empty_eq c2
    have he : e = false ↔ ∃ a b, 0 < b ∧ Mem t a b ∧ inBox l[i] p v a b := by
      rw [e2]
      refine exists_congr fun a => exists_congr fun b => and_congr_right fun hb => ?_
      rw [c4 a b hb, b4 a b hb, a4 a b hb]
      unfold inBox
      simp only [and_assoc]
    unfold sight_meets_L0
    rw [if_pos (by simpa using hi), getI_nat hi, Option.bind_some, a1, Option.bind_some, b1, Option.bind_some, c1, Option.bind_some, e1, Option.bind_some]
    cases e
    · left
      rw [if_pos (by rfl)]
      exact ⟨he.1 rfl, rfl⟩
    · right
      rw [if_neg (by simp), addI_one (by omega), Option.bind_some]
      exact ⟨fun h => by simpa using he.2 h, rfl⟩) (by
    unfold sight_meets_L0
    rw [if_neg (by simp)]) (fuel := l.length + 1) (by omega) with ⟨i, hi, hp, _, h⟩ | ⟨hp, h⟩
  · rw [h, Option.bind_some]
    exact ⟨_, rfl, fun _ => ⟨_, List.getElem_mem hi, hp⟩, fun _ => rfl⟩
  · rw [h, Option.bind_some]
    exact ⟨_, rfl, by simp, fun ⟨x, hx, h⟩ => absurd h (hp x hx)⟩
/-- p + (a/b) v is in a set of cubes -/
def Hit (S : Int → Int → Int → Prop) (p v : Point3) (a b : Int) : Prop := S ((p.X * b + v.X * a) / b) ((p.Y * b + v.Y * a) / b) ((p.Z * b + v.Z * a) / b)
theorem inBox_iff {x : Box} {p v : Point3} {a b : Int} (hb : 0 < b) :
    inBox x p v a b ↔ rin x.Base ((p.X * b + v.X * a) / b) ((p.Y * b + v.Y * a) / b) ∧ x.Z0 ≤ (p.Z * b + v.Z * a) / b ∧ (p.Z * b + v.Z * a) / b < x.Z1 := by
  unfold inBox rin
  rw [Int.le_ediv_iff_mul_le hb, Int.le_ediv_iff_mul_le hb, Int.le_ediv_iff_mul_le hb, Int.ediv_lt_iff_lt_mul hb, Int.ediv_lt_iff_lt_mul hb, Int.ediv_lt_iff_lt_mul hb]
  simp only [and_assoc]
theorem hit_boxes {l : List Box} {p v : Point3} {a b : Int} (hb : 0 < b) : Hit (bcells l) p v a b ↔ ∃ x ∈ l, inBox x p v a b := by
  unfold Hit bcells
  exact exists_congr fun x => and_congr_right fun _ => (inBox_iff hb).symm
theorem meets_eq {s : List Slab} {p v : Point3} {t : SightInterval} (hp : pK p) (hv : pK v) (ht : IvK t) (hs : ∀ b ∈ s, b.Area.length ≤ 100000) :
    ∃ r, sight_meets s p v t = some r ∧ (r = true ↔ SS s ∧ ∃ a b, 0 < b ∧ Mem t a b ∧ Hit (scells s) p v a b) := by
  unfold sight_meets
  by_cases h : SS s
  · rw [solid_Boxes_fine h, Option.bind_some]
    obtain ⟨r, h1, h2⟩ := meets_L0_eq hp hv ht (boxesOf_VB h) (by have := boxesOf_length h; omega)
    refine ⟨r, h1, h2.trans ?_⟩
    constructor
    · rintro ⟨x, hx, a, b, hb, hm, hi⟩
      refine ⟨h, a, b, hb, hm, ?_⟩
      have := (hit_boxes (l := boxesOf s) hb).2 ⟨x, hx, hi⟩
      unfold Hit at this ⊢
      exact (bcells_boxesOf h.canon _ _ _).1 this
    · rintro ⟨_, a, b, hb, hm, hi⟩
      obtain ⟨x, hx, hi⟩ := (hit_boxes (l := boxesOf s) (p := p) (v := v) (a := a) hb).1 ((bcells_boxesOf h.canon _ _ _).2 hi)
      exact ⟨x, hx, a, b, hb, hm, hi⟩
  · rw [solid_Boxes_bad hs h, Option.bind_some]
    obtain ⟨r, h1, h2⟩ := meets_L0_eq (l := []) hp hv ht (by simp) (by simp)
    refine ⟨r, h1, h2.trans ⟨fun ⟨x, hx, _⟩ => by simp at hx, fun h' => absurd h'.1 h⟩⟩
def onP (p : Point3) : Prop := 0 ≤ p.X ∧ p.X ≤ 1048576 ∧ 0 ≤ p.Y ∧ p.Y ≤ 1048576 ∧ 0 ≤ p.Z ∧ p.Z ≤ 4096
instance (p : Point3) : Decidable (onP p) := by unfold onP; infer_instance
theorem on_eq (p : Point3) : sight_on p = some (decide (onP p)) := by
  unfold sight_on
  congr 1
  rw [Bool.eq_iff_iff, decide_eq_true_iff]
  unfold onP
  simp only [Bool.and_eq_true, decide_eq_true_eq]
  omega
theorem onP.pK {p : Point3} (h : onP p) : Ytbpecfmimgjakaa.pK p := by unfold onP at h; unfold Ytbpecfmimgjakaa.pK cK; omega
def less3 (q p : Point3) : Point3 := ⟨q.X - p.X, q.Y - p.Y, q.Z - p.Z⟩
/-- A segment is blocked: p + (a/b) (q - p) is in a cube, for a number between 0 and 1. -/
def BlockedP (S : Int → Int → Int → Prop) (p q : Point3) : Prop := ∃ a b, 0 < b ∧ 0 < a ∧ a < b ∧ Hit S p (less3 q p) a b
def RayP (S : Int → Int → Int → Prop) (p d : Point3) : Prop := ∃ a b, 0 < b ∧ 0 < a ∧ Hit S p d a b
theorem Blocked_eq {s : List Slab} {p q : Point3} (hs : ∀ b ∈ s, b.Area.length ≤ 100000) :
    ∃ r, sight_Blocked s p q = some r ∧ (r = true ↔ onP p ∧ onP q ∧ SS s ∧ BlockedP (scells s) p q) := by
  unfold sight_Blocked
  rw [on_eq, Option.bind_some]
  by_cases hp : onP p
  · by_cases hq : onP q
    · rw [if_neg (by simp [hp]), on_eq, Option.bind_some, Option.bind_some, if_neg (by simp [hq])]
      have hp' := hp
      have hq' := hq
      unfold onP at hp' hq'
      rw [subI_some (by unfold inI; omega), Option.bind_some, subI_some (by unfold inI; omega), Option.bind_some, subI_some (by unfold inI; omega), Option.bind_some]
      obtain ⟨r, h1, h2⟩ := meets_eq (s := s) (p := p) (v := less3 q p) (t := ⟨⟨0, 1, true⟩, ⟨1, 1, true⟩, true, false⟩) hp.pK (by unfold pK cK less3; dsimp only; omega) (by unfold IvK bK nK; dsimp only; omega) hs
      unfold less3 at h1
      rw [h1, Option.bind_some]
      refine ⟨r, rfl, h2.trans ⟨fun ⟨g1, a, b, g2, g3, g4⟩ => ⟨hp, hq, g1, a, b, g2, ?_, ?_, g4⟩, fun ⟨_, _, g1, a, b, g2, g3, g4, g5⟩ => ⟨g1, a, b, g2, ⟨rfl, ?_, fun _ => ?_⟩, g5⟩⟩⟩
      · have := g3.2.1.2 rfl; dsimp only at this; omega
      · have := (g3.2.2 rfl).2 rfl; dsimp only at this; omega
      · unfold loR; dsimp only; omega
      · unfold hiR; dsimp only; omega
    · rw [if_neg (by simp [hp]), on_eq, Option.bind_some, Option.bind_some, if_pos (by simp [hq])]
      exact ⟨_, rfl, by simp, fun h => absurd h.2.1 hq⟩
  · rw [if_pos (by simp [hp]), Option.bind_some, if_pos rfl]
    exact ⟨_, rfl, by simp, fun h => absurd h.1 hp⟩
def dirP (d : Point3) : Prop := ¬ (d.X = 0 ∧ d.Y = 0 ∧ d.Z = 0) ∧ (-1048576 ≤ d.X ∧ d.X ≤ 1048576) ∧ (-1048576 ≤ d.Y ∧ d.Y ≤ 1048576) ∧ (-1048576 ≤ d.Z ∧ d.Z ≤ 1048576)
instance (p : Point3) : Decidable (dirP p) := by unfold dirP; infer_instance
theorem Ray_eq {s : List Slab} {p d : Point3} (hs : ∀ b ∈ s, b.Area.length ≤ 100000) :
    ∃ r, sight_Ray s p d = some r ∧ (r = true ↔ onP p ∧ dirP d ∧ SS s ∧ RayP (scells s) p d) := by
  unfold sight_Ray
  rw [on_eq, Option.bind_some]
  have hz : d = ⟨0, 0, 0⟩ ↔ d.X = 0 ∧ d.Y = 0 ∧ d.Z = 0 := by
    obtain ⟨x, y, z⟩ := d
    simp
  by_cases h : onP p ∧ dirP d
  · obtain ⟨hp, hd⟩ := h
    have hd' := hd
    unfold dirP at hd'
    rw [if_neg (by
      simp only [Bool.or_eq_true, Bool.not_eq_true', decide_eq_false_iff_not, decide_eq_true_eq]
      rintro (((h | h) | h) | h)
      · exact h hp
      · exact hd.1 (hz.1 h)
      · omega
      · omega)]
    obtain ⟨r, h1, h2⟩ := meets_eq (s := s) (p := p) (v := d) (t := ⟨⟨0, 1, true⟩, ⟨0, 0, false⟩, false, false⟩) hp.pK (by unfold pK cK; omega) (by unfold IvK bK nK; dsimp only; exact ⟨by omega, fun h => by simp at h⟩) hs
    rw [h1, Option.bind_some]
    refine ⟨r, rfl, h2.trans ⟨fun ⟨g1, a, b, g2, g3, g4⟩ => ⟨hp, hd, g1, a, b, g2, ?_, g4⟩, fun ⟨_, _, g1, a, b, g2, g3, g5⟩ => ⟨g1, a, b, g2, ⟨rfl, ?_, fun h => by simp at h⟩, g5⟩⟩⟩
    · have := g3.2.1.2 rfl; dsimp only at this; omega
    · unfold loR; dsimp only; omega
  · rw [if_pos (by
      simp only [Bool.or_eq_true, Bool.not_eq_true', decide_eq_false_iff_not, decide_eq_true_eq]
      by_cases hp : onP p
      · by_cases h0 : d = ⟨0, 0, 0⟩
        · exact .inl (.inl (.inr h0))
        · have hd : ¬ dirP d := fun hd => h ⟨hp, hd⟩
          rw [hz] at h0
          unfold dirP at hd
          have : ¬ ((-1048576 ≤ d.X ∧ d.X ≤ 1048576) ∧ (-1048576 ≤ d.Y ∧ d.Y ≤ 1048576) ∧ (-1048576 ≤ d.Z ∧ d.Z ≤ 1048576)) := fun hh => hd ⟨h0, hh⟩
          by_cases hm : min (min d.X d.Y) d.Z < -1048576
          · exact .inl (.inr hm)
          · exact .inr (by omega)
      · exact .inl (.inl (.inl hp)))]
    exact ⟨_, rfl, by simp, fun h' => absurd ⟨h'.1, h'.2.1⟩ h⟩
end Go.Proofs.Ytbpecfmimgjakaa

namespace Go.Proofs.Ytbpecfmimgjakaa
open Go.Gb
set_option linter.unusedVariables false
set_option linter.unusedSimpArgs false
set_option linter.unusedSectionVars false
set_option maxRecDepth 100000
theorem Valid_eq (p : Point3) : ref11_Valid p = some (decide (onP p)) := by
  unfold ref11_Valid
  congr 1
  rw [Bool.eq_iff_iff, decide_eq_true_iff]
  unfold onP
  simp only [Bool.and_eq_true, decide_eq_true_eq]
  omega
end Go.Proofs.Ytbpecfmimgjakaa

namespace Go.Proofs.Ytbpecfmimgjakaa
open Go.Gb
set_option linter.unusedVariables false
set_option linter.unusedSimpArgs false
set_option linter.unusedSectionVars false
set_option maxRecDepth 100000
theorem insert_spec {l : List Int} (n : Int) (hl : l.length ≤ 1000000) (hp : l.Pairwise fun a b => a < b) :
    ∃ r, ref09_insert l n = some r ∧ r.Pairwise (fun a b => a < b) ∧ (∀ x, x ∈ r ↔ x = n ∨ x ∈ l) ∧ r.length ≤ l.length + 1 := by
  unfold ref09_insert
  have key : ∃ k, k ≤ l.length ∧ (∀ i (hi : i < l.length), i < k → l[i] < n) ∧ (∀ h : k < l.length, n ≤ l[k]) ∧ iterL (ref09_insert_L0 l n) (l.length + 1) 0 = some (.ex 0 (k : Int)) := by
    have gen : ∀ m i, i + m = l.length → (∀ j (hj : j < l.length), j < i → l[j] < n) → ∀ fuel, m < fuel →
        ∃ k, k ≤ l.length ∧ (∀ i (hi : i < l.length), i < k → l[i] < n) ∧ (∀ h : k < l.length, n ≤ l[k]) ∧ iterL (ref09_insert_L0 l n) fuel (i : Int) = some (.ex 0 (k : Int)) := by
      intro m
      induction m with
      | zero =>
        intro i hi hI fuel hf
        obtain ⟨fuel, rfl⟩ : ∃ m, fuel = m + 1 := ⟨fuel - 1, by omega⟩
        have e : ref09_insert_L0 l n (i : Int) = some (.ex 0 (i : Int)) := by
          unfold ref09_insert_L0
          rw [if_neg (by simp; omega), Option.bind_some, if_neg (by simp)]
        refine ⟨i, by omega, hI, fun h => absurd h (by omega), ?_⟩
        simp only [iterL, e]
      | succ m ih =>
        intro i hi hI fuel hf
        obtain ⟨fuel, rfl⟩ : ∃ m, fuel = m + 1 := ⟨fuel - 1, by omega⟩
        have hil : i < l.length := by omega
        by_cases hc : l[i] < n
        · have e : ref09_insert_L0 l n (i : Int) = some (.go ((i + 1 : Nat) : Int)) := by
            unfold ref09_insert_L0
            rw [if_pos (by simpa using hil), getI_nat hil, Option.bind_some, Option.bind_some, if_pos (by simpa using hc), addI_one (by omega), Option.bind_some]
          obtain ⟨k, k1, k2, k3, k4⟩ := ih (i + 1) (by omega) (by
            intro j hj h
            by_cases e : j = i
            · subst e; exact hc
            · exact hI j hj (by omega)) fuel (by omega)
          refine ⟨k, k1, k2, k3, ?_⟩
          simp only [iterL, e]
          exact k4
        · have e : ref09_insert_L0 l n (i : Int) = some (.ex 0 (i : Int)) := by
            unfold ref09_insert_L0
            rw [if_pos (by simpa using hil), getI_nat hil, Option.bind_some, Option.bind_some, if_neg (by simpa using hc)]
          refine ⟨i, by omega, hI, fun h => by omega, ?_⟩
          simp only [iterL, e]
    exact gen l.length 0 (by omega) (fun j hj h => absurd h (Nat.not_lt_zero j)) (l.length + 1) (by omega)
  obtain ⟨k, k1, k2, k3, k4⟩ := key
  rw [k4, Option.bind_some]
  dsimp only
  have hpw := List.pairwise_iff_getElem.1 hp
  by_cases hk : k < l.length
  · rw [if_pos (by simpa using hk), getI_nat hk, Option.bind_some, Option.bind_some]
    by_cases he : l[k] = n
    · rw [if_pos (by simpa using he)]
      refine ⟨l, rfl, hp, fun x => ⟨.inr, ?_⟩, by omega⟩
      rintro (rfl | h)
      · rw [← he]; exact List.getElem_mem hk
      · exact h
    · rw [if_neg (by simpa using he), sliceI_some (by omega) (by omega) (by omega), Option.bind_some, appI_some (by simp; omega), Option.bind_some, appI_some (by simp; omega), Option.bind_some, sliceI_some (by omega) (by omega) (by omega), Option.bind_some, appI_some (by simp; omega), Option.bind_some]
      have hgt : n < l[k] := by have := k3 hk; omega
      refine ⟨_, rfl, ?_, fun x => ?_, by simp; omega⟩
      · simp only [Int.toNat_natCast, Int.toNat_zero, List.drop_zero, List.nil_append, List.take_length]
        rw [List.append_assoc, List.pairwise_append]
        refine ⟨hp.sublist (List.take_sublist _ _), ?_, ?_⟩
        · rw [List.singleton_append, List.pairwise_cons]
          refine ⟨fun x hx => ?_, hp.sublist (List.drop_sublist _ _)⟩
          obtain ⟨j, hj, rfl⟩ := List.getElem_of_mem hx
          rw [List.getElem_drop]
          simp only [List.length_drop] at hj
          rcases Nat.eq_zero_or_pos j with rfl | h0
          · exact hgt
          · have := hpw k (k + j) hk (by omega) (by omega); omega
        · intro x hx y hy
          obtain ⟨i, hi, rfl⟩ := List.getElem_of_mem hx
          rw [List.getElem_take]
          simp only [List.length_take] at hi
          have hxn := k2 i (by omega) (by omega)
          rw [List.singleton_append, List.mem_cons] at hy
          rcases hy with rfl | hy
          · exact hxn
          · obtain ⟨j, hj, rfl⟩ := List.getElem_of_mem hy
            rw [List.getElem_drop]
            simp only [List.length_drop] at hj
            exact hpw i (k + j) (by omega) (by omega) (by omega)
      · simp only [Int.toNat_natCast, Int.toNat_zero, List.drop_zero, List.nil_append, List.take_length, List.mem_append, List.mem_singleton]
        have : x ∈ l ↔ x ∈ l.take k ∨ x ∈ l.drop k := by rw [← List.mem_append, List.take_append_drop]
        rw [this]
        constructor
        · rintro ((h | h) | h)
          · exact .inr (.inl h)
          · exact .inl h
          · exact .inr (.inr h)
        · rintro (h | h | h)
          · exact .inl (.inr h)
          · exact .inl (.inl h)
          · exact .inr h
  · have hkl : k = l.length := by omega
    subst hkl
    rw [if_neg (by simp), Option.bind_some, if_neg (by simp), sliceI_some (by omega) (by omega) (by omega), Option.bind_some, appI_some (by simp; omega), Option.bind_some, appI_some (by simp; omega), Option.bind_some, sliceI_some (by omega) (by omega) (by omega), Option.bind_some, appI_some (by simp; omega), Option.bind_some]
    refine ⟨_, rfl, ?_, fun x => ?_, by simp⟩
    · simp only [Int.toNat_natCast, Int.toNat_zero, List.drop_zero, List.nil_append, List.take_length, List.drop_length, List.append_nil]
      rw [List.pairwise_append]
      refine ⟨hp, by simp, fun x hx y hy => ?_⟩
      rw [List.mem_singleton] at hy
      subst hy
      obtain ⟨i, hi, rfl⟩ := List.getElem_of_mem hx
      exact k2 i hi hi
    · simp [or_comm]
theorem radd_eq {out : List Slab} {f t : Int} {area : List Rect} (hl : out.length ≤ 1000000) (ha : ∀ b ∈ out, b.Area.length ≤ 1000000) : ref09_add out f t area = solid_put out ⟨f, t, area⟩ := by
  unfold ref09_add solid_put
  dsimp only
  by_cases h0 : area = []
  · rw [if_pos (by simp [h0]), if_pos (by simp [h0])]
  · have hlen : 0 < area.length := List.length_pos_iff.2 h0
    have hc : ¬ ((area.length : Int) == 0) = true := by rw [beq_iff_eq]; omega
    rw [if_neg hc, if_neg hc]
    rcases List.eq_nil_or_concat out with rfl | ⟨o, x, rfl⟩
    · have e : subI (([] : List Slab).length : Int) 1 = some (-1) := by decide
      rw [e]
      rfl
    · rw [List.concat_eq_append] at *
      have hol : o.length < 1000000 := by simp at hl; omega
      have hta := ha x (by simp)
      have hs := subI_len (l := o) (x := x) (by omega)
      have hg : getI (o ++ [x]) (o.length : Int) = some x := getI_concat rfl
      rw [hs]
      simp only [Option.bind_some, hg]
      rw [if_pos (by simp only [decide_eq_true_eq, List.length_append, List.length_singleton]; omega), if_pos (by simp)]
      simp only [Option.bind_some]
      rw [rSame_eq hta, region_Same_eq hta]
theorem rend_eq {out : List Slab} (hl : out.length ≤ 1000000) : ref09_end out = some (slim out) := by
  unfold ref09_end slim
  rcases iter_find (l := out) (body := ref09_end_L0 out) (k := 0) (fun b => 200 < b.Area.length) (fun _ => (([] : List Slab), (6 : Int))) (by
    intro i hi
    unfold ref09_end_L0
    rw [if_pos (by simpa using hi), getI_nat hi, Option.bind_some]
    by_cases hc : 200 < out[i].Area.length
    · left
      rw [if_pos (by simp; omega)]
      exact ⟨hc, rfl⟩
    · right
      rw [if_neg (by simp; omega), addI_one (by omega), Option.bind_some]
      exact ⟨hc, rfl⟩) (by
    unfold ref09_end_L0
    rw [if_neg (by simp)]) (fuel := out.length + 1) (by omega) with ⟨i, hi, hp, _, h⟩ | ⟨hp, h⟩
  · rw [h, Option.bind_some]
    dsimp only
    rw [if_pos (.inl ⟨_, List.getElem_mem hi, hp⟩)]
  · rw [h, Option.bind_some]
    dsimp only
    by_cases h2 : 80 < out.length
    · rw [if_pos (by simp; omega), if_pos (.inr h2)]
    · rw [if_neg (by simp; omega), if_neg (fun h => h.elim (fun ⟨b, hb, h⟩ => hp b hb h) h2)]
/-- The heights, one after the other. -/
theorem rheights {ρ γ : Type} {l : List γ} {f g : γ → Int} {body : List Int × Int → Option (Flow (List Int × Int) ρ)} {k : Nat} {z0 : List Int} (hz : z0.Pairwise fun a b => a < b) (hl : l.length ≤ 100000) (h0 : z0.length ≤ 100000)
    (hs : ∀ i (hi : i < l.length) (s : List Int), body (s, (i : Int)) = (ref09_insert s (f l[i])).bind fun a => (ref09_insert a (g l[i])).bind fun b => some (.go (b, ((i + 1 : Nat) : Int))))
    (hd : ∀ s, body (s, (l.length : Int)) = some (.ex k (s, (l.length : Int)))) {fuel : Nat} (hf : l.length < fuel) :
    ∃ zs, iterL body fuel (z0, 0) = some (.ex k (zs, (l.length : Int))) ∧ zs.Pairwise (fun a b => a < b) ∧ (∀ x, x ∈ zs ↔ x ∈ z0 ∨ ∃ b ∈ l, x = f b ∨ x = g b) ∧ zs.length ≤ z0.length + 2 * l.length := by
  obtain ⟨s, h1, h2, h3, h4⟩ := iter_rangeE (l := l) (k := k) (body := body) (fun (s : List Int) i => (s, i)) (fun i s => s.Pairwise (fun a b => a < b) ∧ (∀ x, x ∈ s ↔ x ∈ z0 ∨ ∃ b ∈ l.take i, x = f b ∨ x = g b) ∧ s.length ≤ z0.length + 2 * i) (by
    rintro i hi s ⟨i1, i2, i3⟩
    obtain ⟨a, a1, a2, a3, a4⟩ := insert_spec (l := s) (f l[i]) (by omega) i1
    obtain ⟨b, b1, b2, b3, b4⟩ := insert_spec (l := a) (g l[i]) (by omega) a2
    refine ⟨b, by rw [hs i hi s, a1, Option.bind_some, b1, Option.bind_some], b2, fun x => ?_, by omega⟩
    rw [b3, a3, i2, List.take_succ_eq_append_getElem hi]
    simp only [List.mem_append, List.mem_singleton, or_and_right, exists_or, exists_eq_left]
    constructor
    · rintro (h | h | h | h)
      · exact .inr (.inr (.inr h))
      · exact .inr (.inr (.inl h))
      · exact .inl h
      · exact .inr (.inl h)
    · rintro (h | h | h | h)
      · exact .inr (.inr (.inl h))
      · exact .inr (.inr (.inr h))
      · exact .inr (.inl h)
      · exact .inl h) (fun s _ => hd s) (s0 := z0) ⟨hz, by simp, by omega⟩ hf
  rw [List.take_length] at h3
  exact ⟨s, h1, h2, h3, h4⟩
/-- One slab after the other. -/
theorem rsolid_loop {ρ : Type} {body : List Slab × Int → Option (Flow (List Slab × Int) ρ)} {k : Nat} {zs : List Int} {A : Int → List Rect} (hz : zs.Pairwise fun a b => a < b) (hzl : zs.length ≤ 100000)
    (hA : ∀ z, (A z).length ≤ 1000000)
    (hb : ∀ i (hi : i + 1 < zs.length) (s : List Slab), body (s, (i : Int)) = (ref09_add s (zs[i]'(by omega)) zs[i + 1] (A (zs[i]'(by omega)))).bind fun o => some (.go (o, ((i + 1 : Nat) : Int))))
    (hd : ∀ s (i : Nat), zs.length ≤ i + 1 → i ≤ 1000000 → body (s, (i : Int)) = some (.ex k (s, (i : Int)))) {fuel : Nat} (hf : zs.length < fuel) :
    iterL body fuel (([] : List Slab), 0) = some (.ex k (unslab (build [] zs A (zs.length - 1)), ((zs.length - 1 : Nat) : Int))) ∧ (unslab (build [] zs A (zs.length - 1))).length ≤ zs.length := by
  obtain ⟨s, h1, h2, h3, h4⟩ := iter_from (k := k) (body := body) (fun (s : List Slab) i => (s, i)) 0 (zs.length - 1) (Nat.zero_le _) (fun i s => slabRuns s = build [] zs A i ∧ s.length ≤ i ∧ ∀ b ∈ s, b.Area.length ≤ 1000000) (by
    rintro i - hi s ⟨i1, i2, i3⟩
    obtain ⟨o, p1, p2, p3, p4⟩ := put_spec (out := s) (x := ⟨zs[i]'(by omega), zs[i + 1]'(by omega), A (zs[i]'(by omega))⟩) (by omega) i3
    refine ⟨o, by rw [hb i (by omega) s, radd_eq (by omega) i3, p1, Option.bind_some], ?_, by omega, fun b hb => ?_⟩
    · rw [p2, i1, build_succ (show i + 1 < zs.length by omega)]
    · rcases p4 b hb with h | ⟨c, hc', h⟩
      · rw [h]; exact hA _
      · rw [h]; exact i3 c hc') (fun s _ => hd s _ (by omega) (by omega)) (s0 := []) ⟨rfl, by simp, by simp⟩ (fuel := fuel) (by omega)
  have e : s = unslab (build [] zs A (zs.length - 1)) := slabRuns_inj (by rw [h2, slabRuns_unslab])
  rw [← e]
  exact ⟨h1, by omega⟩
theorem rOf_check9 {l : List Box} (hl : l.length ≤ 100000) :
    (iterL (ref09_Of_L0 l) (l.length + 1) 0 = some (.ret (([] : List Slab), 1)) ∧ ¬ ∀ b ∈ l, VB b) ∨ ((∀ b ∈ l, VB b) ∧ iterL (ref09_Of_L0 l) (l.length + 1) 0 = some (.ex 0 (l.length : Int))) := by
  rcases iter_find (l := l) (body := ref09_Of_L0 l) (k := 0) (fun b => ¬ VB b) (fun _ => (([] : List Slab), (1 : Int))) (by
    intro i hi
    unfold ref09_Of_L0
    rw [if_pos (by simpa using hi), getI_nat hi, Option.bind_some, rRightBox_eq, Option.bind_some]
    by_cases hc : VB l[i]
    · right
      rw [if_neg (by simp [hc]), addI_one (by omega), Option.bind_some]
      exact ⟨fun h => h hc, rfl⟩
    · left
      rw [if_pos (by simp [hc])]
      exact ⟨hc, rfl⟩) (by
    unfold ref09_Of_L0
    rw [if_neg (by simp)]) (fuel := l.length + 1) (by omega) with ⟨i, hi, hp, _, h⟩ | ⟨hp, h⟩
  · exact .inl ⟨h, fun hv => hp (hv _ (List.getElem_mem hi))⟩
  · exact .inr ⟨fun b hb => Classical.not_not.1 (hp b hb), h⟩
theorem rOf_L3 {l : List Box} {zs : List Int} {i : Nat} (hi : i < zs.length) (hl : l.length ≤ 1000) {s0 : List Slab} {y : Int} {fuel : Nat} (hf : l.length < fuel) :
    iterL (ref09_Of_L3 l (zs, y) (s0, (i : Int))) fuel (([] : List Rect), 0) = some (.ex 6 (bases l zs[i], (l.length : Int))) := by
  have hg := getI_nat hi
  obtain ⟨h1, h2⟩ := iter_range (k := 6) (l := l) (body := ref09_Of_L3 l (zs, y) (s0, (i : Int))) (fun (s : List Rect) i => (s, i)) (fun s b => s ++ (if b.Z0 ≤ zs[i] ∧ zs[i] < b.Z1 then [b.Base] else [])) (fun j s => s = bases (l.take j) zs[i]) (by
    rintro j hj s rfl
    have hgj := getI_nat hj
    constructor
    · unfold ref09_Of_L3
      dsimp only
      rw [if_pos (by simpa using hj)]
      simp only [hgj, hg, Option.bind_some]
      have e1 : (if decide (l[j].Z0 ≤ zs[i]) = true then some (decide (zs[i] < l[j].Z1)) else some false) = some (decide (l[j].Z0 ≤ zs[i] ∧ zs[i] < l[j].Z1)) := by
        by_cases h : l[j].Z0 ≤ zs[i] <;> simp [h]
      rw [e1, Option.bind_some]
      by_cases h : l[j].Z0 ≤ zs[i] ∧ zs[i] < l[j].Z1
      · rw [if_pos (by simpa using h), if_pos h, appI_some (by
          have := bases_length (l.take j) zs[i]
          have := List.length_take_le j l
          simp; omega), Option.bind_some, Option.bind_some, addI_one (by omega), Option.bind_some]
      · rw [if_neg (by simpa using h), if_neg h, Option.bind_some, List.append_nil, addI_one (by omega), Option.bind_some]
    · rw [bases_snoc l zs[i] hj]) (by
    rintro s rfl
    unfold ref09_Of_L3
    dsimp only
    rw [if_neg (by simp)]) (s0 := []) rfl (fuel := fuel) hf
  rw [List.take_length] at h2
  rw [h2] at h1
  exact h1
theorem rOf9_fine {l : List Box} (h : ∀ b ∈ l, VB b) (hm : l.length ≤ 200) : ∃ out, IsSolid (bcells l) out ∧ ref09_Of l = some (slim out) := by
  have hex : ∀ z, ∃ o, ref06_Form (bases l z) [] 0 = some o ∧ IsForm (cells (bases l z)) o := by
    intro z
    exact Form_or (bases_right h z) (by have := bases_length l z; omega)
  obtain ⟨A, hA⟩ := Classical.axiomOfChoice hex
  have hA' : ∀ z, IsForm (fun x y => bcells l x y z) (A z) := fun z => (hA z).2.congr fun x y => bases_cells l x y z
  unfold ref09_Of
  rcases rOf_check9 (l := l) (by omega) with ⟨_, h1⟩ | ⟨_, h1⟩
  · exact absurd h h1
  rw [h1, Option.bind_some]
  dsimp only
  rw [if_neg (by simp; omega)]
  obtain ⟨zs, z1, z2, z3, z4⟩ := rheights (body := ref09_Of_L1 l) (k := 2) (f := fun b : Box => b.Z0) (g := fun b => b.Z1) (z0 := []) (by simp) (show l.length ≤ 100000 by omega) (by simp) (by
    intro i hi s
    have hg := getI_nat hi
    unfold ref09_Of_L1
    dsimp only
    rw [if_pos (by simpa using hi), hg, Option.bind_some]
    simp only [Option.bind_some, addI_one (show i < 4611686018427387904 by omega)]) (by
    intro s
    unfold ref09_Of_L1
    dsimp only
    rw [if_neg (by simp)]) (fuel := l.length + ([] : List Int).length + 1) (by simp)
  simp only [List.not_mem_nil, false_or, List.length_nil, Nat.zero_add] at z3 z4
  rw [z1, Option.bind_some]
  dsimp only
  have hmem : ∀ b ∈ l, b.Z0 ∈ zs ∧ b.Z1 ∈ zs := fun b hb => ⟨(z3 _).2 ⟨b, hb, .inl rfl⟩, (z3 _).2 ⟨b, hb, .inr rfl⟩⟩
  obtain ⟨hS, _, _⟩ := build_solid (S := bcells l) z2 hA' (by
    intro i hi z h1 h2 x y
    refine exists_congr fun b => and_congr_right fun hb => and_congr_right fun _ => ?_
    have g1 := asc_gap z2 hi (hmem b hb).1
    have g2 := asc_gap z2 hi (hmem b hb).2
    omega) (by
    rintro z hno x y ⟨b, hb, _, h1, h2⟩
    obtain ⟨i, hi, a1, a2⟩ := asc_between z2 (hmem b hb).1 (hmem b hb).2 h1 h2
    exact hno i hi ⟨a1, a2⟩)
  have hAl : ∀ z, (A z).length ≤ 1000000 := fun z => by
    have hh : Hangs (fun x y => bcells l x y z) (bases l z) := (bcells_hangs l).at z
    have := form_len hh (bases_right h z) (hA' z)
    have h2 := bases_length l z
    have := Nat.mul_le_mul (show (bases l z).length ≤ 200 by omega) (show (bases l z).length ≤ 200 by omega)
    omega
  obtain ⟨w1, w2⟩ := rsolid_loop (body := ref09_Of_L2 l (zs, (l.length : Int))) (k := 4) (A := A) z2 (by omega) hAl (by
    intro i hi s
    have hg0 := getI_nat (show i < zs.length by omega)
    have hg1 := getI_nat hi
    have hadd := addI_one (show i < 4611686018427387904 by omega)
    unfold ref09_Of_L2
    dsimp only
    rw [hadd, Option.bind_some, if_pos (by simp; omega), rOf_L3 (show i < zs.length by omega) (by omega) (by omega), Option.bind_some]
    dsimp only
    rw [hg0, Option.bind_some, Option.bind_some, hg1, Option.bind_some, (hA _).1, Option.bind_some]
    simp only [Option.bind_some]) (by
    intro s i hi hi2
    unfold ref09_Of_L2
    dsimp only
    rw [addI_one (show i < 4611686018427387904 by omega), Option.bind_some, if_neg (by simp; omega)]) (fuel := l.length + zs.length + ([] : List Slab).length + 1) (by simp; omega)
  rw [w1, Option.bind_some]
  dsimp only
  rw [rend_eq (by omega), Option.bind_some]
  exact ⟨_, hS, rfl⟩
theorem rOf9_eq {l : List Box} (hl : l.length ≤ 100000) : ref09_Of l = solid_Of l := by
  by_cases h : ∀ b ∈ l, VB b
  · by_cases hm : 200 < l.length
    · rw [solid_Of_many hl h hm]
      unfold ref09_Of
      rcases rOf_check9 (l := l) hl with ⟨_, h1⟩ | ⟨_, h1⟩
      · exact absurd h h1
      · rw [h1, Option.bind_some]
        dsimp only
        rw [if_pos (by simp; omega)]
    · obtain ⟨o, h1, h2⟩ := solid_Of_fine h (by omega)
      obtain ⟨w, g1, g2⟩ := rOf9_fine h (by omega)
      rw [h2, g2, g1.unique h1 fun _ _ _ => Iff.rfl]
  · rw [solid_Of_bad hl h]
    unfold ref09_Of
    rcases rOf_check9 (l := l) hl with ⟨h1, _⟩ | ⟨h1, _⟩
    · rw [h1, Option.bind_some]
    · exact absurd h1 h
end Go.Proofs.Ytbpecfmimgjakaa

namespace Go.Proofs.Ytbpecfmimgjakaa
open Go.Gb
set_option linter.unusedVariables false
set_option linter.unusedSimpArgs false
set_option linter.unusedSectionVars false
set_option maxRecDepth 100000
def exW : List Slab := [⟨0, 1, [⟨2, 0, 3, 1⟩]⟩]
theorem exW_SS : SS exW := ssB_spec (by decide)
theorem exW_Of : ref09_Of [⟨⟨2, 0, 3, 1⟩, 0, 1⟩] = some (exW, 0) := by
  rw [rOf9_eq (by simp)]
  refine Of_is (by decide) (by simp) (by decide) fun x y z => ?_
  unfold exW
  rw [scells_iff, sect_cons, sect_nil, cells_if]
  unfold bcells cells rin
  simp
  omega
theorem exB (p q : Point3) (r : Bool) (h : ((sight_on p).bind fun x => (if (!x) then some true else (sight_on q).bind fun y => some (!y)).bind fun x => if x then some false else
    (subI q.X p.X).bind fun a => (subI q.Y p.Y).bind fun b => (subI q.Z p.Z).bind fun c => ((iterL (sight_meets_L0 p ⟨a, b, c⟩ ⟨⟨0, 1, true⟩, ⟨1, 1, true⟩, true, false⟩ [⟨⟨2, 0, 3, 1⟩, 0, 1⟩]) 2 0).bind fun f => match f with | .go _ => none | .ex _ _ => some false | .ret r => some r).bind fun x => some x) = some r) :
    sight_Blocked exW p q = some r := by
  unfold sight_Blocked sight_meets
  rw [solid_Boxes_fine exW_SS]
  exact h
theorem exR (p d : Point3) (r : Bool) (h : ((sight_on p).bind fun x => if ((((!x) || (decide (d = (⟨0, 0, 0⟩ : Point3)))) || (decide ((min (min d.X d.Y) d.Z) < (-1048576)))) || (decide (1048576 < (max (max d.X d.Y) d.Z)))) then some false else
    ((iterL (sight_meets_L0 p d ⟨⟨0, 1, true⟩, ⟨0, 0, false⟩, false, false⟩ [⟨⟨2, 0, 3, 1⟩, 0, 1⟩]) 2 0).bind fun f => match f with | .go _ => none | .ex _ _ => some false | .ret r => some r).bind fun x => some x) = some r) :
    sight_Ray exW p d = some r := by
  unfold sight_Ray sight_meets
  rw [solid_Boxes_fine exW_SS]
  exact h
theorem small11_true : law11_small = some true := by
  unfold law11_small law11_at
  rw [exW_Of]
  simp only [Option.bind_some]
  rw [exB ⟨0, 0, 0⟩ ⟨5, 0, 0⟩ true (by decide), exB ⟨0, 0, 0⟩ ⟨2, 0, 0⟩ false (by decide), exB ⟨0, 1, 0⟩ ⟨5, 1, 0⟩ false (by decide), exB ⟨0, 0, 1⟩ ⟨5, 0, 1⟩ false (by decide),
    exB ⟨2, 0, 0⟩ ⟨2, 0, 0⟩ true (by decide), exB ⟨3, 0, 0⟩ ⟨3, 5, 0⟩ false (by decide), exR ⟨0, 0, 0⟩ ⟨1, 0, 0⟩ true (by decide), exR ⟨0, 0, 0⟩ ⟨-1, 0, 0⟩ false (by decide), exR ⟨0, 0, 0⟩ ⟨4, 1, 1⟩ true (by decide)]
  rfl
end Go.Proofs.Ytbpecfmimgjakaa

namespace Go.Proofs.Ytbpecfmimgjakaa
open Go.Gb
set_option linter.unusedVariables false
set_option linter.unusedSimpArgs false
set_option linter.unusedSectionVars false
set_option maxRecDepth 100000
theorem ss_of {S : Int → Int → Int → Prop} {out : List Slab} (h : IsSolid S out) (hb : ∀ x y z, S x y z → (0 ≤ x ∧ x < 1048576) ∧ (0 ≤ y ∧ y < 1048576) ∧ (0 ≤ z ∧ z < 4096)) (hl : out.length ≤ 80) (ha : ∀ s ∈ out, s.Area.length ≤ 200) : SS out := by
  refine ⟨hl, h.canon, fun s hs => ?_⟩
  obtain ⟨hp, hne⟩ := slab_pos h.canon hs
  have hf := h.form s.Z0
  rw [sect_mem h.canon hs (Int.le_refl _) hp] at hf
  have hf1 := h.form (s.Z1 - 1)
  rw [sect_mem h.canon hs (by omega) (by omega)] at hf1
  have hpos := form_rect hf
  obtain ⟨r, hr⟩ := List.exists_mem_of_ne_nil _ hne
  have hrp := hpos r hr
  have b1 := hb _ _ _ ((hf.cells r.X0 r.Y0).1 ⟨r, hr, ⟨Int.le_refl _, hrp.1⟩, Int.le_refl _, hrp.2⟩)
  have b2 := hb _ _ _ ((hf1.cells r.X0 r.Y0).1 ⟨r, hr, ⟨Int.le_refl _, hrp.1⟩, Int.le_refl _, hrp.2⟩)
  refine ⟨by omega, by omega, RR.of_form hf (fun q hq => ?_) (ha s hs)⟩
  have hqp := hpos q hq
  have c1 := hb _ _ _ ((hf.cells q.X0 q.Y0).1 ⟨q, hq, ⟨Int.le_refl _, hqp.1⟩, Int.le_refl _, hqp.2⟩)
  have c2 := hb _ _ _ ((hf.cells (q.X1 - 1) (q.Y1 - 1)).1 ⟨q, hq, ⟨by omega, by omega⟩, by omega, by omega⟩)
  unfold VR
  omega
theorem slim_or {S : Int → Int → Int → Prop} {out : List Slab} (h : IsSolid S out) (hb : ∀ x y z, S x y z → (0 ≤ x ∧ x < 1048576) ∧ (0 ≤ y ∧ y < 1048576) ∧ (0 ≤ z ∧ z < 4096)) : slim out = ([], 6) ∨ (slim out = (out, 0) ∧ SS out) := by
  unfold slim
  by_cases hc : (∃ s ∈ out, 200 < s.Area.length) ∨ 80 < out.length
  · left; rw [if_pos hc]
  · right
    rw [if_neg hc]
    exact ⟨rfl, ss_of h hb (Nat.le_of_not_lt fun h => hc (.inr h)) fun s hs => Nat.le_of_not_lt fun h => hc (.inl ⟨s, hs, h⟩)⟩

/-! points on a line -/
def add3 (p v : Point3) : Point3 := ⟨p.X + v.X, p.Y + v.Y, p.Z + v.Z⟩
end Go.Proofs.Ytbpecfmimgjakaa

namespace Go.Proofs.Ytbpecfmimgjakaa
open Go.Gb
set_option linter.unusedVariables false
set_option linter.unusedSimpArgs false
set_option linter.unusedSectionVars false
set_option maxRecDepth 100000
section
variable {V : Type} {e : V} {f : V → V} {d : Int}
/-- runs, moved, what holds on each turned -/
def shRuns (d : Int) (f : V → V) (l : Runs V) : Runs V := l.map fun r => (r.1 + d, r.2.1 + d, f r.2.2)
theorem shRuns_canon (hf : ∀ a b, f a = f b → a = b) (he : f e = e) : ∀ {l : Runs V}, Canon e l → Canon e (shRuns d f l)
  | [], _ => trivial
  | (a, b, v) :: t, h => by
    obtain ⟨h1, h2, h3, h4⟩ := h
    refine ⟨by dsimp only; omega, fun h => h2 (hf _ _ (h.trans he.symm)), ?_, shRuns_canon hf he h4⟩
    cases t with
    | nil => trivial
    | cons r t =>
      obtain ⟨c, c', w⟩ := r
      rcases h3 with h3 | ⟨h3, h5⟩
      · exact .inl (by dsimp only; omega)
      · exact .inr ⟨by dsimp only; omega, fun h => h5 (hf _ _ h)⟩
theorem shRuns_rval (he : f e = e) : ∀ {l : Runs V} {x : Int}, rval e (shRuns d f l) x = f (rval e l (x - d))
  | [], _ => he.symm
  | (a, b, v) :: t, x => by
    show (if a + d ≤ x ∧ x < b + d then f v else rval e (shRuns d f t) x) = f (if a ≤ x - d ∧ x - d < b then v else rval e t (x - d))
    by_cases h : a ≤ x - d ∧ x - d < b
    · rw [if_pos h, if_pos (by omega)]
    · rw [if_neg h, if_neg (by omega)]
      exact shRuns_rval he
end
def shR (dx dy : Int) (r : Rect) : Rect := ⟨r.X0 + dx, r.Y0 + dy, r.X1 + dx, r.Y1 + dy⟩
theorem map_inj {α β : Type} {f : α → β} (hf : ∀ a b, f a = f b → a = b) : ∀ {l m : List α}, l.map f = m.map f → l = m
  | [], [], _ => rfl
  | [], _ :: _, h => by simp at h
  | _ :: _, [], h => by simp at h
  | a :: l, b :: m, h => by
    simp only [List.map_cons, List.cons.injEq] at h
    rw [hf _ _ h.1, map_inj hf h.2]
theorem shCol_inj (dy : Int) : ∀ a b : Col, shRuns dy id a = shRuns dy id b → a = b := fun a b h => map_inj (by
  rintro ⟨x1, y1, v1⟩ ⟨x2, y2, v2⟩ h
  simp only [id, Prod.mk.injEq] at h
  obtain ⟨h1, h2, h3⟩ := h
  subst h3
  rw [show x1 = x2 by omega, show y1 = y2 by omega]) h
theorem shR_inj (dx dy : Int) : ∀ a b : Rect, shR dx dy a = shR dx dy b → a = b := by
  rintro ⟨a1, a2, a3, a4⟩ ⟨b1, b2, b3, b4⟩ h
  simp only [shR, Rect.mk.injEq] at h
  rw [show a1 = b1 by omega, show a2 = b2 by omega, show a3 = b3 by omega, show a4 = b4 by omega]
theorem form_shift {S : Int → Int → Prop} {out : List Rect} (dx dy : Int) (h : IsForm S out) : IsForm (fun x y => S (x - dx) (y - dy)) (out.map (shR dx dy)) := by
  obtain ⟨G, h1, h2, h3, rfl⟩ := h
  refine ⟨shRuns dx (shRuns dy id) G, shRuns_canon (shCol_inj dy) rfl h1, ?_, fun x y => ?_, ?_⟩
  · intro a b c hm
    obtain ⟨⟨a', b', c'⟩, hm', he⟩ := List.mem_map.1 hm
    simp only [Prod.mk.injEq] at he
    rw [← he.2.2]
    exact shRuns_canon (fun _ _ h => h) rfl (h2 _ _ _ hm')
  · rw [shRuns_rval (e := ([] : Col)) (f := shRuns dy id) rfl, shRuns_rval (e := false) (f := id) rfl]
    exact h3 _ _
  · clear h1 h2 h3
    induction G with
    | nil => rfl
    | cons g G ih =>
      have e1 : flatG (g :: G) = g.2.2.map (fun s => (⟨g.1, s.1, g.2.1, s.2.1⟩ : Rect)) ++ flatG G := rfl
      have e2 : flatG (shRuns dx (shRuns dy id) (g :: G)) = (shRuns dy id g.2.2).map (fun s => (⟨g.1 + dx, s.1, g.2.1 + dx, s.2.1⟩ : Rect)) ++ flatG (shRuns dx (shRuns dy id) G) := rfl
      rw [e1, e2, List.map_append, ih]
      congr 1
      unfold shRuns
      rw [List.map_map, List.map_map]
      rfl
def shS (by' : Point3) (s : Slab) : Slab := ⟨s.Z0 + by'.Z, s.Z1 + by'.Z, s.Area.map (shR by'.X by'.Y)⟩
def shB (by' : Point3) (b : Box) : Box := ⟨shR by'.X by'.Y b.Base, b.Z0 + by'.Z, b.Z1 + by'.Z⟩
theorem slabRuns_shift (m : Point3) (s : List Slab) : slabRuns (s.map (shS m)) = shRuns m.Z (List.map (shR m.X m.Y)) (slabRuns s) := by
  unfold slabRuns shRuns
  rw [List.map_map, List.map_map]
  rfl
theorem solid_shift {S : Int → Int → Int → Prop} {out : List Slab} (m : Point3) (h : IsSolid S out) : IsSolid (fun x y z => S (x - m.X) (y - m.Y) (z - m.Z)) (out.map (shS m)) := by
  refine ⟨by rw [slabRuns_shift]; exact shRuns_canon (fun _ _ h => map_inj (shR_inj _ _) h) rfl h.canon, fun z => ?_⟩
  have e : sect (out.map (shS m)) z = (sect out (z - m.Z)).map (shR m.X m.Y) := by
    unfold sect
    rw [slabRuns_shift, shRuns_rval (e := ([] : List Rect)) (f := List.map (shR m.X m.Y)) rfl]
  rw [e]
  exact form_shift m.X m.Y (h.form (z - m.Z))
theorem bcells_shift (m : Point3) (l : List Box) (x y z : Int) : bcells (l.map (shB m)) x y z ↔ bcells l (x - m.X) (y - m.Y) (z - m.Z) := by
  unfold bcells
  constructor
  · rintro ⟨b, hb, h1, h2, h3⟩
    obtain ⟨b, hb', rfl⟩ := List.mem_map.1 hb
    refine ⟨b, hb', ?_⟩
    unfold shB shR rin at *
    dsimp only at *
    omega
  · rintro ⟨b, hb, h1, h2, h3⟩
    refine ⟨_, List.mem_map.2 ⟨b, hb, rfl⟩, ?_⟩
    unfold shB shR rin at *
    dsimp only at *
    omega
theorem slim_shift (m : Point3) (out : List Slab) : (slim (out.map (shS m))).2 = (slim out).2 := by
  unfold slim
  have e : ((∃ s ∈ out.map (shS m), 200 < s.Area.length) ∨ 80 < (out.map (shS m)).length) ↔ ((∃ s ∈ out, 200 < s.Area.length) ∨ 80 < out.length) := by
    rw [List.length_map]
    refine or_congr_left ⟨fun ⟨s, hs, h⟩ => ?_, fun ⟨s, hs, h⟩ => ⟨_, List.mem_map.2 ⟨s, hs, rfl⟩, by unfold shS; simpa using h⟩⟩
    obtain ⟨s, hs', rfl⟩ := List.mem_map.1 hs
    exact ⟨s, hs', by unfold shS at h; simpa using h⟩
  by_cases h : (∃ s ∈ out, 200 < s.Area.length) ∨ 80 < out.length
  · rw [if_pos h, if_pos (e.2 h)]
  · rw [if_neg h, if_neg fun h' => h (e.1 h')]
theorem hit_move {S : Int → Int → Int → Prop} {p v m : Point3} {a b : Int} (hb : 0 < b) : Hit (fun x y z => S (x - m.X) (y - m.Y) (z - m.Z)) (add3 p m) v a b ↔ Hit S p v a b := by
  unfold Hit add3
  dsimp only
  have e : ∀ x y d : Int, ((x + d) * b + y * a) / b - d = (x * b + y * a) / b := by
    intro x y d
    have : (x + d) * b + y * a = (x * b + y * a) + d * b := by grind
    rw [this, Int.add_mul_ediv_right _ _ (by omega)]
    omega
  rw [e, e, e]
theorem less_move (p q m : Point3) : less3 (add3 q m) (add3 p m) = less3 q p := by
  unfold less3 add3
  dsimp only
  congr 1 <;> omega
theorem bcells_bounds {l : List Box} (h : ∀ b ∈ l, VB b) {x y z : Int} (hx : bcells l x y z) : (0 ≤ x ∧ x < 1048576) ∧ (0 ≤ y ∧ y < 1048576) ∧ (0 ≤ z ∧ z < 4096) := by
  obtain ⟨b, hb, h1, h2, h3⟩ := hx
  have := h b hb
  unfold VB VR at this
  unfold rin at h1
  omega
theorem Moves_L0 {l : List Box} {m : Point3} (hl : l.length ≤ 20) (hm : (-1048576 ≤ m.X ∧ m.X ≤ 1048576) ∧ (-1048576 ≤ m.Y ∧ m.Y ≤ 1048576) ∧ (-4096 ≤ m.Z ∧ m.Z ≤ 4096)) {fuel : Nat} (hf : l.length < fuel) :
    (iterL (law11_SightMoves_L0 l m true) fuel (([] : List Box), 0) = some (.ex 0 (l.map (shB m), (l.length : Int))) ∧ (∀ b ∈ l, VB b) ∧ ∀ b ∈ l, VB (shB m b)) ∨
    iterL (law11_SightMoves_L0 l m true) fuel (([] : List Box), 0) = some (.ret true) := by
  rcases iter_fromR (k := 0) (body := law11_SightMoves_L0 l m true) (fun (s : List Box) i => (s, i)) 0 l.length (Nat.zero_le _) (fun i s => s = (l.take i).map (shB m) ∧ (∀ b ∈ l.take i, VB b) ∧ ∀ b ∈ l.take i, VB (shB m b)) (fun r => r = true) (by
    rintro i - hi s ⟨rfl, i2, i3⟩
    unfold law11_SightMoves_L0
    dsimp only
    rw [if_pos (by simpa using hi), getI_nat hi, Option.bind_some, rRightBox_eq, Option.bind_some]
    by_cases h1 : VB l[i]
    · have h1' := h1
      unfold VB VR at h1'
      rw [if_neg (by simp [h1]), addI_some (by unfold inI; omega), Option.bind_some, addI_some (by unfold inI; omega), Option.bind_some, addI_some (by unfold inI; omega), Option.bind_some, addI_some (by unfold inI; omega), Option.bind_some, addI_some (by unfold inI; omega), Option.bind_some, addI_some (by unfold inI; omega), Option.bind_some, rRightBox_eq, Option.bind_some]
      by_cases h2 : VB (shB m l[i])
      · left
        have h2' : VB ⟨⟨l[i].Base.X0 + m.X, l[i].Base.Y0 + m.Y, l[i].Base.X1 + m.X, l[i].Base.Y1 + m.Y⟩, l[i].Z0 + m.Z, l[i].Z1 + m.Z⟩ := h2
        rw [if_neg (by simp [h2']), appI_some (by simp; omega), Option.bind_some, addI_one (by omega), Option.bind_some]
        refine ⟨_, rfl, ?_, ?_, ?_⟩
        · rw [List.take_succ_eq_append_getElem hi, List.map_append]; rfl
        · intro b hb
          rw [List.take_succ_eq_append_getElem hi, List.mem_append, List.mem_singleton] at hb
          rcases hb with hb | rfl
          · exact i2 b hb
          · exact h1
        · intro b hb
          rw [List.take_succ_eq_append_getElem hi, List.mem_append, List.mem_singleton] at hb
          rcases hb with hb | rfl
          · exact i3 b hb
          · exact h2
      · right
        have h2' : ¬ VB ⟨⟨l[i].Base.X0 + m.X, l[i].Base.Y0 + m.Y, l[i].Base.X1 + m.X, l[i].Base.Y1 + m.Y⟩, l[i].Z0 + m.Z, l[i].Z1 + m.Z⟩ := h2
        rw [if_pos (by simp [h2'])]
        exact ⟨_, rfl, rfl⟩
    · right
      rw [if_pos (by simp [h1])]
      exact ⟨_, rfl, rfl⟩) (by
    intro s _
    unfold law11_SightMoves_L0
    dsimp only
    rw [if_neg (by simp)]) (s0 := []) ⟨rfl, by simp, by simp⟩ (fuel := fuel) (by omega) with ⟨s, h1, h2, h3, h4⟩ | ⟨r, h1, h2⟩
  · left
    rw [List.take_length] at h2 h3 h4
    rw [h2] at h1
    exact ⟨h1, h3, h4⟩
  · right
    rw [h2] at h1
    exact h1
theorem law_SightMoves (l : List Box) (p q d m : Point3) : law11_SightMoves l p q d m = some true := by
  unfold law11_SightMoves
  rw [small11_true, Option.bind_some]
  by_cases hc : l.length ≤ 20 ∧ (-1048576 ≤ m.X ∧ m.X ≤ 1048576) ∧ (-1048576 ≤ m.Y ∧ m.Y ≤ 1048576) ∧ (-4096 ≤ m.Z ∧ m.Z ≤ 4096)
  · rw [if_neg (by simp; omega), Valid_eq, Option.bind_some, Option.bind_some]
    by_cases hp : onP p
    · rw [if_neg (by simp [hp]), Valid_eq, Option.bind_some, Option.bind_some]
      by_cases hq : onP q
      · rw [if_neg (by simp [hq])]
        rcases Moves_L0 (l := l) (m := m) hc.1 hc.2 (fuel := l.length + ([] : List Box).length + 1) (by simp) with ⟨h1, hv, hw⟩ | h1
        · rw [h1, Option.bind_some]
          dsimp only
          have hw' : ∀ b ∈ l.map (shB m), VB b := by
            intro b hb
            obtain ⟨b, hb', rfl⟩ := List.mem_map.1 hb
            exact hw b hb'
          obtain ⟨o1, s1, e1⟩ := solid_Of_fine hv (by omega)
          obtain ⟨o2, s2, e2⟩ := solid_Of_fine hw' (by rw [List.length_map]; omega)
          have ho : o2 = o1.map (shS m) := s2.unique (solid_shift m s1) fun x y z => bcells_shift m l x y z
          have hsl := slim_shift m o1
          rw [← ho] at hsl
          have hp' := hp
          have hq' := hq
          unfold onP at hp' hq'
          unfold law11_at
          rw [e1, Option.bind_some, e2, Option.bind_some, addI_some (by unfold inI; omega), Option.bind_some, addI_some (by unfold inI; omega), Option.bind_some, addI_some (by unfold inI; omega), Option.bind_some, Option.bind_some,
            addI_some (by unfold inI; omega), Option.bind_some, addI_some (by unfold inI; omega), Option.bind_some, addI_some (by unfold inI; omega), Option.bind_some, Option.bind_some]
          rcases slim_or s1 (fun x y z h => bcells_bounds hv h) with hs | ⟨hs, hS1⟩
          · rw [hs] at hsl
            rw [if_pos (by rw [hs, hsl]; simp), Option.bind_some, if_pos rfl, Option.bind_some, if_pos rfl, hs, hsl]
            simp
          · rw [hs] at hsl
            rcases slim_or s2 (fun x y z h => bcells_bounds hw' h) with ht | ⟨ht, hS2⟩
            · rw [ht] at hsl; simp at hsl
            · rw [hs, ht, if_neg (by simp), Valid_eq, Option.bind_some, Option.bind_some, Valid_eq]
              change (if (!decide (onP (add3 p m))) = true then some true else (some (decide (onP (add3 q m)))).bind fun x => some (!x)).bind _ = _
              by_cases hpm : onP (add3 p m)
              · rw [if_neg (by simp [hpm]), Option.bind_some, Option.bind_some]
                by_cases hqm : onP (add3 q m)
                · rw [if_neg (by simp [hqm]), if_pos rfl]
                  dsimp only
                  have a1 : ∀ b ∈ o1, b.Area.length ≤ 100000 := fun b hb => by have := (hS1.ok b hb).2.2.2.1; omega
                  have a2 : ∀ b ∈ o2, b.Area.length ≤ 100000 := fun b hb => by have := (hS2.ok b hb).2.2.2.1; omega
                  obtain ⟨r1, g1, f1⟩ := Blocked_eq (s := o1) (p := p) (q := q) a1
                  obtain ⟨r2, g2, f2⟩ := Blocked_eq (s := o2) (p := add3 p m) (q := add3 q m) a2
                  obtain ⟨r3, g3, f3⟩ := Ray_eq (s := o1) (p := p) (d := d) a1
                  obtain ⟨r4, g4, f4⟩ := Ray_eq (s := o2) (p := add3 p m) (d := d) a2
                  have hcell : scells o2 = fun x y z => scells o1 (x - m.X) (y - m.Y) (z - m.Z) := by
                    funext x y z
                    rw [eq_iff_iff, s2.cells, bcells_shift, s1.cells]
                  have hB : BlockedP (scells o2) (add3 p m) (add3 q m) ↔ BlockedP (scells o1) p q := by
                    unfold BlockedP
                    rw [less_move, hcell]
                    exact exists_congr fun a => exists_congr fun b => and_congr_right fun hb => and_congr_right fun _ => and_congr_right fun _ => hit_move hb
                  have hR : RayP (scells o2) (add3 p m) d ↔ RayP (scells o1) p d := by
                    unfold RayP
                    rw [hcell]
                    exact exists_congr fun a => exists_congr fun b => and_congr_right fun hb => and_congr_right fun _ => hit_move hb
                  have k1 : r1 = r2 := by
                    rw [Bool.eq_iff_iff, f1, f2, hB]
                    exact ⟨fun h => ⟨hpm, hqm, hS2, h.2.2.2⟩, fun h => ⟨hp, hq, hS1, h.2.2.2⟩⟩
                  have k2 : r3 = r4 := by
                    rw [Bool.eq_iff_iff, f3, f4, hR]
                    exact ⟨fun h => ⟨hpm, h.2.1, hS2, h.2.2.2⟩, fun h => ⟨hp, h.2.1, hS1, h.2.2.2⟩⟩
                  rw [g1, Option.bind_some]
                  change (((sight_Blocked o2 (add3 p m) (add3 q m)).bind fun x => some (r1 == x)).bind fun x => (if x = true then (sight_Ray o1 p d).bind fun y => (sight_Ray o2 (add3 p m) d).bind fun z => some (y == z) else some false).bind fun y => some y) = some true
                  rw [g2, Option.bind_some, Option.bind_some, if_pos (by simp [k1]), g3, Option.bind_some, g4, Option.bind_some, Option.bind_some, k2]
                  simp
                · rw [if_pos (by simp [hqm])]; simp
              · rw [if_pos (by simp [hpm]), Option.bind_some, if_pos rfl]; simp
        · rw [h1, Option.bind_some]
      · rw [if_pos (by simp [hq])]
    · rw [if_pos (by simp [hp]), Option.bind_some, if_pos rfl]
  · rw [if_pos (by simp; omega), Option.bind_some, if_pos rfl, Option.bind_some, if_pos rfl]
end Go.Proofs.Ytbpecfmimgjakaa

