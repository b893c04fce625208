/- The plain part of the proof (no program in sight), part 2 -/
import Derived.Test.YtpbeebhapbibfaaGreatDoorP1
namespace Go.Proofs.YtpbeebhapbibfaaGreatDoor
open Go.Gb
set_option linter.unusedVariables false
set_option linter.unusedSimpArgs false
set_option linter.unusedSectionVars false
set_option linter.unusedVariables false
set_option linter.unusedSimpArgs false

/-- One slab after the other. -/
theorem solid_loop {body : List Slab × Int → Option (Flow (List Slab × Int) (List Slab × Int))} {k : Nat} {zs : List Int} {A : Int → List Rect} (hz : zs.Pairwise fun a b => a < b) (hzl : zs.length ≤ 100000)
    (hb : ∀ i (h1 : 1 ≤ i) (hi : i < zs.length) (s : List Slab), (200 < (A (zs[i - 1]'(by omega))).length → body (s, (i : Int)) = some (.ret ([], 6))) ∧
      ((A (zs[i - 1]'(by omega))).length ≤ 200 → body (s, (i : Int)) = (solid_put s ⟨zs[i - 1]'(by omega), zs[i], A (zs[i - 1]'(by omega))⟩).bind fun o => some (.go (o, ((i + 1 : Nat) : Int)))))
    (hd : ∀ s, body (s, (zs.length : Int)) = some (.ex k (s, (zs.length : Int)))) (h1 : 0 < zs.length) {fuel : Nat} (hf : zs.length < fuel) :
    (iterL body fuel (([] : List Slab), 1) = some (.ex k (unslab (build [] zs A (zs.length - 1)), (zs.length : Int))) ∧ ∀ b ∈ unslab (build [] zs A (zs.length - 1)), b.Area.length ≤ 200) ∨
    (iterL body fuel (([] : List Slab), 1) = some (.ret ([], 6)) ∧ ∃ j, ∃ h : j + 1 < zs.length, 200 < (A zs[j]).length) := by
  rcases iter_fromR (k := k) (body := body) (fun (s : List Slab) i => (s, i)) 1 zs.length h1 (fun i s => slabRuns s = build [] zs A (i - 1) ∧ s.length < i ∧ ∀ b ∈ s, b.Area.length ≤ 200)
    (fun r => r = ([], 6) ∧ ∃ j, ∃ h : j + 1 < zs.length, 200 < (A zs[j]).length) (by
    intro i h1i hi s ⟨hI1, hI2, hI3⟩
    obtain ⟨b1, b2⟩ := hb i h1i hi s
    by_cases hc : 200 < (A (zs[i - 1]'(by omega))).length
    · exact .inr ⟨_, b1 hc, rfl, i - 1, by omega, hc⟩
    · left
      obtain ⟨o, p1, p2, p3, p4⟩ := put_spec (out := s) (x := ⟨zs[i - 1]'(by omega), zs[i], A (zs[i - 1]'(by omega))⟩) (by omega) (fun b hb => by have := hI3 b hb; omega)
      refine ⟨o, by rw [b2 (by omega), p1, Option.bind_some], ?_, by omega, fun b hb => ?_⟩
      · rw [p2, hI1]
        have e : i + 1 - 1 = (i - 1) + 1 := by omega
        rw [e, build_succ (show i - 1 + 1 < zs.length by omega)]
        have e2 : zs[i - 1 + 1]'(by omega) = zs[i] := by congr 1; omega
        rw [e2]
      · rcases p4 b hb with h | ⟨c, hc', h⟩
        · rw [h]; dsimp only; omega
        · rw [h]; exact hI3 c hc') (fun s _ => hd s) (s0 := []) ⟨rfl, by simp, by simp⟩ (fuel := fuel) (by omega) with ⟨s, h2, h3, h4, h5⟩ | ⟨r, h2, rfl, h3⟩
  · left
    have e : s = unslab (build [] zs A (zs.length - 1)) := slabRuns_inj (by rw [h3, slabRuns_unslab])
    rw [← e]
    exact ⟨h2, h5⟩
  · exact .inr ⟨h2, h3⟩

/-! Of -/
def VB (b : Box) : Prop := VR b.Base ∧ 0 ≤ b.Z0 ∧ b.Z0 < b.Z1 ∧ b.Z1 ≤ 4096
instance (b : Box) : Decidable (VB b) := inferInstanceAs (Decidable (_ ∧ _))
/-- The cube (x, y, z) is in one of the boxes. -/
def bcells (l : List Box) (x y z : Int) : Prop := ∃ b ∈ l, rin b.Base x y ∧ b.Z0 ≤ z ∧ z < b.Z1
instance (l : List Box) (x y z : Int) : Decidable (bcells l x y z) := inferInstanceAs (Decidable (∃ b ∈ l, _))
def bases (l : List Box) (z : Int) : List Rect := (l.filter fun b => decide (b.Z0 ≤ z) && decide (z < b.Z1)).map (·.Base)
theorem bases_cells (l : List Box) (x y z : Int) : cells (bases l z) x y ↔ bcells l x y z := by
  unfold cells bcells bases
  constructor
  · rintro ⟨r, hr, h⟩
    obtain ⟨b, hb, rfl⟩ := List.mem_map.1 hr
    simp only [List.mem_filter, Bool.and_eq_true, decide_eq_true_eq] at hb
    exact ⟨b, hb.1, h, hb.2⟩
  · rintro ⟨b, hb, h, hz⟩
    exact ⟨b.Base, List.mem_map.2 ⟨b, by simp only [List.mem_filter, Bool.and_eq_true, decide_eq_true_eq]; exact ⟨hb, hz⟩, rfl⟩, h⟩
theorem bases_length (l : List Box) (z : Int) : (bases l z).length ≤ l.length := by unfold bases; rw [List.length_map]; exact List.length_filter_le _ _
theorem bases_right {l : List Box} (h : ∀ b ∈ l, VB b) (z : Int) : ∀ r ∈ bases l z, VR r := by
  intro r hr
  obtain ⟨b, hb, rfl⟩ := List.mem_map.1 hr
  exact (h b (List.mem_filter.1 hb).1).1
theorem Of_L0 {l : List Box} (hl : l.length ≤ 100000) :
    (¬ (∀ b ∈ l, VB b) ∧ iterL (solid_Of_L0 l) (l.length + 1) (([] : List Slab), 0) = some (.ret ([], 1))) ∨
    ((∀ b ∈ l, VB b) ∧ iterL (solid_Of_L0 l) (l.length + 1) (([] : List Slab), 0) = some (.ex 0 (l.map (fun b => ⟨b.Z0, b.Z1, []⟩), (l.length : Int)))) := by
  rcases iter_fromR (k := 0) (body := solid_Of_L0 l) (fun (s : List Slab) i => (s, i)) 0 l.length (Nat.zero_le _) (fun i s => s = (l.take i).map (fun b => ⟨b.Z0, b.Z1, []⟩) ∧ ∀ j (hj : j < l.length), j < i → VB l[j])
    (fun r => r = ([], 1) ∧ ¬ ∀ b ∈ l, VB b) (by
    rintro i - hi s ⟨rfl, hV⟩
    unfold solid_Of_L0
    dsimp only
    rw [if_pos (by simpa using hi), getI_nat hi, Option.bind_some, rect_Right_eq, Option.bind_some]
    by_cases hv : VB l[i]
    · left
      have hv' := hv
      unfold VB at hv'
      refine ⟨(l.take (i + 1)).map (fun b => ⟨b.Z0, b.Z1, []⟩), ?_, rfl, fun j hj hji => ?_⟩
      · rw [if_neg (by simp only [Bool.or_eq_true, decide_eq_true_eq, Bool.not_eq_true', decide_eq_false_iff_not]; rintro (((h | h) | h) | h) <;> first | exact h hv'.1 | omega),
          appI_some (by simp; omega), Option.bind_some, addI_one (by omega), Option.bind_some, List.take_succ_eq_append_getElem hi, List.map_append]
        rfl
      · rcases Nat.lt_or_ge j i with h | h
        · exact hV j hj h
        · obtain rfl : j = i := by omega
          exact hv
    · right
      refine ⟨_, if_pos ?_, rfl, fun h => hv (h _ (List.getElem_mem hi))⟩
      simp only [Bool.or_eq_true, decide_eq_true_eq, Bool.not_eq_true', decide_eq_false_iff_not]
      unfold VB at hv
      by_cases h1 : VR l[i].Base
      · have : ¬ (0 ≤ l[i].Z0 ∧ l[i].Z0 < l[i].Z1 ∧ l[i].Z1 ≤ 4096) := fun h => hv ⟨h1, h⟩
        omega
      · exact .inl (.inl (.inl h1))) (by
    intro s _
    unfold solid_Of_L0
    dsimp only
    rw [if_neg (by simp)]) (s0 := []) ⟨rfl, fun j _ h => absurd h (Nat.not_lt_zero j)⟩ (fuel := l.length + 1) (by omega) with ⟨s, h1, rfl, h2⟩ | ⟨r, h1, rfl, h2⟩
  · rw [List.take_length] at h1
    refine .inr ⟨fun b hb => ?_, h1⟩
    obtain ⟨j, hj, rfl⟩ := List.getElem_of_mem hb
    exact h2 j hj hj
  · exact .inl ⟨h2, h1⟩
theorem solid_Of_bad {l : List Box} (hl : l.length ≤ 100000) (h : ¬ ∀ b ∈ l, VB b) : solid_Of l = some ([], 1) := by
  unfold solid_Of
  rcases Of_L0 hl with ⟨_, h1⟩ | ⟨h1, _⟩
  · rw [h1, Option.bind_some]
  · exact absurd h1 h
theorem Of_L2 {l : List Box} (hl : l.length ≤ 100000) {zs : List Int} {s : List Slab} {i : Nat} (h1 : 1 ≤ i) (hi : i < zs.length) (hil : i < 1000000) (hz : ∀ b ∈ l, b.Z0 < zs[i] ↔ b.Z0 ≤ zs[i - 1]'(by omega)) :
    iterL (solid_Of_L2 l zs (s, (i : Int))) (l.length + 1) (([] : List Rect), 0) = some (.ex 4 (bases l (zs[i - 1]'(by omega)), (l.length : Int))) := by
  refine (iter_range (k := 4) (l := l) (fun (o : List Rect) j => (o, j)) (fun o b => if (decide (b.Z0 ≤ zs[i - 1]'(by omega)) && decide ((zs[i - 1]'(by omega)) < b.Z1)) then o ++ [b.Base] else o) (fun j o => o.length ≤ j) ?_ ?_ (s0 := []) (Nat.zero_le _) (by omega)).1.trans ?_
  · intro j hj o hI
    have hzj := hz _ (List.getElem_mem hj)
    constructor
    · unfold solid_Of_L2
      dsimp only
      rw [if_pos (by simpa using hj), getI_nat hj, Option.bind_some, getI_nat hi, Option.bind_some]
      have hcond : (if decide (l[j].Z0 < zs[i]) = true then (subI (i : Int) 1).bind fun x => (getI zs x).bind fun y => some (decide (y < l[j].Z1)) else some false) = some (decide (l[j].Z0 ≤ zs[i - 1]'(by omega)) && decide ((zs[i - 1]'(by omega)) < l[j].Z1)) := by
        by_cases c : l[j].Z0 < zs[i]
        · rw [if_pos (by simpa using c), subI_nat (by omega) (by omega), Option.bind_some, getI_nat (show i - 1 < zs.length by omega), Option.bind_some]
          simp [hzj.1 c]
        · rw [if_neg (by simpa using c)]
          have : ¬ l[j].Z0 ≤ zs[i - 1]'(by omega) := fun h => c (hzj.2 h)
          simp [this]
      rw [hcond, Option.bind_some]
      split
      · rw [appI_some (by simp; omega), Option.bind_some, Option.bind_some, addI_one (by omega), Option.bind_some]
      · rw [Option.bind_some, addI_one (by omega), Option.bind_some]
    · split
      · simp; omega
      · omega
  · intro o _
    unfold solid_Of_L2
    dsimp only
    rw [if_neg (by simp)]
  · rw [foldl_filterMap (fun b : Box => decide (b.Z0 ≤ zs[i - 1]'(by omega)) && decide ((zs[i - 1]'(by omega)) < b.Z1)) (fun b => b.Base)]
    rfl
theorem z_cut {zs : List Int} (hp : zs.Pairwise fun a b => a < b) {i : Nat} (h1 : 1 ≤ i) (hi : i < zs.length) {z : Int} (hz : z ∈ zs) : z < zs[i] ↔ z ≤ zs[i - 1]'(by omega) := by
  have e : i - 1 + 1 = i := by omega
  have hlt : (zs[i - 1]'(by omega)) < zs[i] := (List.pairwise_iff_getElem.1 hp) (i - 1) i (by omega) hi (by omega)
  have := asc_gap hp (i := i - 1) (by omega) hz
  simp only [e] at this
  omega
theorem solid_Of_fine {l : List Box} (h : ∀ b ∈ l, VB b) (hm : l.length ≤ 200) : ∃ out, IsSolid (bcells l) out ∧ solid_Of l = some (slim out) := by
  have hex : ∀ z, ∃ o, IsForm (fun x y => bcells l x y z) o ∧ region_Of (bases l z) = some (lim o) := by
    intro z
    obtain ⟨o, h1, h2⟩ := region_Of_fine (bases_right h z) (by have := bases_length l z; omega)
    exact ⟨o, h1.congr fun x y => bases_cells l x y z, h2⟩
  obtain ⟨A, hA⟩ := Classical.axiomOfChoice hex
  obtain ⟨zs, hz1, hz2⟩ := heights_spec (ls := [l.map fun b => (⟨b.Z0, b.Z1, []⟩ : Slab)]) (by simp) (by simp; omega)
  have hzl := hz2.len
  simp only [List.flatten_cons, List.flatten_nil, List.append_nil, List.length_map] at hzl
  have hmem : ∀ b ∈ l, b.Z0 ∈ zs ∧ b.Z1 ∈ zs := by
    intro b hb
    refine ⟨(hz2.mem _).2 ⟨⟨b.Z0, b.Z1, []⟩, ?_, .inl rfl⟩, (hz2.mem _).2 ⟨⟨b.Z0, b.Z1, []⟩, ?_, .inr rfl⟩⟩ <;>
    · simp only [List.flatten_cons, List.flatten_nil, List.append_nil]
      exact List.mem_map.2 ⟨b, hb, rfl⟩
  obtain ⟨hS, hS2, hS3⟩ := build_solid (S := bcells l) hz2.asc (fun z => (hA z).1) (by
    intro i hi z h1 h2 x y
    refine exists_congr fun b => and_congr_right fun hb => and_congr_right fun _ => ?_
    have g1 := asc_gap hz2.asc hi (hmem b hb).1
    have g2 := asc_gap hz2.asc hi (hmem b hb).2
    omega) (by
    rintro z hno x y ⟨b, hb, _, h1, h2⟩
    obtain ⟨i, hi, a1, a2⟩ := asc_between hz2.asc (hmem b hb).1 (hmem b hb).2 h1 h2
    exact hno i hi ⟨a1, a2⟩)
  refine ⟨_, hS, ?_⟩
  unfold solid_Of
  rcases Of_L0 (l := l) (by omega) with ⟨h1, _⟩ | ⟨_, h1⟩
  · exact absurd h h1
  · rw [h1, Option.bind_some]
    dsimp only
    rw [if_neg (by simp; omega), hz1, Option.bind_some]
    rcases Nat.eq_zero_or_pos zs.length with h0 | h0
    · obtain rfl : zs = [] := List.length_eq_zero_iff.1 h0
      have e : iterL (solid_Of_L1 l []) (l.length + ([] : List Int).length + ([] : List Slab).length + 1) (([] : List Slab), 1) = some (.ex 2 (([] : List Slab), 1)) := by
        have : solid_Of_L1 l [] (([] : List Slab), 1) = some (.ex 2 (([] : List Slab), 1)) := by
          unfold solid_Of_L1
          dsimp only
          rw [if_neg (by simp)]
        simp only [iterL, this]
      rw [e, Option.bind_some]
      dsimp only
      rw [fits_eq (by simp), Option.bind_some]
      rfl
    · rcases solid_loop (body := solid_Of_L1 l zs) (k := 2) (A := A) hz2.asc (by omega) (by
        intro i h1i hi s
        have hL2 := Of_L2 (l := l) (by omega) (s := s) h1i hi (by omega) (fun b hb => z_cut hz2.asc h1i hi (hmem b hb).1)
        have hOf := (hA (zs[i - 1]'(by omega))).2
        unfold solid_Of_L1
        dsimp only
        rw [if_pos (by simpa using hi), hL2, Option.bind_some]
        dsimp only
        rw [hOf, Option.bind_some]
        unfold lim
        constructor
        · intro hc
          rw [if_pos hc, if_pos (by decide)]
        · intro hc
          rw [if_neg (Nat.not_lt.2 hc), if_neg (by dsimp only; decide), subI_nat (by omega) (by omega), Option.bind_some, getI_nat (show i - 1 < zs.length by omega), Option.bind_some, getI_nat hi, Option.bind_some]
          rw [addI_one (by omega)]
          rfl) (by
        intro s
        unfold solid_Of_L1
        dsimp only
        rw [if_neg (by simp)]) h0 (fuel := l.length + zs.length + ([] : List Slab).length + 1) (by simp; omega) with ⟨h2, h3⟩ | ⟨h2, j, hj, h3⟩
      · rw [h2, Option.bind_some]
        dsimp only
        rw [fits_eq h3, Option.bind_some]
      · rw [h2, Option.bind_some]
        dsimp only
        obtain ⟨s, hs1, hs2⟩ := hS2 j hj (fun e => by rw [e] at h3; simp at h3)
        unfold slim
        rw [if_pos (.inl ⟨s, hs1, by rw [hs2]; exact h3⟩)]

/-! Combining -/
theorem at_eq {s : List Slab} (hl : s.length ≤ 100000) (z : Int) : solid_at s z = some (sect s z) := by
  unfold solid_at
  have hval : ∀ i (hi : i < s.length), (s[i].Z0 ≤ z ∧ z < s[i].Z1) → (∀ j (hj : j < i), ¬ ((s[j]'(by omega)).Z0 ≤ z ∧ z < (s[j]'(by omega)).Z1)) → sect s z = s[i].Area := by
    clear hl
    induction s with
    | nil => intro i hi; simp at hi
    | cons a s ih =>
      intro i hi h1 h2
      show (if a.Z0 ≤ z ∧ z < a.Z1 then a.Area else sect s z) = _
      cases i with
      | zero => exact if_pos h1
      | succ i =>
        have h3 : ¬ (a.Z0 ≤ z ∧ z < a.Z1) := h2 0 (by omega)
        rw [if_neg h3]
        exact ih i (by simpa using hi) h1 fun j hj => by simpa using h2 (j + 1) (by omega)
  have hnone : (∀ b ∈ s, ¬ (b.Z0 ≤ z ∧ z < b.Z1)) → sect s z = [] := by
    clear hl hval
    induction s with
    | nil => intro _; rfl
    | cons a s ih =>
      intro h
      show (if a.Z0 ≤ z ∧ z < a.Z1 then a.Area else sect s z) = _
      rw [if_neg (h a (by simp))]
      exact ih fun b hb => h b (by simp [hb])
  rcases iter_find (l := s) (body := solid_at_L0 s z) (k := 0) (fun b => b.Z0 ≤ z ∧ z < b.Z1) (fun i => (s[i]?.getD default).Area) (by
    intro i hi
    unfold solid_at_L0
    rw [if_pos (by simpa using hi), getI_nat hi, Option.bind_some]
    by_cases hc : s[i].Z0 ≤ z ∧ z < s[i].Z1
    · left
      rw [if_pos (by simpa using hc), List.getElem?_eq_getElem hi]
      exact ⟨hc, rfl⟩
    · right
      rw [if_neg (by simpa using hc), addI_one (by omega), Option.bind_some]
      exact ⟨hc, rfl⟩) (by
    unfold solid_at_L0
    rw [if_neg (by simp)]) (fuel := s.length + 1) (by omega) with ⟨i, hi, hp, hq, h⟩ | ⟨hp, h⟩
  · rw [h, Option.bind_some]
    dsimp only
    rw [List.getElem?_eq_getElem hi, hval i hi hp fun j hj => hq j hj]
    rfl
  · rw [h, Option.bind_some, hnone hp]
theorem scombine_fine {f : List Rect → List Rect → Option (List Rect × Int)} {op : Int} (hop : ∀ a b, RR a → RR b → ∃ out, IsForm (opS op a b) out ∧ f a b = some (lim out)) {a b : List Slab} (ha : SS a) (hb : SS b) :
    ∃ out, IsSolid (fun x y z => opB op (decide (scells a x y z)) (decide (scells b x y z)) = true) out ∧ solid_combine a b f = some (slim out) := by
  have la := ha.len; have lb := hb.len
  obtain ⟨A, hA⟩ := Classical.axiomOfChoice fun z => hop (sect a z) (sect b z) (ha.sect z) (hb.sect z)
  obtain ⟨zs, hz1, hz2⟩ := heights_spec (ls := [a, b]) (by simp) (by
    intro l hl
    simp only [List.mem_cons, List.not_mem_nil, or_false] at hl
    rcases hl with rfl | rfl <;> omega)
  have hfl : [a, b].flatten = a ++ b := by simp
  rw [hfl] at hz2
  have hzl := hz2.len
  simp only [List.length_append] at hzl
  have hmem : ∀ s ∈ a ++ b, s.Z0 ∈ zs ∧ s.Z1 ∈ zs := fun s hs => ⟨(hz2.mem _).2 ⟨s, hs, .inl rfl⟩, (hz2.mem _).2 ⟨s, hs, .inr rfl⟩⟩
  have hsame : ∀ c : List Slab, (∀ s ∈ c, s ∈ a ++ b) → ∀ i (hi : i + 1 < zs.length) z, zs[i] ≤ z → z < zs[i + 1] → sect c zs[i] = sect c z := by
    intro c hc i hi z h1 h2
    refine rval_between (fun r hr => ?_) h1
    obtain ⟨s, hs, rfl⟩ := List.mem_map.1 hr
    have g1 := asc_gap hz2.asc hi (hmem s (hc s hs)).1
    have g2 := asc_gap hz2.asc hi (hmem s (hc s hs)).2
    dsimp only; omega
  have hout : ∀ c : List Slab, (∀ s ∈ c, s ∈ a ++ b) → ∀ z, (∀ i (h : i + 1 < zs.length), ¬ (zs[i] ≤ z ∧ z < zs[i + 1])) → sect c z = [] := by
    intro c hc z hno
    rcases rval_mem (e := []) (l := slabRuns c) (x := z) with h7 | ⟨p, q, h7, h8, h9⟩
    · exact h7
    · obtain ⟨s, hs, he⟩ := List.mem_map.1 h7
      simp only [Prod.mk.injEq] at he
      obtain ⟨i, hi, a1, a2⟩ := asc_between hz2.asc (hmem s (hc s hs)).1 (hmem s (hc s hs)).2 (by omega) (by omega : z < s.Z1)
      exact absurd ⟨a1, a2⟩ (hno i hi)
  have hma : ∀ s ∈ a, s ∈ a ++ b := fun s hs => List.mem_append_left _ hs
  have hmb : ∀ s ∈ b, s ∈ a ++ b := fun s hs => List.mem_append_right _ hs
  obtain ⟨hS, hS2, hS3⟩ := build_solid (S := fun x y z => opB op (decide (scells a x y z)) (decide (scells b x y z)) = true) hz2.asc (fun z => (hA z).1) (by
    intro i hi z h1 h2 x y
    have key : ∀ c : List Slab, sect c zs[i] = sect c z → decide (scells c x y zs[i]) = decide (scells c x y z) := by
      intro c hc
      rw [decide_eq_decide]
      unfold scells; rw [hc]
    rw [key a (hsame a hma i hi z h1 h2), key b (hsame b hmb i hi z h1 h2)]) (by
    intro z hno x y h
    have e : ∀ c : List Slab, sect c z = [] → decide (scells c x y z) = false := by
      intro c hc
      rw [decide_eq_false_iff_not]
      unfold scells; rw [hc]; simp [cells]
    rw [e a (hout a hma z hno), e b (hout b hmb z hno), opB_false] at h
    simp at h)
  refine ⟨_, hS, ?_⟩
  unfold solid_combine
  rw [solid_Right_true ha, Option.bind_some, if_neg (by simp), solid_Right_true hb, Option.bind_some, Option.bind_some, if_neg (by simp), hz1, Option.bind_some]
  rcases Nat.eq_zero_or_pos zs.length with h0 | h0
  · obtain rfl : zs = [] := List.length_eq_zero_iff.1 h0
    have e : iterL (solid_combine_L0 a b f []) (a.length + b.length + ([] : List Int).length + ([] : List Slab).length + 1) (([] : List Slab), 1) = some (.ex 0 (([] : List Slab), 1)) := by
      have : solid_combine_L0 a b f [] (([] : List Slab), 1) = some (.ex 0 (([] : List Slab), 1)) := by
        unfold solid_combine_L0
        dsimp only
        rw [if_neg (by simp)]
      simp only [iterL, this]
    rw [e, Option.bind_some]
    dsimp only
    rw [fits_eq (by simp), Option.bind_some]
    rfl
  · rcases solid_loop (body := solid_combine_L0 a b f zs) (k := 0) (A := A) hz2.asc (by omega) (by
      intro i h1i hi s
      have hf := (hA (zs[i - 1]'(by omega))).2
      unfold solid_combine_L0
      dsimp only
      rw [if_pos (by simpa using hi)]
      have hsub : subI (i : Int) 1 = some ((i - 1 : Nat) : Int) := subI_nat (by omega) (by omega)
      have hg : getI zs ((i - 1 : Nat) : Int) = some (zs[i - 1]'(by omega)) := getI_nat (by omega)
      have e1 := at_eq (s := a) (by omega) (zs[i - 1]'(by omega))
      have e2 := at_eq (s := b) (by omega) (zs[i - 1]'(by omega))
      have hadd : addI (i : Int) 1 = some ((i + 1 : Nat) : Int) := addI_one (by omega)
      simp only [hsub, hg, e1, e2, hf, getI_nat hi, hadd, Option.bind_some]
      unfold lim
      constructor
      · intro hc
        rw [if_pos hc, if_pos (by decide)]
      · intro hc
        rw [if_neg (Nat.not_lt.2 hc), if_neg (by dsimp only; decide)]) (by
      intro s
      unfold solid_combine_L0
      dsimp only
      rw [if_neg (by simp)]) h0 (fuel := a.length + b.length + zs.length + ([] : List Slab).length + 1) (by simp; omega) with ⟨h2, h3⟩ | ⟨h2, j, hj, h3⟩
    · rw [h2, Option.bind_some]
      dsimp only
      rw [fits_eq h3, Option.bind_some]
    · rw [h2, Option.bind_some]
      dsimp only
      obtain ⟨s, hs1, hs2⟩ := hS2 j hj (fun e => by rw [e] at h3; simp at h3)
      unfold slim
      rw [if_pos (.inl ⟨s, hs1, by rw [hs2]; exact h3⟩)]
/-- What the operation makes of two solids. -/
def sopS (op : Int) (a b : List Slab) (x y z : Int) : Prop := opB op (decide (scells a x y z)) (decide (scells b x y z)) = true
noncomputable def solidOp (op : Int) (a b : List Slab) : Option (List Slab × Int) := if op = 1 then solid_Common a b else if op = 2 then solid_Minus a b else solid_Union a b
theorem solidOp_fine {op : Int} {a b : List Slab} (ha : SS a) (hb : SS b) : ∃ out, IsSolid (sopS op a b) out ∧ solidOp op a b = some (slim out) := by
  have hr := fun p q (hp : RR p) (hq : RR q) => regionOp_fine (op := op) hp hq
  unfold regionOp at hr
  unfold solidOp sopS
  split
  · rename_i h; simp only [h, if_true] at hr
    obtain ⟨out, h1, h2⟩ := scombine_fine (f := region_Common) (op := op) (by rw [h]; exact hr) ha hb
    exact ⟨out, h1, by unfold solid_Common; rw [h2, Option.bind_some]⟩
  · rename_i h
    split
    · rename_i h'
      obtain ⟨out, h1, h2⟩ := scombine_fine (f := region_Minus) (op := op) (fun p q hp hq => by have := hr p q hp hq; rwa [if_neg h, if_pos h'] at this) ha hb
      exact ⟨out, h1, by unfold solid_Minus; rw [h2, Option.bind_some]⟩
    · rename_i h'
      obtain ⟨out, h1, h2⟩ := scombine_fine (f := region_Union) (op := op) (fun p q hp hq => by have := hr p q hp hq; rwa [if_neg h, if_neg h'] at this) ha hb
      exact ⟨out, h1, by unfold solid_Union; rw [h2, Option.bind_some]⟩
end Go.Proofs.YtpbeebhapbibfaaGreatDoor

namespace Go.Proofs.YtpbeebhapbibfaaGreatDoor
open Go.Gb
set_option linter.unusedVariables false
set_option linter.unusedSimpArgs false
set_option linter.unusedSectionVars false
set_option linter.unusedVariables false
set_option linter.unusedSimpArgs false

/-! What is asked of a region -/
theorem rect_checked_eq (r : Rect) : rect_checked r = some (if VR r then (r, true) else (⟨0, 0, 0, 0⟩, false)) := by
  unfold rect_checked
  rw [rect_Right_eq, Option.bind_some]
  by_cases h : VR r <;> simp [h]
theorem rect_Has_eq (r : Rect) (x y : Int) : rect_Has r x y = some (decide (VR r ∧ rin r x y)) := by
  unfold rect_Has
  rw [rect_checked_eq, Option.bind_some]
  congr 1
  by_cases h : VR r
  · rw [if_pos h, Bool.eq_iff_iff]
    simp only [Bool.and_eq_true, decide_eq_true_eq, h, true_and]
    unfold rin
    constructor
    · rintro ⟨⟨⟨a, b⟩, c⟩, d⟩; exact ⟨⟨a, b⟩, c, d⟩
    · rintro ⟨⟨a, b⟩, c, d⟩; exact ⟨⟨⟨a, b⟩, c⟩, d⟩
  · rw [if_neg h]
    rw [Bool.eq_iff_iff]
    simp only [Bool.and_eq_true, decide_eq_true_eq, h, false_and, iff_false]
    omega
/-! What is asked of a solid -/
/-- The height over a cell. -/
def IsTop (s : List Slab) (x y t : Int) : Prop := 0 ≤ t ∧ (∀ z, scells s x y z → z < t) ∧ (t = 0 ∨ scells s x y (t - 1))
theorem IsTop.unique {s : List Slab} {x y t t' : Int} (h : IsTop s x y t) (h' : IsTop s x y t') : t = t' := by
  obtain ⟨a1, a2, a3⟩ := h
  obtain ⟨b1, b2, b3⟩ := h'
  rcases a3 with rfl | a3
  · rcases b3 with rfl | b3
    · rfl
    · have := a2 _ b3; omega
  · have := b2 _ a3
    rcases b3 with rfl | b3
    · omega
    · have := a2 _ b3; omega
theorem scells_slab {s : List Slab} (h : Canon [] (slabRuns s)) {x y z : Int} : scells s x y z ↔ ∃ b ∈ s, cells b.Area x y ∧ b.Z0 ≤ z ∧ z < b.Z1 := by
  constructor
  · intro hc
    unfold scells at hc
    rcases rval_mem (e := []) (l := slabRuns s) (x := z) with h1 | ⟨p, q, h1, h2⟩
    · unfold sect at hc; rw [h1] at hc; simp [cells] at hc
    · obtain ⟨b, hb, he⟩ := List.mem_map.1 h1
      simp only [Prod.mk.injEq] at he
      have : sect s z = b.Area := by unfold sect; rw [← he.2.2]
      exact ⟨b, hb, by rw [← this]; exact hc, by omega⟩
  · rintro ⟨b, hb, h1, h2, h3⟩
    unfold scells
    rw [sect_mem h hb h2 h3]; exact h1
theorem slab_order {s : List Slab} (h : Canon [] (slabRuns s)) {i j : Nat} (hij : i < j) (hj : j < s.length) : (s[i]'(by omega)).Z1 ≤ s[j].Z0 := by
  have := List.pairwise_iff_getElem.1 (canon_pairwise h) i j (by rw [slabRuns_length]; omega) (by rw [slabRuns_length]; exact hj) hij
  simpa [slabRuns] using this
end Go.Proofs.YtpbeebhapbibfaaGreatDoor

namespace Go.Proofs.YtpbeebhapbibfaaGreatDoor
open Go.Gb
set_option linter.unusedVariables false
set_option linter.unusedSimpArgs false
set_option linter.unusedSectionVars false
set_option linter.unusedVariables false
set_option linter.unusedSimpArgs false

/-! Forms that can be checked by reckoning -/
def canonB {V : Type} [DecidableEq V] (e : V) : Runs V → Bool
  | [] => true
  | (a, b, v) :: t => decide (a < b) && decide (v ≠ e) && (match t with | [] => true | (c, _, w) :: _ => decide (b < c) || (decide (b = c) && decide (v ≠ w))) && canonB e t
theorem canonB_spec {V : Type} [DecidableEq V] {e : V} : ∀ {l : Runs V}, canonB e l = true → Canon e l
  | [], _ => trivial
  | (a, b, v) :: t, h => by
    simp only [canonB, Bool.and_eq_true, decide_eq_true_eq] at h
    obtain ⟨⟨⟨h1, h2⟩, h3⟩, h4⟩ := h
    refine ⟨h1, h2, ?_, canonB_spec h4⟩
    cases t with
    | nil => trivial
    | cons r t =>
      obtain ⟨c, d, w⟩ := r
      simp only [Bool.or_eq_true, Bool.and_eq_true, decide_eq_true_eq] at h3
      exact h3
/-- The runs of columns of a list of rectangles, neighbours with the same ends in one. -/
def runsOf : List Rect → Runs Col
  | [] => []
  | r :: l => match runsOf l with
    | [] => [(r.X0, r.X1, [(r.Y0, r.Y1, true)])]
    | (a, b, c) :: t => if r.X0 = a ∧ r.X1 = b then (a, b, (r.Y0, r.Y1, true) :: c) :: t else (r.X0, r.X1, [(r.Y0, r.Y1, true)]) :: (a, b, c) :: t
theorem flatG_cons (a b : Int) (c : Col) (t : Runs Col) : flatG ((a, b, c) :: t) = (c.map fun s => ⟨a, s.1, b, s.2.1⟩) ++ flatG t := rfl
theorem flatG_runsOf : ∀ l : List Rect, flatG (runsOf l) = l
  | [] => rfl
  | r :: l => by
    have ih := flatG_runsOf l
    simp only [runsOf]
    split
    · rename_i h
      rw [h] at ih
      rw [← ih]; rfl
    · rename_i a b c t h
      rw [h] at ih
      split
      · rename_i h2
        obtain ⟨rfl, rfl⟩ := h2
        rw [← ih, flatG_cons, flatG_cons]; rfl
      · rw [flatG_cons, ← ih]; rfl
def formB (l : List Rect) : Bool := canonB [] (runsOf l) && (runsOf l).all fun g => canonB false g.2.2
theorem formB_spec {l : List Rect} (h : formB l = true) : IsForm (cells l) l := by
  unfold formB at h
  rw [Bool.and_eq_true, List.all_eq_true] at h
  have hf : IsForm (fun x y => rval false (rval [] (runsOf l) x) y = true) l := ⟨runsOf l, canonB_spec h.1, fun a b c hm => canonB_spec (h.2 _ hm), fun _ _ => Iff.rfl, (flatG_runsOf l).symm⟩
  exact hf.self
def rrB (l : List Rect) : Bool := l.all (fun r => decide (VR r)) && decide (l.length ≤ 200) && formB l
theorem rrB_spec {l : List Rect} (h : rrB l = true) : RR l := by
  unfold rrB at h
  simp only [Bool.and_eq_true, List.all_eq_true, decide_eq_true_eq] at h
  exact ⟨h.1.1, h.1.2, formB_spec h.2⟩
def ssB (s : List Slab) : Bool := decide (s.length ≤ 80) && canonB [] (slabRuns s) && s.all fun b => decide (0 ≤ b.Z0) && decide (b.Z1 ≤ 4096) && rrB b.Area
theorem ssB_spec {s : List Slab} (h : ssB s = true) : SS s := by
  unfold ssB at h
  simp only [Bool.and_eq_true, List.all_eq_true, decide_eq_true_eq] at h
  exact ⟨h.1.1, canonB_spec h.1.2, fun b hb => ⟨(h.2 b hb).1.1, (h.2 b hb).1.2, rrB_spec (h.2 b hb).2⟩⟩
theorem slim_fine {s : List Slab} (h : SS s) : slim s = (s, 0) := by
  unfold slim
  rw [if_neg]
  rintro (⟨b, hb, h'⟩ | h')
  · have := (h.ok b hb).2.2.2.1; omega
  · have := h.len; omega
theorem Of_is {l : List Box} {w : List Slab} (hl : l.all (fun b => decide (VB b)) = true) (hn : l.length ≤ 200) (hw : ssB w = true) (he : ∀ x y z, bcells l x y z ↔ scells w x y z) : solid_Of l = some (w, 0) := by
  have hS := ssB_spec hw
  obtain ⟨out, h1, h2⟩ := solid_Of_fine (l := l) (by simpa using hl) hn
  rw [h2, h1.unique hS.solid he, slim_fine hS]
theorem scells_iff {s : List Slab} {x y z : Int} : scells s x y z ↔ cells (sect s z) x y := Iff.rfl
theorem sect_cons (b : Slab) (s : List Slab) (z : Int) : sect (b :: s) z = if b.Z0 ≤ z ∧ z < b.Z1 then b.Area else sect s z := rfl
theorem sect_nil (z : Int) : sect [] z = [] := rfl
theorem cells_if {p : Prop} [Decidable p] {a b : List Rect} {x y : Int} : cells (if p then a else b) x y ↔ (p ∧ cells a x y) ∨ (¬ p ∧ cells b x y) := by
  split <;> simp [*]
end Go.Proofs.YtpbeebhapbibfaaGreatDoor

namespace Go.Proofs.YtpbeebhapbibfaaGreatDoor
open Go.Gb
set_option linter.unusedVariables false
set_option linter.unusedSimpArgs false
set_option linter.unusedSectionVars false
set_option linter.unusedVariables false
set_option linter.unusedSimpArgs false

theorem nodup_le {α : Type} [DecidableEq α] : ∀ {l m : List α}, l.Nodup → (∀ x ∈ l, x ∈ m) → l.length ≤ m.length
  | [], m, _, _ => Nat.zero_le _
  | a :: l, m, hn, hs => by
    have hn' := List.nodup_cons.1 hn
    have ha := hs a (by simp)
    have ih := nodup_le (l := l) (m := m.erase a) hn'.2 fun x hx => by
      have hxa : x ≠ a := fun e => hn'.1 (e ▸ hx)
      exact (List.mem_erase_of_ne hxa).2 (hs x (by simp [hx]))
    rw [List.length_erase_of_mem ha] at ih
    have := List.length_pos_of_mem ha
    simp only [List.length_cons]; omega

/-- How many of the numbers lie in [a, b). -/
def inC (D : List Int) (a b : Int) : Nat := D.countP fun c => decide (a ≤ c) && decide (c < b)
def ends (l : List (Int × Int)) : List Int := l.flatMap fun r => [r.1, r.2]
theorem ends_cons (r : Int × Int) (l : List (Int × Int)) : ends (r :: l) = r.1 :: r.2 :: ends l := rfl
def sumNat {α : Type} (f : α → Nat) : List α → Nat
  | [] => 0
  | x :: xs => f x + sumNat f xs
theorem sumNat_le {α : Type} {f g : α → Nat} : ∀ {l : List α}, (∀ x ∈ l, f x ≤ g x) → sumNat f l ≤ sumNat g l
  | [], _ => Nat.le_refl _
  | x :: l, h => by
    have := h x (by simp)
    have := sumNat_le (l := l) fun y hy => h y (by simp [hy])
    simp only [sumNat]; omega
theorem sumNat_add {α : Type} {f g : α → Nat} : ∀ {l : List α}, sumNat (fun x => f x + g x) l = sumNat f l + sumNat g l
  | [] => rfl
  | x :: l => by simp only [sumNat, sumNat_add (l := l)]; omega
theorem sumNat_const {α : Type} {c : Nat} : ∀ {l : List α}, sumNat (fun _ => c) l = c * l.length
  | [] => rfl
  | x :: l => by simp only [sumNat, sumNat_const (l := l), List.length_cons, Nat.mul_add]; omega
/-- Numbers that are ends of intervals, each once: those in a set are no more than the ends in it. -/
theorem count_ends {l : List (Int × Int)} {q : Int → Bool} : ∀ {D : List Int}, D.Nodup → (∀ c ∈ D, c ∈ ends l) → D.countP q ≤ sumNat (fun r => (if q r.1 then 1 else 0) + (if q r.2 then 1 else 0)) l := by
  intro D hn hs
  have h1 : D.countP q = (D.filter q).length := List.countP_eq_length_filter
  have h2 : (D.filter q).length ≤ ((ends l).filter q).length := nodup_le (hn.sublist List.filter_sublist) fun x hx => by
    rw [List.mem_filter] at hx ⊢
    exact ⟨hs x hx.1, hx.2⟩
  have h3 : ∀ l : List (Int × Int), ((ends l).filter q).length = sumNat (fun r => (if q r.1 then 1 else 0) + (if q r.2 then 1 else 0)) l := by
    intro l
    induction l with
    | nil => rfl
    | cons r l ih =>
      rw [ends_cons]
      simp only [List.filter_cons, sumNat, ← ih]
      cases q r.1 <;> cases q r.2 <;> simp <;> omega
  rw [← h3]; omega
theorem pairs_sq : ∀ {l : List (Int × Int)} {D : List Int}, (∀ r ∈ l, r.1 < r.2) → D.Nodup → (∀ c ∈ D, c ∈ ends l) → sumNat (fun r => inC D r.1 r.2) l ≤ l.length * l.length
  | [], D, _, _, _ => Nat.le_refl _
  | r0 :: l, D, hlt, hn, hs => by
    have h0 := hlt r0 (by simp)
    -- the numbers that are ends of the other intervals, and those that are not
    let o : Int → Bool := fun c => decide (c ∈ ends l)
    have hD : ∀ p : Int → Bool, D.countP p = (D.filter o).countP p + (D.filter fun c => !o c).countP p := by
      intro p
      clear hn hs hlt
      induction D with
      | nil => rfl
      | cons c D ih =>
        simp only [List.countP_cons, List.filter_cons, ih]
        cases o c <;> simp [List.countP_cons] <;> omega
    have hD1 : (D.filter o).Nodup := hn.sublist List.filter_sublist
    have hs1 : ∀ c ∈ D.filter o, c ∈ ends l := fun c hc => by have := (List.mem_filter.1 hc).2; simpa [o] using this
    have hD2 : (D.filter fun c => !o c).Nodup := hn.sublist List.filter_sublist
    have hs2 : ∀ c ∈ D.filter (fun c => !o c), c ∉ ends l ∧ (c = r0.1 ∨ c = r0.2) := fun c hc => by
      have h1 := (List.mem_filter.1 hc).2
      have h2 := hs c (List.mem_filter.1 hc).1
      rw [ends_cons] at h2
      have h3 : c ∉ ends l := by simpa [o] using h1
      refine ⟨h3, ?_⟩
      rcases List.mem_cons.1 h2 with h | h
      · exact .inl h
      · rcases List.mem_cons.1 h with h | h
        · exact .inr h
        · exact absurd h h3
    have ih := pairs_sq (l := l) (D := D.filter o) (fun r hr => hlt r (by simp [hr])) hD1 hs1
    -- the new numbers within another interval
    have hnew : ∀ r ∈ l, (D.filter fun c => !o c).countP (fun c => decide (r.1 ≤ c) && decide (c < r.2)) ≤ (if r.1 < r0.1 ∧ r0.1 < r.2 then 1 else 0) + (if r.1 < r0.2 ∧ r0.2 < r.2 then 1 else 0) := by
      intro r hr
      have hrl := hlt r (by simp [hr])
      have := count_ends (l := [r0]) (q := fun c => decide (r.1 < c) && decide (c < r.2)) (D := D.filter fun c => !o c) hD2 (fun c hc => by
        have := (hs2 c hc).2
        simp [ends]; exact this)
      have e : (D.filter fun c => !o c).countP (fun c => decide (r.1 ≤ c) && decide (c < r.2)) = (D.filter fun c => !o c).countP (fun c => decide (r.1 < c) && decide (c < r.2)) := by
        refine List.countP_congr fun c hc => ?_
        have hc1 : c ≠ r.1 := fun e => (hs2 c hc).1 (by rw [e]; exact List.mem_flatMap.2 ⟨r, hr, by simp⟩)
        simp only [Bool.and_eq_true, decide_eq_true_eq]
        omega
      rw [e]
      simpa [sumNat] using this
    -- the numbers within the new interval
    have hold : inC D r0.1 r0.2 ≤ 1 + sumNat (fun r => (if r0.1 < r.1 ∧ r.1 < r0.2 then 1 else 0) + (if r0.1 < r.2 ∧ r.2 < r0.2 then 1 else 0)) l := by
      have h1 : inC D r0.1 r0.2 ≤ 1 + D.countP (fun c => decide (r0.1 < c) && decide (c < r0.2)) := by
        have h2 : D.countP (fun c => decide (c = r0.1)) ≤ 1 := by
          have := nodup_le (l := D.filter fun c => decide (c = r0.1)) (m := [r0.1]) (hn.sublist List.filter_sublist) fun x hx => by
            have := (List.mem_filter.1 hx).2
            simpa using this
          rw [List.countP_eq_length_filter]; simpa using this
        have h3 : inC D r0.1 r0.2 ≤ D.countP (fun c => decide (c = r0.1)) + D.countP (fun c => decide (r0.1 < c) && decide (c < r0.2)) := by
          unfold inC
          clear hn hs hD hD1 hs1 hD2 hs2 ih hnew h2
          induction D with
          | nil => simp
          | cons c D ih =>
            simp only [List.countP_cons]
            by_cases c1 : c = r0.1
            · subst c1; simp [h0]; omega
            · by_cases c2 : r0.1 < c ∧ c < r0.2
              · simp [c1, c2, Int.le_of_lt c2.1]; omega
              · have : ¬ (r0.1 ≤ c ∧ c < r0.2) := by omega
                simp only [Bool.and_eq_true, decide_eq_true_eq, c1, c2, this, if_false]; omega
        omega
      have h4 : D.countP (fun c => decide (r0.1 < c) && decide (c < r0.2)) ≤ sumNat (fun r => (if r0.1 < r.1 ∧ r.1 < r0.2 then 1 else 0) + (if r0.1 < r.2 ∧ r.2 < r0.2 then 1 else 0)) (r0 :: l) := by
        have := count_ends (l := r0 :: l) (q := fun c => decide (r0.1 < c) && decide (c < r0.2)) hn hs
        simpa using this
      have h5 : sumNat (fun r : Int × Int => (if r0.1 < r.1 ∧ r.1 < r0.2 then 1 else 0) + (if r0.1 < r.2 ∧ r.2 < r0.2 then 1 else 0)) (r0 :: l) = sumNat (fun r => (if r0.1 < r.1 ∧ r.1 < r0.2 then 1 else 0) + (if r0.1 < r.2 ∧ r.2 < r0.2 then 1 else 0)) l := by
        simp only [sumNat]
        rw [if_neg (by omega), if_neg (by omega)]; omega
      omega
    have hsum : sumNat (fun r => inC D r.1 r.2) l ≤ sumNat (fun r => inC (D.filter o) r.1 r.2) l + sumNat (fun r => (if r.1 < r0.1 ∧ r0.1 < r.2 then 1 else 0) + (if r.1 < r0.2 ∧ r0.2 < r.2 then 1 else 0)) l := by
      rw [← sumNat_add]
      refine sumNat_le fun r hr => ?_
      unfold inC
      rw [hD]
      have := hnew r hr
      omega
    have hpair : sumNat (fun r => (if r.1 < r0.1 ∧ r0.1 < r.2 then 1 else 0) + (if r.1 < r0.2 ∧ r0.2 < r.2 then 1 else 0)) l + sumNat (fun r => (if r0.1 < r.1 ∧ r.1 < r0.2 then 1 else 0) + (if r0.1 < r.2 ∧ r.2 < r0.2 then 1 else 0)) l ≤ 2 * l.length := by
      rw [← sumNat_add, ← sumNat_const]
      refine sumNat_le fun r hr => ?_
      have := hlt r (by simp [hr])
      repeat' split
      all_goals omega
    have e : (r0 :: l).length * (r0 :: l).length = l.length * l.length + 2 * l.length + 1 := by
      simp only [List.length_cons, Nat.add_mul, Nat.mul_add]; omega
    rw [e]
    simp only [sumNat]
    omega

/-- What holds at a cell hangs on the rectangles alone that the cell is in. -/
structure Hangs (S : Int → Int → Prop) (l : List Rect) : Prop where
  same : ∀ x y x' y', (∀ r ∈ l, rin r x y ↔ rin r x' y') → (S x y ↔ S x' y')
  none : ∀ x y, (∀ r ∈ l, ¬ rin r x y) → ¬ S x y
theorem rval_before {V : Type} {e : V} : ∀ {l : Runs V}, Canon e l → ∀ {a b : Int} {v : V}, (a, b, v) ∈ l → rval e l (a - 1) ≠ v
  | (c, d, w) :: t, hc, a, b, v, hm => by
    obtain ⟨k1, k2, k3, k4⟩ := hc
    rcases List.mem_cons.1 hm with h | h
    · simp only [Prod.mk.injEq] at h
      obtain ⟨rfl, rfl, rfl⟩ := h
      rw [canon_lt ⟨k1, k2, k3, k4⟩ (by omega)]
      exact fun h => k2 h.symm
    · have ih := rval_before k4 h
      have hst := canon_starts k4 k3 _ h
      simp only at hst
      simp only [rval]
      split
      · rename_i h2
        -- the last place of the first run: the run begins right behind it
        have had : a = d := by omega
        cases t with
        | nil => simp at h
        | cons q t =>
          obtain ⟨c', d', w'⟩ := q
          rcases List.mem_cons.1 h with h' | h'
          · simp only [Prod.mk.injEq] at h'
            obtain ⟨rfl, rfl, rfl⟩ := h'
            rcases k3 with h3 | h3
            · omega
            · exact h3.2
          · have := canon_starts k4.2.2.2 k4.2.2.1 _ h'
            simp only at this
            have h5 := k4.1
            have h6 : d ≤ c' := by rcases k3 with h3 | h3 <;> omega
            omega
      · exact ih
theorem rval_behind {V : Type} {e : V} : ∀ {l : Runs V}, Canon e l → ∀ {a b : Int} {v : V}, (a, b, v) ∈ l → rval e l b ≠ v
  | (c, d, w) :: t, hc, a, b, v, hm => by
    obtain ⟨k1, k2, k3, k4⟩ := hc
    simp only [rval]
    rcases List.mem_cons.1 hm with h | h
    · simp only [Prod.mk.injEq] at h
      obtain ⟨rfl, rfl, rfl⟩ := h
      rw [if_neg (by omega)]
      exact rval_nxt k4 k3 k2
    · have ih := rval_behind k4 h
      have h1 := (canon_mem k4 h).1
      have hst := canon_starts k4 k3 _ h
      simp only at hst
      rw [if_neg (by omega)]
      exact ih
theorem length_flatMap {α β : Type} {g : α → List β} : ∀ {l : List α}, (l.flatMap g).length = sumNat (fun x => (g x).length) l
  | [] => rfl
  | x :: l => by simp only [List.flatMap_cons, List.length_append, sumNat, length_flatMap (l := l)]
theorem starts_nodup {V : Type} {e : V} : ∀ {l : Runs V}, Canon e l → (l.map (·.1)).Nodup
  | [], _ => .nil
  | (a, b, v) :: t, h => by
    obtain ⟨k1, k2, k3, k4⟩ := h
    rw [List.map_cons, List.nodup_cons]
    refine ⟨fun hm => ?_, starts_nodup k4⟩
    obtain ⟨r, hr, he⟩ := List.mem_map.1 hm
    have := canon_starts k4 k3 r hr
    simp only at he; omega
theorem flat_nodup {c : Col} (h : Canon false c) : (c.flatMap fun s => [s.1, s.2.1]).Nodup ∧ (c.flatMap fun s => [s.1, s.2.1]).length = 2 * c.length := by
  have key : ∀ c : Col, Canon false c → (c.flatMap fun s => [s.1, s.2.1]).Pairwise (fun a b => a < b) ∧ (c.flatMap fun s => [s.1, s.2.1]).length = 2 * c.length := by
    intro c
    induction c with
    | nil => intro _; exact ⟨.nil, rfl⟩
    | cons r t ih =>
      obtain ⟨a, b, v⟩ := r
      rintro ⟨k1, k2, k3, k4⟩
      obtain ⟨i1, i2⟩ := ih k4
      have hbt : ∀ x ∈ t.flatMap (fun s => [s.1, s.2.1]), b < x := by
        intro x hx
        obtain ⟨s, hs, hx⟩ := List.mem_flatMap.1 hx
        have h1 := canon_starts k4 k3 s hs
        have h2 := (canon_mem k4 (show (s.1, s.2.1, s.2.2) ∈ t from hs)).1
        have h3 : b < s.1 := by
          cases t with
          | nil => simp at hs
          | cons q t =>
            obtain ⟨c', d', w'⟩ := q
            have hw : b < c' := by
              rcases k3 with h | ⟨_, h⟩
              · exact h
              · exfalso
                have := k4.2.1
                revert h this k2
                cases v <;> cases w' <;> simp
            rcases List.mem_cons.1 hs with rfl | hs
            · exact hw
            · have := canon_starts k4.2.2.2 k4.2.2.1 s hs
              have := k4.1
              omega
        simp at hx
        omega
      refine ⟨?_, by simp only [List.flatMap_cons, List.length_append, List.length_cons, List.length_nil, i2]; omega⟩
      simp only [List.flatMap_cons, List.cons_append, List.nil_append]
      refine List.pairwise_cons.2 ⟨fun x hx => ?_, List.pairwise_cons.2 ⟨hbt, i1⟩⟩
      rcases List.mem_cons.1 hx with rfl | hx
      · exact k1
      · have := hbt x hx; omega
  obtain ⟨h1, h2⟩ := key c h
  exact ⟨h1.imp fun h => Int.ne_of_lt h, h2⟩

theorem col_len {S : Int → Int → Prop} {l : List Rect} (hS : Hangs S l) (hl : ∀ r ∈ l, VR r) {x : Int} {c : Col} (hc : Canon false c) (hv : ∀ y, rval false c y = true ↔ S x y) : c.length ≤ (l.filter fun r => decide (r.X0 ≤ x) && decide (x < r.X1)).length := by
  obtain ⟨h1, h2⟩ := flat_nodup hc
  have hsub : ∀ z ∈ c.flatMap (fun s => [s.1, s.2.1]), z ∈ (l.filter fun r => decide (r.X0 ≤ x) && decide (x < r.X1)).flatMap (fun r => [r.Y0, r.Y1]) := by
    intro z hz
    obtain ⟨s, hs, hz⟩ := List.mem_flatMap.1 hz
    have hst : s.2.2 = true := by
      have := (canon_mem hc (show (s.1, s.2.1, s.2.2) ∈ c from hs)).2
      cases h : s.2.2
      · rw [h] at this; exact absurd rfl this
      · rfl
    have hs' : (s.1, s.2.1, true) ∈ c := by rw [← hst]; exact hs
    have hpos := (canon_mem hc hs').1
    -- something changes at z
    have hch : ¬ (S x z ↔ S x (z - 1)) := by
      rw [← hv, ← hv]
      simp at hz
      rcases hz with rfl | rfl
      · have h3 := rval_before hc hs'
        have h4 := rval_of_mem hc hs' (Int.le_refl _) hpos
        rw [h4]
        cases h5 : rval false c (s.1 - 1)
        · simp
        · exact absurd h5 h3
      · have h3 := rval_behind hc hs'
        have h4 := rval_of_mem hc hs' (show s.1 ≤ s.2.1 - 1 by omega) (by omega)
        rw [h4]
        cases h5 : rval false c s.2.1
        · simp
        · exact absurd h5 h3
    rw [List.mem_flatMap]
    refine Classical.byContradiction fun hno => hch (hS.same _ _ _ _ fun r hr => ?_)
    have hr2 : (r.X0 ≤ x ∧ x < r.X1) → z ≠ r.Y0 ∧ z ≠ r.Y1 := fun hx => by
      have hm : r ∈ l.filter fun r => decide (r.X0 ≤ x) && decide (x < r.X1) := List.mem_filter.2 ⟨hr, by simpa using hx⟩
      exact ⟨fun e => hno ⟨r, hm, by simp [e]⟩, fun e => hno ⟨r, hm, by simp [e]⟩⟩
    unfold rin
    constructor
    · rintro ⟨hx, hy⟩
      have := hr2 hx
      exact ⟨hx, by omega⟩
    · rintro ⟨hx, hy⟩
      have := hr2 hx
      exact ⟨hx, by omega⟩
  have h3 := nodup_le h1 hsub
  have h4 : ∀ m : List Rect, (m.flatMap fun r => [r.Y0, r.Y1]).length = 2 * m.length := by
    intro m
    induction m with
    | nil => rfl
    | cons a m ih => simp only [List.flatMap_cons, List.length_append, List.length_cons, List.length_nil, ih]; omega
  rw [h2, h4] at h3
  omega
theorem form_len {S : Int → Int → Prop} {l out : List Rect} (hS : Hangs S l) (hl : ∀ r ∈ l, VR r) (h : IsForm S out) : out.length ≤ l.length * l.length := by
  obtain ⟨G, h1, h2, h3, rfl⟩ := h
  let P : List (Int × Int) := l.map fun r => (r.X0, r.X1)
  have hPl : P.length = l.length := by simp [P]
  have hcol : ∀ g ∈ G, g.2.2.length ≤ (l.filter fun r => decide (r.X0 ≤ g.1) && decide (g.1 < r.X1)).length := by
    intro g hg
    obtain ⟨a, b, c⟩ := g
    have hab := (canon_mem h1 hg).1
    have hr := rval_of_mem h1 hg (Int.le_refl a) hab
    exact col_len hS hl (h2 a b c hg) fun y => by rw [← hr]; exact h3 a y
  have hstart : ∀ a ∈ G.map (·.1), a ∈ ends P := by
    intro a ha
    obtain ⟨g, hg, rfl⟩ := List.mem_map.1 ha
    obtain ⟨a, b, c⟩ := g
    have hab := (canon_mem h1 hg).1
    have hr := rval_of_mem h1 hg (Int.le_refl a) hab
    have hb := rval_before h1 hg
    dsimp only
    refine Classical.byContradiction fun hno => hb ?_
    rw [← hr]
    refine canon_unique (canon_at h2 _) (canon_at h2 _) fun y => ?_
    rw [Bool.eq_iff_iff, h3, h3]
    refine hS.same _ _ _ _ fun r hr => ?_
    have hm : (r.X0, r.X1) ∈ P := List.mem_map.2 ⟨r, hr, rfl⟩
    have e1 : a ≠ r.X0 := fun e => hno (List.mem_flatMap.2 ⟨_, hm, by simp [e]⟩)
    have e2 : a ≠ r.X1 := fun e => hno (List.mem_flatMap.2 ⟨_, hm, by simp [e]⟩)
    unfold rin
    constructor
    · rintro ⟨hx, hy⟩; exact ⟨by omega, hy⟩
    · rintro ⟨hx, hy⟩; exact ⟨by omega, hy⟩
  have hsq := pairs_sq (l := P) (D := G.map (·.1)) (fun r hr => by
    obtain ⟨q, hq, rfl⟩ := List.mem_map.1 hr
    exact (hl q hq).2.1) (starts_nodup h1) hstart
  rw [hPl] at hsq
  refine Nat.le_trans ?_ hsq
  unfold flatG
  rw [length_flatMap]
  refine Nat.le_trans (sumNat_le (g := fun g => (l.filter fun r => decide (r.X0 ≤ g.1) && decide (g.1 < r.X1)).length) fun g hg => by rw [List.length_map]; exact hcol g hg) ?_
  -- exchange the sums
  have hex : ∀ (m : List Rect) (H : Runs Col), sumNat (fun g => (m.filter fun r => decide (r.X0 ≤ g.1) && decide (g.1 < r.X1)).length) H = sumNat (fun r => inC (H.map (·.1)) r.1 r.2) (m.map fun r => (r.X0, r.X1)) := by
    intro m
    induction m with
    | nil =>
      intro H
      simp only [List.filter_nil, List.length_nil, List.map_nil, sumNat]
      rw [sumNat_const]; simp
    | cons r m ih =>
      intro H
      simp only [List.map_cons, sumNat]
      rw [← ih H]
      have e1 : sumNat (fun g : Int × Int × Col => ((r :: m).filter fun r => decide (r.X0 ≤ g.1) && decide (g.1 < r.X1)).length) H = sumNat (fun g => if (decide (r.X0 ≤ g.1) && decide (g.1 < r.X1)) = true then 1 else 0) H + sumNat (fun g => (m.filter fun r => decide (r.X0 ≤ g.1) && decide (g.1 < r.X1)).length) H := by
        rw [← sumNat_add]
        congr 1
        funext g
        by_cases hp : (decide (r.X0 ≤ g.1) && decide (g.1 < r.X1)) = true
        · rw [List.filter_cons, if_pos hp, if_pos hp, List.length_cons]; omega
        · rw [List.filter_cons, if_neg hp, if_neg hp]; omega
      have e2 : ∀ H : Runs Col, sumNat (fun g : Int × Int × Col => if (decide (r.X0 ≤ g.1) && decide (g.1 < r.X1)) = true then 1 else 0) H = inC (H.map (·.1)) r.X0 r.X1 := by
        intro H
        unfold inC
        induction H with
        | nil => rfl
        | cons g H ihH =>
          simp only [sumNat, List.map_cons, List.countP_cons, ihH]; omega
      rw [e1, e2]
  rw [hex]
  exact Nat.le_refl _

/-- What holds at a cube hangs on the boxes alone that it is in. -/
structure Hangs3 (S : Int → Int → Int → Prop) (l : List Box) : Prop where
  same : ∀ x y z x' y' z', (∀ b ∈ l, (rin b.Base x y ∧ b.Z0 ≤ z ∧ z < b.Z1) ↔ (rin b.Base x' y' ∧ b.Z0 ≤ z' ∧ z' < b.Z1)) → (S x y z ↔ S x' y' z')
  none : ∀ x y z, (∀ b ∈ l, ¬ (rin b.Base x y ∧ b.Z0 ≤ z ∧ z < b.Z1)) → ¬ S x y z
theorem Hangs3.at {S : Int → Int → Int → Prop} {l : List Box} (h : Hangs3 S l) (z : Int) : Hangs (fun x y => S x y z) (bases l z) := by
  have hb : ∀ b ∈ l, (b.Z0 ≤ z ∧ z < b.Z1) → b.Base ∈ bases l z := fun b hb hz => List.mem_map.2 ⟨b, List.mem_filter.2 ⟨hb, by simpa using hz⟩, rfl⟩
  refine ⟨fun x y x' y' he => h.same _ _ _ _ _ _ fun b hbl => ?_, fun x y hno => h.none _ _ _ fun b hbl hh => hno _ (hb b hbl hh.2) hh.1⟩
  constructor
  · rintro ⟨h1, h2⟩; exact ⟨(he _ (hb b hbl h2)).1 h1, h2⟩
  · rintro ⟨h1, h2⟩; exact ⟨(he _ (hb b hbl h2)).2 h1, h2⟩
theorem solid_len {S : Int → Int → Int → Prop} {l : List Box} {out : List Slab} (hS : Hangs3 S l) (hl : ∀ b ∈ l, VB b) (h : IsSolid S out) : out.length ≤ 2 * l.length ∧ ∀ s ∈ out, s.Area.length ≤ l.length * l.length := by
  constructor
  · have h1 := starts_nodup h.canon
    have hsub : ∀ a ∈ (slabRuns out).map (·.1), a ∈ l.flatMap fun b => [b.Z0, b.Z1] := by
      intro a ha
      obtain ⟨g, hg, rfl⟩ := List.mem_map.1 ha
      obtain ⟨a, b, c⟩ := g
      have hab := (canon_mem h.canon hg).1
      have hr := rval_of_mem h.canon hg (Int.le_refl a) hab
      have hb := rval_before h.canon hg
      dsimp only
      refine Classical.byContradiction fun hno => hb ?_
      rw [← hr]
      refine (h.form (a - 1)).unique (h.form a) fun x y => hS.same _ _ _ _ _ _ fun b hb => ?_
      have e1 : a ≠ b.Z0 := fun e => hno (List.mem_flatMap.2 ⟨b, hb, by simp [e]⟩)
      have e2 : a ≠ b.Z1 := fun e => hno (List.mem_flatMap.2 ⟨b, hb, by simp [e]⟩)
      constructor
      · rintro ⟨h1, h2⟩; exact ⟨h1, by omega⟩
      · rintro ⟨h1, h2⟩; exact ⟨h1, by omega⟩
    have h2 := nodup_le h1 hsub
    have h4 : ∀ m : List Box, (m.flatMap fun r => [r.Z0, r.Z1]).length = 2 * m.length := by
      intro m
      induction m with
      | nil => rfl
      | cons a m ih => simp only [List.flatMap_cons, List.length_append, List.length_cons, List.length_nil, ih]; omega
    rw [h4, List.length_map, slabRuns_length] at h2
    exact h2
  · intro s hs
    have hp := (slab_pos h.canon hs).1
    have he := sect_mem h.canon hs (Int.le_refl _) hp
    have := form_len (hS.at s.Z0) (bases_right hl s.Z0) (h.form s.Z0)
    rw [he] at this
    exact Nat.le_trans this (Nat.mul_le_mul (bases_length l s.Z0) (bases_length l s.Z0))
/-- With few boxes no limit is met. -/
theorem slim_few {S : Int → Int → Int → Prop} {l : List Box} {out : List Slab} (hS : Hangs3 S l) (hl : ∀ b ∈ l, VB b) (h : IsSolid S out) (hn : l.length ≤ 14) : SS out ∧ slim out = (out, 0) := by
  obtain ⟨h1, h2⟩ := solid_len hS hl h
  have hsq : l.length * l.length ≤ 14 * 14 := Nat.mul_le_mul (by omega) (by omega)
  have hex : ∀ {x y z : Int}, S x y z → ∃ b ∈ l, rin b.Base x y ∧ b.Z0 ≤ z ∧ z < b.Z1 := fun {x y z} hs => Classical.byContradiction fun hno => hS.none x y z (fun b hb hh => hno ⟨b, hb, hh⟩) hs
  have hSS : SS out := by
    refine ⟨by omega, h.canon, fun s hs => ?_⟩
    obtain ⟨hp, hne⟩ := slab_pos h.canon hs
    have hf := h.form s.Z0
    rw [sect_mem h.canon hs (Int.le_refl _) hp] at hf
    have hf1 := h.form (s.Z1 - 1)
    rw [sect_mem h.canon hs (by omega) (by omega)] at hf1
    have hpos := form_rect hf
    obtain ⟨r, hr⟩ := List.exists_mem_of_ne_nil _ hne
    have hrp := hpos r hr
    obtain ⟨b, hb, hb1, hb2⟩ := hex ((hf.cells r.X0 r.Y0).1 ⟨r, hr, ⟨Int.le_refl _, hrp.1⟩, Int.le_refl _, hrp.2⟩)
    obtain ⟨b', hb', hb1', hb2'⟩ := hex ((hf1.cells r.X0 r.Y0).1 ⟨r, hr, ⟨Int.le_refl _, hrp.1⟩, Int.le_refl _, hrp.2⟩)
    have v1 := hl b hb; have v2 := hl b' hb'
    unfold VB at v1 v2
    refine ⟨by omega, by omega, RR.of_form hf (fun q hq => ?_) (by have := h2 s hs; omega)⟩
    have hqp := hpos q hq
    obtain ⟨c, hc, hc1, _⟩ := hex ((hf.cells q.X0 q.Y0).1 ⟨q, hq, ⟨Int.le_refl _, hqp.1⟩, Int.le_refl _, hqp.2⟩)
    obtain ⟨d, hd, hd1, _⟩ := hex ((hf.cells (q.X1 - 1) (q.Y1 - 1)).1 ⟨q, hq, ⟨by omega, by omega⟩, by omega, by omega⟩)
    have w1 := (hl c hc).1; have w2 := (hl d hd).1
    unfold VR at w1 w2 ⊢
    unfold rin at hc1 hd1
    omega
  exact ⟨hSS, slim_fine hSS⟩
theorem bcells_hangs (l : List Box) : Hangs3 (bcells l) l :=
  ⟨fun x y z x' y' z' h => exists_congr fun b => and_congr_right fun hb => h b hb, fun x y z h ⟨b, hb, hh⟩ => h b hb hh⟩
theorem Hangs3.mono {S : Int → Int → Int → Prop} {l m : List Box} (h : Hangs3 S l) (hs : ∀ b ∈ l, b ∈ m) : Hangs3 S m :=
  ⟨fun x y z x' y' z' he => h.same _ _ _ _ _ _ fun b hb => he b (hs b hb), fun x y z hn => h.none x y z fun b hb => hn b (hs b hb)⟩
theorem Hangs3.op {S T : Int → Int → Int → Prop} [∀ x y z, Decidable (S x y z)] [∀ x y z, Decidable (T x y z)] {l : List Box} (h : Hangs3 S l) (g : Hangs3 T l) (op : Int) : Hangs3 (fun x y z => opB op (decide (S x y z)) (decide (T x y z)) = true) l := by
  refine ⟨fun x y z x' y' z' he => ?_, fun x y z hn => ?_⟩
  · have e1 : decide (S x y z) = decide (S x' y' z') := by rw [decide_eq_decide]; exact h.same _ _ _ _ _ _ he
    have e2 : decide (T x y z) = decide (T x' y' z') := by rw [decide_eq_decide]; exact g.same _ _ _ _ _ _ he
    rw [e1, e2]
  · have e1 : decide (S x y z) = false := by rw [decide_eq_false_iff_not]; exact h.none _ _ _ hn
    have e2 : decide (T x y z) = false := by rw [decide_eq_false_iff_not]; exact g.none _ _ _ hn
    rw [e1, e2, opB_false]; simp
theorem Hangs3.congr {S T : Int → Int → Int → Prop} {l : List Box} (h : Hangs3 S l) (he : ∀ x y z, S x y z ↔ T x y z) : Hangs3 T l :=
  ⟨fun x y z x' y' z' hh => by rw [← he, ← he]; exact h.same _ _ _ _ _ _ hh, fun x y z hn => by rw [← he]; exact h.none _ _ _ hn⟩
end Go.Proofs.YtpbeebhapbibfaaGreatDoor

namespace Go.Proofs.YtpbeebhapbibfaaGreatDoor
open Go.Gb
set_option linter.unusedVariables false
set_option linter.unusedSimpArgs false
set_option linter.unusedSectionVars false
set_option maxRecDepth 100000
/-- This solid has these cubes, and its borders are those of these boxes. -/
structure Mk (l : List Box) (S : Int → Int → Int → Bool) (s : List Slab) : Prop where
  vb : ∀ b ∈ l, VB b
  ss : SS s
  is : IsSolid (fun x y z => S x y z = true) s
  hang : Hangs3 (fun x y z => S x y z = true) l
def bcB (l : List Box) (x y z : Int) : Bool := decide (bcells l x y z)
theorem bcB_iff {l : List Box} {x y z : Int} : bcB l x y z = true ↔ bcells l x y z := by unfold bcB; rw [decide_eq_true_iff]
theorem Mk.of {l m : List Box} (h : ∀ b ∈ m, VB b) (hn : m.length ≤ 14) (hs : ∀ b ∈ l, b ∈ m) (hl : l.length ≤ 200) : ∃ s, Mk m (bcB l) s ∧ solid_Of l = some (s, 0) := by
  have hv : ∀ b ∈ l, VB b := fun b hb => h b (hs b hb)
  obtain ⟨out, h1, h2⟩ := solid_Of_fine hv hl
  obtain ⟨h3, h4⟩ := slim_few ((bcells_hangs l).mono hs) h h1 hn
  exact ⟨out, ⟨h, h3, h1.congr fun x y z => bcB_iff.symm, ((bcells_hangs l).mono hs).congr fun x y z => bcB_iff.symm⟩, by rw [h2, h4]⟩
theorem Mk.op {l : List Box} {S T : Int → Int → Int → Bool} {a b : List Slab} (h : Mk l S a) (g : Mk l T b) (hn : l.length ≤ 14) (op : Int) :
    ∃ s, Mk l (fun x y z => opB op (S x y z) (T x y z)) s ∧ solidOp op a b = some (s, 0) := by
  obtain ⟨out, h1, h2⟩ := solidOp_fine (op := op) h.ss g.ss
  have e : ∀ x y z, sopS op a b x y z ↔ opB op (S x y z) (T x y z) = true := by
    intro x y z
    unfold sopS
    have e1 : decide (scells a x y z) = S x y z := by rw [Bool.eq_iff_iff, decide_eq_true_iff]; exact h.is.cells x y z
    have e2 : decide (scells b x y z) = T x y z := by rw [Bool.eq_iff_iff, decide_eq_true_iff]; exact g.is.cells x y z
    rw [e1, e2]
  have hh : Hangs3 (fun x y z => opB op (S x y z) (T x y z) = true) l := (h.hang.op g.hang op).congr fun x y z => by
    rw [Bool.decide_eq_true, Bool.decide_eq_true]
  have h1' := h1.congr e
  obtain ⟨h3, h4⟩ := slim_few hh h.vb h1' hn
  exact ⟨out, ⟨h.vb, h3, h1', hh⟩, by rw [h2, h4]⟩
section
variable {l m : List Box} {S T : Int → Int → Int → Bool} {a b : List Slab}
theorem Mk.mono (h : Mk l S a) (hs : ∀ b ∈ l, b ∈ m) (hv : ∀ b ∈ m, VB b) : Mk m S a := ⟨hv, h.ss, h.is, h.hang.mono hs⟩
theorem Mk.right (h : Mk l S a) : solid_Right a = some true := solid_Right_true h.ss
theorem Mk.nil (hv : ∀ b ∈ l, VB b) : Mk l (fun _ _ _ => false) [] := by
  refine ⟨hv, ssB_spec (by decide), (ssB_spec (s := []) (by decide)).solid.congr fun x y z => ?_, ⟨by simp, by simp⟩⟩
  rw [scells_iff, sect_nil]
  simp [cells]
end
end Go.Proofs.YtpbeebhapbibfaaGreatDoor

namespace Go.Proofs.YtpbeebhapbibfaaGreatDoor
open Go.Gb
set_option linter.unusedVariables false
set_option linter.unusedSimpArgs false
set_option linter.unusedSectionVars false
set_option maxRecDepth 100000
def okAt (s : List Slab) (i : Nat) : Prop := ∃ h : i < s.length, (0 ≤ s[i].Z0 ∧ s[i].Z0 < s[i].Z1 ∧ s[i].Z1 ≤ 4096 ∧ s[i].Area ≠ [] ∧ RR s[i].Area) ∧ ∀ h0 : 0 < i, (s[i - 1]'(by omega)).Z1 < s[i].Z0 ∨ ((s[i - 1]'(by omega)).Z1 = s[i].Z0 ∧ (s[i - 1]'(by omega)).Area ≠ s[i].Area)
theorem ss_iff {s : List Slab} : SS s ↔ s.length ≤ 80 ∧ ∀ i, i < s.length → okAt s i := by
  constructor
  · intro hS
    refine ⟨hS.len, fun i hi => ⟨hi, ?_, fun h0 => ?_⟩⟩
    · have h1 := hS.ok _ (List.getElem_mem hi)
      have h2 := slab_pos hS.canon (List.getElem_mem hi)
      exact ⟨h1.1, h2.1, h1.2.1, h2.2, h1.2.2⟩
    · have := (slabs_canon.1 hS.canon).2 (i - 1) (by omega)
      have e : i - 1 + 1 = i := by omega
      simp only [e] at this
      exact this
  · rintro ⟨hl, hp⟩
    have hp' : ∀ i (hi : i < s.length), (0 ≤ s[i].Z0 ∧ s[i].Z0 < s[i].Z1 ∧ s[i].Z1 ≤ 4096 ∧ s[i].Area ≠ [] ∧ RR s[i].Area) ∧ ∀ h0 : 0 < i, (s[i - 1]'(by omega)).Z1 < s[i].Z0 ∨ ((s[i - 1]'(by omega)).Z1 = s[i].Z0 ∧ (s[i - 1]'(by omega)).Area ≠ s[i].Area) := by
      intro i hi
      obtain ⟨_, h⟩ := hp i hi
      exact h
    refine ⟨hl, slabs_canon.2 ⟨fun i hi => ⟨(hp' i hi).1.2.1, (hp' i hi).1.2.2.2.1⟩, fun i hi => (hp' (i + 1) hi).2 (by omega)⟩, fun b hb => ?_⟩
    obtain ⟨i, hi, rfl⟩ := List.getElem_of_mem hb
    have := (hp' i hi).1
    exact ⟨this.1, this.2.2.1, this.2.2.2.2⟩
theorem rRightS_spec {s : List Slab} (ha : ∀ b ∈ s, b.Area.length ≤ 100000) : ∃ b, ref09_Right s = some b ∧ (b = true ↔ SS s) := by
  unfold ref09_Right
  by_cases hl : 80 < s.length
  · rw [if_pos (by simp; omega)]
    exact ⟨_, rfl, by simp, fun h => absurd h.len (by omega)⟩
  · rw [if_neg (by simp; omega)]
    rcases iter_findN (body := ref09_Right_L0 s) (k := 0) s.length (fun i => ¬ okAt s i) (fun _ => false) (by
      intro i hi _
      obtain ⟨rb, hr1, hr2⟩ := region_Right_spec (a := s[i].Area) (ha _ (List.getElem_mem hi))
      rw [← rRight_eq (ha _ (List.getElem_mem hi))] at hr1
      have hg := getI_nat hi
      unfold ref09_Right_L0
      rw [if_pos (by simpa using hi)]
      simp only [hg, Option.bind_some, hr1]
      by_cases h1 : 0 ≤ s[i].Z0 ∧ s[i].Z0 < s[i].Z1 ∧ s[i].Z1 ≤ 4096 ∧ s[i].Area ≠ [] ∧ rb = true
      · obtain ⟨c1, c2, c3, c4, c5⟩ := h1
        have hRR := hr2.1 c5
        subst c5
        have hal : 0 < s[i].Area.length := List.length_pos_iff.2 c4
        rw [if_neg (by simp; omega), Option.bind_some, if_neg (by simp; omega), Option.bind_some, if_neg (by simp; omega), Option.bind_some, if_neg (by simp; omega), Option.bind_some, if_neg (by simp)]
        rcases Nat.eq_zero_or_pos i with rfl | h0
        · right
          rw [if_neg (by simp), Option.bind_some, if_neg (by simp), addI_one (by omega), Option.bind_some]
          exact ⟨fun h => h ⟨hi, ⟨c1, c2, c3, c4, hRR⟩, fun h => absurd h (Nat.lt_irrefl _)⟩, rfl⟩
        · have hi1 : i - 1 < s.length := by omega
          have hsame : ref06_Same (s[i - 1]'hi1).Area s[i].Area = some (decide ((s[i - 1]'hi1).Area = s[i].Area)) := rSame_eq (by have := ha _ (List.getElem_mem hi1); omega)
          have hcond : (if decide (s[i].Z0 < (s[i - 1]'hi1).Z1) = true then some true else (if ((s[i - 1]'hi1).Z1 == s[i].Z0) = true then some (decide ((s[i - 1]'hi1).Area = s[i].Area)) else some false).bind fun x => some x) =
              some (decide (¬ ((s[i - 1]'hi1).Z1 < s[i].Z0 ∨ ((s[i - 1]'hi1).Z1 = s[i].Z0 ∧ (s[i - 1]'hi1).Area ≠ s[i].Area)))) := by
            by_cases c1 : s[i].Z0 < (s[i - 1]'hi1).Z1
            · rw [if_pos (by simpa using c1)]; congr 1; simp; omega
            · rw [if_neg (by simpa using c1)]
              by_cases c2 : (s[i - 1]'hi1).Z1 = s[i].Z0
              · rw [if_pos (by simpa using c2)]; simp [c2]
              · rw [if_neg (by simpa using c2)]; simp; omega
          have hs1 : subI (i : Int) 1 = some ((i - 1 : Nat) : Int) := subI_nat h0 (by omega)
          have hg1 := getI_nat hi1
          simp only [hs1, hg1, hsame, Option.bind_some]
          rw [if_pos (by simpa using h0), hcond, Option.bind_some, Option.bind_some]
          by_cases c : (s[i - 1]'hi1).Z1 < s[i].Z0 ∨ ((s[i - 1]'hi1).Z1 = s[i].Z0 ∧ (s[i - 1]'hi1).Area ≠ s[i].Area)
          · right
            rw [if_neg (by simp only [decide_eq_true_eq, Classical.not_not]; exact c), addI_one (by omega), Option.bind_some]
            exact ⟨fun h => h ⟨hi, ⟨c1, c2, c3, c4, hRR⟩, fun _ => c⟩, rfl⟩
          · left
            rw [if_pos (decide_eq_true c)]
            exact ⟨fun ⟨_, h⟩ => c (h.2 h0), rfl⟩
      · left
        refine ⟨fun ⟨_, ⟨g1, g2, g3, g4, g5⟩, _⟩ => h1 ⟨g1, g2, g3, g4, hr2.2 g5⟩, ?_⟩
        by_cases g1 : s[i].Z0 < 0
        · simp [g1]
        by_cases g2 : s[i].Z1 ≤ s[i].Z0
        · simp [g1, g2]
        by_cases g3 : 4096 < s[i].Z1
        · simp [g1, g2, g3]
        by_cases g4 : s[i].Area = []
        · simp [g1, g2, g3, g4]
        have g5 : rb = false := by
          cases rb
          · rfl
          · exact absurd ⟨by omega, by omega, by omega, g4, rfl⟩ h1
        simp [g1, g2, g3, g4, g5]) (by
      unfold ref09_Right_L0
      rw [if_neg (by simp)]) (fuel := s.length + 1) (by omega) with ⟨i, hi, hp, _, h⟩ | ⟨hp, h⟩
    · rw [h, Option.bind_some]
      exact ⟨_, rfl, by simp, fun hS => absurd ((ss_iff.1 hS).2 i hi) hp⟩
    · rw [h, Option.bind_some]
      exact ⟨_, rfl, fun _ => ss_iff.2 ⟨by omega, fun i hi => Classical.not_not.1 (hp i hi)⟩, fun _ => rfl⟩
theorem rRightS_true {s : List Slab} (h : SS s) : ref09_Right s = some true := by
  obtain ⟨b, h1, h2⟩ := rRightS_spec (s := s) (fun b hb => by have := (h.ok b hb).2.2.2.1; omega)
  rw [h1, h2.2 h]
theorem rRightS_false {s : List Slab} (ha : ∀ b ∈ s, b.Area.length ≤ 100000) (h : ¬ SS s) : ref09_Right s = some false := by
  obtain ⟨b, h1, h2⟩ := rRightS_spec ha
  rw [h1]; cases b
  · rfl
  · exact absurd (h2.1 rfl) h
end Go.Proofs.YtpbeebhapbibfaaGreatDoor

namespace Go.Proofs.YtpbeebhapbibfaaGreatDoor
open Go.Gb
set_option linter.unusedVariables false
set_option linter.unusedSimpArgs false
set_option linter.unusedSectionVars false
set_option maxRecDepth 100000
/-- coordinates, and steps, that can be reckoned with -/
def cK (x : Int) : Prop := -2097152 ≤ x ∧ x ≤ 2097152
/-! boxes -/
end Go.Proofs.YtpbeebhapbibfaaGreatDoor

namespace Go.Proofs.YtpbeebhapbibfaaGreatDoor
open Go.Gb
set_option linter.unusedVariables false
set_option linter.unusedSimpArgs false
set_option linter.unusedSectionVars false
set_option linter.unusedVariables false
set_option linter.unusedSimpArgs false

theorem form_first {S : Int → Int → Prop} {out : List Rect} (h : IsForm S out) (h0 : 0 < out.length) : S out[0].X0 out[0].Y0 ∧ ∀ x y, S x y → out[0].X0 < x ∨ (out[0].X0 = x ∧ out[0].Y0 ≤ y) := by
  obtain ⟨G, hG, hC, hv, rfl⟩ := h
  cases G with
  | nil => simp [flatG] at h0
  | cons g t =>
    obtain ⟨a, b, c⟩ := g
    have hc := hC a b c (by simp)
    have hG' := hG
    obtain ⟨hab, hne, _, _⟩ := hG'
    cases c with
    | nil => exact absurd rfl hne
    | cons r u =>
      obtain ⟨p, q, v⟩ := r
      have hc' := hc
      obtain ⟨hpq, hv0, _, _⟩ := hc'
      have hv1 : v = true := by cases v <;> simp_all
      have e : (flatG ((a, b, (p, q, v) :: u) :: t))[0] = ⟨a, p, b, q⟩ := by simp [flatG]
      rw [e]
      dsimp only
      constructor
      · rw [← hv, rval_head hab, rval_head hpq, hv1]
      · intro x y hS
        rw [← hv] at hS
        by_cases hx : x < a
        · rw [canon_lt hG hx] at hS
          simp [rval] at hS
        · by_cases hxa : a = x
          · right
            subst hxa
            rw [rval_head hab] at hS
            refine ⟨rfl, Classical.byContradiction fun hc2 => ?_⟩
            rw [canon_lt hc (by omega)] at hS
            simp at hS
          · left; omega
theorem form_empty {S : Int → Int → Prop} {out : List Rect} (h : IsForm S out) : out = [] ↔ ∀ x y, ¬ S x y := by
  constructor
  · rintro rfl x y hS
    obtain ⟨G, hG, hC, hv, he⟩ := h
    cases G with
    | nil =>
      rw [← hv] at hS
      simp [rval] at hS
    | cons g t =>
      obtain ⟨a, b, c⟩ := g
      have hG' := hG
      obtain ⟨_, hne, _, _⟩ := hG'
      cases c with
      | nil => exact hne rfl
      | cons r u => simp [flatG] at he
  · intro hn
    cases out with
    | nil => rfl
    | cons r t => exact absurd (form_first h (by simp)).1 (hn _ _)
end Go.Proofs.YtpbeebhapbibfaaGreatDoor

namespace Go.Proofs.YtpbeebhapbibfaaGreatDoor
open Go.Gb
set_option linter.unusedVariables false
set_option linter.unusedSimpArgs false
set_option linter.unusedSectionVars false
set_option linter.unusedVariables false
set_option linter.unusedSimpArgs false

def VP (p : Plane) : Prop := (0 ≤ p.Side ∧ p.Side ≤ 3) ∧ (0 ≤ p.Base ∧ p.Base ≤ 4096) ∧ (0 ≤ p.Num ∧ p.Num ≤ 4096) ∧ 1 ≤ p.Den ∧ p.Den ≤ 4096
instance (p : Plane) : Decidable (VP p) := by unfold VP; infer_instance
/-- A rectangle and planes that are valid. -/
def VL (b : Rect) (l : List Plane) : Prop := VR b ∧ ∀ p ∈ l, VP p
instance (b : Rect) (l : List Plane) : Decidable (VL b l) := by unfold VL; infer_instance
def grd (x y : Int) : Prop := (0 ≤ x ∧ x < 1048576) ∧ 0 ≤ y ∧ y < 1048576
instance (x y : Int) : Decidable (grd x y) := by unfold grd; infer_instance
def dst (b : Rect) (s x y : Int) : Int := if s = 0 then x - b.X0 else if s = 1 then b.X1 - 1 - x else if s = 2 then y - b.Y0 else b.Y1 - 1 - y
def hgt (b : Rect) (x y : Int) (p : Plane) : Int := p.Base + p.Num * dst b p.Side x y / p.Den
/-- The height over a cell that all planes allow, not limited below. -/
def tops (b : Rect) (l : List Plane) (x y : Int) : Int := l.foldl (fun h p => min h (hgt b x y p)) 4096
theorem fold_min {α : Type} {f : α → Int} : ∀ {l : List α} {a z : Int}, z ≤ l.foldl (fun h p => min h (f p)) a ↔ z ≤ a ∧ ∀ p ∈ l, z ≤ f p
  | [], a, z => by simp
  | p :: l, a, z => by
    rw [List.foldl_cons, fold_min (l := l)]
    simp only [List.mem_cons, forall_eq_or_imp]
    constructor
    · rintro ⟨h1, h2⟩; exact ⟨by omega, by omega, h2⟩
    · rintro ⟨h1, h2, h3⟩; exact ⟨by omega, h3⟩
theorem mul_abs2 {k n m M : Int} (hk : 0 ≤ k ∧ k ≤ n) (hm : -M ≤ m ∧ m ≤ M) : -(n * M) ≤ k * m ∧ k * m ≤ n * M := by
  have hM : 0 ≤ M := by omega
  have a1 := Int.mul_le_mul_of_nonneg_left hm.1 hk.1
  have a2 := Int.mul_le_mul_of_nonneg_left hm.2 hk.1
  have a3 := Int.mul_le_mul_of_nonneg_right hk.2 hM
  have e : k * -M = -(k * M) := by grind
  omega
/-- The inequality of a plane for a height. -/
def under (b : Rect) (x y z : Int) (p : Plane) : Prop := (z - p.Base) * p.Den ≤ p.Num * dst b p.Side x y
instance (b : Rect) (x y z : Int) (p : Plane) : Decidable (under b x y z p) := by unfold under; infer_instance
theorem hgt_le {b : Rect} {x y z : Int} {p : Plane} (h : VP p) : z ≤ hgt b x y p ↔ under b x y z p := by
  unfold VP at h
  unfold hgt under
  rw [← Int.le_ediv_iff_mul_le (by omega)]
  omega
theorem tops_le {b : Rect} {l : List Plane} {x y z : Int} (h : ∀ p ∈ l, VP p) : z ≤ tops b l x y ↔ z ≤ 4096 ∧ ∀ p ∈ l, under b x y z p := by
  unfold tops
  rw [fold_min]
  exact and_congr_right fun _ => ⟨fun g p hp => (hgt_le (h p hp)).1 (g p hp), fun g p hp => (hgt_le (h p hp)).2 (g p hp)⟩
theorem tops_max {b : Rect} {l : List Plane} {x y : Int} : tops b l x y ≤ 4096 := by
  have : tops b l x y ≤ tops b l x y := Int.le_refl _
  unfold tops at this ⊢
  exact (fold_min.1 this).1
/-- A number lies between two: a plane that allows both corners allows what is between. -/
theorem under_corner {b : Rect} {r : Rect} {z : Int} {p : Plane} (hp : VP p) (hr : r.X0 < r.X1 ∧ r.Y0 < r.Y1)
    (h1 : under b r.X0 r.Y0 z p) (h2 : under b (r.X1 - 1) r.Y0 z p) (h3 : under b r.X0 (r.Y1 - 1) z p) {x y : Int} (hx : rin r x y) : under b x y z p := by
  unfold VP at hp
  unfold rin at hx
  unfold under dst at *
  have mono : ∀ {d e : Int}, d ≤ e → p.Num * d ≤ p.Num * e := fun h => Int.mul_le_mul_of_nonneg_left h (by omega)
  by_cases s0 : p.Side = 0
  · have := mono (d := r.X0 - b.X0) (e := x - b.X0) (by omega)
    rw [if_pos s0] at h1 ⊢
    omega
  · rw [if_neg s0] at h1 h2 h3 ⊢
    by_cases s1 : p.Side = 1
    · have := mono (d := b.X1 - 1 - (r.X1 - 1)) (e := b.X1 - 1 - x) (by omega)
      rw [if_pos s1] at h2 ⊢
      omega
    · rw [if_neg s1] at h1 h2 h3 ⊢
      by_cases s2 : p.Side = 2
      · have := mono (d := r.Y0 - b.Y0) (e := y - b.Y0) (by omega)
        rw [if_pos s2] at h1 ⊢
        omega
      · have := mono (d := b.Y1 - 1 - (r.Y1 - 1)) (e := b.Y1 - 1 - y) (by omega)
        rw [if_neg s2] at h3 ⊢
        omega
/-- The first cube of a solid that is not allowed. -/
structure IsFirst (b : Rect) (l : List Plane) (s : List Slab) (p : Point3) : Prop where
  mem : scells s p.X p.Y p.Z
  bad : tops b l p.X p.Y ≤ p.Z
  least : ∀ x y z, scells s x y z → tops b l x y ≤ z → p.Z < z ∨ (p.Z = z ∧ (p.X < x ∨ (p.X = x ∧ p.Y ≤ y)))
theorem IsFirst.unique {b : Rect} {l : List Plane} {s : List Slab} {p q : Point3} (h : IsFirst b l s p) (g : IsFirst b l s q) : p = q := by
  have h1 := h.least _ _ _ g.mem g.bad
  have h2 := g.least _ _ _ h.mem h.bad
  cases p; cases q
  simp only [Point3.mk.injEq] at *
  omega
/-- All cubes are allowed. -/
def Alw (b : Rect) (l : List Plane) (s : List Slab) : Prop := ∀ x y z, scells s x y z → z < tops b l x y
end Go.Proofs.YtpbeebhapbibfaaGreatDoor

namespace Go.Proofs.YtpbeebhapbibfaaGreatDoor
open Go.Gb
set_option linter.unusedVariables false
set_option linter.unusedSimpArgs false
set_option linter.unusedSectionVars false
set_option linter.unusedVariables false
set_option linter.unusedSimpArgs false

theorem ediv_of {n b g : Int} (hb : 0 < b) (h1 : g * b ≤ n) (h2 : n < (g + 1) * b) : n / b = g := by
  have h3 : g ≤ n / b := (Int.le_ediv_iff_mul_le hb).2 h1
  have h4 : n / b < g + 1 := (Int.ediv_lt_iff_lt_mul hb).2 h2
  omega
theorem and_chain {a b : Bool} {α : Type} {k : Bool → Option α} : ((if a = true then some b else some false).bind k) = k (a && b) := by cases a <;> rfl
theorem planeRight_eq (p : Plane) : plane_Right p = some (decide (VP p)) := by
  unfold plane_Right plane_within
  simp only [Option.bind_some, and_chain]
  congr 1
  rw [Bool.eq_iff_iff, decide_eq_true_iff]
  unfold VP
  simp only [Bool.and_eq_true, decide_eq_true_eq]
  omega
theorem refPlaneRight_eq (p : Plane) : ref10_Right p = some (decide (VP p)) := by
  unfold ref10_Right
  congr 1
  rw [Bool.eq_iff_iff, decide_eq_true_iff]
  unfold VP
  simp only [Bool.and_eq_true, decide_eq_true_eq]
  omega
theorem contains_Plane {a : List Plane} {f : Plane → Option Bool} {p : Plane → Bool} (hf : ∀ r ∈ a, f r = some (p r)) (hl : a.length ≤ 1000000) : slices_ContainsFunc_Plane a f = some (a.any p) := by
  unfold slices_ContainsFunc_Plane slices_IndexFunc_Plane
  rcases iter_find (l := a) (body := slices_IndexFunc_Plane_L0 a f) (k := 0) (fun r => p r = true) (fun i => (i : Int)) (by
    intro i hi
    unfold slices_IndexFunc_Plane_L0
    rw [if_pos (by simpa using hi), getI_nat hi, Option.bind_some, hf _ (List.getElem_mem hi), Option.bind_some]
    cases hp : p a[i]
    · right
      rw [if_neg (by simp), addI_one (by omega), Option.bind_some]
      exact ⟨by simp, rfl⟩
    · left
      exact ⟨rfl, if_pos rfl⟩) (by
    unfold slices_IndexFunc_Plane_L0
    rw [if_neg (by simp)]) (fuel := a.length + 1) (by omega) with ⟨i, hi, hp, _, h⟩ | ⟨hp, h⟩
  · rw [h, Option.bind_some]
    dsimp only
    rw [Option.bind_some]
    congr 1
    rw [decide_eq_true (by omega)]
    symm
    rw [List.any_eq_true]
    exact ⟨_, List.getElem_mem hi, hp⟩
  · rw [h, Option.bind_some]
    dsimp only
    rw [Option.bind_some]
    congr 1
    rw [decide_eq_false (by omega)]
    symm
    rw [List.any_eq_false]
    exact hp
theorem planeValid_eq {b : Rect} {l : List Plane} (hl : l.length ≤ 1000000) : plane_valid b l = some (decide (VL b l)) := by
  unfold plane_valid
  rw [rect_Right_eq, Option.bind_some, contains_Plane (p := fun r => !decide (VP r)) (fun r _ => by unfold plane_valid_1; rw [planeRight_eq, Option.bind_some]) hl, Option.bind_some, and_chain]
  congr 1
  rw [Bool.eq_iff_iff, decide_eq_true_iff]
  unfold VL
  simp
theorem floorDiv_eq {a n : Int} (ha : -1000000000000 ≤ a ∧ a ≤ 1000000000000) (hn : 0 < n) : plane_floorDiv a n = some (a / n) := by
  have e := Int.mul_tdiv_add_tmod a n
  have h1 := Int.tmod_lt_of_pos a hn
  have h2 := Int.lt_tmod_of_pos a hn
  have h3 : -1000000000000 ≤ a.tdiv n ∧ a.tdiv n ≤ 1000000000000 := by
    have := Int.natAbs_tdiv_le_natAbs a n
    omega
  unfold plane_floorDiv quoI remI
  rw [if_pos ⟨by omega, by unfold inI; omega⟩, Option.bind_some, if_pos (by omega), Option.bind_some]
  rw [Int.mul_comm] at e
  by_cases h : a.tmod n < 0
  · rw [if_pos (by simpa using h), subI_some (by unfold inI; omega), Option.bind_some, Option.bind_some]
    congr 1
    exact (ediv_of hn (by rw [Int.sub_mul]; omega) (by rw [Int.sub_add_cancel]; omega)).symm
  · rw [if_neg (by simpa using h), Option.bind_some]
    congr 1
    exact (ediv_of hn (by omega) (by rw [Int.add_mul]; omega)).symm
end Go.Proofs.YtpbeebhapbibfaaGreatDoor

namespace Go.Proofs.YtpbeebhapbibfaaGreatDoor
open Go.Gb
set_option linter.unusedVariables false
set_option linter.unusedSimpArgs false
set_option linter.unusedSectionVars false
set_option linter.unusedVariables false
set_option linter.unusedSimpArgs false

theorem getI_dst {b : Rect} {x y s : Int} (h : 0 ≤ s ∧ s ≤ 3) : getI [x - b.X0, b.X1 - 1 - x, y - b.Y0, b.Y1 - 1 - y] s = some (dst b s x y) := by
  have : s = 0 ∨ s = 1 ∨ s = 2 ∨ s = 3 := by omega
  rcases this with rfl | rfl | rfl | rfl <;> rfl
theorem plane_top_eq {b : Rect} {l : List Plane} {x y : Int} (hv : VL b l) (hl : l.length ≤ 1000000) (hx : -4194304 ≤ x ∧ x ≤ 4194304) (hy : -4194304 ≤ y ∧ y ≤ 4194304) :
    plane_top b l x y = some (tops b l x y) := by
  have hb := hv.1
  unfold VR at hb
  unfold plane_top plane_distances
  rw [subI_some (by unfold inI; omega), Option.bind_some, subI_some (by unfold inI; omega), Option.bind_some, subI_some (by unfold inI; omega), Option.bind_some, subI_some (by unfold inI; omega), Option.bind_some, subI_some (by unfold inI; omega), Option.bind_some, subI_some (by unfold inI; omega), Option.bind_some, Option.bind_some]
  obtain ⟨h1, _⟩ := iter_range (k := 0) (l := l) (body := plane_top_L0 l (x - b.X0, b.X1 - 1 - x, y - b.Y0, b.Y1 - 1 - y)) (fun (s : Int) i => (s, i)) (fun h p => min h (hgt b x y p)) (fun _ _ => True) (by
    intro i hi s _
    refine ⟨?_, trivial⟩
    have hp := hv.2 _ (List.getElem_mem hi)
    unfold VP at hp
    have hd : -8388608 ≤ dst b l[i].Side x y ∧ dst b l[i].Side x y ≤ 8388608 := by
      unfold dst
      repeat' split
      all_goals omega
    have hm := mul_abs2 (k := l[i].Num) (n := 4096) (m := dst b l[i].Side x y) (M := 8388608) (by omega) hd
    have hq := Int.natAbs_ediv_le_natAbs (l[i].Num * dst b l[i].Side x y) l[i].Den
    unfold plane_top_L0
    dsimp only
    rw [if_pos (by simpa using hi), getI_nat hi, Option.bind_some, getI_dst hp.1, Option.bind_some, mulI_some (by unfold inI; omega), Option.bind_some, floorDiv_eq (by omega) (by omega), Option.bind_some, addI_some (by unfold inI; omega), Option.bind_some, addI_one (by omega), Option.bind_some]
    rfl) (by
    intro s _
    unfold plane_top_L0
    dsimp only
    rw [if_neg (by simp)]) (s0 := 4096) trivial (fuel := l.length + 1) (by omega)
  rw [h1, Option.bind_some]
  rfl
end Go.Proofs.YtpbeebhapbibfaaGreatDoor

namespace Go.Proofs.YtpbeebhapbibfaaGreatDoor
open Go.Gb
set_option linter.unusedVariables false
set_option linter.unusedSimpArgs false
set_option linter.unusedSectionVars false
set_option linter.unusedVariables false
set_option linter.unusedSimpArgs false

theorem refPlaneValid_eq {b : Rect} {l : List Plane} (hl : l.length ≤ 1000000) : ref10_Valid b l = some (decide (VL b l)) := by
  unfold ref10_Valid
  rcases iter_find (l := l) (body := ref10_Valid_L0 l) (k := 0) (fun p => ¬ VP p) (fun _ => false) (by
    intro i hi
    unfold ref10_Valid_L0
    rw [if_pos (by simpa using hi), getI_nat hi, Option.bind_some, refPlaneRight_eq, Option.bind_some]
    by_cases hc : VP l[i]
    · right
      rw [if_neg (by simp [hc]), addI_one (by omega), Option.bind_some]
      exact ⟨fun g => g hc, rfl⟩
    · left
      rw [if_pos (by simp [hc])]
      exact ⟨hc, rfl⟩) (by
    unfold ref10_Valid_L0
    rw [if_neg (by simp)]) (fuel := l.length + 1) (by omega) with ⟨i, hi, hp, _, h⟩ | ⟨hp, h⟩
  · rw [h, Option.bind_some]
    dsimp only
    rw [decide_eq_false fun g => hp (g.2 _ (List.getElem_mem hi))]
  · rw [h, Option.bind_some]
    dsimp only
    rw [RightRect_eq, Option.bind_some]
    congr 1
    rw [Bool.eq_iff_iff, decide_eq_true_iff, decide_eq_true_iff]
    exact ⟨fun g => ⟨g, fun d hd => Classical.byContradiction fun c => hp d hd c⟩, fun g => g.1⟩
theorem ref_dst_eq {b : Rect} {s x y : Int} (hb : VR b) (hx : -4194304 ≤ x ∧ x ≤ 4194304) (hy : -4194304 ≤ y ∧ y ≤ 4194304) : ref10_distance b s x y = some (dst b s x y) := by
  unfold VR at hb
  unfold ref10_distance dst
  by_cases s0 : s = 0
  · rw [if_pos (by simpa using s0), if_pos s0, subI_some (by unfold inI; omega), Option.bind_some]
  · rw [if_neg (by simpa using s0), if_neg s0]
    by_cases s1 : s = 1
    · rw [if_pos (by simpa using s1), if_pos s1, subI_some (by unfold inI; omega), Option.bind_some, subI_some (by unfold inI; omega), Option.bind_some]
    · rw [if_neg (by simpa using s1), if_neg s1]
      by_cases s2 : s = 2
      · rw [if_pos (by simpa using s2), if_pos s2, subI_some (by unfold inI; omega), Option.bind_some]
      · rw [if_neg (by simpa using s2), if_neg s2, subI_some (by unfold inI; omega), Option.bind_some, subI_some (by unfold inI; omega), Option.bind_some]
end Go.Proofs.YtpbeebhapbibfaaGreatDoor

namespace Go.Proofs.YtpbeebhapbibfaaGreatDoor
open Go.Gb
set_option linter.unusedVariables false
set_option linter.unusedSimpArgs false
set_option linter.unusedSectionVars false
set_option linter.unusedVariables false
set_option linter.unusedSimpArgs false

/-- How far from its side a cell must be, for a plane to allow a height. -/
def far (z : Int) (p : Plane) : Int := -((p.Base - z) * p.Den / p.Num)
theorem far_le {b : Rect} {x y z : Int} {p : Plane} (hn : 0 < p.Num) : far z p ≤ dst b p.Side x y ↔ under b x y z p := by
  unfold far under
  have h1 : -((p.Base - z) * p.Den / p.Num) ≤ dst b p.Side x y ↔ -dst b p.Side x y ≤ (p.Base - z) * p.Den / p.Num := by omega
  have e1 : (z - p.Base) * p.Den = -((p.Base - z) * p.Den) := by grind
  have e2 : -dst b p.Side x y * p.Num = -(p.Num * dst b p.Side x y) := by grind
  rw [h1, Int.le_ediv_iff_mul_le hn, e1, e2]
  omega
theorem far_abs {z : Int} {p : Plane} (hp : VP p) (hn : 0 < p.Num) (hz : 0 ≤ z ∧ z ≤ 4096) : (-16777216 ≤ (p.Base - z) * p.Den ∧ (p.Base - z) * p.Den ≤ 16777216) ∧ -16777216 ≤ far z p ∧ far z p ≤ 16777216 := by
  unfold VP at hp
  have h1 := mul_abs2 (k := p.Den) (n := 4096) (m := p.Base - z) (M := 4096) (by omega) (by omega)
  rw [Int.mul_comm p.Den] at h1
  have h2 := Int.natAbs_ediv_le_natAbs ((p.Base - z) * p.Den) p.Num
  unfold far
  omega
def cut1 (b : Rect) (z : Int) (r : Rect) (p : Plane) : Rect :=
  if p.Side = 0 then { r with X0 := max r.X0 (b.X0 + far z p) } else if p.Side = 1 then { r with X1 := min r.X1 (b.X1 - far z p) }
  else if p.Side = 2 then { r with Y0 := max r.Y0 (b.Y0 + far z p) } else { r with Y1 := min r.Y1 (b.Y1 - far z p) }
theorem cut1_rin {b r : Rect} {x y z : Int} {p : Plane} (hp : VP p) (hn : 0 < p.Num) : rin (cut1 b z r p) x y ↔ rin r x y ∧ under b x y z p := by
  rw [← far_le hn]
  unfold cut1 dst rin
  by_cases s0 : p.Side = 0
  · rw [if_pos s0, if_pos s0]; dsimp only; omega
  · rw [if_neg s0, if_neg s0]
    by_cases s1 : p.Side = 1
    · rw [if_pos s1, if_pos s1]; dsimp only; omega
    · rw [if_neg s1, if_neg s1]
      by_cases s2 : p.Side = 2
      · rw [if_pos s2, if_pos s2]; dsimp only; omega
      · rw [if_neg s2, if_neg s2]; dsimp only; omega
/-- A rectangle on the grid, perhaps empty. -/
def ong (r : Rect) : Prop := 0 ≤ r.X0 ∧ r.X1 ≤ 1048576 ∧ 0 ≤ r.Y0 ∧ r.Y1 ≤ 1048576
theorem cut1_ong {b r : Rect} {z : Int} {p : Plane} (h : ong r) : ong (cut1 b z r p) := by
  unfold ong at *
  unfold cut1
  repeat' split
  all_goals (dsimp only; omega)
theorem grid_rin {x y : Int} : rin ⟨0, 0, 1048576, 1048576⟩ x y ↔ grd x y := by unfold rin grd; rfl
/-- What a rectangle of cells under the first planes is. -/
structure Cut (b : Rect) (l : List Plane) (z : Int) (r : Rect) (i : Nat) : Prop where
  on : ong r
  is : ∀ x y, rin r x y ↔ grd x y ∧ ∀ p ∈ l.take i, under b x y z p
theorem Cut.zero {b : Rect} {l : List Plane} {z : Int} : Cut b l z ⟨0, 0, 1048576, 1048576⟩ 0 := ⟨by unfold ong; decide, fun x y => by simp [grid_rin]⟩
theorem take_succ_all {α : Type} {l : List α} {i : Nat} (hi : i < l.length) {P : α → Prop} : (∀ p ∈ l.take (i + 1), P p) ↔ (∀ p ∈ l.take i, P p) ∧ P l[i] := by
  rw [List.take_succ_eq_append_getElem hi]
  simp only [List.mem_append, List.mem_singleton]
  constructor
  · exact fun h => ⟨fun p hp => h p (.inl hp), h _ (.inr rfl)⟩
  · rintro ⟨h1, h2⟩ p (hp | rfl)
    · exact h1 p hp
    · exact h2
theorem Cut.step {b : Rect} {l : List Plane} {z : Int} {r : Rect} {i : Nat} (h : Cut b l z r i) (hi : i < l.length) (hp : VP l[i]) (hn : 0 < l[i].Num) : Cut b l z (cut1 b z r l[i]) (i + 1) :=
  ⟨cut1_ong h.on, fun x y => by rw [cut1_rin hp hn, h.is, take_succ_all hi]; exact ⟨fun g => ⟨g.1.1, g.1.2, g.2⟩, fun g => ⟨⟨g.1, g.2.1⟩, g.2.2⟩⟩⟩
theorem under_flat {b : Rect} {x y z : Int} {p : Plane} (hp : VP p) (hn : p.Num = 0) : under b x y z p ↔ z ≤ p.Base := by
  unfold VP at hp
  unfold under
  rw [hn, Int.zero_mul]
  constructor
  · intro h
    refine Classical.byContradiction fun c => ?_
    have : 1 * 1 ≤ (z - p.Base) * p.Den := Int.mul_le_mul (by omega) (by omega) (by omega) (by omega)
    omega
  · intro h
    have := Int.mul_le_mul_of_nonneg_right (show z - p.Base ≤ 0 by omega) (show 0 ≤ p.Den by omega)
    omega
theorem Cut.same {b : Rect} {l : List Plane} {z : Int} {r : Rect} {i : Nat} (h : Cut b l z r i) (hi : i < l.length) (hp : VP l[i]) (hn : l[i].Num = 0) (hz : z ≤ l[i].Base) : Cut b l z r (i + 1) :=
  ⟨h.on, fun x y => by rw [h.is, take_succ_all hi, under_flat hp hn]; exact ⟨fun g => ⟨g.1, g.2, hz⟩, fun g => ⟨g.1, g.2.1⟩⟩⟩
/-- The cells under all planes. -/
def roomS (b : Rect) (l : List Plane) (z x y : Int) : Prop := grd x y ∧ ∀ p ∈ l, under b x y z p
instance (b : Rect) (l : List Plane) (z x y : Int) : Decidable (roomS b l z x y) := inferInstanceAs (Decidable (_ ∧ _))
structure IsRoom (b : Rect) (l : List Plane) (z : Int) (r : Rect) (ok : Bool) : Prop where
  yes : ok = true → VR r ∧ ∀ x y, rin r x y ↔ roomS b l z x y
  no : ok = false → ∀ x y, ¬ roomS b l z x y
theorem Cut.room {b : Rect} {l : List Plane} {z : Int} {r : Rect} (h : Cut b l z r l.length) : IsRoom b l z r (decide (r.X0 < r.X1) && decide (r.Y0 < r.Y1)) := by
  have ho := h.on
  have hi := h.is
  rw [List.take_length] at hi
  refine ⟨fun hk => ⟨?_, hi⟩, fun hk x y hr => ?_⟩
  · unfold ong at ho
    unfold VR
    simp at hk
    omega
  · have := (hi x y).2 hr
    unfold rin at this
    simp at hk
    omega
theorem beq_of {a c : Int} (h : a = c) : (a == c) = true := by simpa using h
theorem beq_ofn {a c : Int} (h : a ≠ c) : ¬ (a == c) = true := by simpa using h
theorem plane_room_eq {b : Rect} {l : List Plane} {z : Int} (hv : VL b l) (hl : l.length ≤ 1000000) (hz : 0 ≤ z ∧ z ≤ 4096) : ∃ r ok, plane_room b l z = some (r, ok) ∧ IsRoom b l z r ok := by
  have hb := hv.1
  unfold VR at hb
  have step : ∀ i (hi : i < l.length) (s : Rect), Cut b l z s i → (∃ s', plane_room_L0 b l z ((i : Int), ⟨0, 0, 0, 0⟩, s) = some (.go (((i + 1 : Nat) : Int), ⟨0, 0, 0, 0⟩, s')) ∧ Cut b l z s' (i + 1)) ∨
      (∃ r : Rect × Bool, plane_room_L0 b l z ((i : Int), ⟨0, 0, 0, 0⟩, s) = some (.ret r) ∧ IsRoom b l z r.1 r.2) := by
    intro i hi s hs
    have hp := hv.2 _ (List.getElem_mem hi)
    have hp' := hp
    unfold VP at hp'
    unfold plane_room_L0
    dsimp only
    rw [if_pos (by simpa using hi), getI_nat hi, Option.bind_some]
    by_cases hn : l[i].Num = 0
    · rw [if_pos (beq_of hn)]
      by_cases hz' : l[i].Base < z
      · right
        rw [if_pos (by simpa using hz'), Option.bind_some]
        refine ⟨_, rfl, fun h => by simp at h, fun _ x y hr => ?_⟩
        have := (under_flat hp hn).1 (hr.2 _ (List.getElem_mem hi))
        omega
      · left
        rw [if_neg (by simpa using hz'), Option.bind_some]
        dsimp only
        rw [addI_one (by omega), Option.bind_some]
        exact ⟨_, rfl, hs.same hi hp hn (by omega)⟩
    · left
      have hn' : 0 < l[i].Num := by omega
      obtain ⟨f1, f2⟩ := far_abs hp hn' hz
      have ef : ((l[i].Base - z) * l[i].Den / l[i].Num) = - far z l[i] := by unfold far; omega
      refine ⟨cut1 b z s l[i], ?_, hs.step hi hp hn'⟩
      rw [if_neg (beq_ofn hn), subI_some (by unfold inI; omega), Option.bind_some, mulI_some (by unfold inI; omega), Option.bind_some, floorDiv_eq (by omega) hn', Option.bind_some, ef, subI_some (by unfold inI; omega), Option.bind_some]
      rw [show (0 : Int) - -far z l[i] = far z l[i] by omega]
      unfold cut1
      by_cases s0 : l[i].Side = 0
      · rw [if_pos (beq_of s0), if_pos s0, addI_some (by unfold inI; omega), Option.bind_some, Option.bind_some, Option.bind_some]
        dsimp only
        rw [addI_one (by omega), Option.bind_some]
      · rw [if_neg (beq_ofn s0), if_neg s0]
        by_cases s1 : l[i].Side = 1
        · rw [if_pos (beq_of s1), if_pos s1, subI_some (by unfold inI; omega), Option.bind_some, Option.bind_some, Option.bind_some, Option.bind_some]
          dsimp only
          rw [addI_one (by omega), Option.bind_some]
        · rw [if_neg (beq_ofn s1), if_neg s1]
          by_cases s2 : l[i].Side = 2
          · rw [if_pos (beq_of s2), if_pos s2, addI_some (by unfold inI; omega), Option.bind_some, Option.bind_some, Option.bind_some, Option.bind_some, Option.bind_some]
            dsimp only
            rw [addI_one (by omega), Option.bind_some]
          · rw [if_neg (beq_ofn s2), if_neg s2, if_pos (beq_of (show l[i].Side = 3 by omega)), subI_some (by unfold inI; omega), Option.bind_some, Option.bind_some, Option.bind_some, Option.bind_some, Option.bind_some, Option.bind_some]
            dsimp only
            rw [addI_one (by omega), Option.bind_some]
  unfold plane_room
  rcases iter_fromR (k := 0) (body := plane_room_L0 b l z) (fun (s : Rect) i => (i, (⟨0, 0, 0, 0⟩ : Rect), s)) 0 l.length (Nat.zero_le _) (fun i s => Cut b l z s i) (fun r => IsRoom b l z r.1 r.2) (fun i _ hi s hs => step i hi s hs) (by
    intro s _
    unfold plane_room_L0
    dsimp only
    rw [if_neg (by simp)]) (s0 := ⟨0, 0, 1048576, 1048576⟩) Cut.zero (fuel := l.length + 1) (by omega) with ⟨s, h1, h2⟩ | ⟨r, h1, h2⟩
  · have h1' : iterL (plane_room_L0 b l z) (l.length + 1) (0, (⟨0, 0, 0, 0⟩ : Rect), (⟨0, 0, 1048576, 1048576⟩ : Rect)) = _ := h1
    rw [h1', Option.bind_some]
    exact ⟨_, _, rfl, h2.room⟩
  · have h1' : iterL (plane_room_L0 b l z) (l.length + 1) (0, (⟨0, 0, 0, 0⟩ : Rect), (⟨0, 0, 1048576, 1048576⟩ : Rect)) = _ := h1
    rw [h1', Option.bind_some]
    exact ⟨r.1, r.2, rfl, h2⟩
/-- The room as a list of at most one rectangle. -/
def IsRoomL (b : Rect) (l : List Plane) (z : Int) (a : List Rect) : Prop := (∀ r ∈ a, VR r) ∧ a.length ≤ 1 ∧ ∀ x y, cells a x y ↔ roomS b l z x y
theorem IsRoom.list {b : Rect} {l : List Plane} {z : Int} {r : Rect} {ok : Bool} (h : IsRoom b l z r ok) : IsRoomL b l z (if ok then [r] else []) := by
  cases ok with
  | true =>
    obtain ⟨h1, h2⟩ := h.yes rfl
    exact ⟨by simpa using h1, by simp, fun x y => by simp only [if_true]; rw [← h2]; simp [cells]⟩
  | false => exact ⟨by simp, by simp, fun x y => by simpa [cells] using h.no rfl x y⟩
theorem one_form {r : Rect} (h : VR r) : IsForm (cells [r]) [r] := by
  refine ⟨[(r.X0, r.X1, [(r.Y0, r.Y1, true)])], ?_, ?_, ?_, ?_⟩
  · unfold VR at h
    exact ⟨by omega, by simp, trivial, trivial⟩
  · intro a b c hc
    simp only [List.mem_singleton, Prod.mk.injEq] at hc
    obtain ⟨_, _, rfl⟩ := hc
    unfold VR at h
    exact ⟨by omega, by simp, trivial, trivial⟩
  · intro x y
    unfold cells rin
    simp only [rval, List.mem_singleton, exists_eq_left]
    by_cases hx : r.X0 ≤ x ∧ x < r.X1
    · rw [if_pos hx]
      simp only [rval]
      by_cases hy : r.Y0 ≤ y ∧ y < r.Y1
      · rw [if_pos hy]; simp [hx, hy]
      · rw [if_neg hy]; simp; intro _ _ h1; omega
    · rw [if_neg hx]
      simp only [rval]
      simp; intro h1 h2; exact absurd ⟨h1, h2⟩ hx
  · simp [flatG]
theorem IsRoomL.rr {b : Rect} {l : List Plane} {z : Int} {a : List Rect} (h : IsRoomL b l z a) : RR a := by
  obtain ⟨h1, h2, _⟩ := h
  match a, h2 with
  | [], _ => exact RR_nil
  | [r], _ => exact ⟨h1, by simp, one_form (h1 r (by simp))⟩
theorem IsRoomL.unique {b : Rect} {l : List Plane} {z : Int} {a c : List Rect} (h : IsRoomL b l z a) (g : IsRoomL b l z c) : a = c :=
  h.rr.2.2.unique g.rr.2.2 fun x y => (h.2.2 x y).trans (g.2.2 x y).symm
end Go.Proofs.YtpbeebhapbibfaaGreatDoor

namespace Go.Proofs.YtpbeebhapbibfaaGreatDoor
open Go.Gb
set_option linter.unusedVariables false
set_option linter.unusedSimpArgs false
set_option linter.unusedSectionVars false
set_option linter.unusedVariables false
set_option linter.unusedSimpArgs false

/-- All corners of a rectangle allow a height exactly if all its cells do. -/
theorem corner_all {b r : Rect} {l : List Plane} (hv : ∀ p ∈ l, VP p) (hr : r.X0 < r.X1 ∧ r.Y0 < r.Y1) {z : Int} :
    (z ≤ tops b l r.X0 r.Y0 ∧ z ≤ tops b l r.X0 (r.Y1 - 1) ∧ z ≤ tops b l (r.X1 - 1) r.Y0 ∧ z ≤ tops b l (r.X1 - 1) (r.Y1 - 1)) ↔ ∀ x y, rin r x y → z ≤ tops b l x y := by
  constructor
  · rintro ⟨h1, h2, h3, _⟩ x y hx
    rw [tops_le hv] at *
    exact ⟨h1.1, fun p hp => under_corner (hv p hp) hr (h1.2 p hp) (h3.2 p hp) (h2.2 p hp) hx⟩
  · intro h
    unfold rin at h
    exact ⟨h _ _ (by omega), h _ _ (by omega), h _ _ (by omega), h _ _ (by omega)⟩
def low4 (b : Rect) (l : List Plane) (r : Rect) (h : Int) : Int :=
  min (min (min (min h (tops b l r.X0 r.Y0)) (tops b l r.X0 (r.Y1 - 1))) (tops b l (r.X1 - 1) r.Y0)) (tops b l (r.X1 - 1) (r.Y1 - 1))
theorem low4_le {b r : Rect} {l : List Plane} (hv : ∀ p ∈ l, VP p) (hr : r.X0 < r.X1 ∧ r.Y0 < r.Y1) {h z : Int} : z ≤ low4 b l r h ↔ z ≤ h ∧ ∀ x y, rin r x y → z ≤ tops b l x y := by
  rw [← corner_all hv hr]
  unfold low4
  omega
theorem lowest_L2_eq {b r : Rect} {l : List Plane} (hv : VL b l) (hl : l.length ≤ 1000000) {x y : Int} (hx : -4194304 ≤ x ∧ x ≤ 4194304) (h0 : -4194304 ≤ r.Y0 ∧ r.Y0 ≤ 4194304) (hy : -4194304 ≤ y ∧ y ≤ 4194304) (h : Int) :
    iterL (plane_lowest_L2 b l r x y) ([r.Y0, y].length + 1) (h, 0) = some (.ex 4 (min (min h (tops b l x r.Y0)) (tops b l x y), 2)) := by
  have := (iter_range (k := 4) (l := [r.Y0, y]) (body := plane_lowest_L2 b l r x y) (fun (s : Int) i => (s, i)) (fun s w => min s (tops b l x w)) (fun _ _ => True) (by
    intro i hi s _
    refine ⟨?_, trivial⟩
    have hw : -4194304 ≤ [r.Y0, y][i] ∧ [r.Y0, y][i] ≤ 4194304 := by
      simp only [List.length_cons, List.length_nil] at hi
      match i, hi with
      | 0, _ => exact h0
      | 1, _ => exact hy
    unfold plane_lowest_L2
    dsimp only
    rw [if_pos (by simp at hi ⊢; omega), getI_nat hi, Option.bind_some, plane_top_eq hv hl hx hw, Option.bind_some, addI_one (by simp at hi; omega), Option.bind_some]) (by
    intro s _
    unfold plane_lowest_L2
    dsimp only
    rw [if_neg (by simp)]) (s0 := h) trivial (fuel := [r.Y0, y].length + 1) (by omega)).1
  exact this
theorem lowest_L1_eq {b r : Rect} {l : List Plane} (hv : VL b l) (hl : l.length ≤ 1000000) (hr : VR r) (h : Int) :
    iterL (plane_lowest_L1 b l r (r.X1 - 1)) ([r.X0, r.X1 - 1].length + 1) (h, 0) = some (.ex 2 (low4 b l r h, 2)) := by
  unfold VR at hr
  have := (iter_range (k := 2) (l := [r.X0, r.X1 - 1]) (body := plane_lowest_L1 b l r (r.X1 - 1)) (fun (s : Int) i => (s, i)) (fun s w => min (min s (tops b l w r.Y0)) (tops b l w (r.Y1 - 1))) (fun _ _ => True) (by
    intro i hi s _
    refine ⟨?_, trivial⟩
    have hw : -4194304 ≤ [r.X0, r.X1 - 1][i] ∧ [r.X0, r.X1 - 1][i] ≤ 4194304 := by
      simp only [List.length_cons, List.length_nil] at hi
      match i, hi with
      | 0, _ => simp only [List.getElem_cons_zero]; omega
      | 1, _ => simp only [List.getElem_cons_succ, List.getElem_cons_zero]; omega
    unfold plane_lowest_L1
    dsimp only
    rw [if_pos (by simp at hi ⊢; omega), getI_nat hi, Option.bind_some, subI_some (by unfold inI; omega), Option.bind_some, lowest_L2_eq hv hl hw (by omega) (by omega), Option.bind_some]
    dsimp only
    rw [addI_one (by simp at hi; omega), Option.bind_some]) (by
    intro s _
    unfold plane_lowest_L1
    dsimp only
    rw [if_neg (by simp)]) (s0 := h) trivial (fuel := [r.X0, r.X1 - 1].length + 1) (by omega)).1
  exact this
structure IsLow (b : Rect) (l : List Plane) (a : List Rect) (h : Int) : Prop where
  max : h ≤ 4096
  is : ∀ z, z ≤ h ↔ z ≤ 4096 ∧ ∀ x y, cells a x y → z ≤ tops b l x y
theorem plane_lowest_eq {b : Rect} {l : List Plane} {a : List Rect} (hv : VL b l) (hl : l.length ≤ 1000000) (ha : ∀ r ∈ a, VR r) (hal : a.length ≤ 1000000) : ∃ h, plane_lowest b l a = some h ∧ IsLow b l a h := by
  unfold plane_lowest
  obtain ⟨s, h1, h2⟩ := iter_rangeE (k := 0) (l := a) (body := plane_lowest_L0 b l a) (fun (s : Int) i => (s, i)) (fun i s => ∀ z, z ≤ s ↔ z ≤ 4096 ∧ ∀ r ∈ a.take i, ∀ x y, rin r x y → z ≤ tops b l x y) (by
    intro i hi s hs
    have hr := ha _ (List.getElem_mem hi)
    have hr' := hr
    unfold VR at hr'
    refine ⟨low4 b l a[i] s, ?_, fun z => ?_⟩
    · unfold plane_lowest_L0
      dsimp only
      rw [if_pos (by simpa using hi), getI_nat hi, Option.bind_some, subI_some (by unfold inI; omega), Option.bind_some, lowest_L1_eq hv hl hr, Option.bind_some]
      dsimp only
      rw [addI_one (by omega), Option.bind_some]
    · rw [low4_le hv.2 (by omega), hs, take_succ_all hi (P := fun r => ∀ x y, rin r x y → z ≤ tops b l x y)]
      exact ⟨fun g => ⟨g.1.1, g.1.2, g.2⟩, fun g => ⟨⟨g.1, g.2.1⟩, g.2.2⟩⟩) (by
    intro s _
    unfold plane_lowest_L0
    dsimp only
    rw [if_neg (by simp)]) (s0 := 4096) (by simp) (fuel := a.length + 1) (by omega)
  rw [h1, Option.bind_some]
  rw [List.take_length] at h2
  refine ⟨s, rfl, ((h2 s).1 (Int.le_refl s)).1, fun z => ?_⟩
  rw [h2 z]
  exact and_congr_right fun _ => ⟨fun g x y ⟨r, hr, hx⟩ => g r hr x y hx, fun g r hr x y hx => g x y ⟨r, hr, hx⟩⟩
/-! the reference -/
theorem ref_allowed_eq {b : Rect} {l : List Plane} {x y z : Int} (hv : VL b l) (hl : l.length ≤ 1000000) (hx : -4194304 ≤ x ∧ x ≤ 4194304) (hy : -4194304 ≤ y ∧ y ≤ 4194304) (hz : -1000000 ≤ z ∧ z ≤ 1000000) :
    ref10_allowed b l x y z = some (decide (∀ p ∈ l, under b x y (z + 1) p)) := by
  have hb := hv.1
  unfold VR at hb
  unfold ref10_allowed
  rcases iter_find (l := l) (body := ref10_allowed_L0 b l x y z) (k := 0) (fun p => ¬ under b x y (z + 1) p) (fun _ => false) (by
    intro i hi
    have hp := hv.2 _ (List.getElem_mem hi)
    unfold VP at hp
    have hd : -8388608 ≤ dst b l[i].Side x y ∧ dst b l[i].Side x y ≤ 8388608 := by
      unfold dst
      repeat' split
      all_goals omega
    have hm := mul_abs2 (k := l[i].Num) (n := 4096) (m := dst b l[i].Side x y) (M := 8388608) (by omega) hd
    have hm2 := mul_abs2 (k := l[i].Den) (n := 4096) (m := z + 1 - l[i].Base) (M := 2000000) (by omega) (by omega)
    rw [Int.mul_comm l[i].Den] at hm2
    unfold ref10_allowed_L0
    rw [if_pos (by simpa using hi), addI_some (by unfold inI; omega), Option.bind_some, getI_nat hi, Option.bind_some, subI_some (by unfold inI; omega), Option.bind_some, Option.bind_some, mulI_some (by unfold inI; omega), Option.bind_some, Option.bind_some, Option.bind_some,
      ref_dst_eq hv.1 hx hy, Option.bind_some, mulI_some (by unfold inI; omega), Option.bind_some]
    by_cases hc : under b x y (z + 1) l[i]
    · right
      unfold under at hc ⊢
      rw [if_neg (by simpa using hc), addI_one (by omega), Option.bind_some]
      exact ⟨fun g => g hc, rfl⟩
    · left
      unfold under at hc ⊢
      rw [if_pos (by simpa using hc)]
      exact ⟨hc, rfl⟩) (by
    unfold ref10_allowed_L0
    rw [if_neg (by simp)]) (fuel := l.length + 1) (by omega) with ⟨i, hi, hp, _, h⟩ | ⟨hp, h⟩
  · rw [h, Option.bind_some]
    dsimp only
    rw [decide_eq_false fun g => hp (g _ (List.getElem_mem hi))]
  · rw [h, Option.bind_some]
    dsimp only
    rw [decide_eq_true fun p hpl => Classical.byContradiction fun c => hp p hpl c]
theorem allowed_tops {b : Rect} {l : List Plane} {x y z : Int} (hv : ∀ p ∈ l, VP p) (hz : z < 4096) : (∀ p ∈ l, under b x y (z + 1) p) ↔ z < tops b l x y := by
  have := tops_le (b := b) (x := x) (y := y) (z := z + 1) hv
  exact ⟨fun h => by have := this.2 ⟨by omega, h⟩; omega, fun h => (this.1 (by omega)).2⟩
theorem ref_allowed_tops {b : Rect} {l : List Plane} {x y z : Int} (hv : VL b l) (hl : l.length ≤ 1000000) (hx : -4194304 ≤ x ∧ x ≤ 4194304) (hy : -4194304 ≤ y ∧ y ≤ 4194304) (hz : 0 ≤ z ∧ z < 4096) :
    ref10_allowed b l x y z = some (decide (z < tops b l x y)) := by
  rw [ref_allowed_eq hv hl hx hy (by omega)]
  congr 1
  rw [decide_eq_decide, allowed_tops hv.2 hz.2]
theorem ref_bad_eq {b : Rect} {l : List Plane} {a : List Rect} {z : Int} (hv : VL b l) (hl : l.length ≤ 1000000) (ha : ∀ r ∈ a, VR r) (hal : a.length ≤ 1000000) (hz : 0 ≤ z ∧ z < 4096) :
    ∃ c, ref10_bad b l a z = some c ∧ (c = true ↔ ∃ x y, cells a x y ∧ tops b l x y ≤ z) := by
  unfold ref10_bad
  rcases iter_find (l := a) (body := ref10_bad_L0 b l a z) (k := 0) (fun r => ¬ ∀ x y, rin r x y → z + 1 ≤ tops b l x y) (fun _ => true) (by
    intro i hi
    have hr := ha _ (List.getElem_mem hi)
    unfold VR at hr
    have hc := corner_all (b := b) (r := a[i]) (z := z + 1) hv.2 (by omega)
    rw [← hc]
    unfold ref10_bad_L0
    rw [if_pos (by simpa using hi), getI_nat hi, Option.bind_some, ref_allowed_tops hv hl (by omega) (by omega) hz, Option.bind_some]
    by_cases c1 : z < tops b l a[i].X0 a[i].Y0
    · rw [decide_eq_true c1, if_neg (by simp), subI_some (by unfold inI; omega), Option.bind_some, ref_allowed_tops hv hl (by omega) (by omega) hz, Option.bind_some, Option.bind_some]
      by_cases c2 : z < tops b l (a[i].X1 - 1) a[i].Y0
      · rw [decide_eq_true c2, if_neg (by simp), subI_some (by unfold inI; omega), Option.bind_some, ref_allowed_tops hv hl (by omega) (by omega) hz, Option.bind_some, Option.bind_some]
        by_cases c3 : z < tops b l a[i].X0 (a[i].Y1 - 1)
        · rw [decide_eq_true c3, if_neg (by simp), Option.bind_some, Option.bind_some, ref_allowed_tops hv hl (by omega) (by omega) hz, Option.bind_some, Option.bind_some]
          by_cases c4 : z < tops b l (a[i].X1 - 1) (a[i].Y1 - 1)
          · right
            rw [decide_eq_true c4, if_neg (by simp), addI_one (by omega), Option.bind_some]
            exact ⟨by omega, rfl⟩
          · left
            rw [decide_eq_false c4]
            exact ⟨by omega, rfl⟩
        · left
          rw [decide_eq_false c3]
          exact ⟨by omega, rfl⟩
      · left
        rw [decide_eq_false c2]
        exact ⟨by omega, rfl⟩
    · left
      rw [decide_eq_false c1]
      exact ⟨by omega, rfl⟩) (by
    unfold ref10_bad_L0
    rw [if_neg (by simp)]) (fuel := l.length + a.length + 1) (by omega) with ⟨i, hi, hp, _, h⟩ | ⟨hp, h⟩
  · rw [h, Option.bind_some]
    refine ⟨true, rfl, fun _ => ?_, fun _ => rfl⟩
    refine Classical.byContradiction fun hn => hp fun x y hx => ?_
    have : ¬ tops b l x y ≤ z := fun g => hn ⟨x, y, ⟨_, List.getElem_mem hi, hx⟩, g⟩
    omega
  · rw [h, Option.bind_some]
    refine ⟨false, rfl, fun g => by simp at g, ?_⟩
    rintro ⟨x, y, ⟨r, hr, hx⟩, ht⟩
    exact absurd (fun x y hx => by
      refine Classical.byContradiction fun c => hp r hr fun g => c (g x y hx)) (fun g : ∀ x y, rin r x y → z + 1 ≤ tops b l x y => by have := g x y hx; omega)
end Go.Proofs.YtpbeebhapbibfaaGreatDoor

namespace Go.Proofs.YtpbeebhapbibfaaGreatDoor
open Go.Gb
set_option linter.unusedVariables false
set_option linter.unusedSimpArgs false
set_option linter.unusedSectionVars false
set_option linter.unusedVariables false
set_option linter.unusedSimpArgs false

theorem minus_eq {a c : List Rect} (ha : RR a) (hc : RR c) : ∃ out, IsForm (fun x y => cells a x y ∧ ¬ cells c x y) out ∧ region_Minus a c = some (lim out) := by
  obtain ⟨out, h1, h2⟩ := regionOp_fine (op := 2) ha hc
  refine ⟨out, h1.congr fun x y => ?_, by rw [← h2]; unfold regionOp; rw [if_neg (by decide), if_pos rfl]⟩
  unfold opS opB
  simp
theorem minus_hangs {a c l : List Rect} (ha : ∀ r ∈ a, r ∈ l) (hc : ∀ r ∈ c, r ∈ l) : Hangs (fun x y => cells a x y ∧ ¬ cells c x y) l := by
  refine ⟨fun x y x' y' h => ?_, fun x y h => ?_⟩
  · have e1 : cells a x y ↔ cells a x' y' := exists_congr fun r => and_congr_right fun hr => h r (ha r hr)
    have e2 : cells c x y ↔ cells c x' y' := exists_congr fun r => and_congr_right fun hr => h r (hc r hr)
    rw [e1, e2]
  · rintro ⟨⟨r, hr, hx⟩, _⟩
    exact h r (ha r hr) hx
/-- The room is taken away from one rectangle. -/
theorem minus_one {r : Rect} {c : List Rect} (hr : VR r) (hc : RR c) (hl : c.length ≤ 1) : ∃ out, IsForm (fun x y => rin r x y ∧ ¬ cells c x y) out ∧ region_Minus [r] c = some (out, 0) := by
  obtain ⟨out, h1, h2⟩ := minus_eq (a := [r]) (c := c) ⟨by simpa using hr, by simp, one_form hr⟩ hc
  have h3 := form_len (l := r :: c) (minus_hangs (a := [r]) (c := c) (by simp) (by intro r hr; simp [hr])) (by
    intro q hq
    rcases List.mem_cons.1 hq with rfl | hq
    · exact hr
    · exact hc.1 q hq) h1
  have h4 : (r :: c).length ≤ 2 := by simp; omega
  have h5 : (r :: c).length * (r :: c).length ≤ 2 * 2 := Nat.mul_le_mul h4 h4
  refine ⟨out, h1.congr fun x y => by simp [cells], ?_⟩
  rw [h2]
  unfold lim
  rw [if_neg (by omega)]
/-- The least of some cells. -/
def lle (x y x' y' : Int) : Prop := x < x' ∨ (x = x' ∧ y ≤ y')
structure IsLeast2 (S : Int → Int → Prop) (p : Point3) : Prop where
  mem : S p.X p.Y
  le : ∀ x y, S x y → lle p.X p.Y x y
instance (x y x' y' : Int) : Decidable (lle x y x' y') := inferInstanceAs (Decidable (_ ∨ _))
theorem form_least {S : Int → Int → Prop} {out : List Rect} (h : IsForm S out) (h0 : 0 < out.length) {z : Int} : IsLeast2 S ⟨out[0].X0, out[0].Y0, z⟩ :=
  ⟨(form_first h h0).1, (form_first h h0).2⟩
theorem form_some {S : Int → Int → Prop} {out : List Rect} (h : IsForm S out) {x y : Int} (hs : S x y) : 0 < out.length := by
  cases out with
  | nil => exact absurd hs ((form_empty h).1 rfl x y)
  | cons a l => simp
theorem first_cond {o : List Rect} {best : Point3} (h0 : 0 < o.length) :
    ((if decide (0 < (o.length : Int)) = true then
      (getI o 0).bind fun x =>
      (if decide (x.X0 < best.X) = true then some true else
        (getI o 0).bind fun x => (if (x.X0 == best.X) = true then (getI o 0).bind fun x => some (decide (x.Y0 < best.Y)) else some false).bind fun v => some v).bind fun v => some v
     else some false) : Option Bool) = some (decide (¬ lle best.X best.Y o[0].X0 o[0].Y0)) := by
  have e : getI o 0 = some o[0] := getI_nat (i := 0) h0
  rw [if_pos (by simpa using h0), e, Option.bind_some]
  unfold lle
  by_cases h1 : o[0].X0 < best.X
  · rw [if_pos (by simpa using h1), Option.bind_some, decide_eq_true (by omega)]
  · rw [if_neg (by simpa using h1), Option.bind_some]
    by_cases h2 : o[0].X0 = best.X
    · rw [if_pos (beq_of h2), Option.bind_some, Option.bind_some, Option.bind_some]
      congr 1
      rw [decide_eq_decide]
      omega
    · rw [if_neg (beq_ofn h2), Option.bind_some, Option.bind_some, decide_eq_false (by omega)]
theorem app_room {r : Rect} {ok : Bool} : (if ok = true then (appI ([] : List Rect) [r]).bind fun x => some x else some []) = some (if ok then [r] else []) := by
  cases ok
  · rfl
  · rw [if_pos rfl, appI_some (by simp)]; rfl
theorem plane_first_eq {b : Rect} {l : List Plane} {a : List Rect} {z : Int} (hv : VL b l) (hl : l.length ≤ 1000000) (ha : ∀ r ∈ a, VR r) (hal : a.length ≤ 1000000) (hz : 0 ≤ z ∧ z < 4096)
    (hb : ∃ x y, cells a x y ∧ ¬ roomS b l (z + 1) x y) : ∃ p, plane_first b l a z = some p ∧ p.Z = z ∧ IsLeast2 (fun x y => cells a x y ∧ ¬ roomS b l (z + 1) x y) p := by
  obtain ⟨r, ok, h1, h2⟩ := plane_room_eq hv hl (z := z + 1) (by omega)
  have hR := h2.list
  unfold plane_first
  rw [addI_some (by unfold inI; omega), Option.bind_some, h1, Option.bind_some]
  let T : Int → Int → Prop := fun x y => ¬ roomS b l (z + 1) x y
  obtain ⟨s, h3, h4⟩ := iter_rangeE (k := 0) (l := a) (body := plane_first_L0 a (r, ok)) (fun (s : Point3) i => (i, s))
    (fun i s => s.Z = z ∧ (∀ q ∈ a.take i, ∀ x y, rin q x y → T x y → lle s.X s.Y x y) ∧ ((s.X = 1048576) ∨ ∃ q ∈ a.take i, rin q s.X s.Y ∧ T s.X s.Y)) (by
    intro i hi s ⟨hsz, hs1, hs2⟩
    have hr := ha _ (List.getElem_mem hi)
    obtain ⟨o, g1, g2⟩ := minus_one hr hR.rr hR.2.1
    have g1 : IsForm (fun x y => rin a[i] x y ∧ T x y) o := g1.congr fun x y => by rw [hR.2.2]
    unfold plane_first_L0
    dsimp only
    rw [if_pos (by simpa using hi), getI_nat hi, Option.bind_some, app_room, Option.bind_some, g2, Option.bind_some]
    dsimp only
    by_cases h0 : 0 < o.length
    · have e : getI o 0 = some o[0] := getI_nat (i := 0) h0
      obtain ⟨f1, f2⟩ := form_first g1 h0
      have hc := first_cond (best := s) h0
      rw [hc, Option.bind_some]
      by_cases hl : lle s.X s.Y o[0].X0 o[0].Y0
      · refine ⟨s, ?_, hsz, fun q hq x y hx hT => ?_, ?_⟩
        · rw [decide_eq_false (by simpa using hl), if_neg (by simp), Option.bind_some, addI_one (by omega), Option.bind_some]
        · rw [List.take_succ_eq_append_getElem hi] at hq
          simp only [List.mem_append, List.mem_singleton] at hq
          rcases hq with hq | rfl
          · exact hs1 q hq x y hx hT
          · have := f2 x y ⟨hx, hT⟩
            unfold lle at *
            omega
        · refine hs2.imp id fun ⟨q, hq, hh⟩ => ⟨q, ?_, hh⟩
          rw [List.take_succ_eq_append_getElem hi]; exact List.mem_append_left _ hq
      · refine ⟨⟨o[0].X0, o[0].Y0, s.Z⟩, ?_, hsz, fun q hq x y hx hT => ?_, .inr ⟨a[i], ?_, f1⟩⟩
        · rw [decide_eq_true hl, if_pos rfl, e, Option.bind_some, Option.bind_some, Option.bind_some, addI_one (by omega), Option.bind_some]
        · rw [List.take_succ_eq_append_getElem hi] at hq
          simp only [List.mem_append, List.mem_singleton] at hq
          dsimp only
          rcases hq with hq | rfl
          · have := hs1 q hq x y hx hT
            unfold lle at *
            omega
          · exact f2 x y ⟨hx, hT⟩
        · rw [List.take_succ_eq_append_getElem hi]; exact List.mem_append_right _ (List.mem_singleton.2 rfl)
    · have ho : o = [] := List.eq_nil_of_length_eq_zero (by omega)
      refine ⟨s, ?_, hsz, fun q hq x y hx hT => ?_, ?_⟩
      · rw [if_neg (by simpa using h0), Option.bind_some, if_neg (by simp), Option.bind_some, addI_one (by omega), Option.bind_some]
      · rw [List.take_succ_eq_append_getElem hi] at hq
        simp only [List.mem_append, List.mem_singleton] at hq
        rcases hq with hq | rfl
        · exact hs1 q hq x y hx hT
        · exact absurd ⟨hx, hT⟩ ((form_empty g1).1 ho x y)
      · refine hs2.imp id fun ⟨q, hq, hh⟩ => ⟨q, ?_, hh⟩
        rw [List.take_succ_eq_append_getElem hi]; exact List.mem_append_left _ hq) (by
    intro s _
    unfold plane_first_L0
    dsimp only
    rw [if_neg (by simp)]) (s0 := ⟨1048576, 0, z⟩) ⟨rfl, by simp, .inl rfl⟩ (fuel := a.length + 1) (by omega)
  rw [h3, Option.bind_some]
  rw [List.take_length] at h4
  obtain ⟨k1, k2, k3⟩ := h4
  obtain ⟨x, y, ⟨q, hq, hx⟩, hT⟩ := hb
  refine ⟨s, rfl, k1, ?_, fun x y ⟨⟨q, hq, hx⟩, hT⟩ => k2 q hq x y hx hT⟩
  rcases k3 with k3 | ⟨q', hq', hx', hT'⟩
  · have h5 := k2 q hq x y hx hT
    have h6 := ha q hq
    unfold VR at h6
    unfold rin at hx
    unfold lle at h5
    omega
  · exact ⟨⟨q', hq', hx'⟩, hT'⟩
end Go.Proofs.YtpbeebhapbibfaaGreatDoor

namespace Go.Proofs.YtpbeebhapbibfaaGreatDoor
open Go.Gb
set_option linter.unusedVariables false
set_option linter.unusedSimpArgs false
set_option linter.unusedSectionVars false
set_option linter.unusedVariables false
set_option linter.unusedSimpArgs false

theorem room_tops {b : Rect} {l : List Plane} {x y z : Int} (hv : ∀ p ∈ l, VP p) (hz : z < 4096) : roomS b l (z + 1) x y ↔ grd x y ∧ z < tops b l x y := and_congr_right fun _ => allowed_tops hv hz
theorem cells_grd {a : List Rect} (h : ∀ r ∈ a, VR r) {x y : Int} (hc : cells a x y) : grd x y := by
  obtain ⟨r, hr, hx⟩ := hc
  have := h r hr
  unfold VR at this
  unfold rin at hx
  unfold grd
  omega
/-- All cubes of the first slabs are allowed. -/
def okTo (b : Rect) (l : List Plane) (s : List Slab) (i : Nat) : Prop := ∀ j (hj : j < i) (h : j < s.length), ∀ x y, cells s[j].Area x y → s[j].Z1 ≤ tops b l x y
theorem okTo.zero {b : Rect} {l : List Plane} {s : List Slab} : okTo b l s 0 := fun j hj => absurd hj (Nat.not_lt_zero j)
theorem okTo.succ {b : Rect} {l : List Plane} {s : List Slab} {i : Nat} (h : okTo b l s i) (hi : i < s.length) (g : ∀ x y, cells s[i].Area x y → s[i].Z1 ≤ tops b l x y) : okTo b l s (i + 1) := by
  intro j hj hl
  rcases Nat.lt_or_ge j i with c | c
  · exact h j c hl
  · obtain rfl : j = i := by omega
    exact g
theorem okTo.all {b : Rect} {l : List Plane} {s : List Slab} (hs : SS s) (h : okTo b l s s.length) : Alw b l s := by
  intro x y z hc
  obtain ⟨q, hq, h1, h2, h3⟩ := (scells_slab hs.canon).1 hc
  obtain ⟨j, hj, rfl⟩ := List.getElem_of_mem hq
  have := h j hj hj x y h1
  omega
theorem first_of {b : Rect} {l : List Plane} {s : List Slab} {i : Nat} {z : Int} {p : Point3} (hv : VL b l) (hs : SS s) (h : okTo b l s i) (hi : i < s.length) (h1 : s[i].Z0 ≤ z) (h2 : z < s[i].Z1)
    (hb : ∀ x y, cells s[i].Area x y → ∀ z', s[i].Z0 ≤ z' → z' < z → z' < tops b l x y) (hp : p.Z = z) (hl : IsLeast2 (fun x y => cells s[i].Area x y ∧ ¬ roomS b l (z + 1) x y) p) : IsFirst b l s p := by
  obtain ⟨g1, g2, g3⟩ := hs.ok _ (List.getElem_mem hi)
  have rt : ∀ x y, cells s[i].Area x y → (¬ roomS b l (z + 1) x y ↔ tops b l x y ≤ z) := by
    intro x y hc
    rw [room_tops hv.2 (by omega)]
    have := cells_grd g3.1 hc
    constructor
    · intro h'
      refine Classical.byContradiction fun c => h' ⟨this, by omega⟩
    · rintro h' ⟨_, h''⟩
      omega
  obtain ⟨m1, m2⟩ := hl.mem
  subst hp
  refine ⟨(scells_slab hs.canon).2 ⟨_, List.getElem_mem hi, m1, h1, h2⟩, (rt _ _ m1).1 m2, fun x y z' hc ht => ?_⟩
  obtain ⟨q, hq, f1, f2, f3⟩ := (scells_slab hs.canon).1 hc
  obtain ⟨j, hj, rfl⟩ := List.getElem_of_mem hq
  rcases Nat.lt_trichotomy j i with c | c | c
  · have := h j c hj x y f1
    omega
  · subst c
    by_cases hz : z' < p.Z
    · have := hb x y f1 z' f2 hz
      omega
    · by_cases hz' : p.Z = z'
      · subst hz'
        right
        exact ⟨rfl, hl.le x y ⟨f1, (rt x y f1).2 ht⟩⟩
      · left; omega
  · have := slab_order hs.canon c hj
    left; omega
theorem plane_First_eq {b : Rect} {l : List Plane} {s : List Slab} (hv : VL b l) (hl : l.length ≤ 1000000) (hs : SS s) :
    (Alw b l s ∧ plane_First b l s = some (⟨0, 0, 0⟩, false)) ∨ ∃ p, IsFirst b l s p ∧ plane_First b l s = some (p, true) := by
  have hsl := hs.len
  unfold plane_First
  rw [planeValid_eq hl, Option.bind_some, decide_eq_true hv, if_neg (by simp), solid_Right_true hs, Option.bind_some, Option.bind_some, if_neg (by simp)]
  rcases iter_fromR (k := 0) (body := plane_First_L0 b l s) (fun (p : Point3) i => (i, p)) 0 s.length (Nat.zero_le _) (fun i _ => okTo b l s i) (fun r => r.2 = true ∧ IsFirst b l s r.1) (by
    intro i _ hi p hI
    obtain ⟨g1, g2, g3⟩ := hs.ok _ (List.getElem_mem hi)
    have gp := slab_pos hs.canon (List.getElem_mem hi)
    obtain ⟨h, e1, hm, hlow⟩ := plane_lowest_eq (a := s[i].Area) hv hl g3.1 (by have := g3.2.1; omega)
    unfold plane_First_L0
    dsimp only
    rw [if_pos (by simpa using hi), getI_nat hi, Option.bind_some, e1, Option.bind_some]
    by_cases hc : s[i].Z1 ≤ max s[i].Z0 h
    · left
      rw [if_pos (by simpa using hc), addI_one (by omega), Option.bind_some]
      exact ⟨p, rfl, hI.succ hi ((hlow s[i].Z1).1 (by omega)).2⟩
    · right
      rw [if_neg (by simpa using hc)]
      generalize hz : max s[i].Z0 h = z at hc
      have hbad : ∃ x y, cells s[i].Area x y ∧ ¬ roomS b l (z + 1) x y := by
        refine Classical.byContradiction fun hn => ?_
        have := (hlow (z + 1)).2 ⟨by omega, fun x y hxy => ?_⟩
        · omega
        · refine Classical.byContradiction fun c => hn ⟨x, y, hxy, fun hr => ?_⟩
          have := ((room_tops hv.2 (by omega)).1 hr).2
          omega
      have hbelow : ∀ x y, cells s[i].Area x y → ∀ z', s[i].Z0 ≤ z' → z' < z → z' < tops b l x y := by
        intro x y hxy z' h1 h2
        have := ((hlow h).1 (Int.le_refl h)).2 x y hxy
        omega
      obtain ⟨r, ok, f1, f2⟩ := plane_room_eq hv hl (z := z + 1) (by omega)
      have hR := f2.list
      obtain ⟨o, o1, o2⟩ := minus_eq g3 hR.rr
      have o1 : IsForm (fun x y => cells s[i].Area x y ∧ ¬ roomS b l (z + 1) x y) o := o1.congr fun x y => by rw [hR.2.2]
      rw [addI_some (by unfold inI; omega), Option.bind_some, f1, Option.bind_some, app_room, Option.bind_some, o2, Option.bind_some]
      obtain ⟨bx, by', hb1⟩ := hbad
      have h0 : 0 < o.length := form_some o1 hb1
      unfold lim
      by_cases h200 : 200 < o.length
      · rw [if_pos h200]
        dsimp only
        rw [if_neg (by decide)]
        obtain ⟨q, q1, q2, q3⟩ := plane_first_eq (a := s[i].Area) hv hl g3.1 (by have := g3.2.1; omega) (z := z) (by omega) ⟨bx, by', hb1⟩
        rw [q1, Option.bind_some]
        exact ⟨_, rfl, rfl, first_of hv hs hI hi (by omega) (by omega) hbelow q2 q3⟩
      · rw [if_neg h200]
        dsimp only
        rw [if_pos (by simpa using h0), show getI o 0 = some o[0] from getI_nat (i := 0) h0, Option.bind_some, Option.bind_some]
        exact ⟨_, rfl, rfl, first_of hv hs hI hi (by omega) (by omega) hbelow rfl (form_least o1 h0)⟩) (by
    intro p _
    unfold plane_First_L0
    dsimp only
    rw [if_neg (by simp)]) (s0 := ⟨0, 0, 0⟩) okTo.zero (fuel := s.length + 1) (by omega) with ⟨p, h1, h2⟩ | ⟨r, h1, h2, h3⟩
  · left
    have h1' : iterL (plane_First_L0 b l s) (s.length + 1) (0, (⟨0, 0, 0⟩ : Point3)) = _ := h1
    rw [h1', Option.bind_some]
    exact ⟨h2.all hs, rfl⟩
  · right
    have h1' : iterL (plane_First_L0 b l s) (s.length + 1) (0, (⟨0, 0, 0⟩ : Point3)) = _ := h1
    rw [h1', Option.bind_some]
    refine ⟨r.1, h3, ?_⟩
    rw [← h2]
theorem plane_First_bad {b : Rect} {l : List Plane} {s : List Slab} (hl : l.length ≤ 1000000) (ha : ∀ c ∈ s, c.Area.length ≤ 100000) (h : ¬ (VL b l ∧ SS s)) : plane_First b l s = some (⟨0, 0, 0⟩, false) := by
  unfold plane_First
  rw [planeValid_eq hl, Option.bind_some]
  by_cases hv : VL b l
  · rw [decide_eq_true hv, if_neg (by simp), solid_Right_false ha fun g => h ⟨hv, g⟩, Option.bind_some, Option.bind_some, if_pos (by simp)]
  · rw [decide_eq_false hv, if_pos (by simp), Option.bind_some, if_pos rfl]
theorem contains_Slab {a : List Slab} {f : Slab → Option Bool} {p : Slab → Bool} (hf : ∀ r ∈ a, f r = some (p r)) (hl : a.length ≤ 1000000) : slices_ContainsFunc_Slab a f = some (a.any p) := by
  unfold slices_ContainsFunc_Slab slices_IndexFunc_Slab
  rcases iter_find (l := a) (body := slices_IndexFunc_Slab_L0 a f) (k := 0) (fun r => p r = true) (fun i => (i : Int)) (by
    intro i hi
    unfold slices_IndexFunc_Slab_L0
    rw [if_pos (by simpa using hi), getI_nat hi, Option.bind_some, hf _ (List.getElem_mem hi), Option.bind_some]
    cases hp : p a[i]
    · right
      rw [if_neg (by simp), addI_one (by omega), Option.bind_some]
      exact ⟨by simp, rfl⟩
    · left
      exact ⟨rfl, if_pos rfl⟩) (by
    unfold slices_IndexFunc_Slab_L0
    rw [if_neg (by simp)]) (fuel := a.length + 1) (by omega) with ⟨i, hi, hp, _, h⟩ | ⟨hp, h⟩
  · rw [h, Option.bind_some]
    dsimp only
    rw [Option.bind_some]
    congr 1
    rw [decide_eq_true (by omega)]
    symm
    rw [List.any_eq_true]
    exact ⟨_, List.getElem_mem hi, hp⟩
  · rw [h, Option.bind_some]
    dsimp only
    rw [Option.bind_some]
    congr 1
    rw [decide_eq_false (by omega)]
    symm
    rw [List.any_eq_false]
    exact hp
theorem alw_slabs {b : Rect} {l : List Plane} {s : List Slab} (hs : SS s) : Alw b l s ↔ ∀ c ∈ s, ∀ x y, cells c.Area x y → c.Z1 ≤ tops b l x y := by
  constructor
  · intro h c hc x y hx
    have gp := slab_pos hs.canon hc
    have := h x y (c.Z1 - 1) ((scells_slab hs.canon).2 ⟨c, hc, hx, by omega, by omega⟩)
    omega
  · intro h x y z hx
    obtain ⟨c, hc, h1, h2, h3⟩ := (scells_slab hs.canon).1 hx
    have := h c hc x y h1
    omega
theorem plane_Allows_eq {b : Rect} {l : List Plane} {s : List Slab} (hv : VL b l) (hl : l.length ≤ 1000000) (hs : SS s) : ∃ c, plane_Allows b l s = some c ∧ (c = true ↔ Alw b l s) := by
  have hsl := hs.len
  unfold plane_Allows
  rw [planeValid_eq hl, Option.bind_some, decide_eq_true hv, if_neg (by simp), solid_Right_true hs, Option.bind_some, Option.bind_some, if_neg (by simp)]
  have key : ∀ c ∈ s, ∃ v, plane_Allows_1 c b l = some v ∧ (v = false ↔ ∀ x y, cells c.Area x y → c.Z1 ≤ tops b l x y) := by
    intro c hc
    obtain ⟨g1, g2, g3⟩ := hs.ok _ hc
    obtain ⟨h, e1, hm, hlow⟩ := plane_lowest_eq (a := c.Area) hv hl g3.1 (by have := g3.2.1; omega)
    unfold plane_Allows_1
    rw [e1, Option.bind_some]
    refine ⟨_, rfl, ?_⟩
    rw [decide_eq_false_iff_not, Int.not_lt, hlow]
    exact ⟨fun g => g.2, fun g => ⟨g2, g⟩⟩
  rw [contains_Slab (p := fun c => (plane_Allows_1 c b l).getD false) (fun c hc => by obtain ⟨v, e, _⟩ := key c hc; rw [e]; rfl) (by omega), Option.bind_some]
  refine ⟨_, rfl, ?_⟩
  rw [alw_slabs hs, Bool.not_eq_true', List.any_eq_false]
  constructor
  · intro h c hc
    obtain ⟨v, e, g⟩ := key c hc
    have := h c hc
    rw [e] at this
    exact g.1 (by simpa using this)
  · intro h c hc
    obtain ⟨v, e, g⟩ := key c hc
    rw [e]
    simpa using g.2 (h c hc)
theorem plane_Allows_bad {b : Rect} {l : List Plane} {s : List Slab} (hl : l.length ≤ 1000000) (ha : ∀ c ∈ s, c.Area.length ≤ 100000) (h : ¬ (VL b l ∧ SS s)) : plane_Allows b l s = some false := by
  unfold plane_Allows
  rw [planeValid_eq hl, Option.bind_some]
  by_cases hv : VL b l
  · rw [decide_eq_true hv, if_neg (by simp), solid_Right_false ha fun g => h ⟨hv, g⟩, Option.bind_some, Option.bind_some, if_pos (by simp)]
  · rw [decide_eq_false hv, if_pos (by simp), Option.bind_some, if_pos rfl]
end Go.Proofs.YtpbeebhapbibfaaGreatDoor

namespace Go.Proofs.YtpbeebhapbibfaaGreatDoor
open Go.Gb
set_option linter.unusedVariables false
set_option linter.unusedSimpArgs false
set_option linter.unusedSectionVars false
set_option linter.unusedVariables false
set_option linter.unusedSimpArgs false

theorem ref_ceil_eq {a n : Int} (ha : -1000000000000 ≤ a ∧ a ≤ 1000000000000) (hn : 0 < n ∧ n ≤ 1000000) : ref10_ceil a n = some (-(-a / n)) := by
  have hq : ∀ m : Int, 0 ≤ m → m ≤ 4000000000000 → quoI m n = some (m / n) := by
    intro m h0 h1
    have h2 := Int.natAbs_ediv_le_natAbs m n
    unfold quoI
    rw [Int.tdiv_eq_ediv_of_nonneg h0, if_pos ⟨by omega, by unfold inI; omega⟩]
  unfold ref10_ceil
  by_cases h : 0 < a
  · rw [if_pos (by simpa using h), addI_some (by unfold inI; omega), Option.bind_some, subI_some (by unfold inI; omega), Option.bind_some, hq _ (by omega) (by omega), Option.bind_some]
    congr 1
    have e1 := Int.mul_ediv_add_emod (-a) n
    have e2 := Int.emod_nonneg (-a) (show n ≠ 0 by omega)
    have e3 := Int.emod_lt_of_pos (-a) hn.1
    refine ediv_of hn.1 ?_ ?_
    · rw [Int.neg_mul, Int.mul_comm]; omega
    · rw [Int.add_mul, Int.neg_mul, Int.mul_comm (-a / n)]; omega
  · have h2 := Int.natAbs_ediv_le_natAbs (-a) n
    rw [if_neg (by simpa using h), subI_some (by unfold inI; omega), Option.bind_some, show (0 : Int) - a = -a by omega, hq _ (by omega) (by omega), Option.bind_some, subI_some (by unfold inI; omega), Option.bind_some]
    congr 1
    omega
theorem ref_room_eq {b : Rect} {l : List Plane} {z : Int} (hv : VL b l) (hl : l.length ≤ 1000000) (hz : 0 ≤ z ∧ z ≤ 4096) : ∃ a, ref10_room b l z = some a ∧ IsRoomL b l z a := by
  have hb := hv.1
  unfold VR at hb
  have step : ∀ i (hi : i < l.length) (s : Rect), Cut b l z s i → (∃ s', ref10_room_L0 b l z ((i : Int), s) = some (.go (((i + 1 : Nat) : Int), s')) ∧ Cut b l z s' (i + 1)) ∨
      (∃ r : List Rect, ref10_room_L0 b l z ((i : Int), s) = some (.ret r) ∧ IsRoomL b l z r) := by
    intro i hi s hs
    have hp := hv.2 _ (List.getElem_mem hi)
    have hp' := hp
    unfold VP at hp'
    unfold ref10_room_L0
    dsimp only
    rw [if_pos (by simpa using hi), getI_nat hi, Option.bind_some]
    by_cases hn : l[i].Num = 0
    · rw [if_pos (beq_of hn)]
      by_cases hz' : l[i].Base < z
      · right
        rw [if_pos (by simpa using hz'), Option.bind_some]
        refine ⟨_, rfl, by simp, by simp, fun x y => ?_⟩
        have : ¬ roomS b l z x y := fun hr => by
          have := (under_flat hp hn).1 (hr.2 _ (List.getElem_mem hi))
          omega
        simp [cells, this]
      · left
        rw [if_neg (by simpa using hz'), Option.bind_some]
        dsimp only
        rw [addI_one (by omega), Option.bind_some]
        exact ⟨_, rfl, hs.same hi hp hn (by omega)⟩
    · left
      have hn' : 0 < l[i].Num := by omega
      obtain ⟨f1, f2⟩ := far_abs hp hn' hz
      have e1 : (z - l[i].Base) * l[i].Den = -((l[i].Base - z) * l[i].Den) := by grind
      have ef : -(-((z - l[i].Base) * l[i].Den) / l[i].Num) = far z l[i] := by unfold far; rw [e1, Int.neg_neg]
      refine ⟨cut1 b z s l[i], ?_, hs.step hi hp hn'⟩
      rw [if_neg (beq_ofn hn), subI_some (by unfold inI; omega), Option.bind_some, mulI_some (by unfold inI; omega), Option.bind_some, ref_ceil_eq (by omega) (by omega), Option.bind_some, ef]
      unfold cut1
      by_cases s0 : l[i].Side = 0
      · rw [if_pos (beq_of s0), if_pos s0, addI_some (by unfold inI; omega), Option.bind_some, Option.bind_some, Option.bind_some]
        dsimp only
        rw [addI_one (by omega), Option.bind_some]
      · rw [if_neg (beq_ofn s0), if_neg s0]
        by_cases s1 : l[i].Side = 1
        · rw [if_pos (beq_of s1), if_pos s1, subI_some (by unfold inI; omega), Option.bind_some, Option.bind_some, Option.bind_some, Option.bind_some]
          dsimp only
          rw [addI_one (by omega), Option.bind_some]
        · rw [if_neg (beq_ofn s1), if_neg s1]
          by_cases s2 : l[i].Side = 2
          · rw [if_pos (beq_of s2), if_pos s2, addI_some (by unfold inI; omega), Option.bind_some, Option.bind_some, Option.bind_some, Option.bind_some, Option.bind_some]
            dsimp only
            rw [addI_one (by omega), Option.bind_some]
          · rw [if_neg (beq_ofn s2), if_neg s2, subI_some (by unfold inI; omega), Option.bind_some, Option.bind_some, Option.bind_some, Option.bind_some, Option.bind_some]
            dsimp only
            rw [addI_one (by omega), Option.bind_some]
  unfold ref10_room
  rcases iter_fromR (k := 0) (body := ref10_room_L0 b l z) (fun (s : Rect) i => (i, s)) 0 l.length (Nat.zero_le _) (fun i s => Cut b l z s i) (fun r => IsRoomL b l z r) (fun i _ hi s hs => step i hi s hs) (by
    intro s _
    unfold ref10_room_L0
    dsimp only
    rw [if_neg (by simp)]) (s0 := ⟨0, 0, 1048576, 1048576⟩) Cut.zero (fuel := l.length + 1) (by omega) with ⟨s, h1, h2⟩ | ⟨r, h1, h2⟩
  · have h1' : iterL (ref10_room_L0 b l z) (l.length + 1) (0, (⟨0, 0, 1048576, 1048576⟩ : Rect)) = _ := h1
    rw [h1', Option.bind_some]
    dsimp only
    have := h2.room.list
    by_cases hc : s.X0 < s.X1 ∧ s.Y0 < s.Y1
    · rw [if_pos (by simpa using hc)] at this
      exact ⟨_, if_neg (by simp; omega), this⟩
    · rw [if_neg (by simpa using hc)] at this
      exact ⟨_, if_pos (by simp; omega), this⟩
  · have h1' : iterL (ref10_room_L0 b l z) (l.length + 1) (0, (⟨0, 0, 1048576, 1048576⟩ : Rect)) = _ := h1
    rw [h1', Option.bind_some]
    exact ⟨r, rfl, h2⟩
theorem ref_First_L1 {b : Rect} {l : List Plane} {s : List Slab} (hv : VL b l) (hl : l.length ≤ 1000000) (hs : SS s) {i : Nat} (hi : i < s.length) (hI : okTo b l s i) (p : Point3) :
    (∃ e : Int × Point3, iterL (ref10_First_L1 b l s ((i : Int), p)) 4098 (s[i].Z0, p) = some (.ex 2 e) ∧ okTo b l s (i + 1)) ∨ ∃ q, IsFirst b l s q ∧ iterL (ref10_First_L1 b l s ((i : Int), p)) 4098 (s[i].Z0, p) = some (.ret (q, true)) := by
  obtain ⟨g1, g2, g3⟩ := hs.ok _ (List.getElem_mem hi)
  have gp := slab_pos hs.canon (List.getElem_mem hi)
  have ea : ((s[i].Z0.toNat : Nat) : Int) = s[i].Z0 := by omega
  rcases iter_fromR (k := 2) (body := ref10_First_L1 b l s ((i : Int), p)) (fun (p : Point3) z => (z, p)) s[i].Z0.toNat s[i].Z1.toNat (by omega)
    (fun (z : Nat) _ => ∀ x y, cells s[i].Area x y → ∀ z', s[i].Z0 ≤ z' → z' < (z : Int) → z' < tops b l x y) (fun r => r.2 = true ∧ IsFirst b l s r.1) (by
    intro z hz1 hz2 q hbelow
    obtain ⟨c, c1, c2⟩ := ref_bad_eq (a := s[i].Area) (z := (z : Int)) hv hl g3.1 (by have := g3.2.1; omega) (by omega)
    unfold ref10_First_L1
    dsimp only
    rw [getI_nat hi, Option.bind_some, if_pos (by simp; omega), Option.bind_some, c1, Option.bind_some]
    by_cases hc : c = true
    · right
      rw [if_pos hc]
      obtain ⟨x, y, hxy, ht⟩ := c2.1 hc
      obtain ⟨R, r1, r2⟩ := ref_room_eq hv hl (z := (z : Int) + 1) (by omega)
      obtain ⟨o, o1, o2⟩ := Form_spec (a := s[i].Area) (b := R) (op := 2) g3.1 r2.1 (by have := g3.2.1; have := r2.2.1; simp; omega)
      have o2 : IsForm (fun x y => cells s[i].Area x y ∧ ¬ roomS b l ((z : Int) + 1) x y) o := o2.congr fun x y => by rw [← r2.2.2]; unfold opS opB; simp
      have h0 : 0 < o.length := form_some o2 ⟨hxy, fun hr => by have := ((room_tops hv.2 (by omega)).1 hr).2; omega⟩
      rw [Option.bind_some, addI_some (by unfold inI; omega), Option.bind_some, r1, Option.bind_some, o1, Option.bind_some, show getI o 0 = some o[0] from getI_nat (i := 0) h0, Option.bind_some, Option.bind_some]
      exact ⟨_, rfl, rfl, first_of hv hs hI hi (by omega) (by omega) hbelow rfl (form_least o2 h0)⟩
    · left
      rw [if_neg hc, addI_one (by omega), Option.bind_some]
      refine ⟨q, rfl, fun x y hxy z' h1 h2 => ?_⟩
      by_cases hz' : z' < (z : Int)
      · exact hbelow x y hxy z' h1 hz'
      · refine Classical.byContradiction fun hn => hc (c2.2 ⟨x, y, hxy, ?_⟩)
        omega) (by
    intro q _
    unfold ref10_First_L1
    dsimp only
    rw [getI_nat hi, Option.bind_some, if_neg (by simp; omega)]) (s0 := p) (fun x y _ z' h1 h2 => by omega) (fuel := 4098) (by omega) with ⟨q, h1, h2⟩ | ⟨r, h1, h2, h3⟩
  · left
    rw [ea] at h1
    refine ⟨_, h1, hI.succ hi fun x y hxy => ?_⟩
    have := h2 x y hxy (s[i].Z1 - 1) (by omega) (by omega)
    omega
  · right
    rw [ea] at h1
    refine ⟨r.1, h3, ?_⟩
    rw [h1, ← h2]
theorem ref_First_eq {b : Rect} {l : List Plane} {s : List Slab} (hv : VL b l) (hl : l.length ≤ 1000000) (hs : SS s) :
    (Alw b l s ∧ ref10_First b l s = some (⟨0, 0, 0⟩, false)) ∨ ∃ p, IsFirst b l s p ∧ ref10_First b l s = some (p, true) := by
  have hsl := hs.len
  unfold ref10_First
  rw [refPlaneValid_eq hl, Option.bind_some, decide_eq_true hv, if_neg (by simp), rRightS_true hs, Option.bind_some, Option.bind_some, if_neg (by simp)]
  rcases iter_fromR (k := 0) (body := ref10_First_L0 b l s) (fun (p : Point3) i => (i, p)) 0 s.length (Nat.zero_le _) (fun i _ => okTo b l s i) (fun r => r.2 = true ∧ IsFirst b l s r.1) (by
    intro i _ hi p hI
    unfold ref10_First_L0
    dsimp only
    rw [if_pos (by simpa using hi), getI_nat hi, Option.bind_some]
    rcases ref_First_L1 hv hl hs hi hI p with ⟨e, h1, h2⟩ | ⟨q, h1, h2⟩
    · left
      rw [h1, Option.bind_some]
      dsimp only
      rw [addI_one (by omega), Option.bind_some]
      exact ⟨_, rfl, h2⟩
    · right
      rw [h2, Option.bind_some]
      exact ⟨_, rfl, rfl, h1⟩) (by
    intro p _
    unfold ref10_First_L0
    dsimp only
    rw [if_neg (by simp)]) (s0 := ⟨0, 0, 0⟩) okTo.zero (fuel := l.length + s.length + 1) (by omega) with ⟨p, h1, h2⟩ | ⟨r, h1, h2, h3⟩
  · left
    have h1' : iterL (ref10_First_L0 b l s) (l.length + s.length + 1) (0, (⟨0, 0, 0⟩ : Point3)) = _ := h1
    rw [h1', Option.bind_some]
    exact ⟨h2.all hs, rfl⟩
  · right
    have h1' : iterL (ref10_First_L0 b l s) (l.length + s.length + 1) (0, (⟨0, 0, 0⟩ : Point3)) = _ := h1
    rw [h1', Option.bind_some]
    refine ⟨r.1, h3, ?_⟩
    rw [← h2]
theorem ref_First_bad {b : Rect} {l : List Plane} {s : List Slab} (hl : l.length ≤ 1000000) (ha : ∀ c ∈ s, c.Area.length ≤ 100000) (h : ¬ (VL b l ∧ SS s)) : ref10_First b l s = some (⟨0, 0, 0⟩, false) := by
  unfold ref10_First
  rw [refPlaneValid_eq hl, Option.bind_some]
  by_cases hv : VL b l
  · rw [decide_eq_true hv, if_neg (by simp), rRightS_false ha fun g => h ⟨hv, g⟩, Option.bind_some, Option.bind_some, if_pos (by simp)]
  · rw [decide_eq_false hv, if_pos (by simp), Option.bind_some, if_pos rfl]
theorem first_alw {b : Rect} {l : List Plane} {s : List Slab} {p : Point3} (h : IsFirst b l s p) : ¬ Alw b l s := fun g => by
  have := g _ _ _ h.mem
  have := h.bad
  omega
theorem First_same {b : Rect} {l : List Plane} {s : List Slab} (hl : l.length ≤ 1000000) (ha : ∀ c ∈ s, c.Area.length ≤ 100000) : ∃ r, plane_First b l s = some r ∧ ref10_First b l s = some r := by
  by_cases h : VL b l ∧ SS s
  · rcases plane_First_eq h.1 hl h.2 with ⟨a1, a2⟩ | ⟨p, a1, a2⟩ <;> rcases ref_First_eq h.1 hl h.2 with ⟨c1, c2⟩ | ⟨q, c1, c2⟩
    · exact ⟨_, a2, c2⟩
    · exact absurd a1 (first_alw c1)
    · exact absurd c1 (first_alw a1)
    · obtain rfl := a1.unique c1
      exact ⟨_, a2, c2⟩
  · exact ⟨_, plane_First_bad hl ha h, ref_First_bad hl ha h⟩
theorem Allows_same {b : Rect} {l : List Plane} {s : List Slab} (hl : l.length ≤ 1000000) (ha : ∀ c ∈ s, c.Area.length ≤ 100000) : ∃ r, plane_Allows b l s = some r ∧ ref10_Allows b l s = some r := by
  unfold ref10_Allows
  by_cases hv : VL b l
  · by_cases hs : SS s
    · obtain ⟨c, c1, c2⟩ := plane_Allows_eq hv hl hs
      refine ⟨c, c1, ?_⟩
      rcases ref_First_eq hv hl hs with ⟨a1, a2⟩ | ⟨p, a1, a2⟩
      · rw [a2, Option.bind_some, refPlaneValid_eq hl, Option.bind_some, decide_eq_true hv, if_pos rfl, rRightS_true hs, Option.bind_some, Option.bind_some, c2.2 a1]; rfl
      · rw [a2, Option.bind_some, refPlaneValid_eq hl, Option.bind_some, decide_eq_true hv, if_pos rfl, rRightS_true hs, Option.bind_some, Option.bind_some, show c = false by cases c with | false => rfl | true => exact absurd (c2.1 rfl) (first_alw a1)]; rfl
    · refine ⟨false, plane_Allows_bad hl ha fun g => hs g.2, ?_⟩
      rw [ref_First_bad hl ha fun g => hs g.2, Option.bind_some, refPlaneValid_eq hl, Option.bind_some, decide_eq_true hv, if_pos rfl, rRightS_false ha hs, Option.bind_some, Option.bind_some]; rfl
  · refine ⟨false, plane_Allows_bad hl ha fun g => hv g.1, ?_⟩
    rw [ref_First_bad hl ha fun g => hv g.1, Option.bind_some, refPlaneValid_eq hl, Option.bind_some, decide_eq_false hv, if_neg (by simp), Option.bind_some]; rfl
theorem grid_has (x y : Int) : rect_Has ⟨0, 0, 1048576, 1048576⟩ x y = some (decide (grd x y)) := by
  rw [rect_Has_eq]
  congr 1
  rw [decide_eq_decide]
  exact ⟨fun h => grid_rin.1 h.2, fun h => ⟨by unfold VR; decide, grid_rin.2 h⟩⟩
theorem plane_Top_fine {b : Rect} {l : List Plane} {x y : Int} (hv : VL b l) (hl : l.length ≤ 1000000) (hg : grd x y) : plane_Top b l x y = some (max 0 (tops b l x y)) := by
  have hg' := hg
  unfold grd at hg'
  unfold plane_Top
  rw [planeValid_eq hl, Option.bind_some, decide_eq_true hv, if_neg (by simp), grid_has, Option.bind_some, Option.bind_some, decide_eq_true hg, if_neg (by simp), plane_top_eq hv hl (by omega) (by omega), Option.bind_some]
theorem plane_Top_bad {b : Rect} {l : List Plane} {x y : Int} (hl : l.length ≤ 1000000) (h : ¬ (VL b l ∧ grd x y)) : plane_Top b l x y = some (-1) := by
  unfold plane_Top
  rw [planeValid_eq hl, Option.bind_some]
  by_cases hv : VL b l
  · rw [decide_eq_true hv, if_neg (by simp), grid_has, Option.bind_some, Option.bind_some, decide_eq_false fun g => h ⟨hv, g⟩, if_pos (by simp)]
  · rw [decide_eq_false hv, if_pos (by simp), Option.bind_some, if_pos rfl]
theorem ref_cell_eq (x y : Int) : ref10_cell x y = some (decide (grd x y)) := by
  unfold ref10_cell
  congr 1
  rw [Bool.eq_iff_iff, decide_eq_true_iff]
  unfold grd
  simp only [Bool.and_eq_true, decide_eq_true_eq]
  constructor
  · rintro ⟨⟨⟨h1, h2⟩, h3⟩, h4⟩; exact ⟨⟨h1, h2⟩, h3, h4⟩
  · rintro ⟨⟨h1, h2⟩, h3, h4⟩; exact ⟨⟨⟨h1, h2⟩, h3⟩, h4⟩
theorem Top_same {b : Rect} {l : List Plane} {x y : Int} (hl : l.length ≤ 1000000) : ref10_Top b l x y = plane_Top b l x y := by
  unfold ref10_Top
  rw [refPlaneValid_eq hl, Option.bind_some]
  by_cases h : VL b l ∧ grd x y
  · obtain ⟨hv, hg⟩ := h
    have hg' := hg
    unfold grd at hg'
    rw [plane_Top_fine hv hl hg, decide_eq_true hv, if_neg (by simp), ref_cell_eq, Option.bind_some, Option.bind_some, decide_eq_true hg, if_neg (by simp)]
    have hm := tops_max (b := b) (l := l) (x := x) (y := y)
    obtain ⟨s, h1, h2⟩ := iter_from (k := 0) (body := ref10_Top_L0 b l x y) (fun (_ : Unit) z => z) 0 (max 0 (tops b l x y)).toNat (Nat.zero_le _) (fun _ _ => True) (by
      intro z _ hz _ _
      refine ⟨(), ?_, trivial⟩
      unfold ref10_Top_L0
      rw [if_pos (by simp; omega), ref_allowed_tops hv hl (by omega) (by omega) (by omega), Option.bind_some, Option.bind_some, decide_eq_true (by omega), if_pos rfl, addI_one (by omega), Option.bind_some]) (by
      intro _ _
      unfold ref10_Top_L0
      by_cases hz : (((max 0 (tops b l x y)).toNat : Nat) : Int) < 4096
      · rw [if_pos (by simpa using hz), ref_allowed_tops hv hl (by omega) (by omega) (by omega), Option.bind_some, Option.bind_some, decide_eq_false (by omega), if_neg (by simp)]
      · rw [if_neg (by simpa using hz), Option.bind_some, if_neg (by simp)]) (s0 := ()) trivial (fuel := 4097) (by omega)
    have h1' : iterL (ref10_Top_L0 b l x y) 4097 0 = _ := h1
    rw [h1', Option.bind_some]
    dsimp only
    congr 1
    omega
  · rw [plane_Top_bad hl h]
    by_cases hv : VL b l
    · rw [decide_eq_true hv, if_neg (by simp), ref_cell_eq, Option.bind_some, Option.bind_some, decide_eq_false fun g => h ⟨hv, g⟩, if_pos (by simp)]
    · rw [decide_eq_false hv, if_pos (by simp), Option.bind_some, if_pos rfl]
/-- The distance of a cell from a side, if all is valid. -/
def distV (b : Rect) (s x y : Int) : Int := if VR b ∧ (0 ≤ s ∧ s ≤ 3) ∧ grd x y then dst b s x y else 0
theorem within_eq (n lo hi : Int) : plane_within n lo hi = some (decide (lo ≤ n ∧ n ≤ hi)) := by
  unfold plane_within
  congr 1
  rw [Bool.eq_iff_iff]
  simp
theorem plane_Distance_eq {b : Rect} {s x y : Int} : plane_Distance b s x y = some (distV b s x y) := by
  unfold plane_Distance distV
  rw [rect_Right_eq, Option.bind_some]
  by_cases hb : VR b
  · have hb' := hb
    unfold VR at hb'
    rw [decide_eq_true hb, if_neg (by simp)]
    by_cases hs : 0 ≤ s ∧ s ≤ 3
    · rw [within_eq, Option.bind_some, decide_eq_true hs, Option.bind_some, if_neg (by simp), grid_has, Option.bind_some, Option.bind_some]
      by_cases hg : grd x y
      · have hg' := hg
        unfold grd at hg'
        rw [decide_eq_true hg, if_neg (by simp), if_pos ⟨hb, hs, hg⟩]
        unfold plane_distances
        rw [subI_some (by unfold inI; omega), Option.bind_some, subI_some (by unfold inI; omega), Option.bind_some, subI_some (by unfold inI; omega), Option.bind_some, subI_some (by unfold inI; omega), Option.bind_some, subI_some (by unfold inI; omega), Option.bind_some, subI_some (by unfold inI; omega), Option.bind_some, Option.bind_some]
        dsimp only
        rw [getI_dst hs, Option.bind_some]
      · rw [decide_eq_false hg, if_pos (by simp), if_neg fun g => hg g.2.2]
    · rw [within_eq, Option.bind_some, decide_eq_false hs, Option.bind_some, if_pos (by simp), Option.bind_some, if_pos rfl, if_neg fun g => hs g.2.1]
  · rw [decide_eq_false hb, if_pos (by simp), Option.bind_some, if_pos rfl, Option.bind_some, if_pos rfl, if_neg fun g => hb g.1]
theorem ref_Distance_eq {b : Rect} {s x y : Int} : ref10_Distance b s x y = some (distV b s x y) := by
  unfold ref10_Distance distV
  rw [RightRect_eq, Option.bind_some]
  by_cases hb : VR b
  · by_cases hs : 0 ≤ s ∧ s ≤ 3
    · rw [if_neg (by simp [hb]; omega), ref_cell_eq, Option.bind_some, Option.bind_some]
      by_cases hg : grd x y
      · have hg' := hg
        unfold grd at hg'
        rw [decide_eq_true hg, if_neg (by simp), if_pos ⟨hb, hs, hg⟩, ref_dst_eq hb (by omega) (by omega), Option.bind_some]
      · rw [decide_eq_false hg, if_pos (by simp), if_neg fun g => hg g.2.2]
    · rw [if_pos (by simp [hb]; omega), Option.bind_some, if_pos rfl, if_neg fun g => hs g.2.1]
  · rw [if_pos (by simp [hb]), Option.bind_some, if_pos rfl, if_neg fun g => hb g.1]
theorem Room_bad {b : Rect} {l : List Plane} {z : Int} (hl : l.length ≤ 1000000) (h : ¬ VL b l) : plane_Room b l z = some ([], 1) := by
  unfold plane_Room
  rw [planeValid_eq hl, Option.bind_some, decide_eq_false h, if_pos (by simp)]
theorem Room_range {b : Rect} {l : List Plane} {z : Int} (hl : l.length ≤ 1000000) (h : VL b l) (hz : ¬ (0 ≤ z ∧ z ≤ 4096)) : plane_Room b l z = some ([], 3) := by
  unfold plane_Room
  rw [planeValid_eq hl, Option.bind_some, decide_eq_true h, if_neg (by simp), within_eq, Option.bind_some, decide_eq_false hz, if_pos (by simp)]
theorem Room_fine {b : Rect} {l : List Plane} {z : Int} (hl : l.length ≤ 1000000) (h : VL b l) (hz : 0 ≤ z ∧ z ≤ 4096) :
    ∃ a, plane_Room b l z = some (a, 0) ∧ (∀ r ∈ a, VR r) ∧ a.length ≤ 1 ∧ ∀ x y, cells a x y ↔ grd x y ∧ z ≤ max 0 (tops b l x y) := by
  unfold plane_Room
  rw [planeValid_eq hl, Option.bind_some, decide_eq_true h, if_neg (by simp), within_eq, Option.bind_some, decide_eq_true hz, if_neg (by simp)]
  by_cases h0 : z = 0
  · rw [if_pos (beq_of h0)]
    refine ⟨_, rfl, by simp [VR], by simp, fun x y => ?_⟩
    rw [← grid_rin]
    simp only [cells, List.mem_singleton, exists_eq_left]
    exact ⟨fun g => ⟨g, by omega⟩, fun g => g.1⟩
  · obtain ⟨r, ok, h1, h2⟩ := plane_room_eq h hl hz
    have hR := h2.list
    rw [if_neg (beq_ofn h0), h1, Option.bind_some]
    refine ⟨if ok then [r] else [], by cases ok <;> rfl, hR.1, hR.2.1, fun x y => ?_⟩
    rw [hR.2.2]
    refine and_congr_right fun _ => ?_
    have := tops_le (b := b) (l := l) (x := x) (y := y) (z := z) h.2
    exact ⟨fun g => by have := this.2 ⟨hz.2, g⟩; omega, fun g => (this.1 (by omega)).2⟩
theorem Room_same {b : Rect} {l : List Plane} {z : Int} (hl : l.length ≤ 1000000) : ref10_Room b l z = plane_Room b l z := by
  unfold ref10_Room
  rw [refPlaneValid_eq hl, Option.bind_some]
  by_cases h : VL b l
  · rw [decide_eq_true h, if_neg (by simp)]
    by_cases hz : 0 ≤ z ∧ z ≤ 4096
    · rw [if_neg (by simp; omega)]
      unfold plane_Room
      rw [planeValid_eq hl, Option.bind_some, decide_eq_true h, if_neg (show ¬ (!true) = true by simp), within_eq, Option.bind_some, decide_eq_true hz, if_neg (show ¬ (!true) = true by simp)]
      by_cases h0 : z = 0
      · rw [if_pos (beq_of h0), if_pos (beq_of h0)]
      · obtain ⟨r, ok, h1, h2⟩ := plane_room_eq h hl hz
        obtain ⟨a, h3, h4⟩ := ref_room_eq h hl hz
        have := h4.unique h2.list
        subst this
        rw [if_neg (beq_ofn h0), if_neg (beq_ofn h0), h1, h3, Option.bind_some, Option.bind_some]
        cases ok <;> rfl
    · rw [if_pos (by simp; omega), Room_range hl h hz]
  · rw [decide_eq_false h, if_pos (by simp), Room_bad hl h]
end Go.Proofs.YtpbeebhapbibfaaGreatDoor

namespace Go.Proofs.YtpbeebhapbibfaaGreatDoor
open Go.Gb
set_option linter.unusedVariables false
set_option linter.unusedSimpArgs false
set_option linter.unusedSectionVars false
set_option linter.unusedVariables false
set_option linter.unusedSimpArgs false
set_option maxRecDepth 100000

def ex10B : Rect := ⟨0, 0, 10, 10⟩
def ex10L : List Plane := [⟨0, 9, 3, 2⟩]
def ex10S : List Slab := [⟨0, 10, [⟨0, 0, 2, 2⟩]⟩]
theorem ex10V : VL ex10B ex10L := by decide
theorem ex10SS : SS ex10S := ssB_spec (by decide)
theorem ex10_tops (x y : Int) : tops ex10B ex10L x y = min 4096 (9 + 3 * x / 2) := by
  unfold tops ex10L
  simp only [List.foldl_cons, List.foldl_nil]
  unfold hgt dst ex10B
  simp
theorem ex10_of : solid_Of [⟨⟨0, 0, 2, 2⟩, 0, 10⟩] = some (ex10S, 0) := by
  refine Of_is (by decide) (by decide) (by decide) fun x y z => ?_
  unfold ex10S
  rw [scells_iff, sect_cons, sect_nil, cells_if]
  simp only [bcells, cells, List.mem_singleton, exists_eq_left, List.not_mem_nil, false_and, exists_false, and_false, or_false, rin]
  omega
theorem ex10_first : plane_First ex10B ex10L ex10S = some (⟨0, 0, 9⟩, true) := by
  have hc : ∀ x y z, scells ex10S x y z ↔ (0 ≤ z ∧ z < 10) ∧ (0 ≤ x ∧ x < 2) ∧ 0 ≤ y ∧ y < 2 := by
    intro x y z
    unfold ex10S
    rw [scells_iff, sect_cons, sect_nil, cells_if]
    simp only [cells, List.mem_singleton, exists_eq_left, List.not_mem_nil, false_and, exists_false, and_false, or_false, rin]
  have h1 : IsFirst ex10B ex10L ex10S ⟨0, 0, 9⟩ := by
    refine ⟨(hc _ _ _).2 (by decide), by rw [ex10_tops]; decide, fun x y z h ht => ?_⟩
    rw [hc] at h
    rw [ex10_tops] at ht
    dsimp only
    omega
  rcases plane_First_eq ex10V (by decide) ex10SS with ⟨a1, _⟩ | ⟨p, a1, a2⟩
  · exact absurd a1 (first_alw h1)
  · rw [a2, a1.unique h1]
theorem ex10_allows : plane_Allows ex10B ex10L ex10S = some false := by
  obtain ⟨c, c1, c2⟩ := plane_Allows_eq ex10V (by decide) ex10SS
  rw [c1]
  cases c
  · rfl
  · have := c2.1 rfl 0 0 9 (by decide)
    rw [ex10_tops] at this
    exact absurd this (by decide)
theorem ex10_room9 : plane_Room ex10B ex10L 9 = some ([⟨0, 0, 1048576, 1048576⟩], 0) := by rfl
theorem ex10_room12 : plane_Room ex10B ex10L 12 = some ([⟨2, 0, 1048576, 1048576⟩], 0) := by rfl
theorem small10_true : law10_small = some true := by
  unfold law10_small
  have e1 := ex10_first
  have e2 := ex10_allows
  have e3 := ex10_room9
  have e4 := ex10_room12
  have t1 : plane_Top ex10B ex10L 0 0 = some 9 := by rfl
  have t2 : plane_Top ex10B ex10L 1 0 = some 10 := by rfl
  have t3 : plane_Top ex10B ex10L 2 5 = some 12 := by rfl
  have t4 : plane_Top ex10B ex10L 10 0 = some 24 := by rfl
  have t5 : plane_Top ex10B [⟨0, 9, 3, 2⟩, ⟨1, 0, 1, 1⟩] 0 0 = some 9 := by rfl
  have d1 : plane_Distance ex10B 3 0 3 = some 6 := by rfl
  unfold ex10B ex10L at *
  rw [ex10_of, Option.bind_some]
  dsimp only
  rw [e1, Option.bind_some, e3, Option.bind_some, e4, Option.bind_some]
  dsimp only
  rw [if_neg (by decide), t1, Option.bind_some, if_pos (by decide), t2, Option.bind_some, Option.bind_some, if_pos (by decide), t3, Option.bind_some, Option.bind_some, if_pos (by decide), t4, Option.bind_some, Option.bind_some]
  rw [show getI [(⟨0, 0, 1048576, 1048576⟩ : Rect)] 0 = some ⟨0, 0, 1048576, 1048576⟩ from rfl, show getI [(⟨2, 0, 1048576, 1048576⟩ : Rect)] 0 = some ⟨2, 0, 1048576, 1048576⟩ from rfl, Option.bind_some, if_pos (by decide), Option.bind_some, Option.bind_some, if_pos (by decide), e2, Option.bind_some, Option.bind_some, if_pos (by decide)]
  rw [show appI [(⟨0, 9, 3, 2⟩ : Plane)] [⟨1, 0, 1, 1⟩] = some [⟨0, 9, 3, 2⟩, ⟨1, 0, 1, 1⟩] from rfl, Option.bind_some, t5, Option.bind_some, Option.bind_some, if_pos (by decide), d1, Option.bind_some, Option.bind_some]
  rfl
theorem few10_eq (l : List Plane) (s : List Box) : law10_few l s = some (decide (l.length ≤ 12 ∧ s.length ≤ 12)) := by
  unfold law10_few
  congr 1
  rw [Bool.eq_iff_iff]
  simp
  omega
/-- The solid of few boxes. -/
theorem Of_few {s : List Box} (h : s.length ≤ 14) : ((∀ b ∈ s, VB b) ∧ ∃ a, Mk s (bcB s) a ∧ solid_Of s = some (a, 0)) ∨ ((¬ ∀ b ∈ s, VB b) ∧ solid_Of s = some ([], 1)) := by
  by_cases hv : ∀ b ∈ s, VB b
  · obtain ⟨a, h1, h2⟩ := Mk.of (l := s) hv h (fun _ hb => hb) (by omega)
    exact .inl ⟨hv, a, h1, h2⟩
  · exact .inr ⟨hv, solid_Of_bad (by omega) hv⟩
theorem Of_few_SS {s : List Box} (h : s.length ≤ 14) : ∃ a e, solid_Of s = some (a, e) ∧ SS a := by
  rcases Of_few h with ⟨_, a, h1, h2⟩ | ⟨_, h2⟩
  · exact ⟨a, 0, h2, h1.ss⟩
  · exact ⟨[], 1, h2, SS_nil⟩
theorem SS.area {s : List Slab} (h : SS s) : ∀ c ∈ s, c.Area.length ≤ 100000 := fun c hc => by have := (h.ok c hc).2.2.2.1; omega
theorem Tells10_L0 {b : Rect} {l : List Plane} {x y : Int} (hl : l.length ≤ 1000000) : iterL (law10_PlaneTells_L0 b l x y) (l.length + 1) 0 = some (.ex 0 (l.length : Int)) := by
  rcases iter_find (l := l) (body := law10_PlaneTells_L0 b l x y) (k := 0) (fun p => False) (fun _ => false) (by
    intro i hi
    right
    refine ⟨fun g => g, ?_⟩
    unfold law10_PlaneTells_L0
    rw [if_pos (by simpa using hi), getI_nat hi, Option.bind_some, planeRight_eq, Option.bind_some, Option.bind_some, refPlaneRight_eq, Option.bind_some, if_neg (by simp), Option.bind_some, plane_Distance_eq, Option.bind_some, Option.bind_some, ref_Distance_eq, Option.bind_some, Option.bind_some, if_neg (by simp), addI_one (by omega), Option.bind_some]) (by
    unfold law10_PlaneTells_L0
    rw [if_neg (by simp)]) (fuel := l.length + 1) (by omega) with ⟨i, hi, hp, _, h⟩ | ⟨hp, h⟩
  · exact hp.elim
  · exact h
theorem Room_some {b : Rect} {l : List Plane} {z : Int} (hl : l.length ≤ 1000000) : ∃ a e, plane_Room b l z = some (a, e) ∧ a.length ≤ 1 := by
  by_cases h : VL b l
  · by_cases hz : 0 ≤ z ∧ z ≤ 4096
    · obtain ⟨a, h1, h2, h3, h4⟩ := Room_fine hl h hz
      exact ⟨a, 0, h1, h3⟩
    · exact ⟨_, _, Room_range hl h hz, by simp⟩
  · exact ⟨_, _, Room_bad hl h, by simp⟩
theorem Top_some {b : Rect} {l : List Plane} {x y : Int} (hl : l.length ≤ 1000000) : ∃ t, plane_Top b l x y = some t := by
  by_cases h : VL b l ∧ grd x y
  · exact ⟨_, plane_Top_fine h.1 hl h.2⟩
  · exact ⟨_, plane_Top_bad hl h⟩
theorem law_PlaneTells (b : Rect) (l : List Plane) (s : List Box) (x y z : Int) : law10_PlaneTells b l s x y z = some true := by
  unfold law10_PlaneTells
  rw [small10_true, Option.bind_some, few10_eq, Option.bind_some]
  by_cases h : l.length ≤ 12 ∧ s.length ≤ 12
  · obtain ⟨a, e, h1, h2⟩ := Of_few_SS (s := s) (by omega)
    obtain ⟨r, r1, r2⟩ := First_same (b := b) (l := l) (s := a) (by omega) h2.area
    obtain ⟨c, c1, c2⟩ := Allows_same (b := b) (l := l) (s := a) (by omega) h2.area
    obtain ⟨d, f, d1, d2⟩ := Room_some (b := b) (l := l) (z := z) (by omega)
    obtain ⟨t, t1⟩ := Top_some (b := b) (l := l) (x := x) (y := y) (by omega)
    rw [decide_eq_true h, if_neg (by simp), h1, Option.bind_some, r1, Option.bind_some, r2, Option.bind_some, Room_same (by omega), d1, Option.bind_some, Option.bind_some]
    dsimp only
    rw [if_neg (by simp), rSame_eq (by omega), Option.bind_some, Option.bind_some, if_neg (by simp), c1, Option.bind_some, c2, Option.bind_some, Option.bind_some, if_neg (by simp), Tells10_L0 (by omega), Option.bind_some]
    dsimp only
    rw [if_pos rfl, Top_same (by omega), t1, Option.bind_some, Option.bind_some, Option.bind_some]
    simp
  · rw [decide_eq_false h, if_pos (by simp)]
theorem Alw.mono {b : Rect} {l : List Plane} {s t : List Slab} (h : Alw b l s) (hs : ∀ x y z, scells t x y z → scells s x y z) : Alw b l t := fun x y z hx => h x y z (hs x y z hx)
theorem VL.take {b : Rect} {l : List Plane} (h : VL b l) (n : Nat) : VL b (l.take n) := ⟨h.1, fun p hp => h.2 p (List.mem_of_mem_take hp)⟩
end Go.Proofs.YtpbeebhapbibfaaGreatDoor

