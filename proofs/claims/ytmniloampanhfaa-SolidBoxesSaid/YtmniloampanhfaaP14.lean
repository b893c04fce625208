/- Solids: the laws of full solids and of boxes. -/
import Derived.Test.YtmniloampanhfaaP13
namespace Go.Proofs.Ytmniloampanhfaa
open Go.Gb
set_option linter.unusedVariables false
set_option linter.unusedSimpArgs false
set_option linter.unusedSectionVars false
set_option linter.unusedVariables false
set_option linter.unusedSimpArgs false

theorem op0 (a b : List Slab) : solidOp 0 a b = solid_Union a b := by unfold solidOp; rw [if_neg (by decide), if_neg (by decide)]
theorem op1 (a b : List Slab) : solidOp 1 a b = solid_Common a b := by unfold solidOp; rw [if_pos rfl]
theorem op2 (a b : List Slab) : solidOp 2 a b = solid_Minus a b := by unfold solidOp; rw [if_neg (by decide), if_pos rfl]

/-! few -/
theorem few_spec {s : List Slab} {n : Nat} (hn : n ≤ 1000) : ∃ b, law09_few s (n : Int) = some b ∧ (b = true ↔ s.length ≤ n ∧ ∀ x ∈ s, x.Area.length ≤ 8) := by
  unfold law09_few
  rcases iter_findN (body := law09_few_L0 s (n : Int)) (k := 0) (min s.length (n + 1)) (fun i => ∃ h : i < s.length, 8 < s[i].Area.length) (fun _ => false) (by
    intro i hi _
    have hil : i < s.length := by omega
    unfold law09_few_L0
    rw [if_pos (by simp; omega), getI_nat hil, Option.bind_some]
    by_cases hc : 8 < s[i].Area.length
    · left
      rw [if_pos (by simp; omega)]
      exact ⟨⟨hil, hc⟩, rfl⟩
    · right
      rw [if_neg (by simp; omega), addI_one (by omega), Option.bind_some]
      exact ⟨fun ⟨_, h⟩ => hc h, rfl⟩) (by
    unfold law09_few_L0
    rw [if_neg (by simp; omega)]) (fuel := s.length + 1) (by omega) with ⟨i, hi, ⟨h1, h2⟩, _, h⟩ | ⟨hp, h⟩
  · rw [h, Option.bind_some]
    refine ⟨_, rfl, by simp, fun h' => ?_⟩
    have := h'.2 _ (List.getElem_mem h1)
    omega
  · rw [h, Option.bind_some]
    refine ⟨_, rfl, ?_⟩
    rw [decide_eq_true_iff]
    constructor
    · intro h'
      refine ⟨by omega, fun x hx => ?_⟩
      obtain ⟨i, hi, rfl⟩ := List.getElem_of_mem hx
      have := hp i (by omega)
      exact Nat.le_of_not_lt fun h'' => this ⟨hi, h''⟩
    · intro h'; have := h'.1; omega

/-! SolidFull -/
def towerB (m : Nat) : List Box := (List.range m).map fun i : Nat => ⟨⟨3, 3, 4, 4⟩, 2 * (i : Int), 2 * (i : Int) + 1⟩
def towerS (m : Nat) : List Slab := (List.range m).map fun i : Nat => ⟨2 * (i : Int), 2 * (i : Int) + 1, [⟨3, 3, 4, 4⟩]⟩
theorem tower_form : RR [⟨3, 3, 4, 4⟩] := rrB_spec (by decide)
theorem tower_canon (m : Nat) : Canon [] (slabRuns (towerS m)) := by
  rw [slabs_canon]
  constructor
  · intro i hi
    simp only [towerS, List.getElem_map, List.getElem_range]
    exact ⟨by omega, by simp⟩
  · intro i hi
    simp only [towerS, List.getElem_map, List.getElem_range]
    left; omega
theorem tower_solid (m : Nat) : IsSolid (bcells (towerB m)) (towerS m) := by
  have h1 : IsSolid (scells (towerS m)) (towerS m) := by
    refine ⟨tower_canon m, fun z => ?_⟩
    rcases rval_mem (e := []) (l := slabRuns (towerS m)) (x := z) with h | ⟨a, b, h, _⟩
    · have : sect (towerS m) z = [] := h
      unfold scells
      rw [this]
      exact RR_nil.2.2
    · obtain ⟨x, hx, he⟩ := List.mem_map.1 h
      obtain ⟨i, _, rfl⟩ := List.mem_map.1 hx
      simp only [Prod.mk.injEq] at he
      have : sect (towerS m) z = [⟨3, 3, 4, 4⟩] := he.2.2.symm
      unfold scells
      rw [this]
      exact tower_form.2.2
  refine h1.congr fun x y z => ?_
  rw [scells_slab (tower_canon m)]
  unfold bcells towerS towerB
  constructor
  · rintro ⟨b, hb, hc, hz⟩
    obtain ⟨i, hi, rfl⟩ := List.mem_map.1 hb
    obtain ⟨r, hr, hr'⟩ := hc
    simp only [List.mem_singleton] at hr
    subst hr
    exact ⟨_, List.mem_map.2 ⟨i, hi, rfl⟩, hr', hz⟩
  · rintro ⟨b, hb, hc, hz⟩
    obtain ⟨i, hi, rfl⟩ := List.mem_map.1 hb
    exact ⟨_, List.mem_map.2 ⟨i, hi, rfl⟩, ⟨_, List.mem_singleton.2 rfl, hc⟩, hz⟩
theorem tower_Of {m : Nat} (hm : m ≤ 120) : solid_Of (towerB m) = some (if 80 < m then ([], 6) else (towerS m, 0)) := by
  have hl : (towerB m).length = m := by simp [towerB]
  obtain ⟨out, h1, h2⟩ := solid_Of_fine (l := towerB m) (by
    intro b hb
    obtain ⟨i, hi, rfl⟩ := List.mem_map.1 hb
    rw [List.mem_range] at hi
    refine ⟨show VR ⟨3, 3, 4, 4⟩ by decide, ?_, ?_, ?_⟩ <;> dsimp only <;> omega) (by omega)
  rw [h2, h1.unique (tower_solid m) fun _ _ _ => Iff.rfl]
  have hl2 : (towerS m).length = m := by simp [towerS]
  unfold slim
  congr 1
  by_cases h : 80 < m
  · rw [if_pos h, if_pos (.inr (by omega))]
  · rw [if_neg h, if_neg]
    rintro (⟨s, hs, h'⟩ | h')
    · obtain ⟨i, hi, rfl⟩ := List.mem_map.1 hs
      simp at h'
    · omega
theorem tower_SS {m : Nat} (hm : m ≤ 80) : SS (towerS m) := by
  refine ⟨by simp [towerS]; omega, tower_canon m, fun b hb => ?_⟩
  obtain ⟨i, hi, rfl⟩ := List.mem_map.1 hb
  rw [List.mem_range] at hi
  exact ⟨by dsimp only; omega, by dsimp only; omega, tower_form⟩
theorem tower_vol (m : Nat) : vol (towerS m) = m := by
  rw [vol_slabs]
  unfold towerS
  rw [sumL_map]
  have e : areaL [⟨3, 3, 4, 4⟩] = 1 := by decide
  have e0 : ∀ i : Nat, (2 * (i : Int) + 1 - 2 * (i : Int)) * areaL [⟨3, 3, 4, 4⟩] = 1 := by intro i; rw [e, Int.mul_one]; omega
  have : ∀ l : List Nat, sumL (fun _ : Nat => (1 : Int)) l = l.length := by
    intro l
    induction l with
    | nil => rfl
    | cons a l ih => simp only [sumL, ih, List.length_cons]; omega
  dsimp only
  simp only [e0]
  rw [this]; simp
theorem Full_L0 {n : Int} {m : Nat} (hn : n = (m : Int)) (hm : m ≤ 120) : iterL (law09_SolidFull_L0 n) (n.toNat + 1) (([] : List Box), 0) = some (.ex 0 (towerB m, (m : Int))) := by
  subst hn
  obtain ⟨s, h1, h2⟩ := iter_from (k := 0) (body := law09_SolidFull_L0 (m : Int)) (fun (s : List Box) i => (s, i)) 0 m (Nat.zero_le _) (fun i s => s = towerB i) (by
    rintro i - hi s rfl
    refine ⟨towerB (i + 1), ?_, rfl⟩
    unfold law09_SolidFull_L0
    dsimp only
    rw [if_pos (by simpa using hi), mulI_some (by unfold inI; omega), Option.bind_some, Option.bind_some, addI_some (by unfold inI; omega), Option.bind_some, appI_some (by simp [towerB]; omega), Option.bind_some, addI_one (by omega), Option.bind_some]
    unfold towerB
    rw [List.range_succ, List.map_append]
    rfl) (by
    intro s _
    unfold law09_SolidFull_L0
    dsimp only
    rw [if_neg (by simp)]) (s0 := []) rfl (fuel := (m : Int).toNat + 1) (by omega)
  rw [← h2]; exact h1
theorem law_SolidFull (n : Int) (s : List Slab) : law09_SolidFull n s = some true := by
  unfold law09_SolidFull
  rw [small_true, Option.bind_some]
  by_cases hn : n < 1 ∨ 120 < n
  · rw [if_pos (by simpa using hn), Option.bind_some, if_pos rfl]
  · rw [if_neg (by simpa using hn)]
    obtain ⟨b, hb1, hb2⟩ := few_spec (s := s) (n := 12) (by omega)
    rw [show ((12 : Nat) : Int) = 12 from rfl] at hb1
    rw [hb1, Option.bind_some, Option.bind_some]
    cases b
    · rw [if_pos (by simp)]
    · rw [if_neg (by simp)]
      obtain ⟨hs1, hs2⟩ := hb2.1 rfl
      obtain ⟨m, rfl⟩ : ∃ m : Nat, n = m := ⟨n.toNat, by omega⟩
      rw [Full_L0 rfl (by omega), Option.bind_some]
      dsimp only
      rw [tower_Of (by omega), Option.bind_some]
      have hsa : ∀ b ∈ s, b.Area.length ≤ 100000 := fun b hb => by have := hs2 b hb; omega
      have hcond : ∀ x : List Slab × Int, x = (if 80 < m then ([], 6) else (towerS m, 0)) →
          ((if (((x.2 == 0) != (decide ((m : Int) ≤ 80))) || ((x.2 != 0) && ((x.2 != 6) || ((x.1.length : Int) != 0)))) then some true
            else (if (x.2 == 0) then (if ((x.1.length : Int) != (m : Int)) then some true else (solid_Volume x.1).bind fun v => some (v != (m : Int))).bind fun y => some y else some false).bind fun y => some y) : Option Bool) = some false := by
        rintro x rfl
        by_cases h : 80 < m
        · simp [h]; omega
        · have hl2 : (towerS m).length = m := by simp [towerS]
          have hv := solid_Volume_fine (tower_SS (m := m) (by omega))
          simp [h, hl2, hv, tower_vol]; omega
      rw [hcond _ rfl, Option.bind_some, if_neg (by simp)]
      by_cases hR : SS s
      · rw [solid_Right_true hR, Option.bind_some, if_pos rfl]
      · have h1a : ∀ b ∈ [(⟨0, 1, [⟨0, 0, 1, 1⟩]⟩ : Slab)], b.Area.length ≤ 100000 := by simp
        have hU := solidOp_bad (op := 0) (a := s) (b := [⟨0, 1, [⟨0, 0, 1, 1⟩]⟩]) hsa h1a fun h => hR h.1
        have hC := solidOp_bad (op := 1) (a := [⟨0, 1, [⟨0, 0, 1, 1⟩]⟩]) (b := s) h1a hsa fun h => hR h.2
        have hM := solidOp_bad (op := 2) (a := [⟨0, 1, [⟨0, 0, 1, 1⟩]⟩]) (b := s) h1a hsa fun h => hR h.2
        rw [op0] at hU; rw [op1] at hC; rw [op2] at hM
        rw [solid_Right_false hsa hR, Option.bind_some, if_neg (by simp)]
        unfold law09_square
        rw [Option.bind_some, hU, Option.bind_some, hC, Option.bind_some, hM, Option.bind_some]
        have ea : addI 0 0 = some 0 := by decide
        simp [solid_Volume_bad hsa hR, solid_Boxes_bad hsa hR, solid_Top_bad hsa hR, solid_Section_bad hsa hR, solid_Has_bad hsa hR, ea]

/-! SolidBoxes -/
theorem SolidBoxes_L0 {l : List Box} (hl : l.length ≤ 200) (hv : ∀ b ∈ l, VB b) (hb : sumL boxVol l ≤ 4503599627370496) {fuel : Nat} (hf : l.length < fuel) :
    iterL (law09_SolidBoxes_L0 l) fuel (0, 0) = some (.ex 0 (sumL boxVol l, (l.length : Int))) := by
  obtain ⟨h1, h2⟩ := iter_range (k := 0) (l := l) (body := law09_SolidBoxes_L0 l) (fun (s : Int) i => (s, i)) (fun s b => s + boxVol b) (fun i s => s = sumL boxVol (l.take i)) (by
    intro i hi s hI
    have hbi := hv _ (List.getElem_mem hi)
    have hp := sumL_prefix (fun b hb => (boxVol_bound (hv b hb)).1) (i + 1)
    rw [sumL_snoc hi, ← hI] at hp
    have hbb := boxVol_bound hbi
    constructor
    · unfold law09_SolidBoxes_L0
      dsimp only
      obtain ⟨g1, g2, g3, g4⟩ := hbi
      unfold VR at g1
      have hm1 : 0 ≤ (l[i].Z1 - l[i].Z0) * (l[i].Base.X1 - l[i].Base.X0) := Int.mul_nonneg (by omega) (by omega)
      have hm2 : (l[i].Z1 - l[i].Z0) * (l[i].Base.X1 - l[i].Base.X0) ≤ 4096 * 1048576 := Int.mul_le_mul (by omega) (by omega) (by omega) (by omega)
      have e : boxVol l[i] = (l[i].Z1 - l[i].Z0) * (l[i].Base.X1 - l[i].Base.X0) * (l[i].Base.Y1 - l[i].Base.Y0) := by unfold boxVol; rw [Int.mul_assoc]
      rw [e] at hbb hp
      rw [if_pos (by simpa using hi), getI_nat hi]
      simp only [Option.bind_some]
      rw [subI_some (by unfold inI; omega), Option.bind_some, subI_some (by unfold inI; omega), Option.bind_some, mulI_some (by unfold inI; omega), Option.bind_some, subI_some (by unfold inI; omega), Option.bind_some, mulI_some (by unfold inI; omega), Option.bind_some,
        addI_some (by unfold inI; omega), Option.bind_some, addI_one (by omega), Option.bind_some, e]
    · rw [sumL_snoc hi, ← hI]) (by
    intro s _
    unfold law09_SolidBoxes_L0
    dsimp only
    rw [if_neg (by simp)]) (s0 := 0) rfl (fuel := fuel) hf
  rw [List.take_length] at h2
  rw [h1, h2]
theorem law_SolidBoxes (l : List Box) : law09_SolidBoxes l = some true := by
  unfold law09_SolidBoxes
  rw [small_true, Option.bind_some]
  by_cases hl : 10 < l.length
  · rw [if_pos (by simp; omega)]
  · rw [if_neg (by simp; omega)]
    by_cases hv : ∀ b ∈ l, VB b
    · obtain ⟨out, h1, h2⟩ := solid_Of_fine hv (by omega)
      obtain ⟨hSS, hs⟩ := slim_few (bcells_hangs l) hv h1 (by omega)
      rw [h2, hs, Option.bind_some, if_neg (by simp)]
      dsimp only
      rw [solid_Boxes_fine hSS, Option.bind_some]
      by_cases hb : 200 < (boxesOf out).length
      · rw [if_pos (by simp; omega)]
      · rw [if_neg (by simp; omega), SolidBoxes_L0 (by omega) (boxesOf_VB hSS) (vol_bound hSS).2 (by omega), Option.bind_some]
        dsimp only
        obtain ⟨out2, k1, k2⟩ := solid_Of_fine (boxesOf_VB hSS) (by omega)
        have e : out2 = out := k1.unique hSS.solid fun x y z => bcells_boxesOf hSS.canon x y z
        rw [k2, e, slim_fine hSS, Option.bind_some]
        have hsame : solid_Same out out = some true := by rw [solid_Same_eq (by have := hSS.len; omega) (fun s hs => by have := (hSS.ok s hs).2.2.2.1; omega)]; simp
        simp [hsame, solid_Volume_fine hSS, vol]
    · rw [solid_Of_bad (by omega) hv, Option.bind_some, if_pos (by simp)]
      have : solid_Boxes [] = some [] := solid_Boxes_fine SS_nil
      simp [this]
end Go.Proofs.Ytmniloampanhfaa
