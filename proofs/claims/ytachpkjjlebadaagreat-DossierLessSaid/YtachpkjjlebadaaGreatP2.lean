/- The plain part of the proof (no program in sight), part 2 -/
import Derived.Test.YtachpkjjlebadaaGreatP1
namespace Go.Proofs.YtachpkjjlebadaaGreat
open Go.Gb
set_option linter.unusedVariables false
set_option linter.unusedSimpArgs false
set_option linter.unusedSectionVars false
set_option linter.unusedVariables false
set_option linter.unusedSimpArgs false

def allV (d : Drawing) : List Volume := d.Phases.flatMap (·.Volumes)
theorem volumes_eq {d : Drawing} (h : SmD d) {n : Int} (hn : (d.Phases.length : Int) ≤ n) : drawing_Volumes d 0 n = some (allV d) := by
  obtain ⟨f, h1, h2, h3⟩ := loop_up (body := drawing_Volumes_L0 d 0 n) (fun i s => s.2 = ((i : Nat) : Int) ∧ s.1 = (d.Phases.take i).flatMap (·.Volumes) ∧ s.1.length ≤ 12 * i) d.Phases.length
    (fun f => match f with | .ex _ s => s.1 = allV d | _ => False) (fun i s hi ⟨hs, hI, hl⟩ => by
      have h9 := h.1
      have hv := (h.2 _ (List.getElem_mem hi)).1
      unfold drawing_Volumes_L0
      rw [hs, if_pos (by simpa using hi), getI_nat hi, Option.bind_some, if_pos (by simp; omega), appI_some (by omega), Option.bind_some, Option.bind_some, addI_one (by omega), Option.bind_some]
      refine .inl ⟨_, rfl, rfl, ?_, by simp; omega⟩
      rw [List.take_succ_eq_append_getElem hi, List.flatMap_append, hI]
      simp) (fun s ⟨hs, hI, _⟩ => by
      unfold drawing_Volumes_L0
      rw [hs, if_neg (by simp)]
      rw [List.take_length] at hI
      exact ⟨_, rfl, trivial, hI⟩) ([], 0) ⟨rfl, by simp, by simp⟩ (d.Phases.length + 1) (by omega)
  unfold drawing_Volumes
  rw [h1, Option.bind_some]
  cases f with
  | go _ => exact h2.elim
  | ret r => exact h3.elim
  | ex _ s => dsimp only at h3 ⊢; rw [h3]
theorem all_eq {d : Drawing} (h : SmD d) : drawing_all d = some (allV d) := by
  unfold drawing_all
  rw [volumes_eq h (Int.le_refl _), Option.bind_some]
theorem form0_spec {l : List Volume} (h : l.length ≤ 1000000) : ∃ f, iterL (drawing_Form_L0 l) (l.length + 1) 0 = some f ∧ f.ends ∧ (match f with | .ex _ _ => ∀ v ∈ l, drawing_RightVolume v = some true | .ret r => r = false | .go _ => False) := by
  refine loop_up (fun i s => s = ((i : Nat) : Int) ∧ ∀ m (hm : m < l.length), m < i → drawing_RightVolume l[m] = some true) l.length _ ?_ ?_ 0 ⟨rfl, fun m _ h => by omega⟩ _ (by omega)
  · intro i s hi ⟨hs, hI⟩
    subst hs
    unfold drawing_Form_L0
    rw [if_pos (by simpa using hi), getI_nat hi, Option.bind_some]
    obtain ⟨b, hb⟩ := rightV_tot l[i]
    rw [hb, Option.bind_some]
    obtain ⟨c, hc⟩ : Tot (if (!b) = true then some true else (sliceI l 0 (i : Int)).bind fun y => (slices_ContainsFunc_Volume y (fun y0 => drawing_Form_1 y0 l[i])).bind fun z => some z) := by
      refine Tot.ite (fun _ => Tot.pure _) fun _ => ?_
      rw [sliceI_some (by omega) (by omega) (by omega), Option.bind_some]
      refine Tot.bind (containsV_tot (by simp; omega) fun x => ?_) fun _ _ => Tot.pure _
      unfold drawing_Form_1
      exact Tot.bind (meet_tot _ _) fun _ _ => Tot.pure _
    rw [hc, Option.bind_some]
    cases c with
    | true => exact .inr ⟨_, rfl, trivial, rfl⟩
    | false =>
      rw [if_neg (by simp), addI_one (by omega)]
      refine .inl ⟨_, rfl, rfl, fun m hm hmi => ?_⟩
      by_cases e : m = i
      · subst e
        cases b with
        | true => exact hb
        | false => simp at hc
      · exact hI m hm (by omega)
  · intro s ⟨hs, hI⟩
    subst hs
    unfold drawing_Form_L0
    rw [if_neg (by simp)]
    refine ⟨_, rfl, trivial, fun v hv => ?_⟩
    obtain ⟨m, hm, rfl⟩ := List.getElem_of_mem hv
    exact hI m hm hm
theorem form_elim {d : Drawing} (h : SmD d) (hf : drawing_Form d = some true) : d.Phases.length ≤ 8 ∧ (allV d).length ≤ 40 ∧ ∀ v ∈ allV d, drawing_RightVolume v = some true := by
  unfold drawing_Form at hf
  rw [all_eq h, Option.bind_some] at hf
  by_cases hc : ((((((decide (d.Lot < 0)) || (decide (1073741824 < d.Lot))) || (decide ((d.Phases.length : Int) < 1))) || (decide (8 < (d.Phases.length : Int)))) || (decide (((allV d).length : Int) < 1))) || (decide (40 < ((allV d).length : Int)))) = true
  · rw [if_pos hc] at hf; simp at hf
  · rw [if_neg hc] at hf
    simp at hc
    obtain ⟨f, h1, h2, h3⟩ := form0_spec (l := allV d) (by omega)
    rw [h1, Option.bind_some] at hf
    cases f with
    | go _ => exact h3.elim
    | ret r => dsimp only at h3 hf; rw [h3] at hf; simp at hf
    | ex _ _ => exact ⟨by omega, by omega, h3⟩
theorem rightV_VB {v : Volume} (h : drawing_RightVolume v = some true) : VB v.Box := by
  unfold drawing_RightVolume at h
  rw [rect_Right_eq, Option.bind_some] at h
  by_cases hc : ((((!decide (VR v.Box.Base)) || (decide (v.Box.Z0 < 0))) || (decide (v.Box.Z1 ≤ v.Box.Z0))) || (decide (4096 < v.Box.Z1))) = true
  · rw [if_pos hc] at h; simp at h
  · simp at hc
    exact ⟨hc.1.1.1, by omega, by omega, by omega⟩
theorem boxes_eq {l : List Volume} (h : l.length ≤ 1000) : ∃ n, iterL (drawing_Solid_L0 l) (l.length + 1) ([], 0) = some (.ex 0 (l.map (·.Box), n)) := by
  obtain ⟨f, h1, h2, h3⟩ := loop_up (body := drawing_Solid_L0 l) (fun i s => s = ((l.take i).map (·.Box), ((i : Nat) : Int))) l.length
    (fun f => ∃ n, f = .ex 0 (l.map (·.Box), n)) (fun i s hi hs => by
      subst hs
      unfold drawing_Solid_L0
      rw [if_pos (by simpa using hi), getI_nat hi, Option.bind_some, appI_some (by simp; omega), Option.bind_some, addI_one (by omega)]
      refine .inl ⟨_, rfl, ?_⟩
      rw [List.take_succ_eq_append_getElem hi, List.map_append]
      rfl) (fun s hs => by
      subst hs
      unfold drawing_Solid_L0
      rw [if_neg (by simp), List.take_length]
      exact ⟨_, rfl, trivial, _, rfl⟩) ([], 0) (by simp) (l.length + 1) (by omega)
  obtain ⟨n, rfl⟩ := h3
  exact ⟨n, h1⟩
theorem bcells_grid {l : List Box} (h : ∀ b ∈ l, VB b) {x y z : Int} (hx : bcells l x y z) : (0 ≤ x ∧ x < 1048576) ∧ (0 ≤ y ∧ y < 1048576) ∧ (0 ≤ z ∧ z < 4096) := by
  obtain ⟨b, hb, h1, h2, h3⟩ := hx
  have := h b hb
  unfold VB VR at this
  unfold rin at h1
  omega
theorem solidX {d : Drawing} (h : SmD d) : ∃ s e, drawing_Solid d 0 8 = some (s, e) ∧ SS s ∧ (e = 0 → IsSolid (bcells ((allV d).map (·.Box))) s) := by
  obtain ⟨g, hg⟩ := form_tot h
  unfold drawing_Solid
  rw [hg, Option.bind_some]
  cases g with
  | false => rw [if_pos (by simp)]; exact ⟨_, _, rfl, SS_nil, fun h => by simp at h⟩
  | true =>
    obtain ⟨h8, h40, hv⟩ := form_elim h hg
    rw [if_neg (by simp), volumes_eq h (by omega), Option.bind_some]
    obtain ⟨n, hn⟩ := boxes_eq (l := allV d) (by omega)
    rw [hn, Option.bind_some]
    have hvb : ∀ b ∈ (allV d).map (·.Box), VB b := fun b hb => by
      obtain ⟨v, hv', rfl⟩ := List.mem_map.1 hb
      exact rightV_VB (hv v hv')
    obtain ⟨out, h1, h2⟩ := solid_Of_fine hvb (by simp; omega)
    dsimp only
    rw [h2, Option.bind_some]
    rcases slim_or h1 (fun x y z h => bcells_grid hvb h) with hs | ⟨hs, hS⟩
    · rw [hs]; exact ⟨_, _, rfl, SS_nil, fun h => by simp at h⟩
    · rw [hs]; exact ⟨_, _, rfl, hS, fun _ => h1⟩
theorem solid_minus {a b : List Slab} (ha : SS a) (hb : SS b) : ∃ out, IsSolid (fun x y z => scells a x y z ∧ ¬ scells b x y z) out ∧ solid_Minus a b = some (slim out) := by
  obtain ⟨out, h1, h2⟩ := scombine_fine (f := region_Minus) (op := 2) (fun p q hp hq => by
    obtain ⟨out, h1, h2⟩ := combine_fine (keep := region_Minus_1) (kb := opB 2) (fun p q => by cases p <;> cases q <;> rfl) rfl hp hq
    exact ⟨out, h1, by unfold region_Minus; rw [h2, Option.bind_some]⟩) ha hb
  refine ⟨out, h1.congr fun x y z => ?_, by unfold solid_Minus; rw [h2, Option.bind_some]⟩
  simp [opB]
theorem minus_empty {a b : List Slab} (ha : SS a) (hb : SS b) (h : ∀ x y z, scells a x y z → scells b x y z) : solid_Minus a b = some ([], 0) := by
  obtain ⟨out, h1, h2⟩ := solid_minus ha hb
  have e : out = [] := h1.unique SS_nil.solid fun x y z => by
    constructor
    · rintro ⟨g1, g2⟩; exact absurd (h x y z g1) g2
    · intro g
      exfalso
      unfold scells sect at g
      have : rval ([] : List Rect) (slabRuns []) z = [] := rfl
      rw [this] at g
      obtain ⟨r, hr, _⟩ := g
      simp at hr
  rw [h2, e]; rfl
theorem less_cells {x y : Drawing} (h : LessD x y) {p q r : Int} (hb : bcells ((allV x).map (·.Box)) p q r) : bcells ((allV y).map (·.Box)) p q r := by
  obtain ⟨b, hb, h1, h2, h3⟩ := hb
  obtain ⟨v, hv, rfl⟩ := List.mem_map.1 hb
  obtain ⟨ph, hph, hv⟩ := List.mem_flatMap.1 hv
  obtain ⟨j, hj, rfl⟩ := List.getElem_of_mem hph
  have hj2 : j < y.Phases.length := by have := h.2.1; omega
  obtain ⟨w, hw, hl⟩ := (h.2.2 j hj hj2).1.mem v hv
  simp only [lowB, decide_eq_true_eq] at hl
  refine ⟨w.Box, List.mem_map.2 ⟨w, List.mem_flatMap.2 ⟨_, List.getElem_mem hj2, hw⟩, rfl⟩, by rw [← hl.2.2.1]; exact h1, by rw [← hl.2.2.2.1]; exact h2, by omega⟩

theorem containsD_spec {s : List Drawing} {f : Drawing → Option Bool} (hl : s.length ≤ 1000000) (hf : ∀ x ∈ s, Tot (f x)) : ∃ b, slices_ContainsFunc_Drawing s f = some b ∧ (b = false ↔ ∀ x ∈ s, f x = some false) := by
  obtain ⟨fl, h1, h2, h3⟩ := loop_up (body := slices_IndexFunc_Drawing_L0 s f) (fun i t => t = ((i : Nat) : Int) ∧ ∀ m (h : m < s.length), m < i → f s[m] = some false) s.length
    (fun fl => match fl with | .ex _ _ => ∀ x ∈ s, f x = some false | .ret r => 0 ≤ r ∧ ∃ x ∈ s, f x = some true | .go _ => False) (fun i t hi ⟨ht, hI⟩ => by
      subst ht
      unfold slices_IndexFunc_Drawing_L0
      obtain ⟨b, hb⟩ := hf s[i] (List.getElem_mem hi)
      rw [if_pos (by simpa using hi), getI_nat hi, Option.bind_some, hb, Option.bind_some]
      cases b with
      | true => exact .inr ⟨_, rfl, trivial, by show (0 : Int) ≤ i; omega, _, List.getElem_mem hi, hb⟩
      | false =>
        rw [if_neg (by simp), addI_one (by omega)]
        refine .inl ⟨_, rfl, rfl, fun m hm hmi => ?_⟩
        by_cases e : m = i
        · subst e; exact hb
        · exact hI m hm (by omega)) (fun t ⟨ht, hI⟩ => by
      subst ht
      unfold slices_IndexFunc_Drawing_L0
      rw [if_neg (by simp)]
      refine ⟨_, rfl, trivial, fun x hx => ?_⟩
      obtain ⟨m, hm, rfl⟩ := List.getElem_of_mem hx
      exact hI m hm hm) 0 ⟨rfl, fun m _ h => by omega⟩ (s.length + 1) (by omega)
  unfold slices_ContainsFunc_Drawing slices_IndexFunc_Drawing
  rw [h1, Option.bind_some]
  cases fl with
  | go _ => exact h3.elim
  | ex _ _ => exact ⟨_, rfl, fun _ => h3, fun _ => rfl⟩
  | ret r =>
    obtain ⟨h3, x, hx, hxt⟩ := h3
    refine ⟨_, rfl, fun h => ?_, fun h => ?_⟩
    · simp only [decide_eq_false_iff_not] at h; exact absurd h3 h
    · rw [h x hx] at hxt; simp at hxt
def FB (d : Drawing) : Bool := drawing_Form d == some true
theorem FB_eq {d : Drawing} (h : SmD d) : drawing_Form d = some (FB d) := by
  obtain ⟨g, hg⟩ := form_tot h
  unfold FB
  rw [hg]
  cases g <;> rfl
def fmd (l : List Drawing) : Bool := decide (1 ≤ l.length) && decide (l.length ≤ 8) && l.all FB
theorem formed_eq {l : List Drawing} (hl : SmL l) : dossier_formed l = some (fmd l) := by
  have h9 := hl.1
  unfold dossier_formed fmd
  by_cases h1 : l.length < 1
  · rw [if_pos (by simp; omega)]; simp; omega
  · by_cases h2 : 8 < l.length
    · rw [if_pos (by simp; omega)]; simp; omega
    · rw [if_neg (by simp; omega)]
      obtain ⟨b, hb, hbs⟩ := containsD_spec (s := l) (f := dossier_formed_1) (by omega) fun x hx => by
        unfold dossier_formed_1; exact Tot.bind (form_tot (hl.2 x hx)) fun _ _ => Tot.pure _
      rw [hb, Option.bind_some, decide_eq_true (by omega : 1 ≤ l.length), decide_eq_true (by omega : l.length ≤ 8)]
      simp only [Bool.true_and, Option.some.injEq]
      have key : b = false ↔ l.all FB = true := by
        rw [hbs, List.all_eq_true]
        refine forall_congr' fun x => forall_congr' fun hx => ?_
        unfold dossier_formed_1
        rw [FB_eq (hl.2 x hx), Option.bind_some]
        simp
      cases b with
      | false => exact (key.1 rfl).symm
      | true =>
        cases hq : l.all FB with
        | false => rfl
        | true => exact absurd (key.2 hq) (by simp)
theorem less0 {a b : List Drawing} (ha : SmL a) (hb : SmL b) {c : Bool} (hc : c = true → LessP a b) (f0 : Bool) {fuel : Nat} (hf : a.length < fuel) :
    ∃ n, iterL (law30_DossierLess_L0 a b c) fuel (f0, 0) = some (.ex 0 (f0 && a.all FB, n)) := by
  have h9 := ha.1
  obtain ⟨f, h1, h2, h3⟩ := loop_up (body := law30_DossierLess_L0 a b c) (fun i s => s = (f0 && (a.take i).all FB, ((i : Nat) : Int))) a.length
    (fun f => ∃ n, f = .ex 0 (f0 && a.all FB, n)) (fun i s hi hs => by
      subst hs
      have hsm := ha.2 _ (List.getElem_mem hi)
      have e1 : (if (f0 && (a.take i).all FB) = true then (getI a (i : Int)).bind fun x => (drawing_Form x).bind fun y => some y else some false) = some (f0 && (a.take (i + 1)).all FB) := by
        rw [List.take_succ_eq_append_getElem hi, List.all_append, ← Bool.and_assoc]
        cases hq : (f0 && (a.take i).all FB) with
        | false => rw [if_neg (by simp)]; simp
        | true => rw [if_pos rfl, getI_nat hi, Option.bind_some, FB_eq hsm, Option.bind_some]; simp
      unfold law30_DossierLess_L0
      rw [if_pos (by simpa using hi)]
      dsimp only
      rw [e1, Option.bind_some, addI_one (by omega)]
      by_cases hco : ((!c) || (decide ((b.length : Int) ≤ (i : Int)))) = true
      · rw [if_pos hco]
        exact .inl ⟨_, rfl, rfl⟩
      · rw [if_neg hco]
        simp at hco
        have hib : i < b.length := by omega
        have hL := (hc hco.1).2 i hi hib
        obtain ⟨x, e, x1, x2, x3⟩ := solidX hsm
        obtain ⟨y, g, y1, y2, y3⟩ := solidX (hb.2 _ (List.getElem_mem hib))
        rw [getI_nat hi, Option.bind_some, x1, Option.bind_some, getI_nat hib, Option.bind_some, y1, Option.bind_some]
        dsimp only
        obtain ⟨out, o1, o2⟩ := solid_minus x2 y2
        by_cases he : e = 0 ∧ g = 0
        · rw [minus_empty x2 y2 fun p q r h => ((y3 he.2).cells p q r).2 (less_cells hL (((x3 he.1).cells p q r).1 h)), Option.bind_some, if_neg (by simp)]
          exact .inl ⟨_, rfl, rfl⟩
        · rw [o2, Option.bind_some, if_neg (by
            simp only [Bool.and_eq_true, beq_iff_eq, not_and]
            rintro ⟨⟨h1, h2⟩, _⟩
            exact absurd ⟨h1, h2⟩ he)]
          exact .inl ⟨_, rfl, rfl⟩) (fun s hs => by
      subst hs
      unfold law30_DossierLess_L0
      rw [if_neg (by simp), List.take_length]
      exact ⟨_, rfl, trivial, _, rfl⟩) (f0, 0) (by simp) fuel hf
  obtain ⟨n, rfl⟩ := h3
  exact ⟨n, h1⟩
theorem less1 {b : List Drawing} (hb : SmL b) (f0 : Bool) {fuel : Nat} (hf : b.length < fuel) : ∃ n, iterL (law30_DossierLess_L1 b) fuel (f0, 0) = some (.ex 2 (f0 && b.all FB, n)) := by
  have h9 := hb.1
  obtain ⟨f, h1, h2, h3⟩ := loop_up (body := law30_DossierLess_L1 b) (fun i s => s = (f0 && (b.take i).all FB, ((i : Nat) : Int))) b.length
    (fun f => ∃ n, f = .ex 2 (f0 && b.all FB, n)) (fun i s hi hs => by
      subst hs
      have e1 : (if (f0 && (b.take i).all FB) = true then (getI b (i : Int)).bind fun x => (drawing_Form x).bind fun y => some y else some false) = some (f0 && (b.take (i + 1)).all FB) := by
        rw [List.take_succ_eq_append_getElem hi, List.all_append, ← Bool.and_assoc]
        cases hq : (f0 && (b.take i).all FB) with
        | false => rw [if_neg (by simp)]; simp
        | true => rw [if_pos rfl, getI_nat hi, Option.bind_some, FB_eq (hb.2 _ (List.getElem_mem hi)), Option.bind_some]; simp
      unfold law30_DossierLess_L1
      rw [if_pos (by simpa using hi)]
      dsimp only
      rw [e1, Option.bind_some, addI_one (by omega)]
      exact .inl ⟨_, rfl, rfl⟩) (fun s hs => by
      subst hs
      unfold law30_DossierLess_L1
      rw [if_neg (by simp), List.take_length]
      exact ⟨_, rfl, trivial, _, rfl⟩) (f0, 0) (by simp) fuel hf
  obtain ⟨n, rfl⟩ := h3
  exact ⟨n, h1⟩
theorem less2 {a : List Drawing} (ha : SmL a) {x : Dossier × Int} (hx : x.1.Drawings = a) : ∃ n, iterL (law30_DossierLess_L2 a x) (a.length + 1) 0 = some (.ex 4 n) := by
  have h9 := ha.1
  obtain ⟨f, h1, h2, h3⟩ := loop_up (body := law30_DossierLess_L2 a x) (fun i s => s = ((i : Nat) : Int)) a.length
    (fun f => ∃ n, f = .ex 4 n) (fun i s hi hs => by
      subst hs
      unfold law30_DossierLess_L2
      rw [if_pos (by simpa using hi), getI_nat hi, Option.bind_some, hx, getI_nat hi, Option.bind_some, sameD_refl (ha.2 _ (List.getElem_mem hi)), Option.bind_some, if_neg (by simp), addI_one (by omega)]
      exact .inl ⟨_, rfl, rfl⟩) (fun s hs => by
      subst hs
      unfold law30_DossierLess_L2
      rw [if_neg (by simp)]
      exact ⟨_, rfl, trivial, _, rfl⟩) 0 rfl (a.length + 1) (by omega)
  obtain ⟨n, rfl⟩ := h3
  exact ⟨n, h1⟩
theorem less_step {a b : List Drawing} (ha : SmL a) (hb : SmL b) {c : Bool} (hc : dossier_Less a b = some c) :
    dossier_Step plan0 ⟨1, 0, 2, 0, 4, b, 0, 0⟩ ⟨2, 0, 0, a⟩ = if fmd b && fmd a then some (if c then ⟨1, 0, 2, 0, 4, a, 0, 0⟩ else ⟨1, 0, 1, 0, 0, a, 0, 0⟩, 0) else some (noD, 1) := by
  have hr : dossier_Right ⟨1, 0, 2, 0, 4, b, 0, 0⟩ = some (fmd b) := by
    unfold dossier_Right
    dsimp only
    rw [formed_eq hb]
    have e : (fmd b && decide ((0 : Int) < (b.length : Int))) = fmd b := by
      cases hq : fmd b with
      | false => rfl
      | true =>
        simp [fmd] at hq
        simp; omega
    simp
    rw [← e]
    cases fmd b <;> simp
  rw [step_eq hr hb]
  cases hq : fmd b with
  | false => rw [if_pos (by simp), if_neg (by simp)]
  | true =>
    rw [if_neg (by simp), if_neg (by simp), if_pos (by simp [actsOf])]
    have hch : dossier_change plan0 ⟨1, 0, 2, 0, 4, b, 0, 0⟩ ⟨2, 0, 0, a⟩ 0 = dossier_amend ⟨1, 0, 2, 0, 4, b, 0, 0⟩ a := by
      unfold dossier_change
      obtain ⟨⟨n, e⟩, hn⟩ := amend_tot (d := ⟨1, 0, 2, 0, 4, b, 0, 0⟩) hb ha
      dsimp only
      rw [hn]; rfl
    dsimp only
    rw [hch]
    unfold dossier_amend
    rw [formed_eq ha, Option.bind_some]
    cases hp : fmd a with
    | false => rfl
    | true =>
      rw [if_neg (by simp)]
      dsimp only
      rw [if_pos (by simp), hc, Option.bind_some, Option.bind_some, clone_eq ha]
      cases c <;> rfl
theorem law_DossierLess (a b c : List Drawing) (ha : Lens a) (hb : Lens b) (hc : Lens c) : law30_DossierLess a b c = some true := by
  obtain ⟨r, hr, hrs⟩ := few_all (p := plan0) (d := ⟨0, 0, 0, 0, 0, a, 0, 0⟩) (l := [⟨0, 0, 0, b⟩, ⟨0, 0, 0, c⟩]) ha (by show 2 ≤ 9223372036854775807; omega) (fun x hx => by
    simp only [List.mem_cons, List.not_mem_nil, or_false] at hx
    rcases hx with rfl | rfl
    · exact hb
    · exact hc)
  unfold law30_DossierLess
  rw [small_true, Option.bind_some]
  rw [show ref30_Few (⟨[], [], [], [], [], [], [], 0⟩ : Plan) (⟨0, 0, 0, 0, 0, a, 0, 0⟩ : Dossier) ([(⟨0, 0, 0, b⟩ : Act), (⟨0, 0, 0, c⟩ : Act)]) = some r from hr, Option.bind_some]
  cases r with
  | false => rw [if_pos (by simp)]
  | true =>
    obtain ⟨_, _, sa, sl⟩ := hrs rfl
    have sa : SmL a := sa
    have sb : SmL b := sl ⟨0, 0, 0, b⟩ (by simp)
    have sc : SmL c := sl ⟨0, 0, 0, c⟩ (by simp)
    rw [if_neg (by simp)]
    obtain ⟨one, o1, o2⟩ := less_spec sa sb
    obtain ⟨two, t1, t2⟩ := less_spec sb sc
    obtain ⟨thr, h1, h2⟩ := less_spec sa sc
    obtain ⟨slf, s1, s2⟩ := less_spec sa sa
    obtain rfl : slf = true := s2.2 (LessP.refl a)
    rw [o1, Option.bind_some, s1, Option.bind_some, if_neg (by simp)]
    have hA : ((if one = true then (dossier_Less b c).bind fun x => some x else some false).bind fun x => (if x = true then (dossier_Less a c).bind fun y => some (!y) else some false).bind fun y => some y) = some false := by
      cases one with
      | false => rfl
      | true =>
        rw [if_pos rfl, t1, Option.bind_some, Option.bind_some]
        cases two with
        | false => rfl
        | true =>
          rw [if_pos rfl, h1, Option.bind_some, h2.2 ((o2.1 rfl).trans (t2.1 rfl))]; rfl
    rw [hA, Option.bind_some]
    have hlen : one = true → a.length = b.length := fun h => (o2.1 h).1
    rw [if_neg (by
      cases one with
      | false => simp
      | true => simp [hlen rfl])]
    obtain ⟨n0, l0⟩ := less0 sa sb o2.1 ((((decide (1 ≤ (b.length : Int))) && (decide ((b.length : Int) ≤ 8))) && (decide (1 ≤ (a.length : Int)))) && (decide ((a.length : Int) ≤ 8))) (fuel := a.length + b.length + 1) (by omega)
    rw [l0, Option.bind_some]
    dsimp only
    obtain ⟨n1, l1⟩ := less1 sb (((((decide (1 ≤ (b.length : Int))) && (decide ((b.length : Int) ≤ 8))) && (decide (1 ≤ (a.length : Int)))) && (decide ((a.length : Int) ≤ 8))) && a.all FB) (fuel := a.length + b.length + 1) (by omega)
    rw [l1, Option.bind_some]
    dsimp only
    have hF : (((((decide (1 ≤ (b.length : Int))) && (decide ((b.length : Int) ≤ 8))) && (decide (1 ≤ (a.length : Int)))) && (decide ((a.length : Int) ≤ 8))) && a.all FB && b.all FB) = (fmd b && fmd a) := by
      unfold fmd
      rw [show decide (1 ≤ (b.length : Int)) = decide (1 ≤ b.length) from by rw [decide_eq_decide]; omega, show decide ((b.length : Int) ≤ 8) = decide (b.length ≤ 8) from by rw [decide_eq_decide]; omega,
        show decide (1 ≤ (a.length : Int)) = decide (1 ≤ a.length) from by rw [decide_eq_decide]; omega, show decide ((a.length : Int) ≤ 8) = decide (a.length ≤ 8) from by rw [decide_eq_decide]; omega]
      cases decide (1 ≤ b.length) <;> cases decide (b.length ≤ 8) <;> cases decide (1 ≤ a.length) <;> cases decide (a.length ≤ 8) <;> cases a.all FB <;> cases b.all FB <;> rfl
    rw [hF, show dossier_Step (⟨[], [], [], [], [], [], [], 0⟩ : Plan) (⟨1, 0, 2, 0, 4, b, 0, 0⟩ : Dossier) (⟨2, 0, 0, a⟩ : Act) = _ from less_step sa sb o1]
    cases hq : (fmd b && fmd a) with
    | false => rw [if_neg (by simp), Option.bind_some, if_pos (by simp)]; rfl
    | true =>
      rw [if_pos rfl, Option.bind_some, if_neg (by simp)]
      have hd : (if one = true then (⟨1, 0, 2, 0, 4, a, 0, 0⟩ : Dossier) else ⟨1, 0, 1, 0, 0, a, 0, 0⟩).Drawings = a := by cases one <;> rfl
      obtain ⟨n2, l2⟩ := less2 sa (x := (if one = true then (⟨1, 0, 2, 0, 4, a, 0, 0⟩ : Dossier) else ⟨1, 0, 1, 0, 0, a, 0, 0⟩, 0)) hd
      dsimp only
      rw [if_neg (by rw [hd]; simp), l2, Option.bind_some]
      cases one <;> rfl
end Go.Proofs.YtachpkjjlebadaaGreat

