/- Regions: Of, Right, and what combining gives. -/
import Derived.Test.YtmniloampanhfaaP4
namespace Go.Proofs.Ytmniloampanhfaa
open Go.Gb
set_option linter.unusedVariables false
set_option linter.unusedSimpArgs false
set_option linter.unusedSectionVars false
set_option linter.unusedVariables false
set_option linter.unusedSimpArgs false

instance (l : List Rect) (x y : Int) : Decidable (cells l x y) := inferInstanceAs (Decidable (∃ r ∈ l, rin r x y))
theorem equal_Rect_L0 {a b : List Rect} (hl : a.length = b.length) (hb : a.length ≤ 1000000) :
    ∃ f, iterL (slices_Equal_Rect_L0 a b) (a.length + 1) 0 = some f ∧ ((a = b ∧ ∃ s, f = .ex 0 s) ∨ (a ≠ b ∧ f = .ret false)) := by
  have hs : ∀ i (hi : i < (a.zip b).length), ((a.zip b)[i].1 ≠ (a.zip b)[i].2 ∧ slices_Equal_Rect_L0 a b (i : Int) = some (.ret false)) ∨
      (¬ ((a.zip b)[i].1 ≠ (a.zip b)[i].2) ∧ slices_Equal_Rect_L0 a b (i : Int) = some (.go ((i + 1 : Nat) : Int))) := by
    intro i hi
    simp only [List.length_zip] at hi
    have h1 : i < a.length := by omega
    have h2 : i < b.length := by omega
    unfold slices_Equal_Rect_L0
    rw [if_pos (by simpa using h1)]
    simp only [getI_nat h1, getI_nat h2, Option.bind_some, List.getElem_zip]
    by_cases he : a[i] = b[i]
    · right
      rw [if_neg (by simpa using he)]
      simp only [addI_one (show i < 4611686018427387904 by omega), Option.bind_some]
      exact ⟨by simpa using he, trivial⟩
    · left
      rw [if_pos (by simpa using he)]
      exact ⟨he, rfl⟩
  have hd : slices_Equal_Rect_L0 a b ((a.zip b).length : Int) = some (.ex 0 ((a.zip b).length : Int)) := by
    have e : ((a.zip b).length : Int) = (a.length : Int) := by simp; omega
    rw [e]
    unfold slices_Equal_Rect_L0
    rw [if_neg (by simp)]
  rcases iter_find (l := a.zip b) (body := slices_Equal_Rect_L0 a b) (k := 0) (fun p => p.1 ≠ p.2) (fun _ => false) hs hd (fuel := a.length + 1) (by simp; omega) with ⟨i, hi, hp, _, h⟩ | ⟨hp, h⟩
  · refine ⟨_, h, .inr ⟨fun e => ?_, rfl⟩⟩
    subst e
    simp at hp
  · refine ⟨_, h, .inl ⟨?_, _, rfl⟩⟩
    refine List.ext_getElem hl fun i h1 h2 => ?_
    have := hp (a[i], b[i]) (by
      rw [List.mem_iff_getElem]
      exact ⟨i, by simp; omega, by simp⟩)
    simpa using this
theorem equal_Rect {a b : List Rect} (hb : a.length ≤ 1000000) : slices_Equal_Rect a b = some (decide (a = b)) := by
  unfold slices_Equal_Rect
  by_cases hl : a.length = b.length
  · rw [if_neg (by simp [hl])]
    obtain ⟨f, hf, h⟩ := equal_Rect_L0 hl hb
    rw [hf, Option.bind_some]
    rcases h with ⟨h1, s, rfl⟩ | ⟨h1, rfl⟩ <;> simp [h1]
  · rw [if_pos (by simp; omega)]
    congr 1
    symm
    rw [decide_eq_false_iff_not]
    intro e; exact hl (by rw [e])
theorem region_Same_eq {a b : List Rect} (hb : a.length ≤ 1000000) : region_Same a b = some (decide (a = b)) := by
  unfold region_Same
  rw [equal_Rect hb, Option.bind_some]

/-- The form, if it is not too long. -/
def lim (out : List Rect) : List Rect × Int := if 200 < out.length then ([], 6) else (out, 0)
theorem limited_eq (out : List Rect) : region_limited out = some (lim out) := by
  unfold region_limited lim
  by_cases h : 200 < out.length
  · rw [if_pos (by simp; omega), if_pos h]
  · rw [if_neg (by simp; omega), if_neg h]
theorem Of_check {l : List Rect} (hl : l.length ≤ 100000) :
    (¬ (∀ r ∈ l, VR r) ∧ iterL (region_Of_L0 l) (l.length + 1) 0 = some (.ret ([], 1))) ∨ ((∀ r ∈ l, VR r) ∧ iterL (region_Of_L0 l) (l.length + 1) 0 = some (.ex 0 (l.length : Int))) := by
  rcases iter_find (l := l) (body := region_Of_L0 l) (k := 0) (fun r => ¬ VR r) (fun _ => (([] : List Rect), (1 : Int))) (by
    intro i hi
    unfold region_Of_L0
    rw [if_pos (by simpa using hi)]
    simp only [getI_nat hi, Option.bind_some, rect_Right_eq]
    by_cases he : VR l[i]
    · right
      rw [if_neg (by simpa using he)]
      simp only [addI_one (show i < 4611686018427387904 by omega), Option.bind_some]
      exact ⟨fun h => h he, trivial⟩
    · left
      rw [if_pos (by simpa using he)]
      exact ⟨he, rfl⟩) (by
    unfold region_Of_L0
    rw [if_neg (by simp)]) (fuel := l.length + 1) (by omega) with ⟨i, hi, hp, _, h⟩ | ⟨hp, h⟩
  · exact .inl ⟨fun h' => hp (h' _ (List.getElem_mem hi)), h⟩
  · exact .inr ⟨fun r hr => Classical.not_not.1 (hp r hr), h⟩
theorem region_Of_bad {l : List Rect} (hl : l.length ≤ 100000) (h : ¬ ∀ r ∈ l, VR r) : region_Of l = some ([], 1) := by
  unfold region_Of
  rcases Of_check hl with ⟨_, h1⟩ | ⟨h1, _⟩
  · rw [h1, Option.bind_some]
  · exact absurd h1 h
theorem region_Of_many {l : List Rect} (hl : l.length ≤ 100000) (h : ∀ r ∈ l, VR r) (hm : 400 < l.length) : region_Of l = some ([], 6) := by
  unfold region_Of
  rcases Of_check hl with ⟨h1, _⟩ | ⟨_, h1⟩
  · exact absurd h h1
  · rw [h1, Option.bind_some]
    dsimp only
    rw [if_pos (by simp; omega)]
theorem region_Of_fine {l : List Rect} (h : ∀ r ∈ l, VR r) (hm : l.length ≤ 400) : ∃ out, IsForm (cells l) out ∧ region_Of l = some (lim out) := by
  unfold region_Of
  rcases Of_check (l := l) (by omega) with ⟨h1, _⟩ | ⟨_, h1⟩
  · exact absurd h h1
  · obtain ⟨st, h2, h3⟩ := strips_spec (ls := [l]) (by simpa using h) (by simp; omega) (by simp)
    rw [show [l].flatten = l by simp] at h3
    have hlen := h3.len
    obtain ⟨out, h4, h5⟩ := write_form (S := cells l) h3.gapless (by omega) (fun s hs => by have := (h3.col s hs).len; omega) h3.val
    refine ⟨out, h5, ?_⟩
    rw [h1, Option.bind_some]
    dsimp only
    rw [if_neg (by simp; omega), h2, Option.bind_some, h4, Option.bind_some, limited_eq, Option.bind_some]

/-- The list is a region. -/
def RR (a : List Rect) : Prop := (∀ r ∈ a, VR r) ∧ a.length ≤ 200 ∧ IsForm (cells a) a
theorem region_Right_spec {a : List Rect} (hl : a.length ≤ 100000) : ∃ b, region_Right a = some b ∧ (b = true ↔ RR a) := by
  unfold region_Right
  by_cases h : ∀ r ∈ a, VR r
  · rcases Nat.lt_or_ge 400 a.length with hm | hm
    · rw [region_Of_many hl h hm, Option.bind_some, if_neg (by simp), Option.bind_some]
      exact ⟨_, rfl, by simp, fun h => absurd h.2.1 (by omega)⟩
    · obtain ⟨out, h1, h2⟩ := region_Of_fine h hm
      rw [h2, Option.bind_some]
      unfold lim
      by_cases h3 : 200 < out.length
      · rw [if_pos h3, if_neg (by simp), Option.bind_some]
        refine ⟨_, rfl, by simp, fun h => ?_⟩
        have := h.2.2.unique h1 (fun _ _ => Iff.rfl)
        rw [this] at h
        exact absurd h.2.1 (by omega)
      · rw [if_neg h3]
        dsimp only
        rw [if_pos (by simp), equal_Rect (by omega), Option.bind_some, Option.bind_some]
        refine ⟨_, rfl, ?_⟩
        simp only [decide_eq_true_eq]
        constructor
        · intro e
          rw [e] at h1 h3
          exact ⟨h, by omega, h1⟩
        · intro h4
          exact h1.unique h4.2.2 (fun _ _ => Iff.rfl)
  · rw [region_Of_bad hl h, Option.bind_some, if_neg (by simp), Option.bind_some]
    exact ⟨_, rfl, by simp, fun h' => absurd h'.1 h⟩
theorem region_Right_true {a : List Rect} (h : RR a) : region_Right a = some true := by
  obtain ⟨b, h1, h2⟩ := region_Right_spec (a := a) (by have := h.2.1; omega)
  rw [h1, h2.2 h]
theorem region_Right_false {a : List Rect} (hl : a.length ≤ 100000) (h : ¬ RR a) : region_Right a = some false := by
  obtain ⟨b, h1, h2⟩ := region_Right_spec hl
  rw [h1]; cases b
  · rfl
  · exact absurd (h2.1 rfl) h
theorem RR.of_form {S : Int → Int → Prop} {out : List Rect} (h : IsForm S out) (hv : ∀ r ∈ out, VR r) (hl : out.length ≤ 200) : RR out := ⟨hv, hl, h.self⟩
theorem RR_nil : RR [] := ⟨by simp, by simp, form_nil.congr fun x y => by simp [cells]⟩

/-! Combining -/
theorem combine_L0 {keep : Bool → Bool → Option Bool} {kb : Bool → Bool → Bool} (hk : ∀ a b, keep a b = some (kb a b)) (h0 : kb false false = false) {a b : List Rect} {one two all : List RegionStrip}
    (ha : StripsOf a one) (hb : StripsOf b two) (hab : StripsOf (a ++ b) all) (hal : a.length ≤ 200) (hbl : b.length ≤ 200) :
    ∃ st, iterL (region_combine_L0 keep one two all) (all.length + 1) (all, 0) = some (.ex 0 (st, (all.length : Int))) ∧ Gapless st ∧ st.length ≤ 800 ∧ (∀ s ∈ st, s.column.length ≤ 1000) ∧
      ∀ x y, rval false (rval [] (stripRuns st) x) y = kb (decide (cells a x y)) (decide (cells b x y)) := by
  have l1 := ha.len; have l2 := hb.len; have l3 := hab.len
  simp only [List.length_append] at l3
  obtain ⟨st, h1, h2, h3⟩ := iter_rangeE (k := 0) (l := all) (body := region_combine_L0 keep one two all) (fun (s : List RegionStrip) i => (s, i))
    (fun i s => s.length = all.length ∧ ∀ j (hj : j < s.length) (hj' : j < all.length), s[j].x0 = all[j].x0 ∧ s[j].x1 = all[j].x1 ∧
      (j < i → Canon false (spanRuns s[j].column) ∧ s[j].column.length ≤ 1000 ∧ ∀ y, rval false (spanRuns s[j].column) y = kb (rval false (rval [] (stripRuns one) all[j].x0) y) (rval false (rval [] (stripRuns two) all[j].x0) y))) (by
    intro i hi s ⟨hI1, hI2⟩
    obtain ⟨ca, c1, c2, c3⟩ := at_spec ha.gapless (by omega) all[i].x0
    obtain ⟨cb, d1, d2, d3⟩ := at_spec hb.gapless (by omega) all[i].x0
    have hca : Canon false (spanRuns ca) ∧ ca.length ≤ 200 := by
      rcases c3 with rfl | ⟨s, hs, rfl⟩
      · exact ⟨trivial, by simp⟩
      · exact ⟨(ha.col s hs).canon, by have := (ha.col s hs).len; omega⟩
    have hcb : Canon false (spanRuns cb) ∧ cb.length ≤ 200 := by
      rcases d3 with rfl | ⟨s, hs, rfl⟩
      · exact ⟨trivial, by simp⟩
      · exact ⟨(hb.col s hs).canon, by have := (hb.col s hs).len; omega⟩
    obtain ⟨c, m1, m2, m3, m4⟩ := merge_spec hk h0 hca.1 hcb.1 (by omega) (by omega)
    refine ⟨s.set i { s[i]'(by omega) with column := c }, ?_, by simpa using hI1, fun j hj hj' => ?_⟩
    · rw [← (hI2 i (by omega) hi).1] at c1 d1
      unfold region_combine_L0
      dsimp only
      rw [if_pos (by simpa using hi), getI_nat (show i < s.length by omega), Option.bind_some, c1, Option.bind_some, d1, Option.bind_some, m1, Option.bind_some, Option.bind_some, Option.bind_some, addI_one (by omega), Option.bind_some, Int.toNat_natCast]
    · rw [List.length_set] at hj
      obtain ⟨e1, e2, e3⟩ := hI2 j hj hj'
      simp only [List.getElem_set]
      by_cases hij : i = j
      · subst hij
        rw [if_pos rfl]
        refine ⟨e1, e2, fun _ => ⟨m2, by dsimp only; omega, fun y => ?_⟩⟩
        rw [← c2, ← d2]; exact m3 y
      · rw [if_neg hij]
        exact ⟨e1, e2, fun h => e3 (by omega)⟩) (by
    intro s _
    unfold region_combine_L0
    dsimp only
    rw [if_neg (by simp)]) (s0 := all) ⟨rfl, fun j hj hj' => ⟨rfl, rfl, fun h => absurd h (Nat.not_lt_zero j)⟩⟩ (fuel := all.length + 1) (by omega)
  have hg : Gapless st := by
    refine ⟨fun s hs => ?_, fun i hi => ?_, fun s hs => ?_⟩
    · obtain ⟨j, hj, rfl⟩ := List.getElem_of_mem hs
      obtain ⟨e1, e2, _⟩ := h3 j hj (by omega)
      rw [e1, e2]; exact hab.gapless.pos _ (List.getElem_mem _)
    · rw [(h3 i (by omega) (by omega)).2.1, (h3 (i + 1) hi (by omega)).1]
      exact hab.gapless.next i (by omega)
    · obtain ⟨j, hj, rfl⟩ := List.getElem_of_mem hs
      exact ((h3 j hj (by omega)).2.2 (by omega)).1
  refine ⟨st, h1, hg, by omega, fun s hs => ?_, fun x y => ?_⟩
  · obtain ⟨j, hj, rfl⟩ := List.getElem_of_mem hs
    exact ((h3 j hj (by omega)).2.2 (by omega)).2.1
  · by_cases hs : ∃ s ∈ all, s.x0 ≤ x ∧ x < s.x1
    · obtain ⟨s, hs, x1, x2⟩ := hs
      obtain ⟨j, hj, rfl⟩ := List.getElem_of_mem hs
      obtain ⟨e1, e2, e3⟩ := h3 j (by omega) hj
      obtain ⟨_, _, e4⟩ := e3 (by omega)
      rw [rval_strips hg (show j < st.length by omega) (by omega) (by omega), e4]
      have key : ∀ (c : List Rect) (so : List RegionStrip), StripsOf c so → (∀ r ∈ c, r ∈ a ++ b) → rval false (rval [] (stripRuns so) all[j].x0) y = decide (cells c x y) := by
        intro c so hc hcm
        rw [Bool.eq_iff_iff, hc.val, decide_eq_true_eq]
        refine exists_congr fun r => and_congr_right fun hr => ?_
        have := hab.same _ hs x x1 x2 r (hcm r hr)
        unfold rin
        rw [this]
      rw [key a one ha (fun r hr => List.mem_append_left _ hr), key b two hb (fun r hr => List.mem_append_right _ hr)]
    · have hno : ∀ c : List Rect, (∀ r ∈ c, r ∈ a ++ b) → decide (cells c x y) = false := by
        intro c hc
        rw [decide_eq_false_iff_not]
        rintro ⟨r, hr, ⟨r1, r2⟩, _⟩
        exact hs (hab.cover r (hc r hr) x r1 r2)
      rw [hno a (fun r hr => List.mem_append_left _ hr), hno b (fun r hr => List.mem_append_right _ hr), h0]
      rcases rval_mem (e := []) (l := stripRuns st) (x := x) with h7 | ⟨f, t, h7, h8⟩
      · rw [h7]; rfl
      · simp only [stripRuns, List.mem_map, Prod.mk.injEq] at h7
        obtain ⟨s, hs', q1, q2, _⟩ := h7
        obtain ⟨j, hj, rfl⟩ := List.getElem_of_mem hs'
        obtain ⟨e1, e2, _⟩ := h3 j hj (by omega)
        exact absurd ⟨_, List.getElem_mem (show j < all.length by omega), by omega, by omega⟩ hs

theorem combine_bad {keep : Bool → Bool → Option Bool} {a b : List Rect} (hal : a.length ≤ 100000) (hbl : b.length ≤ 100000) (h : ¬ (RR a ∧ RR b)) : region_combine a b keep = some ([], 1) := by
  unfold region_combine
  by_cases ha : RR a
  · have hb : ¬ RR b := fun hb => h ⟨ha, hb⟩
    rw [region_Right_true ha, Option.bind_some, if_neg (by simp), region_Right_false hbl hb, Option.bind_some, Option.bind_some, if_pos (by simp)]
  · rw [region_Right_false hal ha, Option.bind_some, if_pos (by simp), Option.bind_some, if_pos (by simp)]
theorem combine_fine {keep : Bool → Bool → Option Bool} {kb : Bool → Bool → Bool} (hk : ∀ a b, keep a b = some (kb a b)) (h0 : kb false false = false) {a b : List Rect} (ha : RR a) (hb : RR b) :
    ∃ out, IsForm (fun x y => kb (decide (cells a x y)) (decide (cells b x y)) = true) out ∧ region_combine a b keep = some (lim out) := by
  have la := ha.2.1; have lb := hb.2.1
  obtain ⟨one, o1, o2⟩ := strips_spec (ls := [a]) (by simpa using ha.1) (by simp; omega) (by simp)
  obtain ⟨two, t1, t2⟩ := strips_spec (ls := [b]) (by simpa using hb.1) (by simp; omega) (by simp)
  obtain ⟨all, l1, l2⟩ := strips_spec (ls := [a, b]) (by
    intro r hr
    simp only [List.flatten_cons, List.flatten_nil, List.append_nil, List.mem_append] at hr
    exact hr.elim (ha.1 r) (hb.1 r)) (by simp; omega) (by simp)
  rw [show [a].flatten = a by simp] at o2
  rw [show [b].flatten = b by simp] at t2
  rw [show [a, b].flatten = a ++ b by simp] at l2
  obtain ⟨st, s1, s2, s3, s4, s5⟩ := combine_L0 hk h0 o2 t2 l2 la lb
  obtain ⟨out, w1, w2⟩ := write_form (S := fun x y => kb (decide (cells a x y)) (decide (cells b x y)) = true) s2 (by omega) s4 (fun x y => by rw [s5])
  refine ⟨out, w2, ?_⟩
  unfold region_combine
  rw [region_Right_true ha, Option.bind_some, if_neg (by simp), region_Right_true hb, Option.bind_some, Option.bind_some, if_neg (by simp), o1, Option.bind_some, t1, Option.bind_some, l1, Option.bind_some, s1, Option.bind_some]
  dsimp only
  rw [w1, Option.bind_some, limited_eq, Option.bind_some]

/-- The operations: 0: union, 1: intersection, 2: difference. -/
def opB (op : Int) (p q : Bool) : Bool := if op = 1 then p && q else if op = 2 then p && !q else p || q
theorem opB_false (op : Int) : opB op false false = false := by unfold opB; split <;> (try split) <;> rfl
def opS (op : Int) (a b : List Rect) (x y : Int) : Prop := opB op (decide (cells a x y)) (decide (cells b x y)) = true
noncomputable def regionOp (op : Int) (a b : List Rect) : Option (List Rect × Int) := if op = 1 then region_Common a b else if op = 2 then region_Minus a b else region_Union a b
theorem regionOp_bad {op : Int} {a b : List Rect} (hal : a.length ≤ 100000) (hbl : b.length ≤ 100000) (h : ¬ (RR a ∧ RR b)) : regionOp op a b = some ([], 1) := by
  unfold regionOp
  split
  · unfold region_Common; rw [combine_bad hal hbl h, Option.bind_some]
  · split
    · unfold region_Minus; rw [combine_bad hal hbl h, Option.bind_some]
    · unfold region_Union; rw [combine_bad hal hbl h, Option.bind_some]
theorem regionOp_fine {op : Int} {a b : List Rect} (ha : RR a) (hb : RR b) : ∃ out, IsForm (opS op a b) out ∧ regionOp op a b = some (lim out) := by
  unfold regionOp opS
  split
  · subst op
    obtain ⟨out, h1, h2⟩ := combine_fine (keep := region_Common_1) (kb := opB 1) (fun p q => by cases p <;> cases q <;> rfl) rfl ha hb
    exact ⟨out, h1, by unfold region_Common; rw [h2, Option.bind_some]⟩
  · split
    · subst op
      obtain ⟨out, h1, h2⟩ := combine_fine (keep := region_Minus_1) (kb := opB 2) (fun p q => by cases p <;> cases q <;> rfl) rfl ha hb
      exact ⟨out, h1, by unfold region_Minus; rw [h2, Option.bind_some]⟩
    · rename_i h1 h2
      obtain ⟨out, h3, h4⟩ := combine_fine (keep := region_Union_1) (kb := opB op) (fun p q => by unfold opB; rw [if_neg h1, if_neg h2]; rfl) (opB_false op) ha hb
      exact ⟨out, h3, by unfold region_Union; rw [h4, Option.bind_some]⟩
end Go.Proofs.Ytmniloampanhfaa
