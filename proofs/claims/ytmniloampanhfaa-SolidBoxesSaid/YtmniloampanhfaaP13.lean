/- Solids: how long a form can be: no more rectangles than the square of the number of rectangles that it is made of. -/
import Derived.Test.YtmniloampanhfaaP12
namespace Go.Proofs.Ytmniloampanhfaa
open Go.Gb
set_option linter.unusedVariables false
set_option linter.unusedSimpArgs false
set_option linter.unusedSectionVars false
set_option linter.unusedVariables false
set_option linter.unusedSimpArgs false

theorem nodup_le {α : Type} [DecidableEq α] : ∀ {l m : List α}, l.Nodup → (∀ x ∈ l, x ∈ m) → l.length ≤ m.length
  | [], m, _, _ => Nat.zero_le _
  | a :: l, m, hn, hs => by
    have hn' := List.nodup_cons.1 hn
    have ha := hs a (by simp)
    have ih := nodup_le (l := l) (m := m.erase a) hn'.2 fun x hx => by
      have hxa : x ≠ a := fun e => hn'.1 (e ▸ hx)
      exact (List.mem_erase_of_ne hxa).2 (hs x (by simp [hx]))
    rw [List.length_erase_of_mem ha] at ih
    have := List.length_pos_of_mem ha
    simp only [List.length_cons]; omega

/-- How many of the numbers lie in [a, b). -/
def inC (D : List Int) (a b : Int) : Nat := D.countP fun c => decide (a ≤ c) && decide (c < b)
def ends (l : List (Int × Int)) : List Int := l.flatMap fun r => [r.1, r.2]
theorem ends_cons (r : Int × Int) (l : List (Int × Int)) : ends (r :: l) = r.1 :: r.2 :: ends l := rfl
def sumNat {α : Type} (f : α → Nat) : List α → Nat
  | [] => 0
  | x :: xs => f x + sumNat f xs
theorem sumNat_le {α : Type} {f g : α → Nat} : ∀ {l : List α}, (∀ x ∈ l, f x ≤ g x) → sumNat f l ≤ sumNat g l
  | [], _ => Nat.le_refl _
  | x :: l, h => by
    have := h x (by simp)
    have := sumNat_le (l := l) fun y hy => h y (by simp [hy])
    simp only [sumNat]; omega
theorem sumNat_add {α : Type} {f g : α → Nat} : ∀ {l : List α}, sumNat (fun x => f x + g x) l = sumNat f l + sumNat g l
  | [] => rfl
  | x :: l => by simp only [sumNat, sumNat_add (l := l)]; omega
theorem sumNat_const {α : Type} {c : Nat} : ∀ {l : List α}, sumNat (fun _ => c) l = c * l.length
  | [] => rfl
  | x :: l => by simp only [sumNat, sumNat_const (l := l), List.length_cons, Nat.mul_add]; omega
/-- Numbers that are ends of intervals, each once: those in a set are no more than the ends in it. -/
theorem count_ends {l : List (Int × Int)} {q : Int → Bool} : ∀ {D : List Int}, D.Nodup → (∀ c ∈ D, c ∈ ends l) → D.countP q ≤ sumNat (fun r => (if q r.1 then 1 else 0) + (if q r.2 then 1 else 0)) l := by
  intro D hn hs
  have h1 : D.countP q = (D.filter q).length := List.countP_eq_length_filter
  have h2 : (D.filter q).length ≤ ((ends l).filter q).length := nodup_le (hn.sublist List.filter_sublist) fun x hx => by
    rw [List.mem_filter] at hx ⊢
    exact ⟨hs x hx.1, hx.2⟩
  have h3 : ∀ l : List (Int × Int), ((ends l).filter q).length = sumNat (fun r => (if q r.1 then 1 else 0) + (if q r.2 then 1 else 0)) l := by
    intro l
    induction l with
    | nil => rfl
    | cons r l ih =>
      rw [ends_cons]
      simp only [List.filter_cons, sumNat, ← ih]
      cases q r.1 <;> cases q r.2 <;> simp <;> omega
  rw [← h3]; omega
theorem pairs_sq : ∀ {l : List (Int × Int)} {D : List Int}, (∀ r ∈ l, r.1 < r.2) → D.Nodup → (∀ c ∈ D, c ∈ ends l) → sumNat (fun r => inC D r.1 r.2) l ≤ l.length * l.length
  | [], D, _, _, _ => Nat.le_refl _
  | r0 :: l, D, hlt, hn, hs => by
    have h0 := hlt r0 (by simp)
    -- the numbers that are ends of the other intervals, and those that are not
    let o : Int → Bool := fun c => decide (c ∈ ends l)
    have hD : ∀ p : Int → Bool, D.countP p = (D.filter o).countP p + (D.filter fun c => !o c).countP p := by
      intro p
      clear hn hs hlt
      induction D with
      | nil => rfl
      | cons c D ih =>
        simp only [List.countP_cons, List.filter_cons, ih]
        cases o c <;> simp [List.countP_cons] <;> omega
    have hD1 : (D.filter o).Nodup := hn.sublist List.filter_sublist
    have hs1 : ∀ c ∈ D.filter o, c ∈ ends l := fun c hc => by have := (List.mem_filter.1 hc).2; simpa [o] using this
    have hD2 : (D.filter fun c => !o c).Nodup := hn.sublist List.filter_sublist
    have hs2 : ∀ c ∈ D.filter (fun c => !o c), c ∉ ends l ∧ (c = r0.1 ∨ c = r0.2) := fun c hc => by
      have h1 := (List.mem_filter.1 hc).2
      have h2 := hs c (List.mem_filter.1 hc).1
      rw [ends_cons] at h2
      have h3 : c ∉ ends l := by simpa [o] using h1
      refine ⟨h3, ?_⟩
      rcases List.mem_cons.1 h2 with h | h
      · exact .inl h
      · rcases List.mem_cons.1 h with h | h
        · exact .inr h
        · exact absurd h h3
    have ih := pairs_sq (l := l) (D := D.filter o) (fun r hr => hlt r (by simp [hr])) hD1 hs1
    -- the new numbers within another interval
    have hnew : ∀ r ∈ l, (D.filter fun c => !o c).countP (fun c => decide (r.1 ≤ c) && decide (c < r.2)) ≤ (if r.1 < r0.1 ∧ r0.1 < r.2 then 1 else 0) + (if r.1 < r0.2 ∧ r0.2 < r.2 then 1 else 0) := by
      intro r hr
      have hrl := hlt r (by simp [hr])
      have := count_ends (l := [r0]) (q := fun c => decide (r.1 < c) && decide (c < r.2)) (D := D.filter fun c => !o c) hD2 (fun c hc => by
        have := (hs2 c hc).2
        simp [ends]; exact this)
      have e : (D.filter fun c => !o c).countP (fun c => decide (r.1 ≤ c) && decide (c < r.2)) = (D.filter fun c => !o c).countP (fun c => decide (r.1 < c) && decide (c < r.2)) := by
        refine List.countP_congr fun c hc => ?_
        have hc1 : c ≠ r.1 := fun e => (hs2 c hc).1 (by rw [e]; exact List.mem_flatMap.2 ⟨r, hr, by simp⟩)
        simp only [Bool.and_eq_true, decide_eq_true_eq]
        omega
      rw [e]
      simpa [sumNat] using this
    -- the numbers within the new interval
    have hold : inC D r0.1 r0.2 ≤ 1 + sumNat (fun r => (if r0.1 < r.1 ∧ r.1 < r0.2 then 1 else 0) + (if r0.1 < r.2 ∧ r.2 < r0.2 then 1 else 0)) l := by
      have h1 : inC D r0.1 r0.2 ≤ 1 + D.countP (fun c => decide (r0.1 < c) && decide (c < r0.2)) := by
        have h2 : D.countP (fun c => decide (c = r0.1)) ≤ 1 := by
          have := nodup_le (l := D.filter fun c => decide (c = r0.1)) (m := [r0.1]) (hn.sublist List.filter_sublist) fun x hx => by
            have := (List.mem_filter.1 hx).2
            simpa using this
          rw [List.countP_eq_length_filter]; simpa using this
        have h3 : inC D r0.1 r0.2 ≤ D.countP (fun c => decide (c = r0.1)) + D.countP (fun c => decide (r0.1 < c) && decide (c < r0.2)) := by
          unfold inC
          clear hn hs hD hD1 hs1 hD2 hs2 ih hnew h2
          induction D with
          | nil => simp
          | cons c D ih =>
            simp only [List.countP_cons]
            by_cases c1 : c = r0.1
            · subst c1; simp [h0]; omega
            · by_cases c2 : r0.1 < c ∧ c < r0.2
              · simp [c1, c2, Int.le_of_lt c2.1]; omega
              · have : ¬ (r0.1 ≤ c ∧ c < r0.2) := by omega
                simp only [Bool.and_eq_true, decide_eq_true_eq, c1, c2, this, if_false]; omega
        omega
      have h4 : D.countP (fun c => decide (r0.1 < c) && decide (c < r0.2)) ≤ sumNat (fun r => (if r0.1 < r.1 ∧ r.1 < r0.2 then 1 else 0) + (if r0.1 < r.2 ∧ r.2 < r0.2 then 1 else 0)) (r0 :: l) := by
        have := count_ends (l := r0 :: l) (q := fun c => decide (r0.1 < c) && decide (c < r0.2)) hn hs
        simpa using this
      have h5 : sumNat (fun r : Int × Int => (if r0.1 < r.1 ∧ r.1 < r0.2 then 1 else 0) + (if r0.1 < r.2 ∧ r.2 < r0.2 then 1 else 0)) (r0 :: l) = sumNat (fun r => (if r0.1 < r.1 ∧ r.1 < r0.2 then 1 else 0) + (if r0.1 < r.2 ∧ r.2 < r0.2 then 1 else 0)) l := by
        simp only [sumNat]
        rw [if_neg (by omega), if_neg (by omega)]; omega
      omega
    have hsum : sumNat (fun r => inC D r.1 r.2) l ≤ sumNat (fun r => inC (D.filter o) r.1 r.2) l + sumNat (fun r => (if r.1 < r0.1 ∧ r0.1 < r.2 then 1 else 0) + (if r.1 < r0.2 ∧ r0.2 < r.2 then 1 else 0)) l := by
      rw [← sumNat_add]
      refine sumNat_le fun r hr => ?_
      unfold inC
      rw [hD]
      have := hnew r hr
      omega
    have hpair : sumNat (fun r => (if r.1 < r0.1 ∧ r0.1 < r.2 then 1 else 0) + (if r.1 < r0.2 ∧ r0.2 < r.2 then 1 else 0)) l + sumNat (fun r => (if r0.1 < r.1 ∧ r.1 < r0.2 then 1 else 0) + (if r0.1 < r.2 ∧ r.2 < r0.2 then 1 else 0)) l ≤ 2 * l.length := by
      rw [← sumNat_add, ← sumNat_const]
      refine sumNat_le fun r hr => ?_
      have := hlt r (by simp [hr])
      repeat' split
      all_goals omega
    have e : (r0 :: l).length * (r0 :: l).length = l.length * l.length + 2 * l.length + 1 := by
      simp only [List.length_cons, Nat.add_mul, Nat.mul_add]; omega
    rw [e]
    simp only [sumNat]
    omega

/-- What holds at a cell hangs on the rectangles alone that the cell is in. -/
structure Hangs (S : Int → Int → Prop) (l : List Rect) : Prop where
  same : ∀ x y x' y', (∀ r ∈ l, rin r x y ↔ rin r x' y') → (S x y ↔ S x' y')
  none : ∀ x y, (∀ r ∈ l, ¬ rin r x y) → ¬ S x y
theorem rval_before {V : Type} {e : V} : ∀ {l : Runs V}, Canon e l → ∀ {a b : Int} {v : V}, (a, b, v) ∈ l → rval e l (a - 1) ≠ v
  | (c, d, w) :: t, hc, a, b, v, hm => by
    obtain ⟨k1, k2, k3, k4⟩ := hc
    rcases List.mem_cons.1 hm with h | h
    · simp only [Prod.mk.injEq] at h
      obtain ⟨rfl, rfl, rfl⟩ := h
      rw [canon_lt ⟨k1, k2, k3, k4⟩ (by omega)]
      exact fun h => k2 h.symm
    · have ih := rval_before k4 h
      have hst := canon_starts k4 k3 _ h
      simp only at hst
      simp only [rval]
      split
      · rename_i h2
        -- the last place of the first run: the run begins right behind it
        have had : a = d := by omega
        cases t with
        | nil => simp at h
        | cons q t =>
          obtain ⟨c', d', w'⟩ := q
          rcases List.mem_cons.1 h with h' | h'
          · simp only [Prod.mk.injEq] at h'
            obtain ⟨rfl, rfl, rfl⟩ := h'
            rcases k3 with h3 | h3
            · omega
            · exact h3.2
          · have := canon_starts k4.2.2.2 k4.2.2.1 _ h'
            simp only at this
            have h5 := k4.1
            have h6 : d ≤ c' := by rcases k3 with h3 | h3 <;> omega
            omega
      · exact ih
theorem rval_behind {V : Type} {e : V} : ∀ {l : Runs V}, Canon e l → ∀ {a b : Int} {v : V}, (a, b, v) ∈ l → rval e l b ≠ v
  | (c, d, w) :: t, hc, a, b, v, hm => by
    obtain ⟨k1, k2, k3, k4⟩ := hc
    simp only [rval]
    rcases List.mem_cons.1 hm with h | h
    · simp only [Prod.mk.injEq] at h
      obtain ⟨rfl, rfl, rfl⟩ := h
      rw [if_neg (by omega)]
      exact rval_nxt k4 k3 k2
    · have ih := rval_behind k4 h
      have h1 := (canon_mem k4 h).1
      have hst := canon_starts k4 k3 _ h
      simp only at hst
      rw [if_neg (by omega)]
      exact ih
theorem sumNat_map {α β : Type} {f : β → Nat} {g : α → β} : ∀ {l : List α}, sumNat f (l.map g) = sumNat (fun x => f (g x)) l
  | [] => rfl
  | x :: l => by simp only [List.map_cons, sumNat, sumNat_map (l := l)]
theorem length_flatMap {α β : Type} {g : α → List β} : ∀ {l : List α}, (l.flatMap g).length = sumNat (fun x => (g x).length) l
  | [] => rfl
  | x :: l => by simp only [List.flatMap_cons, List.length_append, sumNat, length_flatMap (l := l)]
theorem starts_nodup {V : Type} {e : V} : ∀ {l : Runs V}, Canon e l → (l.map (·.1)).Nodup
  | [], _ => .nil
  | (a, b, v) :: t, h => by
    obtain ⟨k1, k2, k3, k4⟩ := h
    rw [List.map_cons, List.nodup_cons]
    refine ⟨fun hm => ?_, starts_nodup k4⟩
    obtain ⟨r, hr, he⟩ := List.mem_map.1 hm
    have := canon_starts k4 k3 r hr
    simp only at he; omega
theorem flat_nodup {c : Col} (h : Canon false c) : (c.flatMap fun s => [s.1, s.2.1]).Nodup ∧ (c.flatMap fun s => [s.1, s.2.1]).length = 2 * c.length := by
  have key : ∀ c : Col, Canon false c → (c.flatMap fun s => [s.1, s.2.1]).Pairwise (fun a b => a < b) ∧ (c.flatMap fun s => [s.1, s.2.1]).length = 2 * c.length := by
    intro c
    induction c with
    | nil => intro _; exact ⟨.nil, rfl⟩
    | cons r t ih =>
      obtain ⟨a, b, v⟩ := r
      rintro ⟨k1, k2, k3, k4⟩
      obtain ⟨i1, i2⟩ := ih k4
      have hbt : ∀ x ∈ t.flatMap (fun s => [s.1, s.2.1]), b < x := by
        intro x hx
        obtain ⟨s, hs, hx⟩ := List.mem_flatMap.1 hx
        have h1 := canon_starts k4 k3 s hs
        have h2 := (canon_mem k4 (show (s.1, s.2.1, s.2.2) ∈ t from hs)).1
        have h3 : b < s.1 := by
          cases t with
          | nil => simp at hs
          | cons q t =>
            obtain ⟨c', d', w'⟩ := q
            have hw : b < c' := by
              rcases k3 with h | ⟨_, h⟩
              · exact h
              · exfalso
                have := k4.2.1
                revert h this k2
                cases v <;> cases w' <;> simp
            rcases List.mem_cons.1 hs with rfl | hs
            · exact hw
            · have := canon_starts k4.2.2.2 k4.2.2.1 s hs
              have := k4.1
              omega
        simp at hx
        omega
      refine ⟨?_, by simp only [List.flatMap_cons, List.length_append, List.length_cons, List.length_nil, i2]; omega⟩
      simp only [List.flatMap_cons, List.cons_append, List.nil_append]
      refine List.pairwise_cons.2 ⟨fun x hx => ?_, List.pairwise_cons.2 ⟨hbt, i1⟩⟩
      rcases List.mem_cons.1 hx with rfl | hx
      · exact k1
      · have := hbt x hx; omega
  obtain ⟨h1, h2⟩ := key c h
  exact ⟨h1.imp fun h => Int.ne_of_lt h, h2⟩

theorem col_len {S : Int → Int → Prop} {l : List Rect} (hS : Hangs S l) (hl : ∀ r ∈ l, VR r) {x : Int} {c : Col} (hc : Canon false c) (hv : ∀ y, rval false c y = true ↔ S x y) : c.length ≤ (l.filter fun r => decide (r.X0 ≤ x) && decide (x < r.X1)).length := by
  obtain ⟨h1, h2⟩ := flat_nodup hc
  have hsub : ∀ z ∈ c.flatMap (fun s => [s.1, s.2.1]), z ∈ (l.filter fun r => decide (r.X0 ≤ x) && decide (x < r.X1)).flatMap (fun r => [r.Y0, r.Y1]) := by
    intro z hz
    obtain ⟨s, hs, hz⟩ := List.mem_flatMap.1 hz
    have hst : s.2.2 = true := by
      have := (canon_mem hc (show (s.1, s.2.1, s.2.2) ∈ c from hs)).2
      cases h : s.2.2
      · rw [h] at this; exact absurd rfl this
      · rfl
    have hs' : (s.1, s.2.1, true) ∈ c := by rw [← hst]; exact hs
    have hpos := (canon_mem hc hs').1
    -- something changes at z
    have hch : ¬ (S x z ↔ S x (z - 1)) := by
      rw [← hv, ← hv]
      simp at hz
      rcases hz with rfl | rfl
      · have h3 := rval_before hc hs'
        have h4 := rval_of_mem hc hs' (Int.le_refl _) hpos
        rw [h4]
        cases h5 : rval false c (s.1 - 1)
        · simp
        · exact absurd h5 h3
      · have h3 := rval_behind hc hs'
        have h4 := rval_of_mem hc hs' (show s.1 ≤ s.2.1 - 1 by omega) (by omega)
        rw [h4]
        cases h5 : rval false c s.2.1
        · simp
        · exact absurd h5 h3
    rw [List.mem_flatMap]
    refine Classical.byContradiction fun hno => hch (hS.same _ _ _ _ fun r hr => ?_)
    have hr2 : (r.X0 ≤ x ∧ x < r.X1) → z ≠ r.Y0 ∧ z ≠ r.Y1 := fun hx => by
      have hm : r ∈ l.filter fun r => decide (r.X0 ≤ x) && decide (x < r.X1) := List.mem_filter.2 ⟨hr, by simpa using hx⟩
      exact ⟨fun e => hno ⟨r, hm, by simp [e]⟩, fun e => hno ⟨r, hm, by simp [e]⟩⟩
    unfold rin
    constructor
    · rintro ⟨hx, hy⟩
      have := hr2 hx
      exact ⟨hx, by omega⟩
    · rintro ⟨hx, hy⟩
      have := hr2 hx
      exact ⟨hx, by omega⟩
  have h3 := nodup_le h1 hsub
  have h4 : ∀ m : List Rect, (m.flatMap fun r => [r.Y0, r.Y1]).length = 2 * m.length := by
    intro m
    induction m with
    | nil => rfl
    | cons a m ih => simp only [List.flatMap_cons, List.length_append, List.length_cons, List.length_nil, ih]; omega
  rw [h2, h4] at h3
  omega
theorem form_len {S : Int → Int → Prop} {l out : List Rect} (hS : Hangs S l) (hl : ∀ r ∈ l, VR r) (h : IsForm S out) : out.length ≤ l.length * l.length := by
  obtain ⟨G, h1, h2, h3, rfl⟩ := h
  let P : List (Int × Int) := l.map fun r => (r.X0, r.X1)
  have hPl : P.length = l.length := by simp [P]
  have hcol : ∀ g ∈ G, g.2.2.length ≤ (l.filter fun r => decide (r.X0 ≤ g.1) && decide (g.1 < r.X1)).length := by
    intro g hg
    obtain ⟨a, b, c⟩ := g
    have hab := (canon_mem h1 hg).1
    have hr := rval_of_mem h1 hg (Int.le_refl a) hab
    exact col_len hS hl (h2 a b c hg) fun y => by rw [← hr]; exact h3 a y
  have hstart : ∀ a ∈ G.map (·.1), a ∈ ends P := by
    intro a ha
    obtain ⟨g, hg, rfl⟩ := List.mem_map.1 ha
    obtain ⟨a, b, c⟩ := g
    have hab := (canon_mem h1 hg).1
    have hr := rval_of_mem h1 hg (Int.le_refl a) hab
    have hb := rval_before h1 hg
    dsimp only
    refine Classical.byContradiction fun hno => hb ?_
    rw [← hr]
    refine canon_unique (canon_at h2 _) (canon_at h2 _) fun y => ?_
    rw [Bool.eq_iff_iff, h3, h3]
    refine hS.same _ _ _ _ fun r hr => ?_
    have hm : (r.X0, r.X1) ∈ P := List.mem_map.2 ⟨r, hr, rfl⟩
    have e1 : a ≠ r.X0 := fun e => hno (List.mem_flatMap.2 ⟨_, hm, by simp [e]⟩)
    have e2 : a ≠ r.X1 := fun e => hno (List.mem_flatMap.2 ⟨_, hm, by simp [e]⟩)
    unfold rin
    constructor
    · rintro ⟨hx, hy⟩; exact ⟨by omega, hy⟩
    · rintro ⟨hx, hy⟩; exact ⟨by omega, hy⟩
  have hsq := pairs_sq (l := P) (D := G.map (·.1)) (fun r hr => by
    obtain ⟨q, hq, rfl⟩ := List.mem_map.1 hr
    exact (hl q hq).2.1) (starts_nodup h1) hstart
  rw [hPl] at hsq
  refine Nat.le_trans ?_ hsq
  unfold flatG
  rw [length_flatMap]
  refine Nat.le_trans (sumNat_le (g := fun g => (l.filter fun r => decide (r.X0 ≤ g.1) && decide (g.1 < r.X1)).length) fun g hg => by rw [List.length_map]; exact hcol g hg) ?_
  -- exchange the sums
  have hex : ∀ (m : List Rect) (H : Runs Col), sumNat (fun g => (m.filter fun r => decide (r.X0 ≤ g.1) && decide (g.1 < r.X1)).length) H = sumNat (fun r => inC (H.map (·.1)) r.1 r.2) (m.map fun r => (r.X0, r.X1)) := by
    intro m
    induction m with
    | nil =>
      intro H
      simp only [List.filter_nil, List.length_nil, List.map_nil, sumNat]
      rw [sumNat_const]; simp
    | cons r m ih =>
      intro H
      simp only [List.map_cons, sumNat]
      rw [← ih H]
      have e1 : sumNat (fun g : Int × Int × Col => ((r :: m).filter fun r => decide (r.X0 ≤ g.1) && decide (g.1 < r.X1)).length) H = sumNat (fun g => if (decide (r.X0 ≤ g.1) && decide (g.1 < r.X1)) = true then 1 else 0) H + sumNat (fun g => (m.filter fun r => decide (r.X0 ≤ g.1) && decide (g.1 < r.X1)).length) H := by
        rw [← sumNat_add]
        congr 1
        funext g
        by_cases hp : (decide (r.X0 ≤ g.1) && decide (g.1 < r.X1)) = true
        · rw [List.filter_cons, if_pos hp, if_pos hp, List.length_cons]; omega
        · rw [List.filter_cons, if_neg hp, if_neg hp]; omega
      have e2 : ∀ H : Runs Col, sumNat (fun g : Int × Int × Col => if (decide (r.X0 ≤ g.1) && decide (g.1 < r.X1)) = true then 1 else 0) H = inC (H.map (·.1)) r.X0 r.X1 := by
        intro H
        unfold inC
        induction H with
        | nil => rfl
        | cons g H ihH =>
          simp only [sumNat, List.map_cons, List.countP_cons, ihH]; omega
      rw [e1, e2]
  rw [hex]
  exact Nat.le_refl _

/-- What holds at a cube hangs on the boxes alone that it is in. -/
structure Hangs3 (S : Int → Int → Int → Prop) (l : List Box) : Prop where
  same : ∀ x y z x' y' z', (∀ b ∈ l, (rin b.Base x y ∧ b.Z0 ≤ z ∧ z < b.Z1) ↔ (rin b.Base x' y' ∧ b.Z0 ≤ z' ∧ z' < b.Z1)) → (S x y z ↔ S x' y' z')
  none : ∀ x y z, (∀ b ∈ l, ¬ (rin b.Base x y ∧ b.Z0 ≤ z ∧ z < b.Z1)) → ¬ S x y z
theorem Hangs3.at {S : Int → Int → Int → Prop} {l : List Box} (h : Hangs3 S l) (z : Int) : Hangs (fun x y => S x y z) (bases l z) := by
  have hb : ∀ b ∈ l, (b.Z0 ≤ z ∧ z < b.Z1) → b.Base ∈ bases l z := fun b hb hz => List.mem_map.2 ⟨b, List.mem_filter.2 ⟨hb, by simpa using hz⟩, rfl⟩
  refine ⟨fun x y x' y' he => h.same _ _ _ _ _ _ fun b hbl => ?_, fun x y hno => h.none _ _ _ fun b hbl hh => hno _ (hb b hbl hh.2) hh.1⟩
  constructor
  · rintro ⟨h1, h2⟩; exact ⟨(he _ (hb b hbl h2)).1 h1, h2⟩
  · rintro ⟨h1, h2⟩; exact ⟨(he _ (hb b hbl h2)).2 h1, h2⟩
theorem solid_len {S : Int → Int → Int → Prop} {l : List Box} {out : List Slab} (hS : Hangs3 S l) (hl : ∀ b ∈ l, VB b) (h : IsSolid S out) : out.length ≤ 2 * l.length ∧ ∀ s ∈ out, s.Area.length ≤ l.length * l.length := by
  constructor
  · have h1 := starts_nodup h.canon
    have hsub : ∀ a ∈ (slabRuns out).map (·.1), a ∈ l.flatMap fun b => [b.Z0, b.Z1] := by
      intro a ha
      obtain ⟨g, hg, rfl⟩ := List.mem_map.1 ha
      obtain ⟨a, b, c⟩ := g
      have hab := (canon_mem h.canon hg).1
      have hr := rval_of_mem h.canon hg (Int.le_refl a) hab
      have hb := rval_before h.canon hg
      dsimp only
      refine Classical.byContradiction fun hno => hb ?_
      rw [← hr]
      refine (h.form (a - 1)).unique (h.form a) fun x y => hS.same _ _ _ _ _ _ fun b hb => ?_
      have e1 : a ≠ b.Z0 := fun e => hno (List.mem_flatMap.2 ⟨b, hb, by simp [e]⟩)
      have e2 : a ≠ b.Z1 := fun e => hno (List.mem_flatMap.2 ⟨b, hb, by simp [e]⟩)
      constructor
      · rintro ⟨h1, h2⟩; exact ⟨h1, by omega⟩
      · rintro ⟨h1, h2⟩; exact ⟨h1, by omega⟩
    have h2 := nodup_le h1 hsub
    have h4 : ∀ m : List Box, (m.flatMap fun r => [r.Z0, r.Z1]).length = 2 * m.length := by
      intro m
      induction m with
      | nil => rfl
      | cons a m ih => simp only [List.flatMap_cons, List.length_append, List.length_cons, List.length_nil, ih]; omega
    rw [h4, List.length_map, slabRuns_length] at h2
    exact h2
  · intro s hs
    have hp := (slab_pos h.canon hs).1
    have he := sect_mem h.canon hs (Int.le_refl _) hp
    have := form_len (hS.at s.Z0) (bases_right hl s.Z0) (h.form s.Z0)
    rw [he] at this
    exact Nat.le_trans this (Nat.mul_le_mul (bases_length l s.Z0) (bases_length l s.Z0))
/-- With few boxes no limit is met. -/
theorem slim_few {S : Int → Int → Int → Prop} {l : List Box} {out : List Slab} (hS : Hangs3 S l) (hl : ∀ b ∈ l, VB b) (h : IsSolid S out) (hn : l.length ≤ 14) : SS out ∧ slim out = (out, 0) := by
  obtain ⟨h1, h2⟩ := solid_len hS hl h
  have hsq : l.length * l.length ≤ 14 * 14 := Nat.mul_le_mul (by omega) (by omega)
  have hex : ∀ {x y z : Int}, S x y z → ∃ b ∈ l, rin b.Base x y ∧ b.Z0 ≤ z ∧ z < b.Z1 := fun {x y z} hs => Classical.byContradiction fun hno => hS.none x y z (fun b hb hh => hno ⟨b, hb, hh⟩) hs
  have hSS : SS out := by
    refine ⟨by omega, h.canon, fun s hs => ?_⟩
    obtain ⟨hp, hne⟩ := slab_pos h.canon hs
    have hf := h.form s.Z0
    rw [sect_mem h.canon hs (Int.le_refl _) hp] at hf
    have hf1 := h.form (s.Z1 - 1)
    rw [sect_mem h.canon hs (by omega) (by omega)] at hf1
    have hpos := form_rect hf
    obtain ⟨r, hr⟩ := List.exists_mem_of_ne_nil _ hne
    have hrp := hpos r hr
    obtain ⟨b, hb, hb1, hb2⟩ := hex ((hf.cells r.X0 r.Y0).1 ⟨r, hr, ⟨Int.le_refl _, hrp.1⟩, Int.le_refl _, hrp.2⟩)
    obtain ⟨b', hb', hb1', hb2'⟩ := hex ((hf1.cells r.X0 r.Y0).1 ⟨r, hr, ⟨Int.le_refl _, hrp.1⟩, Int.le_refl _, hrp.2⟩)
    have v1 := hl b hb; have v2 := hl b' hb'
    unfold VB at v1 v2
    refine ⟨by omega, by omega, RR.of_form hf (fun q hq => ?_) (by have := h2 s hs; omega)⟩
    have hqp := hpos q hq
    obtain ⟨c, hc, hc1, _⟩ := hex ((hf.cells q.X0 q.Y0).1 ⟨q, hq, ⟨Int.le_refl _, hqp.1⟩, Int.le_refl _, hqp.2⟩)
    obtain ⟨d, hd, hd1, _⟩ := hex ((hf.cells (q.X1 - 1) (q.Y1 - 1)).1 ⟨q, hq, ⟨by omega, by omega⟩, by omega, by omega⟩)
    have w1 := (hl c hc).1; have w2 := (hl d hd).1
    unfold VR at w1 w2 ⊢
    unfold rin at hc1 hd1
    omega
  exact ⟨hSS, slim_fine hSS⟩
theorem bcells_hangs (l : List Box) : Hangs3 (bcells l) l :=
  ⟨fun x y z x' y' z' h => exists_congr fun b => and_congr_right fun hb => h b hb, fun x y z h ⟨b, hb, hh⟩ => h b hb hh⟩
theorem Hangs3.mono {S : Int → Int → Int → Prop} {l m : List Box} (h : Hangs3 S l) (hs : ∀ b ∈ l, b ∈ m) : Hangs3 S m :=
  ⟨fun x y z x' y' z' he => h.same _ _ _ _ _ _ fun b hb => he b (hs b hb), fun x y z hn => h.none x y z fun b hb => hn b (hs b hb)⟩
theorem Hangs3.op {S T : Int → Int → Int → Prop} [∀ x y z, Decidable (S x y z)] [∀ x y z, Decidable (T x y z)] {l : List Box} (h : Hangs3 S l) (g : Hangs3 T l) (op : Int) : Hangs3 (fun x y z => opB op (decide (S x y z)) (decide (T x y z)) = true) l := by
  refine ⟨fun x y z x' y' z' he => ?_, fun x y z hn => ?_⟩
  · have e1 : decide (S x y z) = decide (S x' y' z') := by rw [decide_eq_decide]; exact h.same _ _ _ _ _ _ he
    have e2 : decide (T x y z) = decide (T x' y' z') := by rw [decide_eq_decide]; exact g.same _ _ _ _ _ _ he
    rw [e1, e2]
  · have e1 : decide (S x y z) = false := by rw [decide_eq_false_iff_not]; exact h.none _ _ _ hn
    have e2 : decide (T x y z) = false := by rw [decide_eq_false_iff_not]; exact g.none _ _ _ hn
    rw [e1, e2, opB_false]; simp
theorem Hangs3.congr {S T : Int → Int → Int → Prop} {l : List Box} (h : Hangs3 S l) (he : ∀ x y z, S x y z ↔ T x y z) : Hangs3 T l :=
  ⟨fun x y z x' y' z' hh => by rw [← he, ← he]; exact h.same _ _ _ _ _ _ hh, fun x y z hn => by rw [← he]; exact h.none _ _ _ hn⟩
end Go.Proofs.Ytmniloampanhfaa
