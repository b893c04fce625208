/- The general part of the proofs (no program in sight): worlds with shared blocks, regions, operations, calls, loops, what comes in as data, part 3 -/
import Derived.Test.YtekbjeagbfbbcaaL2
set_option linter.unusedVariables false
set_option linter.unusedSimpArgs false
/- General part of the proofs: regions in which moves stand behind operations that write: they may run first. -/
namespace Go.Gb

end Go.Gb

/- General part of the proofs: runs, lists of intervals with what holds on each: the canonical form of a function of one number that is constant between finitely many breaks. -/
namespace Go.Gb
section
variable {V : Type} {e : V}

/-- Intervals (from, to) and what holds there. -/
abbrev Runs (V : Type) := List (Int × Int × V)

/-- What holds at x. -/
def rval (e : V) : Runs V → Int → V
  | [], _ => e
  | (a, b, v) :: t, x => if a ≤ x ∧ x < b then v else rval e t x

/-- Nothing begins before n, and what begins at n is not v. -/
def Nxt (n : Int) (v : V) : Runs V → Prop
  | [] => True
  | (c, _, w) :: _ => n < c ∨ (n = c ∧ v ≠ w)

def Canon (e : V) : Runs V → Prop
  | [] => True
  | (a, b, v) :: t => a < b ∧ v ≠ e ∧ Nxt b v t ∧ Canon e t

theorem canon_ge : ∀ {l : Runs V} {n : Int} {v : V}, Canon e l → Nxt n v l → ∀ x, x < n → rval e l x = e
  | [], _, _, _, _, _, _ => rfl
  | (a, b, w) :: t, n, v, hc, hn, x, hx => by
    obtain ⟨h1, _, h3, h4⟩ := hc
    have hna : n ≤ a := by rcases hn with h | h <;> omega
    simp only [rval]
    rw [if_neg (by omega)]
    exact canon_ge h4 h3 x (by omega)
theorem canon_lt {a b : Int} {v : V} {t : Runs V} (hc : Canon e ((a, b, v) :: t)) {x : Int} (hx : x < a) : rval e ((a, b, v) :: t) x = e := by
  obtain ⟨h1, _, h3, h4⟩ := hc
  simp only [rval]
  rw [if_neg (by omega)]
  exact canon_ge h4 h3 x (by omega)
theorem rval_head {a b : Int} {v : V} {t : Runs V} (h : a < b) : rval e ((a, b, v) :: t) a = v := by
  simp only [rval]; rw [if_pos (by omega)]
theorem rval_nxt {b : Int} {v : V} {t : Runs V} (hc : Canon e t) (hn : Nxt b v t) (hv : v ≠ e) : rval e t b ≠ v := by
  cases t with
  | nil => exact fun h => hv h.symm
  | cons r t =>
    obtain ⟨c, d, w⟩ := r
    rcases hn with h | ⟨rfl, h⟩
    · rw [canon_lt hc h]; exact fun h => hv h.symm
    · rw [rval_head hc.1]; exact fun h' => h h'.symm

/-- The canonical form is given by the function. -/
theorem canon_unique : ∀ {l m : Runs V}, Canon e l → Canon e m → (∀ x, rval e l x = rval e m x) → l = m
  | [], [], _, _, _ => rfl
  | [], (a, b, v) :: t, _, hm, h => by
    have := h a
    rw [rval_head hm.1] at this
    exact absurd this.symm hm.2.1
  | (a, b, v) :: t, [], hl, _, h => by
    have := h a
    rw [rval_head hl.1] at this
    exact absurd this hl.2.1
  | (a, b, v) :: t, (a', b', v') :: t', hl, hm, h => by
    have ha : a = a' := by
      rcases Int.lt_trichotomy a a' with h1 | h1 | h1
      · have := h a
        rw [rval_head hl.1, canon_lt hm h1] at this
        exact absurd this hl.2.1
      · exact h1
      · have := h a'
        rw [rval_head hm.1, canon_lt hl h1] at this
        exact absurd this.symm hm.2.1
    subst ha
    have hv : v = v' := by
      have := h a
      rwa [rval_head hl.1, rval_head hm.1] at this
    subst hv
    obtain ⟨l1, l2, l3, l4⟩ := hl
    obtain ⟨m1, m2, m3, m4⟩ := hm
    have hb : b = b' := by
      rcases Int.lt_trichotomy b b' with h1 | h1 | h1
      · have := h b
        simp only [rval] at this
        rw [if_neg (by omega), if_pos (by omega)] at this
        exact absurd this (rval_nxt l4 l3 l2)
      · exact h1
      · have := h b'
        simp only [rval] at this
        rw [if_neg (show ¬ (a ≤ b' ∧ b' < b') by omega), if_pos (by omega)] at this
        exact absurd this.symm (rval_nxt m4 m3 m2)
    subst hb
    rw [canon_unique l4 m4 fun x => ?_]
    by_cases hx : x < b
    · rw [canon_ge l4 l3 x hx, canon_ge m4 m3 x hx]
    · have := h x
      simp only [rval] at this
      rwa [if_neg (by omega), if_neg (by omega)] at this

/-- All end at n or before. -/
def EndsBy (l : Runs V) (n : Int) : Prop := ∀ r ∈ l, r.2.1 ≤ n
/-- What ends at n is not v. -/
def Lst (l : Runs V) (n : Int) (v : V) : Prop := ∀ r, l.getLast? = some r → r.2.1 < n ∨ (r.2.1 = n ∧ r.2.2 ≠ v)

theorem canon_snoc : ∀ {l : Runs V} {a b : Int} {v : V}, Canon e l → Lst l a v → a < b → v ≠ e → Canon e (l ++ [(a, b, v)])
  | [], a, b, v, _, _, h, hv => ⟨h, hv, trivial, trivial⟩
  | [(c, d, w)], a, b, v, hc, hl, h, hv => by
    refine ⟨hc.1, hc.2.1, ?_, h, hv, trivial, trivial⟩
    rcases hl _ rfl with h | ⟨h1, h2⟩
    · exact .inl h
    · exact .inr ⟨h1, h2⟩
  | (c, d, w) :: (c', d', w') :: t, a, b, v, hc, hl, h, hv =>
    ⟨hc.1, hc.2.1, hc.2.2.1, canon_snoc (l := (c', d', w') :: t) hc.2.2.2 (fun r hr => hl r (by rw [List.getLast?_cons_cons]; exact hr)) h hv⟩
theorem canon_prefix : ∀ {l m : Runs V}, Canon e (l ++ m) → Canon e l
  | [], _, _ => trivial
  | [(c, d, w)], _, h => ⟨h.1, h.2.1, trivial, trivial⟩
  | (c, d, w) :: (c', d', w') :: t, m, h => ⟨h.1, h.2.1, h.2.2.1, canon_prefix (l := (c', d', w') :: t) h.2.2.2⟩
theorem canon_last : ∀ {l : Runs V} {a b : Int} {v : V}, Canon e (l ++ [(a, b, v)]) → a < b ∧ v ≠ e ∧ Lst l a v
  | [], a, b, v, h => ⟨h.1, h.2.1, fun r hr => by simp at hr⟩
  | [(c, d, w)], a, b, v, h => by
    refine ⟨h.2.2.2.1, h.2.2.2.2.1, fun r hr => ?_⟩
    simp at hr; subst hr
    rcases h.2.2.1 with h | ⟨h1, h2⟩
    · exact .inl h
    · exact .inr ⟨h1, h2⟩
  | (c, d, w) :: (c', d', w') :: t, a, b, v, h => by
    obtain ⟨h1, h2, h3⟩ := canon_last (l := (c', d', w') :: t) h.2.2.2
    exact ⟨h1, h2, fun r hr => h3 r (by rw [List.getLast?_cons_cons] at hr; exact hr)⟩
theorem canon_ends : ∀ {l : Runs V} {a b : Int} {v : V}, Canon e (l ++ [(a, b, v)]) → EndsBy l a
  | [], _, _, _, _ => fun r hr => by simp at hr
  | (c, d, w) :: t, a, b, v, h => by
    have h1 := h.2.2.2
    have ih := canon_ends (l := t) h1
    intro r hr
    rcases List.mem_cons.1 hr with rfl | hr
    · have h2 := h.2.2.1
      cases t with
      | nil => rcases h2 with h | h <;> simp_all <;> omega
      | cons r' t =>
        obtain ⟨c', d', w'⟩ := r'
        have h3 := ih (c', d', w') (by simp)
        have h4 := h1.1
        simp only at h3
        have h5 : d ≤ c' := by rcases h2 with h | h <;> omega
        show d ≤ a
        omega
    · exact ih r hr
theorem rval_snoc : ∀ {l : Runs V} {a b : Int} {v : V}, EndsBy l a → ∀ x, rval e (l ++ [(a, b, v)]) x = if a ≤ x ∧ x < b then v else rval e l x
  | [], a, b, v, _, x => rfl
  | (c, d, w) :: t, a, b, v, h, x => by
    have h1 := h (c, d, w) (by simp)
    simp only at h1
    simp only [List.cons_append, rval]
    rw [rval_snoc (fun r hr => h r (List.mem_cons_of_mem _ hr))]
    by_cases hx : c ≤ x ∧ x < d
    · rw [if_pos hx, if_pos hx, if_neg (by omega)]
    · rw [if_neg hx, if_neg hx]

/-- One more interval at the end: merged with the last one if both are one. -/
def pushR [DecidableEq V] (e : V) (l : Runs V) (a b : Int) (v : V) : Runs V :=
  if v = e then l else match l.getLast? with
    | some (c, d, w) => if d = a ∧ w = v then l.dropLast ++ [(c, b, v)] else l ++ [(a, b, v)]
    | none => [(a, b, v)]
theorem pushR_spec [DecidableEq V] {l : Runs V} {a b : Int} (v : V) (hc : Canon e l) (he : EndsBy l a) (hab : a < b) :
    Canon e (pushR e l a b v) ∧ EndsBy (pushR e l a b v) b ∧ ∀ x, rval e (pushR e l a b v) x = if a ≤ x ∧ x < b then v else rval e l x := by
  unfold pushR
  by_cases hv : v = e
  · rw [if_pos hv]
    refine ⟨hc, fun r hr => by have := he r hr; omega, fun x => ?_⟩
    split
    · rename_i h
      subst hv
      have : ∀ {l : Runs V}, EndsBy l a → rval v l x = v := by
        intro l
        induction l with
        | nil => intro _; rfl
        | cons r t ih =>
          obtain ⟨c, d, w⟩ := r
          intro he
          have := he (c, d, w) (by simp)
          simp only at this
          simp only [rval]
          rw [if_neg (by omega)]
          exact ih fun r hr => he r (List.mem_cons_of_mem _ hr)
      exact this he
    · rfl
  · rw [if_neg hv]
    rcases List.eq_nil_or_concat l with rfl | ⟨l', ⟨c, d, w⟩, rfl⟩
    · exact ⟨⟨hab, hv, trivial, trivial⟩, fun r hr => by simp at hr; subst hr; exact Int.le_refl _, fun x => rfl⟩
    · simp only [List.concat_eq_append, List.getLast?_append, List.getLast?_singleton, Option.some_or, List.dropLast_concat] at he hc ⊢
      obtain ⟨k1, k2, k3⟩ := canon_last hc
      have ke := canon_ends hc
      have hda : d ≤ a := he (c, d, w) (by simp)
      split
      · rename_i h
        obtain ⟨rfl, rfl⟩ := h
        refine ⟨canon_snoc (canon_prefix hc) k3 (by omega) hv, fun r hr => ?_, fun x => ?_⟩
        · rcases List.mem_append.1 hr with h | h
          · have := he r (List.mem_append_left _ h); omega
          · simp at h; subst h; exact Int.le_refl _
        · rw [rval_snoc ke, rval_snoc ke]
          by_cases h1 : d ≤ x ∧ x < b
          · rw [if_pos h1, if_pos (by omega)]
          · rw [if_neg h1]
            by_cases h2 : c ≤ x ∧ x < d
            · rw [if_pos h2, if_pos (by omega)]
            · rw [if_neg h2, if_neg (by omega)]
      · rename_i h
        refine ⟨canon_snoc hc (fun r hr => ?_) hab hv, fun r hr => ?_, fun x => rval_snoc he x⟩
        · simp at hr; subst hr
          by_cases h1 : d = a
          · exact .inr ⟨h1, fun h2 => h ⟨h1, h2⟩⟩
          · exact .inl (by show d < a; omega)
        · rcases List.mem_append.1 hr with h | h
          · have := he r h; omega
          · simp at h; subst h; exact Int.le_refl _

/-- The member that holds at x. -/
theorem rval_mem : ∀ {l : Runs V} {x : Int}, rval e l x = e ∨ ∃ a b, (a, b, rval e l x) ∈ l ∧ a ≤ x ∧ x < b
  | [], _ => .inl rfl
  | (a, b, v) :: t, x => by
    simp only [rval]
    split
    · rename_i h; exact .inr ⟨a, b, by simp, h⟩
    · rcases rval_mem (l := t) (x := x) with h | ⟨a', b', h1, h2⟩
      · exact .inl h
      · exact .inr ⟨a', b', List.mem_cons_of_mem _ h1, h2⟩
theorem rval_of_mem : ∀ {l : Runs V} {a b x : Int} {v : V}, Canon e l → (a, b, v) ∈ l → a ≤ x → x < b → rval e l x = v
  | (c, d, w) :: t, a, b, x, v, hc, hm, h1, h2 => by
    obtain ⟨k1, k2, k3, k4⟩ := hc
    rcases List.mem_cons.1 hm with h | h
    · simp only [Prod.mk.injEq] at h
      obtain ⟨rfl, rfl, rfl⟩ := h
      simp only [rval]; rw [if_pos ⟨h1, h2⟩]
    · have ih := rval_of_mem k4 h h1 h2
      simp only [rval]
      split
      · rename_i h3
        have := canon_ge k4 k3 x h3.2
        -- the member would hold e
        exfalso
        rw [ih] at this
        have : v ≠ e := by
          clear this ih h1 h2 h3 k1 k2 k3 hm
          induction t with
          | nil => simp at h
          | cons r t ih =>
            obtain ⟨_, q2, _, q4⟩ := k4
            rcases List.mem_cons.1 h with h | h
            · subst h; exact q2
            · exact ih q4 h
        exact this (by assumption)
      · exact ih
theorem canon_mem : ∀ {l : Runs V} {a b : Int} {v : V}, Canon e l → (a, b, v) ∈ l → a < b ∧ v ≠ e
  | (c, d, w) :: t, a, b, v, hc, hm => by
    rcases List.mem_cons.1 hm with h | h
    · simp only [Prod.mk.injEq] at h
      obtain ⟨rfl, rfl, rfl⟩ := h
      exact ⟨hc.1, hc.2.1⟩
    · exact canon_mem hc.2.2.2 h
end
end Go.Gb

/- General part of the proofs: reasoning on the mirrored functions, continued: loops over a list as folds, the last element of a list, halving. -/
namespace Go.Gb

/-- An empty slice with room for n elements. -/
def growI (α : Type) (n : Int) : Option (List α) := if 0 ≤ n ∧ n ≤ 1073741824 then some [] else none
theorem growI_some {α : Type} {n : Int} (h0 : 0 ≤ n) (h : n ≤ 1073741824) : growI α n = some [] := if_pos ⟨h0, h⟩

theorem getI_concat {α : Type} {l : List α} {x : α} {i : Int} (h : i = (l.length : Int)) : getI (l ++ [x]) i = some x := by
  subst h; unfold getI; rw [if_pos (by omega)]; simp
theorem set_concat {α : Type} {l : List α} {x y : α} {i : Nat} (h : i = l.length) : (l ++ [x]).set i y = l ++ [y] := by
  subst h; rw [List.set_append_right _ _ (Nat.le_refl _)]; simp
theorem subI_len {α : Type} {l : List α} {x : α} (h : l.length < 4611686018427387904) : subI (((l ++ [x]).length : Nat) : Int) 1 = some (l.length : Int) := by
  rw [subI_some (by unfold inI; simp; omega)]; simp
theorem subI_nat {i : Nat} (h0 : 0 < i) (h : i < 4611686018427387904) : subI (i : Int) 1 = some ((i - 1 : Nat) : Int) := by
  rw [subI_some (by unfold inI; omega)]; congr 1; omega
/-- A loop over the elements of a list. -/
theorem iter_range {σ τ ρ γ : Type} {l : List γ} {body : τ → Option (Flow τ ρ)} {k : Nat} (st : σ → Int → τ) (step : σ → γ → σ) (Inv : Nat → σ → Prop)
    (hs : ∀ i (hi : i < l.length) s, Inv i s → body (st s (i : Int)) = some (.go (st (step s l[i]) ((i + 1 : Nat) : Int))) ∧ Inv (i + 1) (step s l[i]))
    (hd : ∀ s, Inv l.length s → body (st s (l.length : Int)) = some (.ex k (st s (l.length : Int)))) {s0 : σ} (h0 : Inv 0 s0) {fuel : Nat} (hf : l.length < fuel) :
    iterL body fuel (st s0 0) = some (.ex k (st (l.foldl step s0) (l.length : Int))) ∧ Inv l.length (l.foldl step s0) := by
  have key : ∀ m i s, i + m = l.length → Inv i s → ∀ fuel, m < fuel → iterL body fuel (st s (i : Int)) = some (.ex k (st ((l.drop i).foldl step s) (l.length : Int))) ∧ Inv l.length ((l.drop i).foldl step s) := by
    intro m
    induction m with
    | zero =>
      intro i s hi hI fuel hf
      obtain rfl : i = l.length := by omega
      obtain ⟨fuel, rfl⟩ : ∃ m, fuel = m + 1 := ⟨fuel - 1, by omega⟩
      simp only [List.drop_length, List.foldl_nil]
      simp only [iterL, hd s hI]
      exact ⟨trivial, hI⟩
    | succ m ih =>
      intro i s hi hI fuel hf
      obtain ⟨fuel, rfl⟩ : ∃ m, fuel = m + 1 := ⟨fuel - 1, by omega⟩
      have hlt : i < l.length := by omega
      obtain ⟨h1, h2⟩ := hs i hlt s hI
      rw [List.drop_eq_getElem_cons hlt, List.foldl_cons]
      simp only [iterL, h1]
      exact ih (i + 1) _ (by omega) h2 fuel (by omega)
  have := key l.length 0 s0 (by omega) h0 fuel hf
  simpa using this

/-- A loop with a counter from a number on: it ends at N by leaving, or before by a result. -/
theorem iter_from {σ τ ρ : Type} {body : τ → Option (Flow τ ρ)} {k : Nat} (st : σ → Int → τ) (a N : Nat) (hab : a ≤ N) (Inv : Nat → σ → Prop)
    (hs : ∀ i, a ≤ i → i < N → ∀ s, Inv i s → ∃ s', body (st s (i : Int)) = some (.go (st s' ((i + 1 : Nat) : Int))) ∧ Inv (i + 1) s')
    (hd : ∀ s, Inv N s → body (st s (N : Int)) = some (.ex k (st s (N : Int)))) {s0 : σ} (h0 : Inv a s0) {fuel : Nat} (hf : N - a < fuel) :
    ∃ s, iterL body fuel (st s0 (a : Int)) = some (.ex k (st s (N : Int))) ∧ Inv N s := by
  have key : ∀ m i s, i + m = N → a ≤ i → Inv i s → ∀ fuel, m < fuel → ∃ s', iterL body fuel (st s (i : Int)) = some (.ex k (st s' (N : Int))) ∧ Inv N s' := by
    intro m
    induction m with
    | zero =>
      intro i s hi ha hI fuel hf
      obtain rfl : i = N := by omega
      obtain ⟨fuel, rfl⟩ : ∃ m, fuel = m + 1 := ⟨fuel - 1, by omega⟩
      refine ⟨s, ?_, hI⟩
      simp only [iterL, hd s hI]
    | succ m ih =>
      intro i s hi ha hI fuel hf
      obtain ⟨fuel, rfl⟩ : ∃ m, fuel = m + 1 := ⟨fuel - 1, by omega⟩
      obtain ⟨s', h1, h2⟩ := hs i ha (by omega) s hI
      obtain ⟨s2, h3, h4⟩ := ih (i + 1) s' (by omega) (by omega) h2 fuel (by omega)
      refine ⟨s2, ?_, h4⟩
      simp only [iterL, h1]
      exact h3
  exact key (N - a) a s0 (by omega) (Nat.le_refl _) h0 fuel (by omega)

/-- A loop that looks through a list from its start on: it leaves with a result at the first element that has a property, or runs to the end. -/
theorem iter_find {ρ γ : Type} {l : List γ} {body : Int → Option (Flow Int ρ)} {k : Nat} (p : γ → Prop) (r : Nat → ρ)
    (hs : ∀ i (hi : i < l.length), (p l[i] ∧ body (i : Int) = some (.ret (r i))) ∨ (¬ p l[i] ∧ body (i : Int) = some (.go ((i + 1 : Nat) : Int))))
    (hd : body (l.length : Int) = some (.ex k (l.length : Int))) {fuel : Nat} (hf : l.length < fuel) :
    (∃ i, ∃ hi : i < l.length, p l[i] ∧ (∀ j (hj : j < i), ¬ p (l[j]'(by omega))) ∧ iterL body fuel 0 = some (.ret (r i))) ∨
    ((∀ x ∈ l, ¬ p x) ∧ iterL body fuel 0 = some (.ex k (l.length : Int))) := by
  have key : ∀ m i, i + m = l.length → (∀ j (hj : j < i) (hl : j < l.length), ¬ p l[j]) → ∀ fuel, m < fuel →
      (∃ j, ∃ hj : j < l.length, p l[j] ∧ (∀ q (hq : q < j), ¬ p (l[q]'(by omega))) ∧ iterL body fuel (i : Int) = some (.ret (r j))) ∨
      ((∀ j (hj : j < l.length), ¬ p l[j]) ∧ iterL body fuel (i : Int) = some (.ex k (l.length : Int))) := by
    intro m
    induction m with
    | zero =>
      intro i hi hp fuel hf
      obtain rfl : i = l.length := by omega
      obtain ⟨fuel, rfl⟩ : ∃ m, fuel = m + 1 := ⟨fuel - 1, by omega⟩
      refine .inr ⟨fun j hj => hp j hj hj, ?_⟩
      simp only [iterL, hd]
    | succ m ih =>
      intro i hi hp fuel hf
      obtain ⟨fuel, rfl⟩ : ∃ m, fuel = m + 1 := ⟨fuel - 1, by omega⟩
      rcases hs i (by omega) with ⟨h1, h2⟩ | ⟨h1, h2⟩
      · refine .inl ⟨i, by omega, h1, fun q hq => hp q hq (by omega), ?_⟩
        simp only [iterL, h2]
      · simp only [iterL, h2]
        exact ih (i + 1) (by omega) (fun j hj hl => by
          rcases Nat.lt_or_ge j i with h | h
          · exact hp j h hl
          · obtain rfl : j = i := by omega
            exact h1) fuel (by omega)
  rcases key l.length 0 (by omega) (fun j hj _ => absurd hj (Nat.not_lt_zero j)) fuel hf with h | ⟨h1, h2⟩
  · exact .inl h
  · refine .inr ⟨fun x hx => ?_, h2⟩
    obtain ⟨j, hj, rfl⟩ := List.getElem_of_mem hx
    exact h1 j hj

theorem foldl_filterMap {α β : Type} (p : α → Bool) (f : α → β) : ∀ (l : List α) (s : List β), l.foldl (fun s r => if p r then s ++ [f r] else s) s = s ++ (l.filter p).map f
  | [], s => by simp
  | x :: l, s => by
    rw [List.foldl_cons, foldl_filterMap p f l]
    by_cases h : p x = true
    · simp [h]
    · simp [h]
theorem foldl_flatMap {α β : Type} (f : α → List β) : ∀ (l : List α) (s : List β), l.foldl (fun s r => s ++ f r) s = s ++ l.flatMap f
  | [], s => by simp
  | x :: l, s => by rw [List.foldl_cons, foldl_flatMap f l]; simp

end Go.Gb

/- General part of the proofs: own slices in the library's functions: sorted and made compact in place, made with room. -/
namespace Go.Gb
open Go.Proofs Go.Sort Go.RowKit Go.Lib
variable {P : Program}

/-- A slice of the call's own, in a block that the call may write to. -/
def IsOwnW {α : Type} [Enc α] (v : Value) (k : K) (e : TypeId) (xs : List α) : Pred := fun u k' => IsOwn 0 e xs u k' ∧ Wr (obF v) k (obF u)

theorem ownAt {α : Type} [Enc α] {u v : Value} {k : K} {B : Nat} {e : TypeId} {xs : List α} (h : v = u) (g : IsOwn B e xs v k) : OwnAt u B e xs v k := ⟨h, g⟩
theorem repL_int {k : K} : ∀ {xs : List Int} {cs : List Value}, RepL k cs xs ↔ cs = xs.map (Value.int .i64)
  | [], cs => by simp [RepL]
  | x :: xs, cs => by
    rw [repL_flat]
    have : ∀ l : List Int, (l.map fun n => FlatE.enc n).flatten = l.map (Value.int .i64) := by
      intro l
      induction l with
      | nil => rfl
      | cons a l ih => simp only [List.map_cons, List.flatten_cons, ih]; rfl
    rw [this]

section
variable {k0 : K} {b off cap : Nat} {cur : Array Value} {e : TypeId} {xs : List Int} {cs : List Value}
theorem own_holds (hh : k0.w.heap[b]? = some (.cells cur e (0, 0))) (hroom : off + xs.length ≤ cur.size) (hcs : (cur.toList.drop off).take (xs.length * Enc.sz Int) = cs) (hrep : RepL k0 cs xs) :
    Holds (Value.int .i64) k0.w b off xs.toArray := by
  intro j hj
  simp only [List.size_toArray] at hj
  refine ⟨?_, by simp [World.frozen?, hh]⟩
  have h1 : cs[j]? = cur[off + j]? := by
    rw [← hcs, List.getElem?_take, if_pos (by show j < xs.length * 1; omega), List.getElem?_drop, Array.getElem?_toList]
  rw [repL_int.1 hrep, List.getElem?_map, List.getElem?_eq_getElem hj] at h1
  simp only [World.cell?, hh, ← h1]
  rw [getElem!_pos _ j (by simpa using hj)]
  simp
theorem put_own {ys zs : List Int} (hB : 0 ≤ b) (ho : ¬ k0.sh b) (hh : k0.w.heap[b]? = some (.cells cur e (0, 0))) (hc1 : xs.length ≤ cap) (hc0 : 0 < cap) (hcm : cap ≤ maxLen) (hfit : off + cap * Enc.sz Int ≤ cur.size)
    (hlen : (ys ++ zs).length = xs.length) {w' : World} {n : Nat} {os : Array Obj} (hw : w' = grow (putRow (Value.int .i64) (Sort.ahead k0.w n) b off (ys ++ zs).toArray) os) :
    ∃ k' : K, k'.w = w' ∧ Chg (obF (.slice (some ⟨b, off, none⟩) xs.length cap)) k0 k' ∧ IsOwn 0 e ys (.slice (some ⟨b, off, none⟩) ys.length cap) k' := by
  have hlt : b < k0.w.heap.size := (Array.getElem?_eq_some_iff.1 hh).1
  have hsz : k0.w.heap.size ≤ w'.heap.size := by rw [hw]; unfold putRow mapBlock; simp [grow, Sort.ahead]
  have hblk : ∀ x, x < k0.w.heap.size → x ≠ b → w'.heap[x]? = k0.w.heap[x]? := by
    intro x hx hxb
    rw [hw]
    unfold putRow mapBlock
    rw [heap_grow_old _ _ (by simpa [Sort.ahead] using hx)]
    simp [Array.getElem?_modify, hxb.symm, Sort.ahead]
  have hrow : w'.heap[b]? = some (.cells (putCells (Value.int .i64) off (ys ++ zs).toArray cur) e (0, 0)) := by
    rw [hw]
    unfold putRow mapBlock
    rw [heap_grow_old _ _ (by simpa [Sort.ahead] using hlt)]
    simp [Array.getElem?_modify, hh, onCells, Sort.ahead]
  let k' : K := ⟨w', k0.sh, fun x hx => Nat.lt_of_lt_of_le (k0.lt x hx) hsz⟩
  have hyl : ys.length ≤ xs.length := by rw [← hlen, List.length_append]; omega
  have hE : Enc.sz Int = 1 := rfl
  refine ⟨k', rfl, ⟨by rw [show k'.w = w' from rfl, hw]; rfl, by rw [show k'.w = w' from rfl, hw]; rfl, by rw [show k'.w = w' from rfl, hw]; rfl, hsz, fun x hx hF => hblk x hx fun e' => hF (by simp [obF, ob, e', Nat.ne_of_gt hc0]), fun _ h => h, fun _ _ h => .inl h, by rw [show k'.w = w' from rfl, hw]; exact Nat.le_add_right _ _⟩,
    .inr (.inr ⟨b, off, cap, _, _, rfl, hB, ho, hrow, by omega, hc0, hcm, by simpa [putCells] using hfit, rfl, ?_⟩)⟩
  rw [repL_int]
  refine List.ext_getElem? fun t => ?_
  rw [List.getElem?_take, hE, Nat.mul_one]
  split
  · rename_i ht
    have hcur : off + t < cur.size := by rw [hE] at hfit; omega
    rw [List.getElem?_drop, Array.getElem?_toList, putCells, Array.getElem?_mapIdx, Array.getElem?_eq_getElem hcur, Option.map_some, if_pos (by simp only [List.size_toArray]; omega), Nat.add_sub_cancel_left, getElem!_pos _ t (by simp only [List.size_toArray]; omega), List.getElem?_map, List.getElem?_eq_getElem ht]
    simp [List.getElem_append_left ht]
  · rename_i ht
    rw [List.getElem?_eq_none (by simp; omega)]
end

/-- An own slice of numbers, sorted in place. -/
theorem sortI_own {f : FuncId} {S : List Int → List Int} {e : TypeId} {xs : List Int} {v0 : Value} {k0 : K} (hS : (S xs).length = xs.length)
    (hnone : ∀ p cap w, Calls P f #[.slice p 0 cap] w fun e w' => e = .returned (.tuple #[]) ∧ w' = w)
    (hc : ∀ blk off cap (w : World), Holds (Value.int .i64) w blk off xs.toArray → blk < w.heap.size →
      Calls P f #[.slice (some ⟨blk, off, none⟩) xs.length cap] w fun e w' => e = .returned (.tuple #[]) ∧ ∃ n os, w' = grow (putRow (Value.int .i64) (Sort.ahead w n) blk off (S xs).toArray) os)
    (i0 : IsOwn 0 e xs v0 k0) : Calls P f #[v0] k0.w (RetC (obF v0) k0 fun _ k' => IsOwn 0 e (S xs) v0 k') := by
  have hz : ∀ p cap, v0 = .slice p 0 cap → xs = [] → Calls P f #[v0] k0.w (RetC (obF v0) k0 fun _ k' => IsOwn 0 e (S xs) v0 k') := by
    intro p cap hv hx
    have hS0 : S xs = [] := List.length_eq_zero_iff.1 (by rw [hS, hx]; rfl)
    subst hv
    refine (hnone p cap k0.w).mono ?_
    rintro e' w' ⟨rfl, rfl⟩
    refine ⟨k0, rfl, Chg.refl _ k0, ?_⟩
    rw [hS0]
    rw [hx] at i0
    exact i0
  rcases i0 with ⟨hv, hx⟩ | ⟨a, hv, hx⟩ | ⟨b, off, cap, cur, cs, rfl, hB, ho, hh, hc1, hc0, hcm, hfit, hcs, hrep⟩
  · exact hz _ _ hv hx
  · exact hz _ _ hv hx
  · have hlt : b < k0.w.heap.size := (Array.getElem?_eq_some_iff.1 hh).1
    have hE : Enc.sz Int = 1 := rfl
    have hH := own_holds hh (by rw [hE] at hfit; omega) hcs hrep
    refine (hc b off cap k0.w hH hlt).mono ?_
    rintro e' w' ⟨rfl, n, os, hw⟩
    obtain ⟨k', e1, hg, hown⟩ := put_own (xs := xs) (ys := S xs) (zs := []) hB ho hh hc1 hc0 hcm hfit (by simpa using hS) (by simpa using hw)
    exact ⟨k', e1, hg, by rw [hS] at hown; exact hown⟩

/-- An own slice of numbers, made compact in place. -/
theorem compactI_own {f : FuncId} {e : TypeId} {xs : List Int} {v0 : Value} {k0 : K} (hl : (compact xs).length ≤ xs.length) (hlen : xs.length ≤ 1073741824)
    (hnone : ∀ p cap w, Calls P f #[.slice p 0 cap] w fun e w' => e = .returned (.slice p 0 cap) ∧ w' = w)
    (hc : ∀ blk off cap (w : World), Holds (Value.int .i64) w blk off xs.toArray → xs.length ≤ cap →
      Calls P f #[.slice (some ⟨blk, off, none⟩) xs.length cap] w fun e w' => e = .returned (.slice (some ⟨blk, off, none⟩) (compact xs).length cap) ∧
        ∃ q, w' = putRow (Value.int .i64) (Sort.ahead w q) blk off (compact xs ++ List.replicate (xs.length - (compact xs).length) 0).toArray)
    (i0 : IsOwn 0 e xs v0 k0) : Calls P f #[v0] k0.w (RetC (obF v0) k0 (IsOwnW v0 k0 e (compact xs))) := by
  have hz : ∀ p cap, v0 = .slice p 0 cap → xs = [] → Calls P f #[v0] k0.w (RetC (obF v0) k0 (IsOwnW v0 k0 e (compact xs))) := by
    intro p cap hv hx
    have hS0 : compact xs = [] := List.length_eq_zero_iff.1 (by rw [hx] at hl ⊢; simpa using hl)
    subst hv
    refine (hnone p cap k0.w).mono ?_
    rintro e' w' ⟨rfl, rfl⟩
    refine ⟨k0, rfl, Chg.refl _ k0, ?_, fun b h => .inl h⟩
    rw [hS0]
    rw [hx] at i0
    exact i0
  rcases i0 with ⟨hv, hx⟩ | ⟨a, hv, hx⟩ | ⟨b, off, cap, cur, cs, rfl, hB, ho, hh, hc1, hc0, hcm, hfit, hcs, hrep⟩
  · exact hz _ _ hv hx
  · exact hz _ _ hv hx
  · have hE : Enc.sz Int = 1 := rfl
    have hH := own_holds hh (by rw [hE] at hfit; omega) hcs hrep
    refine (hc b off cap k0.w hH hc1).mono ?_
    rintro e' w' ⟨rfl, q, hw⟩
    obtain ⟨k', e1, hg, hown⟩ := put_own (xs := xs) (ys := compact xs) (zs := List.replicate (xs.length - (compact xs).length) 0) (n := q) (os := #[]) (w' := w') hB ho hh hc1 hc0 hcm hfit (by simp; omega) (by rw [hw, grow_empty])
    refine ⟨k', e1, hg, hown, fun b h => .inl ?_⟩
    simpa [obF, ob] using h

/-- A new slice without elements, with room. -/
theorem grow_own {f : FuncId} {α : Type} [Enc α] {e : TypeId} {n : Int} {r : List α} {v0 v1 : Value} {k0 : K} (he : ElemOk P e α) (i0 : v0 = .slice none 0 0) (i1 : IsV n v1 k0) (hr : growI α n = some r)
    (h0 : Calls P f #[.slice none 0 0, .int .i64 0] k0.w fun e w' => e = .returned (.slice none 0 0) ∧ w' = k0.w)
    (h1 : ∀ (m : Nat) (i : TypeInfo) (z : Value), 0 < m → m ≤ 1073741824 → P.info? e = some i → i.zero = some z → 0 < i.size → i.bytes ≤ 65536 →
      Calls P f #[.slice none 0 0, .int .i64 (m : Int)] k0.w fun en w' => en = .returned (.slice (some ⟨k0.w.heap.size, 0, none⟩) 0 (grownCap k0.w (0 + m) 0 e)) ∧
        w' = k0.w.drew.alloc (.cells (([] : List Value).toArray ++ Builtin.zeroCells z.cells (0 + m - 0) ++ Builtin.zeroCells z.cells (grownCap k0.w (0 + m) 0 e - (0 + m))) e)) :
    Calls P f #[v0, v1] k0.w (Ret k0 (IsOwn k0.w.heap.size e r)) := by
  subst i0
  obtain rfl := isV_int.1 i1
  unfold growI at hr
  split at hr
  · rename_i hn
    obtain rfl := Option.some.inj hr
    rcases Int.lt_or_le 0 n with hp | hp
    · obtain ⟨m, rfl⟩ : ∃ m : Nat, n = (m : Int) := ⟨n.toNat, by omega⟩
      obtain ⟨i, z, hi, hiz, hsz, hzs, hpos, hby⟩ := he
      refine (h1 m i z (by omega) (by omega) hi hiz (by omega) hby).mono ?_
      rintro e' w' ⟨rfl, hw⟩
      have hge := grownCap_ge k0.w (0 + m) 0 e
      have hcm : grownCap k0.w (0 + m) 0 e ≤ maxLen := grownCap_le_maxLen k0.w _ 0 e (by unfold maxLen; omega)
      generalize grownCap k0.w (0 + m) 0 e = cap at hge hcm hw
      let k' : K := ⟨w', k0.sh, fun b hb => by have := k0.lt b hb; rw [hw]; simp; omega⟩
      have hblk : ∀ b, b < k0.w.heap.size → w'.heap[b]? = k0.w.heap[b]? := fun b hb => by rw [hw]; exact (World.grownBy_alloc k0.w.drew _ none).block b hb (by simp)
      refine ⟨k', rfl, ⟨by rw [show k'.w = w' from rfl, hw]; rfl, by rw [show k'.w = w' from rfl, hw]; rfl, by rw [show k'.w = w' from rfl, hw]; rfl, by rw [show k'.w = w' from rfl, hw]; simp, hblk, fun _ h => h, fun _ _ h => h, by rw [show k'.w = w' from rfl, hw]; exact Nat.le_succ _⟩,
        .inr (.inr ⟨k0.w.heap.size, 0, cap, _, [], rfl, Nat.le_refl _, fun hs => Nat.lt_irrefl _ (k0.lt _ hs), by rw [show k'.w = w' from rfl, hw]; exact heap_alloc_new k0.w.drew _, Nat.zero_le _, by omega, hcm, ?_, by simp, rfl⟩)⟩
      simp only [Array.size_append, List.size_toArray, size_zeroCells, hzs]
      simp only [List.length_nil, Nat.zero_add, Nat.sub_zero]
      rw [← Nat.add_mul]
      exact Nat.mul_le_mul_right _ (by omega)
    · obtain rfl : n = 0 := by omega
      refine h0.mono ?_
      rintro e' w' ⟨rfl, rfl⟩
      exact ⟨k0, rfl, Grow.refl k0, .inl ⟨rfl, rfl⟩⟩
  · simp at hr

/-- What growing makes of a world. -/
theorem grow_world {k k' : K} (h : Grow k k') : ∃ q os', k'.w = grow (k.w.drewN q) os' := by
  refine ⟨k'.w.drawn - k.w.drawn, k'.w.heap.extract k.w.heap.size k'.w.heap.size, ?_⟩
  have e1 : k'.w.heap = k.w.heap ++ k'.w.heap.extract k.w.heap.size k'.w.heap.size := by
    have hs := h.size
    refine Array.ext_getElem? fun i => ?_
    rw [Array.getElem?_append]
    split
    · rename_i hi
      exact h.blk i hi
    · rename_i hi
      rw [Array.getElem?_extract]
      split
      · congr 1; omega
      · rw [Array.getElem?_eq_none]; omega
  have e2 : k'.w.drawn = k.w.drawn + (k'.w.drawn - k.w.drawn) := by have := h.drawn; omega
  have h1 := h.tape; have h2 := h.os; have h3 := h.out
  unfold grow World.drewN
  revert e1 e2 h1 h2 h3
  generalize k'.w = w'
  generalize k.w = w
  obtain ⟨a, b, c, d, e⟩ := w
  obtain ⟨a', b', c', d', e'⟩ := w'
  dsimp only
  rintro h1 h2 h3 h4 h5
  rw [World.mk.injEq]
  exact ⟨h1, h3, h2, h4, h5⟩
theorem ret_cmp {f : FuncId} {args : Array Value} {k : K} {r : Int} (h : Calls P f args k.w (Ret k (IsV r))) : Calls P f args k.w fun e w' => e = .returned (.int .i64 r) ∧ ∃ q os', w' = grow (k.w.drewN q) os' := h.mono fun e w' he => by
  cases e with
  | returned v =>
    obtain ⟨k', rfl, hg, hv⟩ := he
    exact ⟨by rw [isV_int.1 hv], grow_world hg⟩
  | panicked c => exact he.elim
  | outgrown => exact he.elim
/-- A world with nothing shared. -/
def kFree (w : World) : K := ⟨w, fun _ => False, fun _ h => h.elim⟩
theorem isV_flat {α : Type} [Enc α] [FlatE α] (h : Enc.agg α = true) (x : α) (k : K) : IsV x (.agg (FlatE.enc x).toArray) k := ⟨FlatE.enc x, by rw [h]; rfl, FlatE.rep.2 rfl⟩

/-! What sorting and making compact do, plainly. -/
theorem keeps_val {α : Type} [DecidableEq α] [Inhabited α] {zs : List α} {j : Nat} (hj : j < zs.length) (h0 : 0 < j) : keeps zs.toArray j = decide (zs[j] ≠ zs[j - 1]'(by omega)) := by
  unfold keeps
  rw [getElem!_pos _ j (by simpa using hj), getElem!_pos _ (j - 1) (by simp; omega)]
  simp [Nat.ne_of_gt h0]
theorem compact_sorted {l : List Int} (hs : l.Pairwise fun a b => a ≤ b) : (compact l).Pairwise (fun a b => a < b) ∧ (∀ x, x ∈ compact l ↔ x ∈ l) ∧ (compact l).length ≤ l.length := by
  have hs' := List.pairwise_iff_getElem.1 hs
  have key : ∀ m, m ≤ l.length → (compactUpTo l.toArray m).Pairwise (fun a b => a < b) ∧ (∀ x, x ∈ compactUpTo l.toArray m ↔ x ∈ l.take m) ∧ (compactUpTo l.toArray m).length ≤ m := by
    intro m
    induction m with
    | zero => intro _; simp [compactUpTo]
    | succ m ih =>
      intro hm
      obtain ⟨h1, h2, h3⟩ := ih (by omega)
      rw [compactUpTo_succ, List.take_succ_eq_append_getElem (by omega : m < l.length)]
      have e : l.toArray[m]! = l[m] := by rw [getElem!_pos _ m (by simp; omega)]; simp
      rcases Nat.eq_zero_or_pos m with rfl | h0
      · simp [keeps, compactUpTo, e]
      · rw [keeps_val (by omega) h0, e]
        have hle : l[m - 1]'(by omega) ≤ l[m] := hs' (m - 1) m (by omega) (by omega) (by omega)
        by_cases he : l[m] = l[m - 1]'(by omega)
        · simp only [he, ne_eq, not_true_eq_false, decide_false, Bool.false_eq_true, if_false, List.append_nil]
          refine ⟨h1, fun x => ?_, by omega⟩
          rw [h2]
          constructor
          · intro h; exact List.mem_append_left _ h
          · intro h
            rcases List.mem_append.1 h with h | h
            · exact h
            · simp only [List.mem_singleton] at h
              subst h
              rw [List.mem_iff_getElem]
              exact ⟨m - 1, by simp; omega, by simp⟩
        · simp only [ne_eq, he, not_false_eq_true, decide_true, if_true]
          refine ⟨?_, fun x => ?_, by simp; omega⟩
          · rw [List.pairwise_append]
            refine ⟨h1, List.pairwise_singleton _ _, fun x hx y hy => ?_⟩
            simp only [List.mem_singleton] at hy
            subst hy
            have := (h2 x).1 hx
            obtain ⟨j, hj, rfl⟩ := List.getElem_of_mem this
            rw [List.getElem_take]
            simp only [List.length_take] at hj
            have h5 : l[j]'(by omega) ≤ l[m - 1]'(by omega) := by
              rcases Nat.lt_or_ge j (m - 1) with h | h
              · exact hs' j (m - 1) (by omega) (by omega) h
              · have : j = m - 1 := by omega
                subst this; exact Int.le_refl _
            omega
          · rw [List.mem_append, List.mem_append, h2]
  have := key l.length (Nat.le_refl _)
  rwa [List.take_length] at this
theorem compact_length {l : List Int} : (compact l).length ≤ l.length := by
  unfold compact compactUpTo
  rw [List.length_map]
  exact Nat.le_trans (List.length_filter_le _ _) (by simp)
/-- The numbers, sorted. -/
def sortInts (l : List Int) : Option (List Int) := if l.length ≤ 1073741824 then some (l.mergeSort fun x y => decide (x ≤ y)) else none
theorem sortInts_spec {l : List Int} (h : l.length ≤ 1000000) : ∃ r, sortInts l = some r ∧ r.Perm l ∧ r.Pairwise fun a b => a ≤ b := by
  refine ⟨_, if_pos (by omega), List.mergeSort_perm _ _, ?_⟩
  have := List.pairwise_mergeSort (le := fun x y : Int => decide (x ≤ y)) (by intro a b c; simp; omega) (by intro a b; simp; omega) l
  simpa using this
/-- Each number once. -/
def compactInts (l : List Int) : Option (List Int) := if l.length ≤ 1073741824 then some (compact l) else none
theorem compactInts_spec {l : List Int} (h : l.length ≤ 1000000) (hs : l.Pairwise fun a b => a ≤ b) : ∃ r, compactInts l = some r ∧ r.Pairwise (fun a b => a < b) ∧ (∀ x, x ∈ r ↔ x ∈ l) ∧ r.length ≤ l.length :=
  ⟨_, if_pos (by omega), compact_sorted hs⟩
end Go.Gb

/- General part of the proofs: building runs from cuts; loops that may end early; sums. -/
namespace Go.Gb
section
variable {V : Type} [DecidableEq V] {e : V}

/-- The runs of a function that is constant between neighbouring cuts. -/
def build (e : V) (zs : List Int) (A : Int → V) : Nat → Runs V
  | 0 => []
  | i + 1 => pushR e (build e zs A i) (zs.getD i 0) (zs.getD (i + 1) 0) (A (zs.getD i 0))
theorem getD_get {zs : List Int} {i : Nat} (h : i < zs.length) : zs.getD i 0 = zs[i] := by
  rw [List.getD_eq_getElem?_getD, List.getElem?_eq_getElem h]; rfl
theorem build_succ {zs : List Int} {A : Int → V} {i : Nat} (h : i + 1 < zs.length) : build e zs A (i + 1) = pushR e (build e zs A i) (zs[i]'(by omega)) zs[i + 1] (A (zs[i]'(by omega))) := by
  rw [build, getD_get (by omega), getD_get h]
theorem build_spec {zs : List Int} (hz : zs.Pairwise fun a b => a < b) (A : Int → V) : ∀ (n : Nat), n < zs.length → Canon e (build e zs A n) ∧ (∀ h : n < zs.length, EndsBy (build e zs A n) zs[n]) ∧
    (∀ j (hj : j + 1 < zs.length), j < n → ∀ z, zs[j] ≤ z → z < zs[j + 1] → rval e (build e zs A n) z = A zs[j]) ∧ (∀ z, (∀ j (hj : j + 1 < zs.length), j < n → ¬ (zs[j] ≤ z ∧ z < zs[j + 1])) → rval e (build e zs A n) z = e) ∧
    (∀ r ∈ build e zs A n, ∃ j, ∃ hj : j < zs.length, j < n ∧ r.2.2 = A zs[j])
  | 0, _ => ⟨trivial, fun _ r hr => by simp [build] at hr, fun j _ h => absurd h (Nat.not_lt_zero j), fun z _ => rfl, fun r hr => by simp [build] at hr⟩
  | n + 1, hn => by
    obtain ⟨h1, h2, h3, h4, h5⟩ := build_spec hz A n (by omega)
    have hlt : zs[n]'(by omega) < zs[n + 1] := (List.pairwise_iff_getElem.1 hz) n (n + 1) (by omega) hn (by omega)
    obtain ⟨k1, k2, k3⟩ := pushR_spec (A (zs[n]'(by omega))) h1 (h2 (by omega)) hlt
    rw [build_succ hn]
    refine ⟨k1, fun _ => k2, fun j hj hjn z a1 a2 => ?_, fun z hz' => ?_, fun r hr => ?_⟩
    · rw [k3]
      rcases Nat.lt_or_ge j n with h | h
      · have : zs[j + 1] ≤ zs[n]'(by omega) := by
          rcases Nat.lt_or_ge (j + 1) n with h' | h'
          · exact Int.le_of_lt ((List.pairwise_iff_getElem.1 hz) (j + 1) n hj (by omega) h')
          · have : j + 1 = n := by omega
            subst this; exact Int.le_refl _
        rw [if_neg (by omega)]
        exact h3 j hj h z a1 a2
      · have : j = n := by omega
        subst this
        rw [if_pos ⟨a1, a2⟩]
    · rw [k3, if_neg (hz' n hn (by omega))]
      exact h4 z fun j hj hjn => hz' j hj (by omega)
    · have : r.2.2 = A (zs[n]'(by omega)) ∨ ∃ q ∈ build e zs A n, q.2.2 = r.2.2 := by
        unfold pushR at hr
        split at hr
        · exact .inr ⟨r, hr, rfl⟩
        · split at hr
          · rename_i c d w hl
            split at hr
            · rename_i hc
              rcases List.mem_append.1 hr with h | h
              · exact .inr ⟨r, (List.dropLast_sublist _).subset h, rfl⟩
              · simp only [List.mem_singleton] at h; subst h; exact .inl rfl
            · rcases List.mem_append.1 hr with h | h
              · exact .inr ⟨r, h, rfl⟩
              · simp only [List.mem_singleton] at h; subst h; exact .inl rfl
          · simp only [List.mem_singleton] at hr; subst hr; exact .inl rfl
      rcases this with h | ⟨q, hq, h⟩
      · exact ⟨n, by omega, by omega, h⟩
      · obtain ⟨j, hj, hjn, h'⟩ := h5 q hq
        exact ⟨j, hj, by omega, by rw [← h, h']⟩
omit [DecidableEq V] in
theorem canon_iff : ∀ {l : Runs V}, Canon e l ↔ (∀ i (h : i < l.length), l[i].1 < l[i].2.1 ∧ l[i].2.2 ≠ e) ∧ ∀ i (h : i + 1 < l.length), l[i].2.1 < l[i + 1].1 ∨ (l[i].2.1 = l[i + 1].1 ∧ l[i].2.2 ≠ l[i + 1].2.2)
  | [] => ⟨fun _ => ⟨fun i h => absurd h (Nat.not_lt_zero i), fun i h => absurd h (Nat.not_lt_zero _)⟩, fun _ => trivial⟩
  | [(a, b, v)] => ⟨fun h => ⟨fun i hi => by
      have : i = 0 := by simp at hi; omega
      subst this; exact ⟨h.1, h.2.1⟩, fun i hi => absurd hi (by simp)⟩, fun h => ⟨(h.1 0 (by simp)).1, (h.1 0 (by simp)).2, trivial, trivial⟩⟩
  | (a, b, v) :: (c, d, w) :: t => by
    have ih := canon_iff (l := (c, d, w) :: t)
    constructor
    · intro h
      obtain ⟨h1, h2⟩ := ih.1 h.2.2.2
      refine ⟨fun i hi => ?_, fun i hi => ?_⟩
      · cases i with
        | zero => exact ⟨h.1, h.2.1⟩
        | succ i => exact h1 i (by simpa using hi)
      · cases i with
        | zero => exact h.2.2.1
        | succ i => exact h2 i (by simpa using hi)
    · rintro ⟨h1, h2⟩
      refine ⟨(h1 0 (by simp)).1, (h1 0 (by simp)).2, h2 0 (by simp), ih.2 ⟨fun i hi => ?_, fun i hi => ?_⟩⟩
      · exact h1 (i + 1) (by simpa using hi)
      · exact h2 (i + 1) (by simpa using hi)
end

/-- A loop with a counter from a number on: it ends at N by leaving, or before by a result. -/
theorem iter_fromR {σ τ ρ : Type} {body : τ → Option (Flow τ ρ)} {k : Nat} (st : σ → Int → τ) (a N : Nat) (hab : a ≤ N) (Inv : Nat → σ → Prop) (Post : ρ → Prop)
    (hs : ∀ i, a ≤ i → i < N → ∀ s, Inv i s → (∃ s', body (st s (i : Int)) = some (.go (st s' ((i + 1 : Nat) : Int))) ∧ Inv (i + 1) s') ∨ (∃ r, body (st s (i : Int)) = some (.ret r) ∧ Post r))
    (hd : ∀ s, Inv N s → body (st s (N : Int)) = some (.ex k (st s (N : Int)))) {s0 : σ} (h0 : Inv a s0) {fuel : Nat} (hf : N - a < fuel) :
    (∃ s, iterL body fuel (st s0 (a : Int)) = some (.ex k (st s (N : Int))) ∧ Inv N s) ∨ (∃ r, iterL body fuel (st s0 (a : Int)) = some (.ret r) ∧ Post r) := by
  have key : ∀ m i s, i + m = N → a ≤ i → Inv i s → ∀ fuel, m < fuel → (∃ s', iterL body fuel (st s (i : Int)) = some (.ex k (st s' (N : Int))) ∧ Inv N s') ∨ (∃ r, iterL body fuel (st s (i : Int)) = some (.ret r) ∧ Post r) := by
    intro m
    induction m with
    | zero =>
      intro i s hi ha hI fuel hf
      obtain rfl : i = N := by omega
      obtain ⟨fuel, rfl⟩ : ∃ m, fuel = m + 1 := ⟨fuel - 1, by omega⟩
      refine .inl ⟨s, ?_, hI⟩
      simp only [iterL, hd s hI]
    | succ m ih =>
      intro i s hi ha hI fuel hf
      obtain ⟨fuel, rfl⟩ : ∃ m, fuel = m + 1 := ⟨fuel - 1, by omega⟩
      rcases hs i ha (by omega) s hI with ⟨s', h1, h2⟩ | ⟨r, h1, h2⟩
      · simp only [iterL, h1]
        exact ih (i + 1) s' (by omega) (by omega) h2 fuel (by omega)
      · refine .inr ⟨r, ?_, h2⟩
        simp only [iterL, h1]
  exact key (N - a) a s0 (by omega) (Nat.le_refl _) h0 fuel (by omega)

/-- A loop that checks numbers from 0 on: it leaves with a result at the first that has a property, or runs to the end. -/
theorem iter_findN {ρ : Type} {body : Int → Option (Flow Int ρ)} {k : Nat} (N : Nat) (p : Nat → Prop) (r : Nat → ρ)
    (hs : ∀ i, i < N → (∀ j, j < i → ¬ p j) → (p i ∧ body (i : Int) = some (.ret (r i))) ∨ (¬ p i ∧ body (i : Int) = some (.go ((i + 1 : Nat) : Int))))
    (hd : body (N : Int) = some (.ex k (N : Int))) {fuel : Nat} (hf : N < fuel) :
    (∃ i, i < N ∧ p i ∧ (∀ j, j < i → ¬ p j) ∧ iterL body fuel 0 = some (.ret (r i))) ∨ ((∀ i, i < N → ¬ p i) ∧ iterL body fuel 0 = some (.ex k (N : Int))) := by
  have key : ∀ m i, i + m = N → (∀ j, j < i → ¬ p j) → ∀ fuel, m < fuel →
      (∃ j, j < N ∧ p j ∧ (∀ q, q < j → ¬ p q) ∧ iterL body fuel (i : Int) = some (.ret (r j))) ∨ ((∀ j, j < N → ¬ p j) ∧ iterL body fuel (i : Int) = some (.ex k (N : Int))) := by
    intro m
    induction m with
    | zero =>
      intro i hi hp fuel hf
      obtain rfl : i = N := by omega
      obtain ⟨fuel, rfl⟩ : ∃ m, fuel = m + 1 := ⟨fuel - 1, by omega⟩
      refine .inr ⟨hp, ?_⟩
      simp only [iterL, hd]
    | succ m ih =>
      intro i hi hp fuel hf
      obtain ⟨fuel, rfl⟩ : ∃ m, fuel = m + 1 := ⟨fuel - 1, by omega⟩
      rcases hs i (by omega) hp with ⟨h1, h2⟩ | ⟨h1, h2⟩
      · refine .inl ⟨i, by omega, h1, hp, ?_⟩
        simp only [iterL, h2]
      · simp only [iterL, h2]
        exact ih (i + 1) (by omega) (fun j hj => by
          rcases Nat.lt_or_ge j i with h | h
          · exact hp j h
          · obtain rfl : j = i := by omega
            exact h1) fuel (by omega)
  exact key N 0 (by omega) (fun j hj => absurd hj (Nat.not_lt_zero j)) fuel hf

/-! Sums -/
def sumN (f : Nat → Int) : Nat → Int
  | 0 => 0
  | n + 1 => sumN f n + f n
theorem sumN_congr {f g : Nat → Int} : ∀ {n : Nat}, (∀ i, i < n → f i = g i) → sumN f n = sumN g n
  | 0, _ => rfl
  | n + 1, h => by rw [sumN, sumN, sumN_congr fun i hi => h i (by omega), h n (by omega)]
theorem sumN_add {f g : Nat → Int} : ∀ {n : Nat}, sumN (fun i => f i + g i) n = sumN f n + sumN g n
  | 0 => rfl
  | n + 1 => by simp only [sumN, sumN_add (n := n)]; omega
end Go.Gb

/- General part of the proofs: short forms of the steps. -/
namespace Go.Gb
abbrev IsI (x : Int) : Pred := IsV x
abbrev IsL {α : Type} (x : List α) : Pred := IsV (x.length : Int)
/-- what holds of the slots -/
def Al : List (Nat × Pred) → Act → K → Prop
  | [], _, _ => True
  | (t, R) :: l, a, k => R (a.get t) k ∧ Al l a k
section
variable {P : Program} {a a0 a' : Act} {k k0 k' kk : K} {R : Pred} {o : Oper} {es : List Ent} {F : FP} {n : Nat} {Q : Exit → Act → World → Prop} {A : Array Oper} {m : Nat} {ops : List Oper}
theorem gS {id : Nat} (m : Nat) (es : List Ent) (hn : a0.tmps.size = n) (hchk : chkS n m A.toList es = true)
    (hst : Steps P es a0 k0 (A.toList.take m) es) (hQ : LetsOut Q)
    (hpost : ∀ a k, Post A.toList es m a0 k0 a k → wpOps P A Q (List.range' m (A.size - m)) a k.w) : (Code.region id A false).wp P Q a0 k0.w :=
  regionS es hn hchk hst hQ hpost
theorem cutS {x y : Code} (T : Act → K → Prop)
    (h1 : ∀ Q' : Exit → Act → World → Prop, LetsOut Q' → (∀ a' k', T a' k' → Q' .normal a' k'.w) → x.wp P Q' a k.w)
    (h2 : ∀ a' k', T a' k' → y.wp P Q a' k'.w) : (Code.seq x y).wp P Q a k.w :=
  wp_seq (h1 _ trivial h2)
theorem cutL {x y : Code} (F : FP) (kk : K) (n : Nat) (l : List (Nat × Pred))
    (h1 : ∀ Q' : Exit → Act → World → Prop, LetsOut Q' → (∀ a' k', Bs F kk n a' k' ∧ Al l a' k' → Q' .normal a' k'.w) → x.wp P Q' a k.w)
    (h2 : ∀ a' k', Bs F kk n a' k' ∧ Al l a' k' → y.wp P Q a' k'.w) : (Code.seq x y).wp P Q a k.w :=
  wp_seq (h1 _ trivial h2)
/-- A region, and what is then used of it. -/
theorem stepL {id : Nat} {y : Code} (m : Nat) (es : List Ent) (hm : A.size = m) (H : Bs F kk n a k) (hchk : chkS n m A.toList es = true)
    (hst : Steps P es a k (A.toList.take m) es) (l : List (Nat × Pred)) (hl : ∀ b q, Post A.toList es m a k b q → Al l b q)
    (h2 : ∀ a' k', Bs F kk n a' k' ∧ Al l a' k' → y.wp P Q a' k'.w) : (Code.seq (Code.region id A false) y).wp P Q a k.w := by
  refine wp_seq ?_
  refine regionS es H.s hchk hst trivial fun b q p => ?_
  rw [hm, Nat.sub_self]
  exact tail_done (k := q) (h2 _ _ ⟨Bs.post H p, hl _ _ p⟩)
theorem Post.ke {b : Act} {q : K} [Mono R] (p : Post ops es m a k b q) (t : Nat) (ht : allI (fun i o => i ≥ m || o.dst != some t) 0 ops = true) (h : R (a.get t) k) : R (b.get t) q := keep p t ht h
theorem Post.ou {b : Act} {q : K} {nd : List (Nat × Option Nat)} (p : Post ops es m a k b q) (i d : Nat) (h : (Nat.blt i m, (nth ops i).bind (·.dst), nth es i) = (true, some d, some ⟨some R, nd⟩)) : R (b.get d) q :=
  out p i d nd (Prod.mk.inj h).1 (Prod.mk.inj (Prod.mk.inj h).2).1 (Prod.mk.inj (Prod.mk.inj h).2).2
theorem o1 (nd : List (Nat × Option Nat)) [Mono R] (hg : o.guard = none) (h : ∀ a k, Grow k0 k → Known es a0 a k nd → Does P o a k R) : Ob P es a0 k0 o ⟨some R, nd⟩ := ob1 hg h
theorem mu {t : Nat} [Mono R] (h : (o.guard, o.op) = (none, .move (.tmp t))) (i : R (a0.get t) k0) : Ob P es a0 k0 o ⟨some R, [(t, none)]⟩ :=
  ob1 (Prod.mk.inj h).1 fun _ _ g n => ok_move (Prod.mk.inj h).2 (up i g n.1)
theorem cp {t : Nat} (j : Nat) {nd : List (Nat × Option Nat)} [Mono R] (h : (o.guard, o.op) = (none, .assign (.tmp t))) (hj : nth es j = some ⟨some R, nd⟩) : Ob P es a0 k0 o ⟨some R, [(t, some j)]⟩ :=
  ob1 (Prod.mk.inj h).1 fun a k _ n => ok_assign (Prod.mk.inj h).2 (show R (a.get t) k by have h1 := n.1; rw [hj] at h1; exact h1)
theorem cm {t : Nat} (j : Nat) {nd : List (Nat × Option Nat)} [Mono R] (h : (o.guard, o.op) = (none, .move (.tmp t))) (hj : nth es j = some ⟨some R, nd⟩) : Ob P es a0 k0 o ⟨some R, [(t, some j)]⟩ :=
  ob1 (Prod.mk.inj h).1 fun a k _ n => ok_move (Prod.mk.inj h).2 (show R (a.get t) k by have h1 := n.1; rw [hj] at h1; exact h1)
theorem aI {x : Int} {y : Operand} (h : (o.guard, o.op) = (none, .assign y)) (hy : y = .const (.int .i64 x)) : Ob P es a0 k0 o ⟨some (IsI x), []⟩ := by
  subst hy; exact ob1 (Prod.mk.inj h).1 fun _ _ _ _ => ok_assign (Prod.mk.inj h).2 (isV_int.2 rfl)
theorem cI {x : Int} {v : Value} (h : v = .int .i64 x) : IsV x v k := isV_int.2 h
theorem cB {p : Prop} {x : Bool} {v : Value} (h : v = .bool x) (_ : p) : IsV x v k := isV_bool.2 h
end
section
variable {P : Program} {o : Oper} {a0 : Act} {k0 : K} {R : Pred} {es : List Ent} {nj : List (Nat × Option Nat)} {j : Nat} {m : Bool}
theorem gT (nd : List (Nat × Option Nat)) [Mono R] (hg : o.guard = some (j, true)) (hj : nth es j = some ⟨some (IsV m), nj⟩) (h : m = true → ∀ a k, Grow k0 k → Known es a0 a k nd → Does P o a k R) : Ob P es a0 k0 o ⟨some (Gd (m = true) R), nd⟩ := gdT hg hj h
theorem gF (nd : List (Nat × Option Nat)) [Mono R] (hg : o.guard = some (j, false)) (hj : nth es j = some ⟨some (IsV m), nj⟩) (h : m = false → ∀ a k, Grow k0 k → Known es a0 a k nd → Does P o a k R) : Ob P es a0 k0 o ⟨some (Gd (m = false) R), nd⟩ := gdF hg hj h
theorem mT {t : Nat} [Mono R] (h : (o.guard, o.op) = (some (j, true), .move (.tmp t))) (hj : nth es j = some ⟨some (IsV m), nj⟩) (i : R (a0.get t) k0) : Ob P es a0 k0 o ⟨some (Gd (m = true) R), [(t, none)]⟩ :=
  gdT (Prod.mk.inj h).1 hj fun _ _ _ g n => ok_move (Prod.mk.inj h).2 (up i g n.1)
theorem mF {t : Nat} [Mono R] (h : (o.guard, o.op) = (some (j, false), .move (.tmp t))) (hj : nth es j = some ⟨some (IsV m), nj⟩) (i : R (a0.get t) k0) : Ob P es a0 k0 o ⟨some (Gd (m = false) R), [(t, none)]⟩ :=
  gdF (Prod.mk.inj h).1 hj fun _ _ _ g n => ok_move (Prod.mk.inj h).2 (up i g n.1)
end
end Go.Gb

/- General part of the proofs: pointers to boxes that are handed to calls, and methods that hold one. -/
namespace Go.Gb
section
variable {P : Program} {o : Oper} {a a' : Act} {k k' k0 : K} {R : Pred} {α : Type} [Enc α] {F : FP}
/-- what a call has left in a box -/
def IsTurn (b : Nat) (x : α) : Pred := fun _ k => Gb.Box b x k
theorem ok_moveB {x : Operand} {b : Nat} (ho : o.op = .move x) (h : a.eval x = .pointer (some ⟨b, 0, none⟩)) : Does P o a k (IsAdr b 0) := ok_move ho h
theorem ok_nilCheckV {x : Operand} (ho : o.op = .nilCheck x) (hv : ∃ ad, a.eval x = .pointer (some ad)) (h : R (a.eval x) k) : Does P o a k R := by
  obtain ⟨ad, e⟩ := hv
  exact does_pure (v := a.eval x) (by simp [execOp, ho, e]) h
theorem ok_nilCheckA {x : Operand} {b m : Nat} (ho : o.op = .nilCheck x) (h : IsAdr b m (a.eval x) k) : Does P o a k (IsAdr b m) := ok_nilCheckV ho ⟨_, h⟩ h
theorem ok_nilCheckR {x : Operand} {y : α} (ho : o.op = .nilCheck x) (h : IsRef y (a.eval x) k) : Does P o a k (IsRef y) := ok_nilCheckV ho (let ⟨ad, e, _⟩ := h; ⟨ad, e⟩) h
theorem IsAdr.ptrB {b : Nat} {x : α} {v : Value} (h : IsAdr b 0 v k) (c : Gb.Box b x k) : IsPtr x v k := ⟨_, h, c.at⟩
/-- a method together with the box it is about -/
def IsMV (f : FuncId) (b : Nat) : Pred := fun v _ => v = .func (.func f) #[.pointer (some ⟨b, 0, none⟩)] #[]
instance (f : FuncId) (b : Nat) : Pers (IsMV f b) := ⟨fun _ h => h⟩
theorem ok_makeMV {f : FuncId} {b : Nat} {x : Operand} (ho : o.op = .makeFunc (.func f) #[x] #[]) (h : a.eval x = .pointer (some ⟨b, 0, none⟩)) : Does P o a k (IsMV f b) :=
  does_pure (v := .func (.func f) #[a.eval x] #[]) (by simp [execOp, ho, Instr.makeFunc]) (by rw [h]; rfl)
theorem tail_callMV {A : Array Oper} {i d b : Nat} {rest : List Nat} {Q : Exit → Act → World → Prop} {f : FuncId} {x : Operand} {as_ : List Operand} {ts : Array TypeId}
    (ho : nth A.toList i = some o) (hgd : o.guard = none) (hop : o.op = .call { callee := .value x, args := as_.toArray, argTypes := ts }) (hd : o.dst = some d) (hda : d < a.tmps.size)
    (hx : IsMV f b (a.eval x) k) (hc : ∀ args w, (callFunc f args).run P w = .ok (.enter f args) w) (_hQ : LetsOut Q)
    (hcall : Calls P f (.pointer (some ⟨b, 0, none⟩) :: as_.map a.eval).toArray k.w (RetC F k R))
    (h : ∀ (a' : Act) (k' : K), a'.tmps.size = a.tmps.size → a'.defers = a.defers → (∀ t, t ≠ d → a'.get t = a.get t) → Chg F k k' → R (a'.get d) k' → wpOps P A Q rest a' k'.w) : wpOps P A Q (i :: rest) a k.w := by
  rw [wpOps_cons]
  rw [nth_toList] at ho
  unfold wpOp
  simp only [ho, Region.wanted, hgd, if_true]
  refine .inl ?_
  unfold Oper.wp
  have hr : (execOp a.eval o).run P k.w = .ok (.enter f (.pointer (some ⟨b, 0, none⟩) :: as_.map a.eval).toArray) k.w := by
    simp [execOp, hop, resolve, invoke, Deferred.ofValue, show a.eval x = _ from hx, hc]
  rw [hr]
  refine Calls.mono hcall fun e w' he => ?_
  cases e with
  | returned v =>
    obtain ⟨k', rfl, hg, hv⟩ := he
    simp only [hd]
    have hgd' : (a.put (some d) v).get d = v := by rw [get_put _ _ _ _ hda]; simp
    refine h _ k' (put_size _ _ _) (put_defers' _ _ _) ?_ hg (by rw [hgd']; exact hv)
    intro t ht
    rw [get_put _ _ _ _ hda, if_neg (Ne.symm ht)]
  | panicked c => exact he.elim
  | outgrown => exact he.elim
theorem retT {fn : Func} {b : Nat} {x : α} (hr : fn.results = #[]) (hd : a.defers = []) (hg : Chg F k k') (h : Gb.Box b x k') : bodyPost P fn (RetC F k (IsTurn b x)) .ret a k'.w :=
  ⟨hd, .tuple #[], by simp [results, hr], k', rfl, hg, h⟩
end
end Go.Gb

/- General part of the proofs: shorter forms of single operations. -/
namespace Go.Gb
section
variable {P : Program} {o : Oper} {a0 : Act} {k0 : K} {R S : Pred} {es : List Ent} {α : Type} [Enc α] {nd nd2 : List (Nat × Option Nat)}
theorem known_at {es : List Ent} {a : Act} {k : K} {t j : Nat} {l : List (Nat × Option Nat)} (hj : nth es j = some ⟨some R, nd⟩) (h : Known es a0 a k ((t, some j) :: l)) : R (a.get t) k := by
  have h1 := h.1; rw [hj] at h1; exact h1
theorem e0 {t j : Nat} [Mono R] (h : (o.guard, o.op) = (none, .extract (.tmp t) 0)) (hj : nth es j = some ⟨some (IsTup2 R S), nd⟩) : Ob P es a0 k0 o ⟨some R, [(t, some j)]⟩ :=
  ob1 (Prod.mk.inj h).1 fun _ _ _ n => ok_ext2_0 (Prod.mk.inj h).2 (known_at hj n)
theorem e1 {t j : Nat} [Mono S] (h : (o.guard, o.op) = (none, .extract (.tmp t) 1)) (hj : nth es j = some ⟨some (IsTup2 R S), nd⟩) : Ob P es a0 k0 o ⟨some S, [(t, some j)]⟩ :=
  ob1 (Prod.mk.inj h).1 fun _ _ _ n => ok_ext2_1 (Prod.mk.inj h).2 (known_at hj n)
end
end Go.Gb

/- General part of the proofs: shifts and bits. -/
namespace Go.Gb
def shlI (n m : Int) : Option Int := if 0 ≤ m then some (IntKind.i64.wrap (n * 2 ^ min m.toNat 64)) else none
def shrI (n m : Int) : Option Int := if 0 ≤ m then some (n.fdiv (2 ^ min m.toNat 64)) else none
def andnI (n m : Int) : Int := IntKind.i64.wrap ((BitVec.ofInt 64 n &&& ~~~BitVec.ofInt 64 m).toNat : Int)
def orI (n m : Int) : Int := IntKind.i64.wrap ((BitVec.ofInt 64 n ||| BitVec.ofInt 64 m).toNat : Int)
def IK.shl {κ : IntKind} (x : IK κ) (n : Int) : IK κ := ⟨κ.wrap (x.n * 2 ^ n.toNat)⟩
def IK.and {κ : IntKind} (x y : IK κ) : IK κ := ⟨κ.wrap ((BitVec.ofInt κ.bits x.n &&& BitVec.ofInt κ.bits y.n).toNat : Int)⟩
section
variable {P : Program} {o : Oper} {a : Act} {k : K} {t u : TypeId} {x y : Operand} {n m r : Int} {κ : IntKind} {p q : IK κ}
theorem ok_shl (ho : o.op = .binOp .shl t x y u) (hx : IsV n (a.eval x) k) (hy : ∃ κ', a.eval y = .int κ' m) (h : shlI n m = some r) : Does P o a k (IsV r) := by
  obtain ⟨h0, rfl⟩ := of_ite h
  have hx := isV_int.1 hx; obtain ⟨κ', hy⟩ := hy
  refine does_pure (v := .int .i64 (IntKind.i64.wrap (n * 2 ^ min m.toNat 64))) ?_ (isV_int.2 rfl)
  simp only [execOp, ho, hx, hy]
  have h2 : ¬ m < 0 := by omega
  simp [eqGuard, binOp, Op.shift, h2]
  rfl
theorem ok_shr (ho : o.op = .binOp .shr t x y u) (hx : IsV n (a.eval x) k) (hy : ∃ κ', a.eval y = .int κ' m) (h : shrI n m = some r) : Does P o a k (IsV r) := by
  obtain ⟨h0, rfl⟩ := of_ite h
  have hx := isV_int.1 hx; obtain ⟨κ', hy⟩ := hy
  refine does_pure (v := .int .i64 (n.fdiv (2 ^ min m.toNat 64))) ?_ (isV_int.2 rfl)
  simp only [execOp, ho, hx, hy]
  have h2 : ¬ m < 0 := by omega
  simp [eqGuard, binOp, Op.shift, h2]
  rfl
theorem ok_andn (ho : o.op = .binOp .andNot t x y u) (hx : IsV n (a.eval x) k) (hy : IsV m (a.eval y) k) : Does P o a k (IsV (andnI n m)) := by
  have hx := isV_int.1 hx; have hy := isV_int.1 hy
  refine does_pure (v := .int .i64 (andnI n m)) ?_ (isV_int.2 rfl)
  simp only [execOp, ho, hx, hy]
  simp [eqGuard, binOp, Op.intBits, andnI]
  rfl
theorem ok_or (ho : o.op = .binOp .or t x y u) (hx : IsV n (a.eval x) k) (hy : IsV m (a.eval y) k) : Does P o a k (IsV (orI n m)) := by
  have hx := isV_int.1 hx; have hy := isV_int.1 hy
  refine does_pure (v := .int .i64 (orI n m)) ?_ (isV_int.2 rfl)
  simp only [execOp, ho, hx, hy]
  simp [eqGuard, binOp, Op.intBits, orI]
  rfl
theorem ok_shrKI (ho : o.op = .binOp .shr t x y u) (hx : IsV p (a.eval x) k) (hy : ∃ κ', a.eval y = .int κ' m) (h0 : 0 ≤ m) (h1 : m.toNat ≤ κ.bits) : Does P o a k (IsV (p.shr m)) := by
  have hx := isV_ik.1 hx; obtain ⟨κ', hy⟩ := hy
  refine does_pure (v := .int κ (p.n.fdiv (2 ^ m.toNat))) ?_ (isV_ik.2 rfl)
  simp only [execOp, ho, hx, hy]
  have h2 : ¬ m < 0 := by omega
  simp [eqGuard, binOp, Op.shift, h2, Nat.min_eq_left h1]
theorem ok_shlKI (ho : o.op = .binOp .shl t x y u) (hx : IsV p (a.eval x) k) (hy : ∃ κ', a.eval y = .int κ' m) (h0 : 0 ≤ m) (h1 : m.toNat ≤ κ.bits) : Does P o a k (IsV (p.shl m)) := by
  have hx := isV_ik.1 hx; obtain ⟨κ', hy⟩ := hy
  refine does_pure (v := .int κ (κ.wrap (p.n * 2 ^ m.toNat))) ?_ (isV_ik.2 rfl)
  simp only [execOp, ho, hx, hy]
  have h2 : ¬ m < 0 := by omega
  simp [eqGuard, binOp, Op.shift, h2, Nat.min_eq_left h1]
theorem ok_andK (ho : o.op = .binOp .and t x y u) (hx : IsV p (a.eval x) k) (hy : IsV q (a.eval y) k) : Does P o a k (IsV (p.and q)) := by
  have hx := isV_ik.1 hx; have hy := isV_ik.1 hy
  refine does_pure (v := .int κ (p.and q).n) ?_ (isV_ik.2 rfl)
  simp only [execOp, ho, hx, hy]
  simp [eqGuard, binOp, Op.intBits, IK.and]
end
end Go.Gb

/- General part of the proofs: an evaluator of the code of functions over typed values (no program in sight). -/
namespace Go.Gb

/-- The types of the values that the evaluator knows. -/
inductive Tp where
  | int | bool | str
  | ik (κ : IntKind)
  | list (t : Tp)
  | st (n : Nat)

@[reducible] def Tp.den (S : Nat → Type) : Tp → Type
  | int => Int | bool => Bool | str => ByteArray | ik κ => IK κ | list t => List (t.den S) | st n => S n

def IntKind.same : (a b : IntKind) → Option (PLift (a = b))
  | .i8, .i8 => some ⟨rfl⟩ | .i16, .i16 => some ⟨rfl⟩ | .i32, .i32 => some ⟨rfl⟩ | .i64, .i64 => some ⟨rfl⟩
  | .u8, .u8 => some ⟨rfl⟩ | .u16, .u16 => some ⟨rfl⟩ | .u32, .u32 => some ⟨rfl⟩ | .u64, .u64 => some ⟨rfl⟩
  | _, _ => none

def natSame (a b : Nat) : Option (PLift (a = b)) := if h : a = b then some ⟨h⟩ else none

def Tp.same : (a b : Tp) → Option (PLift (a = b))
  | int, int => some ⟨rfl⟩
  | bool, bool => some ⟨rfl⟩
  | str, str => some ⟨rfl⟩
  | ik a, ik b => (IntKind.same a b).map fun h => ⟨congrArg ik h.down⟩
  | list a, list b => (Tp.same a b).map fun h => ⟨congrArg list h.down⟩
  | st a, st b => (natSame a b).map fun h => ⟨congrArg st h.down⟩
  | _, _ => none

/-- Some values, one after the other. -/
@[reducible] def HL (S : Nat → Type) : List Tp → Type
  | [] => Unit
  | [a] => a.den S
  | a :: b :: l => a.den S × HL S (b :: l)

section
variable {S : Nat → Type}
@[reducible] def encT (E : ∀ n, Enc (S n)) : (t : Tp) → Enc (t.den S)
  | .int => inferInstanceAs (Enc Int)
  | .bool => inferInstanceAs (Enc Bool)
  | .str => inferInstanceAs (Enc ByteArray)
  | .ik κ => inferInstanceAs (Enc (IK κ))
  | .list t => letI := encT E t; inferInstanceAs (Enc (List (t.den S)))
  | .st n => E n
instance : Enc Unit where
  sz := 0
  agg := true
  rep _ cs _ := cs = []
  len h := by simp [h]
  mono _ h := h
  one h := by subst h; simp
  agg1 h := by simp at h
@[reducible] def encH (E : ∀ n, Enc (S n)) : (l : List Tp) → Enc (HL S l)
  | [] => inferInstanceAs (Enc Unit)
  | [a] => encT E a
  | a :: b :: l => letI := encT E a; letI := encH E (b :: l); inferInstanceAs (Enc (a.den S × HL S (b :: l)))
end

def dfltT {S : Nat → Type} (z : ∀ n, S n) : (t : Tp) → t.den S
  | .int => (0 : Int) | .bool => false | .str => (⟨#[]⟩ : ByteArray) | .ik _ => ⟨0⟩ | .list _ => [] | .st n => z n
def dfltH {S : Nat → Type} (z : ∀ n, S n) : (l : List Tp) → HL S l
  | [] => ()
  | [a] => dfltT z a
  | a :: b :: l => (dfltT z a, dfltH z (b :: l))
/-- The structs of a program. -/
structure Tb where
  S : Nat → Type
  fs : Nat → List Tp
  to : ∀ n, S n → HL S (fs n)
  of : ∀ n, HL S (fs n) → S n
  zero : ∀ n, S n
  deq : ∀ n, DecidableEq (S n)
  enc : ∀ n, Enc (S n)
  to_of : ∀ n y, to n (of n y) = y
  zero_eq : ∀ n, to n (zero n) = dfltH zero (fs n)
  enc_eq : ∀ n, enc n = (letI := encH enc (fs n); Enc.ofMap (to n))

variable {T : Tb}
abbrev Tb.D (T : Tb) (t : Tp) : Type := t.den T.S
@[reducible] def Tb.e (T : Tb) (t : Tp) : Enc (T.D t) := encT T.enc t
attribute [instance] Tb.e
@[reducible] def Tb.ei (T : Tb) (n : Nat) : Enc (T.S n) := T.enc n
attribute [instance] Tb.ei
@[reducible] def Tb.h (T : Tb) (l : List Tp) : Enc (HL T.S l) := encH T.enc l
attribute [instance] Tb.h

def Tb.dflt (T : Tb) (t : Tp) : T.D t := dfltT T.zero t

/-- A part of a value. -/
structure Lens (T : Tb) (t u : Tp) where
  off : Nat
  get : T.D t → T.D u
  set : T.D t → T.D u → T.D t

/-- What is known of a slot. -/
inductive AV (T : Tb) where
  | top | any | nil
  | v (t : Tp) (x : T.D t)
  | e0
  | tup (l : List (Σ t, T.D t))
  | ref (t : Tp) (x : T.D t)
  | own (lk : Bool) (e : TypeId) (t : Tp) (xs : List (T.D t))
  | box (lk : Bool) (t : Tp) (x : T.D t)
  | al (s : Nat)
  | ab (s : Nat) (t : Tp) (x : T.D t) (u : Tp) (L : Lens T t u)
  | ao (s : Nat) (e : TypeId) (t : Tp) (xs : List (T.D t)) (i : Nat) (x : T.D t) (u : Tp) (L : Lens T t u)

abbrev Env (T : Tb) := List (Nat × AV T)

def lk : Env T → Nat → AV T
  | [], _ => .top
  | (s, a) :: e, t => bif Nat.beq s t then a else lk e t

def cast? {S : Nat → Type} (a b : Tp) (x : a.den S) : Option (b.den S) :=
  match Tp.same a b with
  | some h => some (h.down ▸ x)
  | none => none

/-- the value of an operand -/
def opv (e : Env T) : Operand → AV T
  | .tmp t => lk e t
  | .const (.int .i64 n) => .v .int n
  | .const (.int κ n) => .v (.ik κ) (⟨n⟩ : IK κ)
  | .const (.bool b) => .v .bool b
  | .const (.string s) => .v .str s
  | .const (.slice none 0 0) => .e0
  | .const (.pointer none) => .nil
  | _ => .top
def res (e : Env T) : AV T → AV T
  | .al s => lk e s
  | a => a
def slotOf (e : Env T) (s : Nat) : Nat := match lk e s with | .al s' => s' | _ => s
/-- .. for a move: a resource stays where it is -/
def mvv (e : Env T) (x : Operand) : AV T :=
  match x with
  | .tmp t => match lk e t with
    | .own _ _ _ _ => .al t
    | .box _ _ _ => .al t
    | a => a
  | x => opv e x
def asT (t : Tp) : AV T → Option (T.D t)
  | .v u x => cast? u t x
  | .e0 => match t with | .list _ => some [] | _ => none
  | _ => none
def asI : AV T → Option Int
  | .v .int n => some n
  | _ => none
def asB : AV T → Option Bool
  | .v .bool n => some n
  | _ => none
/-- a list that can be read -/
def asL (e : Env T) (a : AV T) : Option (Σ t, List (T.D t)) :=
  match res e a with
  | .v (.list t) xs => some ⟨t, xs⟩
  | .own _ _ t xs => some ⟨t, xs⟩
  | _ => none

def szT (T : Tb) (t : Tp) : Nat := (T.e t).sz
def Lens.id (t : Tp) : Lens T t t := ⟨0, fun x => x, fun _ y => y⟩
/-- a part of a list of parts -/
structure HLens (T : Tb) (l : List Tp) (u : Tp) where
  off : Nat
  get : HL T.S l → T.D u
  set : HL T.S l → T.D u → HL T.S l
def hlens : (l : List Tp) → Nat → Option (Σ u, HLens T l u)
  | [], _ => none
  | [a], 0 => some ⟨a, 0, fun x => x, fun _ y => y⟩
  | [_], _ + 1 => none
  | a :: _ :: _, 0 => some ⟨a, 0, fun x => x.1, fun x y => (y, x.2)⟩
  | a :: b :: l, i + 1 => match hlens (b :: l) i with
    | some ⟨u, L⟩ => some ⟨u, szT T a + L.off, fun x => L.get x.2, fun x y => (x.1, L.set x.2 y)⟩
    | none => none
def flens (n i : Nat) : Option (Σ u, Lens T (.st n) u) :=
  match hlens (T := T) (T.fs n) i with
  | some ⟨u, L⟩ => some ⟨u, L.off, fun x => L.get (T.to n x), fun x y => T.of n (L.set (T.to n x) y)⟩
  | none => none
def Lens.comp {t u w : Tp} (L : Lens T t u) (M : Lens T u w) : Lens T t w :=
  ⟨L.off + M.off, fun x => M.get (L.get x), fun x y => L.set x (M.set (L.get x) y)⟩

/-- the offset of a field, if the program has it so -/
def fldOff (P : Program) (s f : Nat) : Option Nat :=
  match P.underlying s with
  | some (.struct fs) => match fs[f]? with
    | some d => match P.info? d.type with
      | some i => match i.size with
        | 0 => none
        | _ + 1 => some d.offset
      | none => none
    | none => none
  | _ => none
def tyB (P : Program) (T : Tb) (t : TypeId) (u : Tp) : Bool :=
  (match P.underlying t with | some d => aggOf d == (T.e u).agg | none => false) &&
  (match P.info? t with | some i => i.size == (T.e u).sz | none => false)
def elB (P : Program) (T : Tb) (e : TypeId) (u : Tp) : Bool :=
  match P.info? e with
  | some i => (match i.zero with | some z => z.cells.size == szT T u | none => false) && i.size == szT T u && Nat.ble 1 (szT T u) && Nat.ble i.bytes 65536
  | none => false
def slOf (P : Program) (t : TypeId) : Option TypeId :=
  match P.underlying t with | some (.slice e) => some e | _ => none

def joinO : List (Option (List Value)) → Option (List Value)
  | [] => some []
  | a :: l => match a, joinO l with
    | some x, some y => some (x ++ y)
    | _, _ => none
def zc (T : Tb) : Nat → Tp → Option (List Value)
  | 0, _ => none
  | _ + 1, .int => some [.int .i64 0]
  | _ + 1, .bool => some [.bool false]
  | _ + 1, .str => some [.string ⟨#[]⟩]
  | _ + 1, .ik κ => some [.int κ 0]
  | _ + 1, .list _ => some [.slice none 0 0]
  | f + 1, .st n => joinO ((T.fs n).map (zc T f))
def vEq : Value → Value → Bool
  | .int κ n, .int κ' n' => κ == κ' && n == n'
  | .bool a, .bool b => a == b
  | .string a, .string b => a.data.size == 0 && b.data.size == 0
  | .slice none 0 0, .slice none 0 0 => true
  | _, _ => false
def vsEq : List Value → List Value → Bool
  | [], [] => true
  | a :: l, b :: m => vEq a b && vsEq l m
  | _, _ => false
def zeroB (P : Program) (T : Tb) (ty : TypeId) (t : Tp) : Bool :=
  match P.info? ty with
  | some i => match i.zero, zc T 9 t with
    | some z, some cs => (match z with | .agg a => (T.e t).agg && vsEq a.toList cs | z => !(T.e t).agg && vsEq [z] cs)
    | _, _ => false
  | none => false
/-- A function, as it is known to those that call it. -/
structure FnE (T : Tb) where
  dom : List Tp
  cod : List Tp
  run : HL T.S dom → Option (HL T.S cod)
def args : (l : List Tp) → List (AV T) → Option (HL T.S l)
  | [], [] => some ()
  | [a], [x] => asT a x
  | a :: b :: l, x :: xs => match asT a x, args (b :: l) xs with
    | some y, some ys => some (y, ys)
    | _, _ => none
  | _, _ => none
def unH : (l : List Tp) → HL T.S l → List (Σ t, T.D t)
  | [], _ => []
  | [a], x => [⟨a, x⟩]
  | a :: b :: l, x => ⟨a, x.1⟩ :: unH (b :: l) x.2
def resV (l : List Tp) (x : HL T.S l) : AV T :=
  match l, x with
  | [], _ => .any
  | [a], x => .v a x
  | a :: b :: l, x => .tup (unH (a :: b :: l) x)
abbrev Deps (T : Tb) := List (FuncId × FnE T)
def dep : Deps T → FuncId → Option (FnE T)
  | [], _ => none
  | (g, d) :: l, f => bif Nat.beq g f then some d else dep l f

section
variable {R : Type}
def binII (op : BinOp) (n m : Int) (k : AV T → Option R) : Option R :=
  match op with
  | .add => (addI n m).bind fun r => k (.v .int r)
  | .sub => (subI n m).bind fun r => k (.v .int r)
  | .mul => (mulI n m).bind fun r => k (.v .int r)
  | .quo => (quoI n m).bind fun r => k (.v .int r)
  | .rem => (remI n m).bind fun r => k (.v .int r)
  | .lss => k (.v .bool (decide (n < m)))
  | .leq => k (.v .bool (decide (n ≤ m)))
  | .gtr => k (.v .bool (decide (m < n)))
  | .geq => k (.v .bool (decide (m ≤ n)))
  | .eql => k (.v .bool (n == m))
  | .neq => k (.v .bool (n != m))
  | .and => k (.v .int (andI n m))
  | .andNot => k (.v .int (andnI n m))
  | .or => k (.v .int (orI n m))
  | _ => none
def isSh (op : BinOp) : Bool := match op with | .shl => true | .shr => true | _ => false
def shAmt : AV T → Option Int
  | .v .int n => some n
  | .v (.ik _) q => some q.n
  | _ => none
def shiftV (op : BinOp) (x : AV T) (m : Int) (k : AV T → Option R) : Option R :=
  match x with
  | .v .int n => match op with
    | .shl => (shlI n m).bind fun r => k (.v .int r)
    | .shr => (shrI n m).bind fun r => k (.v .int r)
    | _ => none
  | .v (.ik a) p => bif decide (0 ≤ m) && Nat.ble m.toNat a.bits then (match op with
    | .shr => k (.v (.ik a) (p.shr m))
    | .shl => k (.v (.ik a) (p.shl m))
    | _ => none) else none
  | _ => none
def binV (op : BinOp) (isB : Bool) (eqn : Nat → Bool) (x y : AV T) (k : AV T → Option R) : Option R :=
  match x, y with
  | .v .int n, .v .int m => binII op n m k
  | .v .bool n, .v .bool m => bif isB then (match op with
    | .eql => k (.v .bool (n == m))
    | .neq => k (.v .bool (n != m))
    | _ => none) else none
  | .v .str n, .v .str m => match op with
    | .eql => k (.v .bool (n.toList == m.toList))
    | .neq => k (.v .bool (!(n.toList == m.toList)))
    | _ => none
  | .v (.st n) p, .v (.st m) q => match natSame m n with
    | some h => letI := T.deq n; bif eqn n then (match op with
      | .eql => k (.v .bool (decide (p = h.down ▸ q)))
      | .neq => k (.v .bool (!decide (p = h.down ▸ q)))
      | _ => none) else none
    | none => none
  | .v (.ik a) p, .v (.ik b) q => match IntKind.same b a with
    | some h => match op with
      | .add => k (.v (.ik a) (p.add (h.down ▸ q)))
      | .sub => k (.v (.ik a) (p.sub (h.down ▸ q)))
      | .mul => k (.v (.ik a) (p.mul (h.down ▸ q)))
      | .and => k (.v (.ik a) (p.and (h.down ▸ q)))
      | _ => none
    | none => none
  | _, _ => none
def wrI (κ : IntKind) (n : Int) : AV T := match κ with
  | .i64 => .v .int (IntKind.i64.wrap n)
  | κ => .v (.ik κ) ⟨κ.wrap n⟩
def extF (f off : Nat) (u : Tp) (g : (w : Tp) → Lens T u w → AV T) : Option (AV T) :=
  match u, g with
  | .st n, g => match flens (T := T) n f with
    | some ⟨w, L⟩ => bif Nat.beq L.off off then some (g w L) else none
    | none => none
  | _, _ => none
def fieldO (f off : Nat) (a : AV T) (own : Nat → AV T) : Option (AV T) :=
  match a with
  | .ref t x => extF f off t fun w L => .ref w (L.get x)
  | .al s => match own s with
    | .box _ t x => extF f off t fun w L => .ab s t x w L
    | _ => none
  | .ab s t x u M => extF f off u fun w L => .ab s t x w (M.comp L)
  | .ao s e t xs i x u M => extF f off u fun w L => .ao s e t xs i x w (M.comp L)
  | _ => none
def fieldV (P : Program) (s f : Nat) (a : AV T) (own : Nat → AV T) (k : AV T → Option R) : Option R :=
  match fldOff P s f with
  | none => none
  | some off => match fieldO f off a own with
    | some r => k r
    | none => none
def loadV (P : Program) (T : Tb) (ty : TypeId) (a : AV T) (own : Nat → AV T) : Option (AV T) :=
  let g := fun (u : Tp) (x : T.D u) => bif tyB P T ty u then some (AV.v u x) else none
  match a with
  | .ref t x => g t x
  | .al s => match own s with | .box _ t x => g t x | _ => none
  | .ab _ _ x u L => g u (L.get x)
  | .ao _ _ _ _ _ x u L => g u (L.get x)
  | _ => none
/-- the values of the parts of a slice -/
def partsL (t : Tp) (e : Env T) : Nat → List (Nat × Operand) → Option (List (T.D t))
  | _, [] => some []
  | i, (j, x) :: l => bif Nat.beq i j then (match asT t (opv e x), partsL t e (i + 1) l with
    | some y, some ys => some (y :: ys)
    | _, _ => none) else none
/-- offset and size of a field -/
def fldPl (P : Program) (s f : Nat) : Option (Nat × Nat) :=
  match P.underlying s with
  | some (.struct fs) => match fs[f]? with
    | some d => match P.info? d.type with
      | some i => some (d.offset, i.size)
      | none => none
    | none => none
  | _ => none
def allFld (P : Program) (s : Nat) : Bool :=
  match P.underlying s with
  | some (.struct fs) => fs.toList.all fun f => (P.info? f.type).isSome
  | _ => false
def buildF (P : Program) (ty n : Nat) (e : Env T) : List (Nat × Operand) → T.S n → Option (T.S n)
  | [], x => some x
  | (j, y) :: l, x => match flens (T := T) n j, fldPl P ty j with
    | some ⟨u, L⟩, some (off, sz) => match asT u (opv e y) with
      | some z => bif Nat.beq off L.off && Nat.beq sz (szT T u) then buildF P ty n e l (L.set x z) else none
      | none => none
    | _, _ => none

/-- What the evaluator is told of the program: the types of the numbers of types, and which boxes are written to. -/
structure Cx (T : Tb) where
  P : Program
  tid : TypeId → Option Tp
  eqs : List (TypeId × Nat)
  deps : Deps T
  own : List Nat
  rs : List ResultVar
  n : Nat

def bslice (C : Cx T) (e : Env T) (ty : TypeId) (n : Nat) (ps : Array (Nat × Operand)) : Option (Σ t, TypeId × List (T.D t)) :=
  match slOf C.P ty with
  | some el => match C.tid el with
    | some t => match partsL t e 0 ps.toList with
      | some xs => bif Nat.beq xs.length n && elB C.P T el t && Nat.ble (n * szT T t) 16777216 then some ⟨t, (el, xs)⟩ else none
      | none => none
    | none => none
  | none => none
/-- One operation that writes to nothing that was there. -/
def step1 (C : Cx T) (e : Env T) (o : Oper) (k : AV T → Option R) : Option R :=
  match o.op with
  | .move x => k (mvv e x)
  | .assign x => k (mvv e x)
  | .binOp op ty x y _ => bif isSh op then (match shAmt (opv e y) with | some m => shiftV op (opv e x) m k | none => none) else binV op (match C.P.underlying ty with | some .bool => true | _ => false) (fun n => C.eqs.contains (ty, n)) (opv e x) (opv e y) k
  | .unOp .not _ x => match asB (opv e x) with
    | some b => k (.v .bool (!b))
    | none => none
  | .unOp .neg _ x => match asI (opv e x) with
    | some n => (subI 0 n).bind fun r => k (.v .int r)
    | none => none
  | .convert s d x => match C.P.underlying s, C.P.underlying d, opv e x with
    | some _, some (.int κ), .v .int n => k (wrI κ n)
    | some _, some (.int κ), .v (.ik _) n => k (wrI κ n.n)
    | _, _, _ => none
  | .load ty x => match loadV C.P T ty (mvv e x) (lk e) with
    | some a => k a
    | none => none
  | .fieldAddr s x f => fieldV C.P s f (mvv e x) (lk e) k
  | .indexAddr ty x y => match asI (opv e y), slOf C.P ty with
    | some i, some el => match x with
      | .tmp s => match res e (lk e s) with
        | .v (.list t) xs => bif tyB C.P T el t then (getI xs i).bind fun z => k (.ref t z) else none
        | .own _ e' t xs => bif tyB C.P T el t && Nat.beq el e' then (getI xs i).bind fun z => k (.ao (slotOf e s) e' t xs i.toNat z t (Lens.id t)) else none
        | _ => none
      | _ => none
    | _, _ => none
  | .extract x i => match opv e x with
    | .tup l => match l[i]? with
      | some ⟨t, y⟩ => k (.v t y)
      | none => none
    | _ => none
  | .box ty x => match opv e x with
    | .v t y => bif tyB C.P T ty t then k (.ref t y) else none
    | _ => none
  | .slice ty x lo hi mx => match slOf C.P ty with
    | none => none
    | some el => match mx with
      | some (.const (.int .i64 0)) => match hi, (match lo with | none => true | some (.const (.int .i64 0)) => true | _ => false), asL e (opv e x) with
        | some (.const (.int .i64 0)), true, some ⟨t, _⟩ => bif tyB C.P T el t then k .e0 else none
        | _, _, _ => none
      | none => match opv e x with
        | .v (.list t) xs => bif tyB C.P T el t then
            (match lo, hi with
            | some l, some h => match asI (opv e l), asI (opv e h) with
              | some l, some h => (sliceI xs l h).bind fun r => k (.v (.list t) r)
              | _, _ => none
            | some l, none => match asI (opv e l) with
              | some l => (sliceI xs l (xs.length : Int)).bind fun r => k (.v (.list t) r)
              | none => none
            | none, some h => match asI (opv e h) with
              | some h => (sliceI xs 0 h).bind fun r => k (.v (.list t) r)
              | none => none
            | none, none => none) else none
        | _ => none
      | _ => none
  | .build ty ps => match C.tid ty with
    | some (.st n) => bif zeroB C.P T ty (.st n) && allFld C.P ty then (match buildF C.P ty n e ps.toList (T.zero n) with
      | some x => k (.v (.st n) x)
      | none => none) else none
    | _ => none
  | .buildSlice ty n ps => match n with
    | 0 => match ps.toList, slOf C.P ty with
      | [], some el => match C.tid el with
        | some t => bif elB C.P T el t then k .e0 else none
        | none => none
      | _, _ => none
    | _ => match bslice C e ty n ps with
      | some ⟨t, (_, xs)⟩ => k (.v (.list t) xs)
      | none => none
  | .call c => match c.callee with
    | .builtin .len => match c.args.toList, c.argTypes[0]? with
      | [x], some ty => match slOf C.P ty with
        | some _ => match res e (opv e x) with
          | .v (.list _) xs => k (.v .int (xs.length : Int))
          | .own _ _ _ xs => k (.v .int (xs.length : Int))
          | .e0 => k (.v .int ((0 : Nat) : Int))
          | _ => none
        | none => none
      | _, _ => none
    | .builtin .max => match c.args.toList with
      | [x, y] => match asI (opv e x), asI (opv e y) with
        | some a, some b => k (.v .int (max a b))
        | _, _ => none
      | [x, y, z] => match asI (opv e x), asI (opv e y), asI (opv e z) with
        | some a, some b, some c => k (.v .int (max (max a b) c))
        | _, _, _ => none
      | _ => none
    | .builtin .min => match c.args.toList with
      | [x, y] => match asI (opv e x), asI (opv e y) with
        | some a, some b => k (.v .int (min a b))
        | _, _ => none
      | [x, y, z] => match asI (opv e x), asI (opv e y), asI (opv e z) with
        | some a, some b, some c => k (.v .int (min (min a b) c))
        | _, _, _ => none
      | _ => none
    | .builtin .append => match c.args.toList, c.argTypes.toList with
      | [x, y], [ty, ty'] => match slOf C.P ty with
        | some el => match res e (opv e x), asL e (opv e y) with
          | .e0, some ⟨t, ys⟩ => bif Nat.beq ty ty' && elB C.P T el t then (appI [] ys).bind fun r => k (.v (.list t) r) else none
          | _, _ => none
        | none => none
      | _, _ => none
    | .value (.func f) => match dep C.deps f with
      | some d => match args d.dom (c.args.toList.map (opv e)) with
        | some a => (d.run a).bind fun r => k (resV d.cod r)
        | none => none
      | none => none
    | _ => none
  | _ => none
end
end Go.Gb

/- General part of the proofs: the evaluator: regions and control. -/
namespace Go.Gb
variable {T : Tb} {R : Type}

abbrev OpL := List (Nat × Oper)
/-- the operations up to the next one with this guard -/
def spanG (g : Option (Nat × Bool)) : OpL → OpL × OpL
  | [] => ([], [])
  | x :: l => if x.2.guard = g then ([], x :: l) else ((x :: (spanG g l).1), (spanG g l).2)
/-- never without a value -/
def isTot (o : Oper) : Bool := match o.op with
  | .move _ | .assign _ | .load _ _ | .fieldAddr _ _ _ | .pick _ _ _ | .extract _ _ | .unOp .not _ _ | .convert _ _ _ | .build _ _ | .buildSlice _ _ _ => true
  | .binOp .lss _ _ _ _ | .binOp .leq _ _ _ _ | .binOp .gtr _ _ _ _ | .binOp .geq _ _ _ _ | .binOp .eql _ _ _ _ | .binOp .neq _ _ _ _ | .binOp .and _ _ _ _ => true
  | .call c => match c.callee with
    | .builtin .len | .builtin .max | .builtin .min => true
    | _ => false
  | _ => false
def isRes : AV T → Bool
  | .own _ _ _ _ => true
  | .box _ _ _ => true
  | _ => false
/-- an operation that writes, or makes what is written to -/
def isMut (C : Cx T) (e : Env T) (o : Oper) : Bool :=
  match o.dst with
  | none => true
  | some d => isRes (lk e d) || match o.op with
    | .store _ _ _ => true
    | .alloc _ => true
    | .box _ _ => C.own.contains d
    | .assign x => C.own.contains d && (match x with | .tmp t => (match lk e t with | .al _ => true | a => isRes a) | _ => false)
    | .buildSlice _ _ _ => C.own.contains d
    | .call c => match c.callee with
      | .builtin .append => C.own.contains d || (match c.args.toList with | x :: _ => isRes (res e (opv e x)) | _ => false)
      | _ => false
    | _ => false
def dstOf (ops : List Oper) (j : Nat) : Option Nat := (nth ops j).bind (·.dst)
def lastIdx (t : Nat) : List Oper → Nat → Option Nat → Option Nat
  | [], _, r => r
  | o :: l, i, r => lastIdx t l (i + 1) (bif (match o.dst with | some d => Nat.beq d t | none => false) then some i else r)
def lastIs (t : Nat) (l : List Oper) (j : Nat) : Bool := match lastIdx t l 0 none with | some j' => Nat.beq j' j | none => false
def tmpsOf (o : Oper) : List Nat := o.op.operands.toList.filterMap fun | .tmp t => some t | _ => none
def needOf (pre : List Oper) (o : Oper) : List (Nat × Option Nat) := (tmpsOf o).map fun t => (t, lastIdx t pre 0 none)
def needs (pre : List Oper) : List Oper → List (List (Nat × Option Nat))
  | [] => []
  | o :: l => needOf pre o :: needs (pre ++ [o]) l
def esOf (ops : List Oper) : List Ent := (needs [] ops).map fun nd => ⟨none, nd⟩
def ixs : Nat → List Oper → OpL
  | _, [] => []
  | i, o :: l => (i, o) :: ixs (i + 1) l

def grpOk (e : Env T) (c j : Nat) (w : Bool) (gr : OpL) : Bool :=
  gr.all fun x => (match x.2.guard with
    | some (j', w') => (Nat.beq j' j && w' == w) || gr.any fun y => Nat.beq y.1 j'
    | none => false) && match x.2.dst with
    | some d => !(isRes (lk e d)) && !(Nat.beq d c)
    | none => false
def tops : OpL → Env T → Env T
  | [], e => e
  | (_, o) :: l, e => match o.dst with
    | some d => (d, .top) :: tops l e
    | none => tops l e
/-- a value that is picked: a part of it may be without a value only where it is asked for -/
def pickC (tot w m : Bool) (run oth : Option Bool) (k : Bool → Option R) : Option R :=
  bif tot then match run, oth with
    | some b, some true => bif w then none else k (m || b)
    | some b, some false => bif w then k (m && b) else none
    | _, _ => none
  else match w with
    | true => (if m then run else oth).bind k
    | false => (if m then oth else run).bind k
/-- The operations of a region that may run in any order. -/
def ev1 (C : Cx T) (ops : List Oper) : Nat → (R : Type) → Option (Nat × Bool) → OpL → Env T → (OpL → Env T → Option R) → Option R
  | 0, _, _, _, _, _ => none
  | _ + 1, _, _, [], e, k => k [] e
  | f + 1, R, g, (i, o) :: l, e, k =>
    if o.guard = g then
      bif isMut C e o then (match g with | none => k ((i, o) :: l) e | some _ => none) else
      match o.dst with
      | some d => step1 C e o fun a => ev1 C ops f R g l ((d, a) :: e) k
      | none => none
    else match o.guard with
      | none => none
      | some (j, w) => match spanG g ((i, o) :: l) with
        | (gr, (_, p) :: l') => match p.op, p.dst, dstOf ops j with
          | .pick (.tmp c) x y, some d, some tj => match asB (lk e c) with
            | some m =>
              bif Nat.beq tj c && lastIs c (ops.take i) j && grpOk e c j w gr && !(isRes (lk e d)) then
                pickC (gr.all fun x => isTot x.2) w m (ev1 C ops f Bool (some (j, w)) gr e fun _ e' => asB (opv e' (if w then x else y))) (asB (opv (tops gr e) (if w then y else x)))
                  fun b => ev1 C ops f R g l' ((d, .v .bool b) :: tops gr e) k
              else none
            | none => none
          | _, _, _ => none
        | _ => none

/-- what mentions a slot -/
def kl (s : Nat) : AV T → AV T
  | .ab s' t x u L => bif Nat.beq s' s then .top else .ab s' t x u L
  | .ao s' e t xs i x u L => bif Nat.beq s' s then .top else .ao s' e t xs i x u L
  | a => a
def klA (s : Nat) : AV T → AV T
  | .al s' => bif Nat.beq s' s then .top else .al s'
  | a => kl s a
def mapK (f : AV T → AV T) : Env T → (Env T → Option R) → Option R
  | [], k => k []
  | (t, a) :: e, k => mapK f e fun e' => k ((t, f a) :: e')
def AV.ment : AV T → Nat → Bool
  | .al s, t => Nat.beq s t
  | .ab s _ _ _ _, t => Nat.beq s t
  | .ao s _ _ _ _ _ _ _, t => Nat.beq s t
  | _, _ => false
def put (e : Env T) (d : Nat) (a : AV T) (k : Env T → Option R) : Option R :=
  bif a.ment d then none else bif isRes (lk e d) then mapK (klA d) e fun e' => k ((d, a) :: e') else k ((d, a) :: e)
/-- the slot of a resource -/
def resSlot (e : Env T) : Operand → Option Nat
  | .tmp t => match lk e t with
    | .al s => some s
    | .own _ _ _ _ => some t
    | .box _ _ _ => some t
    | _ => none
  | _ => none
def frz1 (e : Env T) (x : Operand) (k : Env T → Option R) : Option R :=
  match x with
  | .tmp t => match lk e t with
    | .own false _ u xs => mapK (klA t) e fun e' => k ((t, .v (.list u) xs) :: e')
    | .al s => match lk e s with
      | .own false _ u xs => mapK (klA s) e fun e' => bif isRes (lk e' t) then none else k ((t, .v (.list u) xs) :: (s, .v (.list u) xs) :: e')
      | _ => k e
    | _ => k e
  | _ => k e
def frz (e : Env T) : List Operand → (Env T → Option R) → Option R
  | [], k => k e
  | x :: l, k => frz1 e x fun e' => frz e' l k
def frzOps (o : Oper) : List Operand := match o.op with
  | .build _ ps => ps.toList.map (·.2)
  | .buildSlice _ _ ps => ps.toList.map (·.2)
  | .box _ x => [x]
  | .slice _ x _ _ _ => [x]
  | .store _ _ y => [y]
  | .call c => match c.callee with
    | .value _ => c.args.toList
    | _ => []
  | _ => []
/-- .. one after the other -/
def step2 (C : Cx T) (e : Env T) (o : Oper) (k : Env T → Option R) : Option R :=
  match o.op, o.dst with
  | .store ty p y, none => match p with
    | .tmp pt => match (match lk e pt with
        | .al s => match lk e s with | .box _ t x => AV.ab s t x t (Lens.id t) | _ => .top
        | .box _ t x => AV.ab pt t x t (Lens.id t)
        | a => a) with
      | .ab s t x u L => match lk e s with
        | .box false _ _ => match asT u (opv e y) with
          | some z => bif tyB C.P T ty u then mapK (kl s) e fun e' => k ((s, .box false t (L.set x z)) :: e') else none
          | none => none
        | _ => none
      | .ao s el t xs i x u L => match lk e s with
        | .own false _ _ _ => match asT u (opv e y) with
          | some z => bif tyB C.P T ty u then mapK (kl s) e fun e' => k ((s, .own false el t (xs.set i (L.set x z))) :: e') else none
          | none => none
        | _ => none
      | _ => none
    | _ => none
  | .alloc ty, some d => match C.tid ty with
    | some t => bif zeroB C.P T ty t then put e d (.box false t (T.dflt t)) k else none
    | none => none
  | .box ty x, some d => match opv e x with
    | .v t y => bif tyB C.P T ty t then put e d (.box false t y) k else none
    | _ => none
  | .assign x, some d => match resSlot e x with
    | some s => match lk e s with
      | .own false el t xs => mapK (klA s) e fun e' => put ((s, .top) :: e') d (.own false el t xs) fun e'' => bif isRes (lk e'' s) then none else k ((s, .al d) :: e'')
      | _ => none
    | none => step1 C e o fun a => put e d a k
  | .buildSlice ty m ps, some d => match m with
    | 0 => step1 C e o fun a => put e d a k
    | _ => match bslice C e ty m ps with
      | some ⟨t, (el, xs)⟩ => put e d (.own false el t xs) k
      | none => none
  | .call c, some d => match c.callee with
    | .builtin .append => match c.args.toList, c.argTypes.toList with
      | [x, y], [ty, ty'] => bif Nat.beq ty ty' then match slOf C.P ty, asL e (opv e y) with
        | some el, some ⟨t, ys⟩ => bif elB C.P T el t then (match resSlot e x with
          | some s => match lk e s with
            | .own false el' t' xs => match cast? (.list t') (.list t) xs with
              | some xs => bif Nat.beq el el' then (appI xs ys).bind fun r => mapK (klA s) e fun e' => put ((s, .top) :: e') d (.own false el t r) k else none
              | none => none
            | _ => none
          | none => match res e (opv e x) with
            | .e0 => (appI [] ys).bind fun r => put e d (.own false el t r) k
            | _ => none) else none
        | _, _ => none
        else none
      | _, _ => none
    | _ => step1 C e o fun a => put e d a k
  | _, some d => step1 C e o fun a => put e d a k
  | _, none => none

def ev2 (C : Cx T) : OpL → Env T → (Env T → Option R) → Option R
  | [], e, k => k e
  | (_, o) :: l, e, k => match o.guard, (match o.dst with | some d => Nat.blt d C.n | none => true) with
    | none, true => frz e (frzOps o) fun e' => step2 C e' o fun e'' => ev2 C l e'' k
    | _, _ => none

/-- the boxes that a region has made and that nothing writes to behind it -/
def shareK (C : Cx T) : List Oper → Env T → (Env T → Option R) → Option R
  | [], e, k => k e
  | o :: l, e, k => match o.op, o.dst with
    | .alloc _, some d => bif C.own.contains d then shareK C l e k else match lk e d with
      | .box false t x => mapK (klA d) e fun e' => shareK C l ((d, .ref t x) :: e') k
      | _ => shareK C l e k
    | _, _ => shareK C l e k

def evR (C : Cx T) (ops : List Oper) (draw : Bool) (e : Env T) (k : Env T → Option R) : Option R :=
  ev1 C ops (ops.length + 1) R none (ixs 0 ops) e fun l e' =>
    bif (bif draw then chk else chkS) C.n (ops.length - l.length) ops (esOf (ops.take (ops.length - l.length))) then
      ev2 C l e' fun e'' => shareK C ops e'' k
    else none

/-! Control -/
inductive Kd where
  | v (t : Tp) | o (e : TypeId) (t : Tp) | b (t : Tp)
@[reducible] def Kd.D (T : Tb) : Kd → Type
  | v t => T.D t | o _ t => List (T.D t) | b t => T.D t
abbrev Sp := List (Nat × Kd)
@[reducible] def SpD (T : Tb) : Sp → Type
  | [] => Unit
  | [a] => a.2.D T
  | a :: b :: l => a.2.D T × SpD T (b :: l)
def Kd.dflt : (κ : Kd) → κ.D T
  | .v t => T.dflt t | .o _ _ => [] | .b t => T.dflt t
def takeS (e : Env T) (s : Nat) : (κ : Kd) → Option (κ.D T)
  | .v t => asT t (lk e s)
  | .o el t => match lk e s with
    | .own false el' u xs => bif Nat.beq el el' then cast? (.list u) (.list t) xs else none
    | .e0 => some []
    | _ => none
  | .b t => match lk e s with
    | .box false u x => cast? u t x
    | _ => none
/-- the values of the slots of a state; those in ds are not known -/
def take (ds : List Nat) (e : Env T) : (sp : Sp) → Option (SpD T sp)
  | [] => some ()
  | [a] => bif ds.contains a.1 then some a.2.dflt else takeS e a.1 a.2
  | a :: b :: l => match (bif ds.contains a.1 then some a.2.dflt else takeS e a.1 a.2), take ds e (b :: l) with
    | some x, some y => some (x, y)
    | _, _ => none
def vSlots (ds : List Nat) : Sp → List Operand
  | [] => []
  | (s, .v _) :: l => bif ds.contains s then vSlots ds l else .tmp s :: vSlots ds l
  | _ :: l => vSlots ds l
/-- .. and what need not be written to any more is handed over first -/
def takeF (ds : List Nat) (e : Env T) (sp : Sp) (k : SpD T sp → Option R) : Option R :=
  frz e (vSlots ds sp) fun e' => match take ds e' sp with
    | some s => k s
    | none => none
def avK : (κ : Kd) → κ.D T → AV T
  | .v t, x => .v t x
  | .o e t, x => .own false e t x
  | .b t, x => .box false t x
def give (xs : List Nat) : (sp : Sp) → SpD T sp → Env T → Env T
  | [], _, e => e
  | [a], x, e => (a.1, bif xs.contains a.1 then .top else avK a.2 x) :: e
  | a :: b :: l, x, e => (a.1, bif xs.contains a.1 then .top else avK a.2 x.1) :: give xs (b :: l) x.2 e

def wrs : Code → List Nat
  | .region _ A _ => A.toList.filterMap (·.dst)
  | .seq a b => wrs a ++ wrs b
  | .cond _ a b => wrs a ++ wrs b
  | .block _ a => wrs a
  | .loop a => wrs a
  | _ => []
/-- what stays of an environment over a piece of code -/
def keepA (lock : Bool) (W : List Nat) : AV T → AV T
  | .v t x => .v t x
  | .ref t x => .ref t x
  | .e0 => .e0
  | .nil => .nil
  | .own b e t xs => .own (lock || b) e t xs
  | .box b t x => .box (lock || b) t x
  | .al s => bif W.contains s then .top else .al s
  | _ => .top
def keepK (lock : Bool) (W : List Nat) (Wd : List Nat) : Env T → (Env T → Option R) → Option R
  | [], k => k []
  | (t, a) :: e, k => keepK lock W Wd e fun e' => k (bif W.contains t then e' else (t, bif Wd.contains t then a else keepA lock (W ++ Wd) a) :: e')

def lkA : AV T → AV T
  | .own _ el t xs => .own true el t xs
  | .box _ t x => .box true t x
  | a => a
def lockK (W : List Nat) : Env T → (Env T → Option R) → Option R
  | [], k => k []
  | (t, a) :: e, k => lockK W e fun e' => k ((t, bif W.contains t then a else lkA a) :: e')

/-- Of a state: the slots that nothing reads any more, and those of them that are not known. -/
abbrev Ls := List Nat × List Nat
/-- How a function's code is to be taken. -/
inductive Hn (T : Tb) where
  | n
  | s (a b : Hn T)
  | f (l : List Nat) (a : Hn T)
  | j (fz : List Nat) (sp : Sp) (xs : Ls) (a : Hn T)
  | jf (fz : List Nat) (sp : Sp) (xs : Ls) (exs : List (Nat × Ls)) (a : Hn T)
  | l (fz : List Nat) (sp : Sp) (exs : List (Nat × Ls)) (fuel : Env T → Nat) (a : Hn T)
structure Kt (T : Tb) (ρ R : Type) where
  go : Env T → Option R
  ex : Nat → Env T → Option R
  rv : ρ → Option R
def exAt : List (Nat × Ls) → Nat → Option Ls
  | [], _ => none
  | (i, x) :: l, j => bif Nat.beq i j then some x else exAt l j
def exF {ρ : Type} (exs : List (Nat × Ls)) (sp : Sp) (i : Nat) (e : Env T) : Option (Flow (SpD T sp) ρ) :=
  match exAt exs i with
  | some x => takeF x.2 e sp fun s => some (.ex i s)
  | none => none
def exK {ρ : Type} {sp : Sp} (base : Env T) (K : Kt T ρ R) : List (Nat × Ls) → Nat → SpD T sp → Option R
  | [], _, _ => none
  | [(i, x)], _, s => K.ex i (give (x.1 ++ x.2) sp s base)
  | (i, x) :: y :: l, j, s => if j = i then K.ex i (give (x.1 ++ x.2) sp s base) else exK base K (y :: l) j s
def resH (C : Cx T) (e : Env T) : (l : List Tp) → List ResultVar → Option (HL T.S l)
  | [], [] => some ()
  | [a], [r] => resH1 e a r
  | a :: b :: l, r :: rs => match resH1 e a r, resH C e (b :: l) rs with
    | some x, some y => some (x, y)
    | _, _ => none
  | _, _ => none
where resH1 (e : Env T) (t : Tp) : ResultVar → Option (T.D t)
  | .tmp s => asT t (lk e s)
  | .cell s ty => match lk e s with
    | .box _ u x => bif tyB C.P T ty u then cast? u t x else none
    | _ => none
def spW (sp : Sp) : List Nat := sp.map (·.1)

def ev (C : Cx T) (cod : List Tp) : Code → Hn T → (R : Type) → Env T → Kt T (HL T.S cod) R → Option R
  | .skip, _, _, e, K => K.go e
  | .region _ A d, h, _, e, K => match h with
    | .f l _ => frz e (l.map .tmp) fun e' => evR C A.toList d e' K.go
    | _ => evR C A.toList d e K.go
  | .seq a b, h, R, e, K => match h with
    | .s x y => ev C cod a x R e { K with go := fun e' => ev C cod b y R e' K }
    | _ => ev C cod a .n R e { K with go := fun e' => ev C cod b .n R e' K }
  | .cond c a b, h, R, e, K => match h with
    | .j fz sp xs (.s x y) => frz e (fz.map .tmp) fun e0 => lockK (wrs a ++ wrs b ++ spW sp) e0 fun e => keepK false (wrs a ++ wrs b) (spW sp) e0 fun e1 => match asB (opv e c) with
      | some m => (if m then ev C cod a x (SpD T sp) e ⟨fun e' => takeF xs.2 e' sp some, fun _ _ => none, fun _ => none⟩
          else ev C cod b y (SpD T sp) e ⟨fun e' => takeF xs.2 e' sp some, fun _ _ => none, fun _ => none⟩).bind fun s => K.go (give (xs.1 ++ xs.2) sp s e1)
      | none => none
    | .jf fz sp xs exs (.s x y) => frz e (fz.map .tmp) fun e0 => lockK (wrs a ++ wrs b ++ spW sp) e0 fun e => keepK false (wrs a ++ wrs b) (spW sp) e0 fun e1 => match asB (opv e c) with
      | some m =>
        let K' : Kt T (HL T.S cod) (Flow (SpD T sp) (HL T.S cod)) := ⟨fun e' => takeF xs.2 e' sp fun s => some (.go s), exF exs sp, fun r => some (.ret r)⟩
        (if m then ev C cod a x _ e K' else ev C cod b y _ e K').bind fun f => match f with
          | .go s => K.go (give (xs.1 ++ xs.2) sp s e1)
          | .ex i s => exK e1 K exs i s
          | .ret r => K.rv r
      | none => none
    | .s x y => match asB (opv e c) with
      | some m => if m then ev C cod a x R e K else ev C cod b y R e K
      | none => none
    | _ => match asB (opv e c) with
      | some m => if m then ev C cod a .n R e K else ev C cod b .n R e K
      | none => none
  | .block id a, h, R, e, K => match h with
    | .j fz sp xs x => frz e (fz.map .tmp) fun e0 => lockK (wrs a ++ spW sp) e0 fun e => keepK false (wrs a) (spW sp) e0 fun e1 =>
      (ev C cod a x (SpD T sp) e ⟨fun e' => takeF xs.2 e' sp some, fun i e' => bif Nat.beq i id then takeF xs.2 e' sp some else none, fun _ => none⟩).bind fun s => K.go (give (xs.1 ++ xs.2) sp s e1)
    | .jf fz sp xs exs x => frz e (fz.map .tmp) fun e0 => lockK (wrs a ++ spW sp) e0 fun e => keepK false (wrs a) (spW sp) e0 fun e1 =>
      (ev C cod a x (Flow (SpD T sp) (HL T.S cod)) e ⟨fun e' => takeF xs.2 e' sp fun s => some (.go s), fun i e' => bif Nat.beq i id then takeF xs.2 e' sp fun s => some (.go s) else exF exs sp i e', fun r => some (.ret r)⟩).bind fun f => match f with
          | .go s => K.go (give (xs.1 ++ xs.2) sp s e1)
          | .ex i s => exK e1 K exs i s
          | .ret r => K.rv r
    | x => ev C cod a x R e { K with ex := fun i e' => bif Nat.beq i id then K.go e' else K.ex i e' }
  | .loop a, h, _, e, K => match h with
    | .l fz sp exs fuel x => frz e (fz.map .tmp) fun e => keepK true (wrs a) (spW sp) e fun ei => keepK false (wrs a) (spW sp) e fun e1 => match take [] e sp with
      | some s0 => (iterL (fun s => ev C cod a x (Flow (SpD T sp) (HL T.S cod)) (give [] sp s ei) ⟨fun e' => takeF [] e' sp fun s => some (.go s), exF exs sp, fun r => some (.ret r)⟩) (fuel e) s0).bind fun f => match f with
          | .go _ => none
          | .ex i s => exK e1 K exs i s
          | .ret r => K.rv r
      | none => none
    | _ => none
  | .exit i, _, _, e, K => K.ex i e
  | .ret, _, _, e, K => frz e (C.rs.filterMap fun | .tmp s => some (.tmp s) | _ => none) fun e' => match resH C e' cod C.rs with
    | some r => K.rv r
    | none => none
  | _, _, _, _, _ => none

def initE : (i : Nat) → (l : List Tp) → HL T.S l → Env T
  | _, [], _ => []
  | i, [a], x => [(i, .v a x)]
  | i, a :: b :: l, x => (i, .v a x.1) :: initE (i + 1) (b :: l) x.2
/-- What a function gives. -/
def evF (C : Cx T) (c : Code) (h : Hn T) (dom cod : List Tp) (x : HL T.S dom) : Option (HL T.S cod) :=
  ev C cod c h (HL T.S cod) (initE 0 dom x) ⟨fun _ => none, fun _ _ => none, some⟩
end Go.Gb


