/- Calendar: stays, sorted and merged. -/
import Derived.Test.YtdpekblabnfjnaaT3
namespace Go.Proofs.Ytdpekblabnfjnaa
open Go.Gb
open Go.Sort (insInner insOuter swp SWO PermIn SortedIn)
open Go.Proofs (ltOf)
set_option linter.unusedVariables false
set_option linter.unusedSimpArgs false

def VS (s : Stay) : Prop := 0 ≤ s.From ∧ s.From ≤ s.To ∧ s.To ≤ 1073741824
instance (s : Stay) : Decidable (VS s) := inferInstanceAs (Decidable (_ ∧ _ ∧ _))
/-- A day lies in one of the stays. -/
def inS (l : List Stay) (d : Int) : Prop := ∃ s ∈ l, s.From ≤ d ∧ d ≤ s.To

section
variable {α : Type} [Inhabited α] {lt lt' : α → α → Bool} {V : α → Prop}
theorem insInner_congr (h : ∀ x y, V x → V y → lt x y = lt' x y) (a : Nat) : ∀ (j : Nat) (d : Array α), j < d.size → (∀ q, q < d.size → V d[q]!) → insInner lt a j d = insInner lt' a j d ∧ (insInner lt a j d).size = d.size ∧ ∀ q, q < d.size → V (insInner lt a j d)[q]!
  | 0, d, _, hV => ⟨rfl, rfl, hV⟩
  | j + 1, d, hj, hV => by
    simp only [insInner]
    rw [← h _ _ (hV (j + 1) hj) (hV j (by omega))]
    split
    · have hs : (swp d (j + 1) j).size = d.size := Go.Sort.size_swp d _ _
      have hV' : ∀ q, q < (swp d (j + 1) j).size → V (swp d (j + 1) j)[q]! := by
        intro q hq
        rw [hs] at hq
        rw [Go.Sort.swp_get d hj (by omega)]
        split
        · exact hV _ (by omega)
        · split
          · exact hV _ (by omega)
          · exact hV _ hq
      obtain ⟨h1, h2, h3⟩ := insInner_congr h a j (swp d (j + 1) j) (by rw [hs]; omega) hV'
      exact ⟨h1, h2.trans hs, fun q hq => h3 q (by rw [hs]; exact hq)⟩
    · exact ⟨rfl, rfl, hV⟩
theorem insOuter_congr (h : ∀ x y, V x → V y → lt x y = lt' x y) (a b : Nat) : ∀ (m i : Nat) (d : Array α), b - i = m → b ≤ d.size → (∀ q, q < d.size → V d[q]!) → insOuter lt a b i d = insOuter lt' a b i d
  | 0, i, d, hm, hb, hV => by
    have e : ∀ lt : α → α → Bool, insOuter lt a b i d = d := fun lt => by rw [insOuter, if_neg (by omega)]
    rw [e, e]
  | m + 1, i, d, hm, hb, hV => by
    rw [insOuter]
    conv => rhs; rw [insOuter]
    rw [if_pos (by omega), if_pos (by omega)]
    obtain ⟨h1, h2, h3⟩ := insInner_congr h a i d (by omega) hV
    rw [← h1]
    exact insOuter_congr h a b m (i + 1) _ (by omega) (by rw [h2]; exact hb) fun q hq => h3 q (by rw [← h2]; exact hq)
end

def stayLt (x y : Stay) : Bool := decide (x.From < y.From)
theorem stayLt_swo : SWO stayLt := by
  constructor <;> simp [stayLt] <;> omega
theorem stayCmp_lt {x y : Stay} (hx : VS x) (hy : VS y) : ltOf stayCmp x y = stayLt x y := by
  unfold VS at hx hy
  unfold ltOf stayCmp stayLt Go.RowKit.wrap64
  congr 1
  rw [eq_iff_iff]
  omega

theorem sortStays_total {l : List Stay} (h : l.length ≤ 12) : ∃ r, sortStays l = some r := ⟨_, if_pos h⟩
theorem sortStays_spec {l : List Stay} (h : l.length ≤ 12) (hV : ∀ s ∈ l, VS s) : ∃ r, sortStays l = some r ∧ r.Perm l ∧ r.Pairwise fun a b => a.From ≤ b.From := by
  have hV' : ∀ q, q < l.toArray.size → VS l.toArray[q]! := by
    intro q hq
    rw [getElem!_pos _ q hq]
    exact hV _ (by simp)
  have hc : Go.Sort.insertionSort (ltOf stayCmp) l.toArray 0 l.toArray.size = Go.Sort.insertionSort stayLt l.toArray 0 l.toArray.size := by
    unfold Go.Sort.insertionSort
    exact insOuter_congr (V := VS) (fun x y hx hy => stayCmp_lt hx hy) 0 _ _ _ _ rfl (Nat.le_refl _) hV'
  obtain ⟨⟨h1, _, h2⟩, h3⟩ := Go.Sort.insertionSort_holds stayLt_swo l.toArray 0 l.toArray.size (Nat.zero_le _) (Nat.le_refl _)
  refine ⟨_, if_pos h, ?_, ?_⟩
  · rw [hc]
    generalize Go.Sort.insertionSort stayLt l.toArray 0 l.toArray.size = r at h1 h2
    have e : r.extract 0 l.toArray.size = r := by rw [← h1]; simp
    rw [e] at h2
    simpa using h2
  · rw [hc, List.pairwise_iff_getElem]
    intro i j hi hj hij
    have := h3 i j (Nat.zero_le _) hij (by rw [← h1]; simpa using hj)
    rw [getElem!_pos _ j (by simpa using hj), getElem!_pos _ i (by simpa using hi)] at this
    simp only [stayLt, decide_eq_false_iff_not, Int.not_lt] at this
    simpa using this

theorem clone_spec {l : List Stay} (h : l.length ≤ 1073741824) : cloneStays l = some l := by
  unfold cloneStays; rw [appI_some (by simpa using h)]; rfl

theorem calm_check {l : List Stay} (h : l.length ≤ 1000) : ∃ f, iterL (calm_L0 l) (l.length + 1) 0 = some f ∧ ((∀ s ∈ l, VS s) → ∃ i, f = .ex 0 i) ∧ (¬ (∀ s ∈ l, VS s) → f = .ret ([], false)) := by
  refine Exists.elim (loop_up (body := calm_L0 l) (fun i s => s = (i : Int) ∧ ∀ j (hj : j < l.length), j < i → VS l[j]) l.length
    (fun f => ((∀ s ∈ l, VS s) → ∃ i, f = .ex 0 i) ∧ (¬ (∀ s ∈ l, VS s) → f = .ret ([], false))) ?_ ?_ 0 ⟨rfl, fun j _ h => absurd h (Nat.not_lt_zero j)⟩ (l.length + 1) (by omega)) ?_
  · rintro i s hi ⟨rfl, hG⟩
    unfold calm_L0
    rw [if_pos (by simpa using hi), getI_nat hi, Option.bind_some]
    by_cases hok : VS l[i]
    · left
      refine ⟨((i + 1 : Nat) : Int), ?_, rfl, fun j hj hji => ?_⟩
      · rw [if_neg (by unfold VS at hok; simp; omega), addI_one (show i < 4611686018427387904 by omega), Option.bind_some]
      · rcases Nat.lt_or_ge j i with h | h
        · exact hG j hj h
        · obtain rfl : j = i := by omega
          exact hok
    · right
      refine ⟨.ret ([], false), by rw [if_pos (by unfold VS at hok; simp; omega)], trivial, fun h => absurd (h _ (List.getElem_mem hi)) hok, fun _ => rfl⟩
  · rintro s ⟨rfl, hG⟩
    have hall : ∀ s ∈ l, VS s := by
      intro s hs
      obtain ⟨j, hj, rfl⟩ := List.getElem_of_mem hs
      exact hG j hj hj
    refine ⟨.ex 0 (l.length : Int), ?_, trivial, fun _ => ⟨_, rfl⟩, fun h => absurd hall h⟩
    unfold calm_L0
    rw [if_neg (by simp)]
  · rintro f ⟨hf, he, h1, h2⟩
    exact ⟨f, hf, h1, h2⟩

/-- What calm makes of stays: ranges without common days, that hold the same days. -/
structure Calm (l out : List Stay) : Prop where
  ok : ∀ s ∈ out, VS s
  asc : out.Pairwise fun a b => a.To < b.From
  days : ∀ d, inS out d ↔ inS l d
  len : out.length ≤ l.length

theorem calm_merge {r : List Stay} (h : r.length ≤ 1000) (hV : ∀ s ∈ r, VS s) (hs : r.Pairwise fun a b => a.From ≤ b.From) : ∃ out i, iterL (calm_L1 r) (r.length + 1) (([] : List Stay), 0) = some (.ex 2 (out, i)) ∧ Calm r out := by
  refine Exists.elim (loop_up (body := calm_L1 r) (fun i s => s.2 = (i : Int) ∧ i ≤ r.length ∧ Calm (r.take i) s.1 ∧ ∀ a ∈ s.1, ∀ b ∈ r.drop i, a.From ≤ b.From) r.length
    (fun f => ∃ s, f = .ex 2 s ∧ Calm r s.1) ?_ ?_ (([] : List Stay), 0) ⟨rfl, Nat.zero_le _, ⟨by simp, by simp, by simp [inS], by simp⟩, by simp⟩ (r.length + 1) (by omega)) ?_
  · rintro i ⟨out, j⟩ hi ⟨rfl, _, hC, hb⟩
    left
    dsimp only at hC hb
    have hVx := hV _ (List.getElem_mem hi)
    have htake : r.take (i + 1) = r.take i ++ [r[i]] := List.take_succ_eq_append_getElem hi
    have hdrop : r.drop i = r[i] :: r.drop (i + 1) := List.drop_eq_getElem_cons hi
    have hol := hC.len
    rw [List.length_take, Nat.min_eq_left (by omega)] at hol
    have hb1 : ∀ a ∈ out, a.From ≤ r[i].From := fun a ha => hb a ha _ (by rw [hdrop]; exact List.mem_cons_self)
    have hb2 : ∀ a ∈ out, ∀ b ∈ r.drop (i + 1), a.From ≤ b.From := fun a ha b hb' => hb a ha b (by rw [hdrop]; exact List.mem_cons_of_mem _ hb')
    have hx2 : ∀ b ∈ r.drop (i + 1), r[i].From ≤ b.From := by
      intro b hb'
      obtain ⟨q, hq, rfl⟩ := List.getElem_of_mem hb'
      rw [List.getElem_drop]
      exact (List.pairwise_iff_getElem.1 hs) i (i + 1 + q) hi (by simp at hq; omega) (by omega)
    unfold calm_L1
    dsimp only
    rw [if_pos (by simpa using hi), getI_nat hi, Option.bind_some, subI_some (by unfold inI; omega), Option.bind_some]
    rcases List.eq_nil_or_concat out with rfl | ⟨fr, la, rfl⟩
    · rw [if_neg (by simp), Option.bind_some, if_neg (by decide), appI_some (xs := ([] : List Stay)) (ys := [r[i]]) (show 0 + 1 ≤ 1073741824 by decide), Option.bind_some, Option.bind_some, addI_one (show i < 4611686018427387904 by omega), Option.bind_some]
      refine ⟨_, rfl, rfl, by omega, ⟨by simpa using hVx, by simp, fun d => ?_, by rw [htake]; exact (show 1 ≤ (r.take i ++ [r[i]]).length by rw [List.length_append]; exact Nat.le_add_left _ _)⟩, by simpa using hx2⟩
      have := hC.days d
      simp only [inS, List.not_mem_nil, false_and, exists_false, false_iff, not_exists, not_and] at this
      dsimp only
      rw [htake]
      simp only [inS, List.nil_append, List.mem_append, List.mem_singleton]
      constructor
      · rintro ⟨s, rfl, h⟩; exact ⟨_, .inr rfl, h⟩
      · rintro ⟨s, hs | rfl, h1, h2⟩
        · exact absurd h2 (this s hs h1)
        · exact ⟨_, rfl, h1, h2⟩
    · rw [List.concat_eq_append] at hC hb hol hb1 hb2 ⊢
      have hlen : ((fr ++ [la]).length : Int) - 1 = (fr.length : Nat) := by simp
      have hget : getI (fr ++ [la]) (((fr ++ [la]).length : Int) - 1) = some la := by
        rw [hlen, getI_nat (by simp)]; simp
      have hla := hC.ok la (by simp)
      have hla1 := hb1 la (by simp)
      rw [if_pos (by simp), hget, Option.bind_some, Option.bind_some]
      by_cases hm : r[i].From ≤ la.To
      · have hset : (fr ++ [la]).set (((fr ++ [la]).length : Int) - 1).toNat { la with To := max la.To r[i].To } = fr ++ [{ la with To := max la.To r[i].To }] := by
          rw [hlen, Int.toNat_natCast, List.set_append_right _ _ (Nat.le_refl _), Nat.sub_self]; rfl
        rw [if_pos (by simpa using hm), Option.bind_some, Option.bind_some, Option.bind_some, hset, Option.bind_some, addI_one (show i < 4611686018427387904 by omega), Option.bind_some]
        refine ⟨_, rfl, rfl, by omega, ⟨fun s hs => ?_, ?_, fun d => ?_, ?_⟩, fun a ha b hb' => ?_⟩
        · rcases List.mem_append.1 hs with hs | hs
          · exact hC.ok s (List.mem_append_left _ hs)
          · obtain rfl := List.mem_singleton.1 hs
            unfold VS at hla hVx ⊢
            dsimp only
            omega
        · have := hC.asc
          rw [List.pairwise_append] at this ⊢
          refine ⟨this.1, by simp, fun a ha b hb' => ?_⟩
          obtain rfl := List.mem_singleton.1 hb'
          exact this.2.2 a ha la (by simp)
        · have := hC.days d
          dsimp only
          rw [htake]
          unfold VS at hla hVx
          have key : inS (fr ++ [{ la with To := max la.To r[i].To }]) d ↔ inS (fr ++ [la]) d ∨ (r[i].From ≤ d ∧ d ≤ r[i].To) := by
            simp only [inS, List.mem_append, List.mem_singleton, or_and_right, exists_or, exists_eq_left]
            constructor
            · rintro (h | h)
              · exact .inl (.inl h)
              · by_cases hd : d ≤ la.To
                · exact .inl (.inr ⟨h.1, hd⟩)
                · exact .inr ⟨by omega, by omega⟩
            · rintro ((h | h) | h)
              · exact .inl h
              · exact .inr ⟨h.1, by omega⟩
              · exact .inr ⟨by omega, by omega⟩
          rw [key, this]
          simp only [inS, List.mem_append, List.mem_singleton, or_and_right, exists_or, exists_eq_left]
        · have := hC.len
          rw [htake]
          simp only [List.length_append, List.length_cons, List.length_nil] at this ⊢
          omega
        · rcases List.mem_append.1 ha with ha | ha
          · exact hb2 a (List.mem_append_left _ ha) b hb'
          · obtain rfl := List.mem_singleton.1 ha
            exact hb2 la (by simp) b hb'
      · rw [if_neg (by simpa using hm), appI_some (by simp at hol ⊢; omega), Option.bind_some, Option.bind_some, addI_one (show i < 4611686018427387904 by omega), Option.bind_some]
        refine ⟨_, rfl, rfl, by omega, ⟨fun s hs => ?_, ?_, fun d => ?_, ?_⟩, fun a ha b hb' => ?_⟩
        · rcases List.mem_append.1 hs with hs | hs
          · exact hC.ok s hs
          · obtain rfl := List.mem_singleton.1 hs
            exact hVx
        · have := hC.asc
          dsimp only
          rw [List.pairwise_append]
          refine ⟨this, by simp, fun a ha b hb' => ?_⟩
          obtain rfl := List.mem_singleton.1 hb'
          rw [List.pairwise_append] at this
          rcases List.mem_append.1 ha with ha | ha
          · have h1 := this.2.2 a ha la (by simp)
            unfold VS at hla
            omega
          · obtain rfl := List.mem_singleton.1 ha
            omega
        · have := hC.days d
          dsimp only
          rw [htake]
          have e : ∀ x : List Stay, inS (x ++ [r[i]]) d ↔ inS x d ∨ (r[i].From ≤ d ∧ d ≤ r[i].To) := by
            intro x
            simp only [inS, List.mem_append, List.mem_singleton, or_and_right, exists_or, exists_eq_left]
          rw [e, e, this]
        · have := hC.len
          rw [htake]
          simp only [List.length_append, List.length_cons, List.length_nil] at this ⊢
          omega
        · rcases List.mem_append.1 ha with ha | ha
          · exact hb2 a ha b hb'
          · obtain rfl := List.mem_singleton.1 ha
            exact hx2 b hb'
  · rintro ⟨out, j⟩ ⟨rfl, _, hC, _⟩
    dsimp only at hC
    rw [List.take_length] at hC
    refine ⟨.ex 2 (out, (r.length : Int)), ?_, trivial, _, rfl, hC⟩
    unfold calm_L1
    rw [if_neg (by simp)]
  · rintro f ⟨hf, he, ⟨out, i⟩, rfl, hC⟩
    exact ⟨out, i, hf, hC⟩

theorem calm_spec {l : List Stay} (h : l.length ≤ 12) : ((∀ s ∈ l, VS s) → ∃ out, calm l = some (out, true) ∧ Calm l out) ∧ (¬ (∀ s ∈ l, VS s) → calm l = some ([], false)) := by
  unfold calm
  rw [if_neg (by simp; omega), clone_spec (by omega), Option.bind_some]
  obtain ⟨f, hf, h1, h2⟩ := calm_check (l := l) (by omega)
  constructor
  · intro hV
    obtain ⟨r, hr, hp, hs⟩ := sortStays_spec h hV
    obtain ⟨i, rfl⟩ := h1 hV
    have hl := hp.length_eq
    obtain ⟨out, j, hm, hC⟩ := calm_merge (r := r) (by omega) (fun s hs => hV s (hp.mem_iff.1 hs)) hs
    rw [hr, Option.bind_some, hf, Option.bind_some]
    dsimp only
    rw [hm, Option.bind_some]
    refine ⟨out, rfl, hC.ok, hC.asc, fun d => (hC.days d).trans ?_, by rw [← hl]; exact hC.len⟩
    unfold inS
    exact ⟨fun ⟨s, hs, h⟩ => ⟨s, hp.mem_iff.1 hs, h⟩, fun ⟨s, hs, h⟩ => ⟨s, hp.mem_iff.2 hs, h⟩⟩
  · intro hV
    obtain ⟨r, hr⟩ := sortStays_total h
    obtain rfl := h2 hV
    rw [hr, Option.bind_some, hf, Option.bind_some]
end Go.Proofs.Ytdpekblabnfjnaa
