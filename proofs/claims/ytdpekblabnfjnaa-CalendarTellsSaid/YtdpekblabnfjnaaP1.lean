/- The plain part of the proof (no program in sight), part 1 -/
import Derived.Test.YtdpekblabnfjnaaT3
namespace Go.Proofs.Ytdpekblabnfjnaa
open Go.Gb
set_option linter.unusedVariables false
set_option linter.unusedSimpArgs false

def VS (s : Stay) : Prop := 0 ≤ s.From ∧ s.From ≤ s.To ∧ s.To ≤ 1073741824
instance (s : Stay) : Decidable (VS s) := inferInstanceAs (Decidable (_ ∧ _ ∧ _))
/-- A day lies in one of the stays. -/
def inS (l : List Stay) (d : Int) : Prop := ∃ s ∈ l, s.From ≤ d ∧ d ≤ s.To

theorem VS.stayIn {s : Stay} (h : VS s) : StayIn s := ⟨h.1, by unfold VS at h; omega⟩

theorem clone_spec {l : List Stay} (h : l.length ≤ 1073741824) : cloneStays l = some l := by
  unfold cloneStays; rw [appI_some (by simpa using h)]; rfl

theorem calm_check {l : List Stay} (h : l.length ≤ 1000) : ∃ f, iterL (calmG_L0 l) (l.length + 1) 0 = some f ∧ ((∀ s ∈ l, VS s) → ∃ i, f = .ex 0 i) ∧ (¬ (∀ s ∈ l, VS s) → f = .ret ([], false)) := by
  refine Exists.elim (loop_up (body := calmG_L0 l) (fun i s => s = (i : Int) ∧ ∀ j (hj : j < l.length), j < i → VS l[j]) l.length
    (fun f => ((∀ s ∈ l, VS s) → ∃ i, f = .ex 0 i) ∧ (¬ (∀ s ∈ l, VS s) → f = .ret ([], false))) ?_ ?_ 0 ⟨rfl, fun j _ h => absurd h (Nat.not_lt_zero j)⟩ (l.length + 1) (by omega)) ?_
  · rintro i s hi ⟨rfl, hG⟩
    unfold calmG_L0
    rw [if_pos (by simpa using hi), getI_nat hi, Option.bind_some]
    by_cases hok : VS l[i]
    · left
      refine ⟨((i + 1 : Nat) : Int), ?_, rfl, fun j hj hji => ?_⟩
      · rw [if_neg (by unfold VS at hok; simp; omega), addI_one (show i < 4611686018427387904 by omega), Option.bind_some]
      · rcases Nat.lt_or_ge j i with h | h
        · exact hG j hj h
        · obtain rfl : j = i := by omega
          exact hok
    · right
      refine ⟨.ret ([], false), by rw [if_pos (by unfold VS at hok; simp; omega)], trivial, fun h => absurd (h _ (List.getElem_mem hi)) hok, fun _ => rfl⟩
  · rintro s ⟨rfl, hG⟩
    have hall : ∀ s ∈ l, VS s := by
      intro s hs
      obtain ⟨j, hj, rfl⟩ := List.getElem_of_mem hs
      exact hG j hj hj
    refine ⟨.ex 0 (l.length : Int), ?_, trivial, fun _ => ⟨_, rfl⟩, fun h => absurd hall h⟩
    unfold calmG_L0
    rw [if_neg (by simp)]
  · rintro f ⟨hf, he, h1, h2⟩
    exact ⟨f, hf, h1, h2⟩

/-- What calm makes of stays: ranges without common days, that hold the same days. -/
structure Calm (l out : List Stay) : Prop where
  ok : ∀ s ∈ out, VS s
  asc : out.Pairwise fun a b => a.To < b.From
  days : ∀ d, inS out d ↔ inS l d
  len : out.length ≤ l.length

theorem calm_merge {r : List Stay} (h : r.length ≤ 1000) (hV : ∀ s ∈ r, VS s) (hs : r.Pairwise fun a b => a.From ≤ b.From) : ∃ out i, iterL (calmG_L1 r) (r.length + 1) (([] : List Stay), 0) = some (.ex 2 (out, i)) ∧ Calm r out := by
  refine Exists.elim (loop_up (body := calmG_L1 r) (fun i s => s.2 = (i : Int) ∧ i ≤ r.length ∧ Calm (r.take i) s.1 ∧ ∀ a ∈ s.1, ∀ b ∈ r.drop i, a.From ≤ b.From) r.length
    (fun f => ∃ s, f = .ex 2 s ∧ Calm r s.1) ?_ ?_ (([] : List Stay), 0) ⟨rfl, Nat.zero_le _, ⟨by simp, by simp, by simp [inS], by simp⟩, by simp⟩ (r.length + 1) (by omega)) ?_
  · rintro i ⟨out, j⟩ hi ⟨rfl, _, hC, hb⟩
    left
    dsimp only at hC hb
    have hVx := hV _ (List.getElem_mem hi)
    have htake : r.take (i + 1) = r.take i ++ [r[i]] := List.take_succ_eq_append_getElem hi
    have hdrop : r.drop i = r[i] :: r.drop (i + 1) := List.drop_eq_getElem_cons hi
    have hol := hC.len
    rw [List.length_take, Nat.min_eq_left (by omega)] at hol
    have hb1 : ∀ a ∈ out, a.From ≤ r[i].From := fun a ha => hb a ha _ (by rw [hdrop]; exact List.mem_cons_self)
    have hb2 : ∀ a ∈ out, ∀ b ∈ r.drop (i + 1), a.From ≤ b.From := fun a ha b hb' => hb a ha b (by rw [hdrop]; exact List.mem_cons_of_mem _ hb')
    have hx2 : ∀ b ∈ r.drop (i + 1), r[i].From ≤ b.From := by
      intro b hb'
      obtain ⟨q, hq, rfl⟩ := List.getElem_of_mem hb'
      rw [List.getElem_drop]
      exact (List.pairwise_iff_getElem.1 hs) i (i + 1 + q) hi (by simp at hq; omega) (by omega)
    unfold calmG_L1
    dsimp only
    rw [if_pos (by simpa using hi), getI_nat hi, Option.bind_some, subI_some (by unfold inI; omega), Option.bind_some]
    rcases List.eq_nil_or_concat out with rfl | ⟨fr, la, rfl⟩
    · rw [if_neg (by simp), Option.bind_some, if_neg (by decide), appI_some (xs := ([] : List Stay)) (ys := [r[i]]) (show 0 + 1 ≤ 1073741824 by decide), Option.bind_some, Option.bind_some, addI_one (show i < 4611686018427387904 by omega), Option.bind_some]
      refine ⟨_, rfl, rfl, by omega, ⟨by simpa using hVx, by simp, fun d => ?_, by rw [htake]; exact (show 1 ≤ (r.take i ++ [r[i]]).length by rw [List.length_append]; exact Nat.le_add_left _ _)⟩, by simpa using hx2⟩
      have := hC.days d
      simp only [inS, List.not_mem_nil, false_and, exists_false, false_iff, not_exists, not_and] at this
      dsimp only
      rw [htake]
      simp only [inS, List.nil_append, List.mem_append, List.mem_singleton]
      constructor
      · rintro ⟨s, rfl, h⟩; exact ⟨_, .inr rfl, h⟩
      · rintro ⟨s, hs | rfl, h1, h2⟩
        · exact absurd h2 (this s hs h1)
        · exact ⟨_, rfl, h1, h2⟩
    · rw [List.concat_eq_append] at hC hb hol hb1 hb2 ⊢
      have hlen : ((fr ++ [la]).length : Int) - 1 = (fr.length : Nat) := by simp
      have hget : getI (fr ++ [la]) (((fr ++ [la]).length : Int) - 1) = some la := by
        rw [hlen, getI_nat (by simp)]; simp
      have hla := hC.ok la (by simp)
      have hla1 := hb1 la (by simp)
      rw [if_pos (by simp), hget, Option.bind_some, Option.bind_some]
      by_cases hm : r[i].From ≤ la.To
      · have hset : (fr ++ [la]).set (((fr ++ [la]).length : Int) - 1).toNat { la with To := max la.To r[i].To } = fr ++ [{ la with To := max la.To r[i].To }] := by
          rw [hlen, Int.toNat_natCast, List.set_append_right _ _ (Nat.le_refl _), Nat.sub_self]; rfl
        rw [if_pos (by simpa using hm), Option.bind_some, Option.bind_some, Option.bind_some, hset, Option.bind_some, addI_one (show i < 4611686018427387904 by omega), Option.bind_some]
        refine ⟨_, rfl, rfl, by omega, ⟨fun s hs => ?_, ?_, fun d => ?_, ?_⟩, fun a ha b hb' => ?_⟩
        · rcases List.mem_append.1 hs with hs | hs
          · exact hC.ok s (List.mem_append_left _ hs)
          · obtain rfl := List.mem_singleton.1 hs
            unfold VS at hla hVx ⊢
            dsimp only
            omega
        · have := hC.asc
          rw [List.pairwise_append] at this ⊢
          refine ⟨this.1, by simp, fun a ha b hb' => ?_⟩
          obtain rfl := List.mem_singleton.1 hb'
          exact this.2.2 a ha la (by simp)
        · have := hC.days d
          dsimp only
          rw [htake]
          unfold VS at hla hVx
          have key : inS (fr ++ [{ la with To := max la.To r[i].To }]) d ↔ inS (fr ++ [la]) d ∨ (r[i].From ≤ d ∧ d ≤ r[i].To) := by
            simp only [inS, List.mem_append, List.mem_singleton, or_and_right, exists_or, exists_eq_left]
            constructor
            · rintro (h | h)
              · exact .inl (.inl h)
              · by_cases hd : d ≤ la.To
                · exact .inl (.inr ⟨h.1, hd⟩)
                · exact .inr ⟨by omega, by omega⟩
            · rintro ((h | h) | h)
              · exact .inl h
              · exact .inr ⟨h.1, by omega⟩
              · exact .inr ⟨by omega, by omega⟩
          rw [key, this]
          simp only [inS, List.mem_append, List.mem_singleton, or_and_right, exists_or, exists_eq_left]
        · have := hC.len
          rw [htake]
          simp only [List.length_append, List.length_cons, List.length_nil] at this ⊢
          omega
        · rcases List.mem_append.1 ha with ha | ha
          · exact hb2 a (List.mem_append_left _ ha) b hb'
          · obtain rfl := List.mem_singleton.1 ha
            exact hb2 la (by simp) b hb'
      · rw [if_neg (by simpa using hm), appI_some (by simp at hol ⊢; omega), Option.bind_some, Option.bind_some, addI_one (show i < 4611686018427387904 by omega), Option.bind_some]
        refine ⟨_, rfl, rfl, by omega, ⟨fun s hs => ?_, ?_, fun d => ?_, ?_⟩, fun a ha b hb' => ?_⟩
        · rcases List.mem_append.1 hs with hs | hs
          · exact hC.ok s hs
          · obtain rfl := List.mem_singleton.1 hs
            exact hVx
        · have := hC.asc
          dsimp only
          rw [List.pairwise_append]
          refine ⟨this, by simp, fun a ha b hb' => ?_⟩
          obtain rfl := List.mem_singleton.1 hb'
          rw [List.pairwise_append] at this
          rcases List.mem_append.1 ha with ha | ha
          · have h1 := this.2.2 a ha la (by simp)
            unfold VS at hla
            omega
          · obtain rfl := List.mem_singleton.1 ha
            omega
        · have := hC.days d
          dsimp only
          rw [htake]
          have e : ∀ x : List Stay, inS (x ++ [r[i]]) d ↔ inS x d ∨ (r[i].From ≤ d ∧ d ≤ r[i].To) := by
            intro x
            simp only [inS, List.mem_append, List.mem_singleton, or_and_right, exists_or, exists_eq_left]
          rw [e, e, this]
        · have := hC.len
          rw [htake]
          simp only [List.length_append, List.length_cons, List.length_nil] at this ⊢
          omega
        · rcases List.mem_append.1 ha with ha | ha
          · exact hb2 a ha b hb'
          · obtain rfl := List.mem_singleton.1 ha
            exact hx2 b hb'
  · rintro ⟨out, j⟩ ⟨rfl, _, hC, _⟩
    dsimp only at hC
    rw [List.take_length] at hC
    refine ⟨.ex 2 (out, (r.length : Int)), ?_, trivial, _, rfl, hC⟩
    unfold calmG_L1
    rw [if_neg (by simp)]
  · rintro f ⟨hf, he, ⟨out, i⟩, rfl, hC⟩
    exact ⟨out, i, hf, hC⟩

/-- The stays are valid. -/
def VL (l : List Stay) : Prop := l.length ≤ 100 ∧ ∀ s ∈ l, VS s
instance (l : List Stay) : Decidable (VL l) := inferInstanceAs (Decidable (_ ∧ _))

theorem calm_spec (l : List Stay) : (VL l → ∃ out, calm l = some (out, true) ∧ Calm l out) ∧ (¬ VL l → calm l = some ([], false)) := by
  unfold calm
  by_cases hl : 100 < l.length
  · rw [if_pos (.inl (by omega))]
    refine ⟨fun h => absurd h.1 (by omega), fun _ => ?_⟩
    unfold calmG
    rw [if_pos (by simp; omega)]
  obtain ⟨f, hf, h1, h2⟩ := calm_check (l := l) (by omega)
  have hG : ∀ r, sortStays l = some r → calmG l = (iterL (calmG_L0 l) (l.length + 1) 0).bind fun f1 => match f1 with
      | .go _ => none
      | .ex _ _ => (iterL (calmG_L1 r) (r.length + 1) (([] : List Stay), 0)).bind fun f2 => match f2 with
        | .go _ => none
        | .ex _ s1 => some (s1.1, true)
        | .ret r1 => some r1
      | .ret r2 => some r2 := by
    intro r hr
    unfold calmG
    rw [if_neg (by simp; omega), clone_spec (by omega), Option.bind_some, hr, Option.bind_some]
    rfl
  constructor
  · intro hV
    obtain ⟨r, hr, hp, hs⟩ := sortStays_spec (fun s hs => (hV.2 s hs).stayIn) (show l.length ≤ 1000 by omega)
    obtain ⟨i, rfl⟩ := h1 hV.2
    have hl' := hp.length_eq
    obtain ⟨out, j, hm, hC⟩ := calm_merge (r := r) (by omega) (fun s hs => hV.2 s (hp.mem_iff.1 hs)) hs
    rw [if_pos (.inr (by rw [hr]; rfl)), hG r hr, hf, Option.bind_some]
    dsimp only
    rw [hm, Option.bind_some]
    refine ⟨out, rfl, hC.ok, hC.asc, fun d => (hC.days d).trans ?_, by rw [← hl']; exact hC.len⟩
    unfold inS
    exact ⟨fun ⟨s, hs, h⟩ => ⟨s, hp.mem_iff.1 hs, h⟩, fun ⟨s, hs, h⟩ => ⟨s, hp.mem_iff.2 hs, h⟩⟩
  · intro hV
    obtain rfl := h2 fun h => hV ⟨by omega, h⟩
    by_cases hs : (sortStays l).isSome
    · obtain ⟨r, hr⟩ := Option.isSome_iff_exists.1 hs
      rw [if_pos (.inr hs), hG r hr, hf, Option.bind_some]
    · rw [if_neg (by rintro (h | h); exact hl (by omega); exact hs h), hf, Option.bind_some]
end Go.Proofs.Ytdpekblabnfjnaa

namespace Go.Proofs.Ytdpekblabnfjnaa
open Go.Gb
set_option linter.unusedVariables false
set_option linter.unusedSimpArgs false

/-- How many of the n days from a on have the property. -/
def G (P : Int → Bool) (a : Int) : Nat → Nat
  | 0 => 0
  | n + 1 => G P a n + (if P (a + n) then 1 else 0)
theorem G_add (P : Int → Bool) (a : Int) (m : Nat) : ∀ n, G P a (m + n) = G P a m + G P (a + m) n
  | 0 => rfl
  | n + 1 => by
    rw [← Nat.add_assoc, G, G, G_add P a m n, Nat.add_assoc, show a + (m : Int) + (n : Int) = a + ((m + n : Nat) : Int) by omega]
theorem G_le (P : Int → Bool) (a : Int) : ∀ n, G P a n ≤ n
  | 0 => Nat.le_refl _
  | n + 1 => by have := G_le P a n; rw [G]; split <;> omega
theorem G_mono (P : Int → Bool) (a : Int) {m n : Nat} (h : m ≤ n) : G P a m ≤ G P a n := by
  obtain ⟨k, rfl⟩ := Nat.exists_eq_add_of_le h
  rw [G_add]; omega
theorem G_congr {P Q : Int → Bool} {a : Int} : ∀ {n : Nat}, (∀ d, a ≤ d → d < a + n → P d = Q d) → G P a n = G Q a n
  | 0, _ => rfl
  | n + 1, h => by rw [G, G, G_congr fun d h1 h2 => h d h1 (by omega), h (a + n) (by omega) (by omega)]
theorem G_sum {P Q R : Int → Bool} {a : Int} : ∀ {n : Nat}, (∀ d, a ≤ d → d < a + n → (if P d then 1 else 0) = (if Q d then 1 else 0) + (if R d then 1 else 0)) → G P a n = G Q a n + G R a n
  | 0, _ => rfl
  | n + 1, h => by rw [G, G, G, G_sum fun d h1 h2 => h d h1 (by omega), h (a + n) (by omega) (by omega)]; omega
theorem G_range (P : Int → Bool) (f t lo : Int) : ∀ n : Nat, G (fun d => P d && decide (f ≤ d ∧ d ≤ t)) lo n = G P (max f lo) (min t (lo + n - 1) + 1 - max f lo).toNat
  | 0 => by rw [show (min t (lo + (0 : Nat) - 1) + 1 - max f lo).toNat = 0 by omega]; rfl
  | n + 1 => by
    rw [G, G_range P f t lo n]
    by_cases h : f ≤ lo + n ∧ lo + n ≤ t
    · have e1 : (min t (lo + ((n + 1 : Nat) : Int) - 1) + 1 - max f lo).toNat = (min t (lo + n - 1) + 1 - max f lo).toNat + 1 := by omega
      have e2 : max f lo + ((min t (lo + n - 1) + 1 - max f lo).toNat : Int) = lo + n := by omega
      rw [e1, G, e2]
      simp [h]
    · have e1 : (min t (lo + ((n + 1 : Nat) : Int) - 1) + 1 - max f lo).toNat = (min t (lo + n - 1) + 1 - max f lo).toNat := by omega
      rw [e1]
      simp [h]

/-- A list of holidays that is valid. -/
def RH (h : List Int) : Prop := h.length ≤ 1000 ∧ (∀ d ∈ h, 0 ≤ d ∧ d ≤ 1073741824) ∧ h.Pairwise (· < ·)
instance (h : List Int) : Decidable (RH h) := inferInstanceAs (Decidable (_ ∧ _ ∧ _))
/-- A weekday that is no holiday. -/
def wk (d : Int) : Bool := decide (d % 7 < 5)
def W (h : List Int) (d : Int) : Bool := wk d && decide (d ∉ h)
instance (l : List Stay) (d : Int) : Decidable (inS l d) := inferInstanceAs (Decidable (∃ s, s ∈ l ∧ _))
/-- A day that counts. -/
def C (h : List Int) (l : List Stay) (d : Int) : Bool := W h d && !decide (inS l d)

theorem isDay_spec (n : Int) : isDay n = some (decide (0 ≤ n ∧ n ≤ 1073741824)) := by
  unfold isDay; simp [Bool.decide_and]

theorem pairwise_steps {l : List Int} (h : ∀ j (hj : j < l.length), 0 < j → (l[j - 1]'(by omega)) < l[j]) : l.Pairwise (· < ·) := by
  rw [List.pairwise_iff_getElem]
  intro i j hi hj hij
  induction j with
  | zero => omega
  | succ j ih =>
    have h1 := h (j + 1) hj (by omega)
    simp only [Nat.add_sub_cancel] at h1
    rcases Nat.lt_or_ge i j with h2 | h2
    · have := ih (by omega) h2; omega
    · obtain rfl : i = j := by omega
      exact h1

theorem calRight_spec (h : List Int) : calRight h = some (decide (RH h)) := by
  unfold calRight
  by_cases hl : h.length ≤ 1000
  · rw [if_neg (by simp; omega)]
    refine Exists.elim (loop_up (body := calRight_L0 h) (fun i s => s = (i : Int) ∧ ∀ j (hj : j < h.length), j < i → (0 ≤ h[j] ∧ h[j] ≤ 1073741824) ∧ (0 < j → (h[j - 1]'(by omega)) < h[j])) h.length
      (fun f => (RH h ∧ ∃ i, f = .ex 0 i) ∨ (¬ RH h ∧ f = .ret false)) ?_ ?_ 0 ⟨rfl, fun j _ h => absurd h (Nat.not_lt_zero j)⟩ (h.length + 1) (by omega)) ?_
    · rintro i s hi ⟨rfl, hG⟩
      unfold calRight_L0
      rw [if_pos (by simpa using hi), getI_nat hi, Option.bind_some, isDay_spec, Option.bind_some]
      by_cases hok : 0 ≤ h[i] ∧ h[i] ≤ 1073741824
      · rw [if_neg (by simp [hok])]
        by_cases h0 : 0 < i
        · rw [if_pos (by simpa using h0), subI_some (by unfold inI; omega), Option.bind_some, show (i : Int) - 1 = ((i - 1 : Nat) : Int) by omega, getI_nat (show i - 1 < h.length by omega), Option.bind_some, Option.bind_some, Option.bind_some]
          by_cases hlt : (h[i - 1]'(by omega)) < h[i]
          · left
            refine ⟨((i + 1 : Nat) : Int), ?_, rfl, fun j hj hji => ?_⟩
            · rw [if_neg (by simp; omega), addI_one (show i < 4611686018427387904 by omega), Option.bind_some]
            · rcases Nat.lt_or_ge j i with h | h
              · exact hG j hj h
              · obtain rfl : j = i := by omega
                exact ⟨hok, fun _ => hlt⟩
          · right
            refine ⟨.ret false, by rw [if_pos (by simp; omega)], trivial, .inr ⟨fun hR => hlt ?_, rfl⟩⟩
            exact (List.pairwise_iff_getElem.1 hR.2.2) (i - 1) i (by omega) hi (by omega)
        · left
          refine ⟨((i + 1 : Nat) : Int), ?_, rfl, fun j hj hji => ?_⟩
          · rw [if_neg (by simpa using h0), Option.bind_some, Option.bind_some, if_neg (by decide), addI_one (show i < 4611686018427387904 by omega), Option.bind_some]
          · obtain rfl : j = i := by omega
            exact ⟨hok, fun h => absurd h h0⟩
      · right
        refine ⟨.ret false, ?_, trivial, .inr ⟨fun hR => hok (hR.2.1 _ (List.getElem_mem hi)), rfl⟩⟩
        rw [if_pos (by simp; omega), Option.bind_some, if_pos rfl]
    · rintro s ⟨rfl, hG⟩
      refine ⟨.ex 0 (h.length : Int), ?_, trivial, .inl ⟨⟨hl, fun d hd => ?_, pairwise_steps fun j hj h0 => (hG j hj hj).2 h0⟩, _, rfl⟩⟩
      · unfold calRight_L0
        rw [if_neg (by simp)]
      · obtain ⟨j, hj, rfl⟩ := List.getElem_of_mem hd
        exact (hG j hj hj).1
    · rintro f ⟨hf, he, hp⟩
      rw [hf, Option.bind_some]
      rcases hp with ⟨hR, i, rfl⟩ | ⟨hR, rfl⟩
      · simp [hR]
      · simp [hR]
  · rw [if_pos (by simp; omega)]
    have : ¬ RH h := fun hR => hl hR.1
    simp [this]

theorem wk_count : ∀ n : Nat, (G wk 0 n : Int) = (n : Int) / 7 * 5 + min ((n : Int) % 7) 5
  | 0 => rfl
  | n + 1 => by
    have ih := wk_count n
    rw [G]
    unfold wk at ih ⊢
    by_cases h : (0 + (n : Int)) % 7 < 5
    · rw [if_pos (by simpa using h)]; omega
    · rw [if_neg (by simpa using h)]; omega

def hol (h : List Int) (n : Int) : Nat := h.countP fun d => decide (d < n) && wk d
theorem hol_succ (n : Int) : ∀ {h : List Int}, h.Pairwise (· < ·) → hol h (n + 1) = hol h n + (if n ∈ h ∧ wk n = true then 1 else 0)
  | [], _ => by simp [hol]
  | a :: t, hp => by
    obtain ⟨h1, h2⟩ := List.pairwise_cons.1 hp
    have ih := hol_succ n h2
    unfold hol at ih ⊢
    simp only [List.countP_cons, ih, List.mem_cons]
    by_cases e : a = n
    · subst e
      have hn : a ∉ t := fun h => Int.lt_irrefl _ (h1 a h)
      by_cases hw : wk a = true
      · simp [hn, hw, show a < a + 1 by omega]
      · simp [hn, hw]
    · have e' : ¬ n = a := fun h => e h.symm
      have e2 : decide (a < n + 1) = decide (a < n) := by rw [decide_eq_decide]; omega
      simp only [e', false_or, e2]
      omega
theorem hol_count {h : List Int} (hp : h.Pairwise (· < ·)) (h0 : ∀ d ∈ h, 0 ≤ d) : ∀ n : Nat, G (W h) 0 n + hol h n = G wk 0 n
  | 0 => by
    unfold hol G
    rw [List.countP_eq_zero.2]
    intro d hd
    have := h0 d hd
    simp
    omega
  | n + 1 => by
    have ih := hol_count hp h0 n
    have := hol_succ n hp
    rw [G, G, show ((n + 1 : Nat) : Int) = (n : Int) + 1 by omega, this]
    simp only [W, Int.zero_add]
    by_cases hw : wk n = true <;> by_cases hm : (n : Int) ∈ h <;> simp [hw, hm] <;> omega

theorem upTo_spec {h : List Int} (hR : RH h) {x : Int} (h0 : 0 ≤ x) (h1 : x ≤ 1073741825) : upTo h x = some (G (W h) 0 x.toNat : Int) := by
  unfold upTo
  have e1 : x.tdiv 7 = x / 7 := Int.tdiv_eq_ediv_of_nonneg h0
  have e2 : x.tmod 7 = x % 7 := Int.tmod_eq_emod_of_nonneg h0
  rw [show quoI x 7 = some (x / 7) from by unfold quoI; rw [e1, if_pos ⟨by decide, by unfold inI; omega⟩], Option.bind_some, mulI_some (by unfold inI; omega), Option.bind_some,
    show remI x 7 = some (x % 7) from by unfold remI; rw [e2, if_pos (by decide)], Option.bind_some, addI_some (by unfold inI; omega), Option.bind_some]
  refine Exists.elim (loop_up (body := upTo_L0 h x) (fun i s => s.2 = (i : Int) ∧ i ≤ h.length ∧ s.1 = x / 7 * 5 + min (x % 7) 5 - (hol (h.take i) x : Nat)) h.length
    (fun f => ∃ i, f = .ex 0 (x / 7 * 5 + min (x % 7) 5 - (hol h x : Nat), i)) ?_ ?_ (x / 7 * 5 + min (x % 7) 5, 0) ⟨rfl, Nat.zero_le _, by simp [hol]⟩ (h.length + 1) (by omega)) ?_
  · rintro i ⟨s, j⟩ hi ⟨rfl, _, rfl⟩
    left
    have hd := hR.2.1 _ (List.getElem_mem hi)
    have hlen := hR.1
    have hle : hol (h.take i) x ≤ i := by
      have := List.countP_le_length (l := h.take i) (p := fun d => decide (d < x) && wk d)
      rw [List.length_take] at this
      unfold hol
      omega
    have hstep : hol (h.take (i + 1)) x = hol (h.take i) x + (if (decide (h[i] < x) && wk h[i]) = true then 1 else 0) := by
      unfold hol
      rw [List.take_succ_eq_append_getElem hi, List.countP_append]
      simp [List.countP_cons]
    unfold upTo_L0
    dsimp only
    rw [if_pos (by simpa using hi), getI_nat hi, Option.bind_some]
    have hmod : remI h[i] 7 = some (h[i] % 7) := by unfold remI; rw [Int.tmod_eq_emod_of_nonneg hd.1, if_pos (by decide)]
    have hcond : (if decide (h[i] < x) = true then (remI h[i] 7).bind fun x204_5 => some (decide (x204_5 < 5)) else some false) = some (decide (h[i] < x) && wk h[i]) := by
      by_cases hlt : h[i] < x
      · rw [if_pos (by simpa using hlt), hmod, Option.bind_some]; simp [hlt, wk]
      · rw [if_neg (by simpa using hlt)]; simp [hlt]
    rw [hcond, Option.bind_some]
    by_cases hc : (decide (h[i] < x) && wk h[i]) = true
    · rw [if_pos hc, subI_some (by unfold inI; omega), Option.bind_some, Option.bind_some, addI_one (show i < 4611686018427387904 by omega), Option.bind_some]
      refine ⟨_, rfl, rfl, by omega, ?_⟩
      dsimp only
      rw [hstep, if_pos hc]
      omega
    · rw [if_neg hc, Option.bind_some, addI_one (show i < 4611686018427387904 by omega), Option.bind_some]
      refine ⟨_, rfl, rfl, by omega, ?_⟩
      dsimp only
      rw [hstep, if_neg hc]
      omega
  · rintro ⟨s, j⟩ ⟨rfl, _, rfl⟩
    refine ⟨.ex 0 (_, (h.length : Int)), ?_, trivial, _, rfl⟩
    unfold upTo_L0
    rw [if_neg (by simp), List.take_length]
  · rintro f ⟨hf, he, i, rfl⟩
    rw [hf, Option.bind_some]
    dsimp only
    have c1 := hol_count hR.2.2 (fun d hd => (hR.2.1 d hd).1) x.toNat
    have c2 := wk_count x.toNat
    rw [Int.toNat_of_nonneg h0] at c1 c2
    congr 1
    omega

/-- The numbers of days between two days, from those below both. -/
theorem U_sub (P : Int → Bool) {x y : Int} (h0 : 0 ≤ x) (h : x ≤ y) : (G P 0 y.toNat : Int) - (G P 0 x.toNat : Int) = (G P x (y - x).toNat : Nat) := by
  have e : y.toNat = x.toNat + (y - x).toNat := by omega
  rw [e, G_add, show (0 : Int) + (x.toNat : Int) = x by omega]
  omega

theorem countG_spec {h : List Int} {out : List Stay} {a b : Int} (hR : RH h) (hV : ∀ s ∈ out, VS s) (hasc : out.Pairwise fun a b => a.To < b.From) (hl : out.length ≤ 1000) (ha : 0 ≤ a) (hab : a < b) (hb : b ≤ 1073741824) :
    calCountG h out a b = some (G (fun d => W h d && !decide (inS out d)) (a + 1) (b - a).toNat : Int) := by
  unfold calCountG
  have hU : ∀ {x : Int}, 0 ≤ x → x ≤ 1073741825 → inI (G (W h) 0 x.toNat : Int) ∧ (G (W h) 0 x.toNat : Int) ≤ 1073741825 := by
    intro x h0 h1
    have := G_le (W h) 0 x.toNat
    unfold inI
    omega
  have u1 := hU (x := b + 1) (by omega) (by omega)
  have u2 := hU (x := a + 1) (by omega) (by omega)
  have s0 := U_sub (W h) (x := a + 1) (y := b + 1) (by omega) (by omega)
  rw [show b + 1 - (a + 1) = b - a by omega] at s0
  rw [addI_some (by unfold inI; omega), Option.bind_some, upTo_spec hR (by omega) (by omega), Option.bind_some, addI_some (by unfold inI; omega), Option.bind_some, upTo_spec hR (by omega) (by omega), Option.bind_some,
    subI_some (by unfold inI at *; omega), Option.bind_some, s0]
  refine Exists.elim (loop_up (body := calCountG_L0 h out a b) (fun i s => s.2 = (i : Int) ∧ i ≤ out.length ∧ s.1 = (G (fun d => W h d && !decide (inS (out.take i) d)) (a + 1) (b - a).toNat : Nat)) out.length
    (fun f => ∃ i, f = .ex 0 (((G (fun d => W h d && !decide (inS out d)) (a + 1) (b - a).toNat : Nat) : Int), i)) ?_ ?_ (((G (W h) (a + 1) (b - a).toNat : Nat) : Int), 0) ⟨rfl, Nat.zero_le _, ?_⟩ (out.length + 1) (by omega)) ?_
  · rintro i ⟨s, j⟩ hi ⟨rfl, _, hs⟩
    left
    dsimp only at hs
    have hVx := hV _ (List.getElem_mem hi)
    unfold VS at hVx
    have hin : ∀ d, inS (out.take (i + 1)) d ↔ inS (out.take i) d ∨ (out[i].From ≤ d ∧ d ≤ out[i].To) := by
      intro d
      rw [List.take_succ_eq_append_getElem hi]
      simp only [inS, List.mem_append, List.mem_singleton, or_and_right, exists_or, exists_eq_left]
    have hdis : ∀ d, out[i].From ≤ d → ¬ inS (out.take i) d := by
      rintro d hd ⟨s, hs, h1, h2⟩
      obtain ⟨q, hq, rfl⟩ := List.getElem_of_mem hs
      simp only [List.length_take] at hq
      rw [List.getElem_take] at h1 h2
      have := (List.pairwise_iff_getElem.1 hasc) q i (by omega) hi (by omega)
      omega
    have hsum : G (fun d => W h d && !decide (inS (out.take i) d)) (a + 1) (b - a).toNat = G (fun d => W h d && !decide (inS (out.take (i + 1)) d)) (a + 1) (b - a).toNat + G (fun d => W h d && decide (out[i].From ≤ d ∧ d ≤ out[i].To)) (a + 1) (b - a).toNat := by
      refine G_sum fun d _ _ => ?_
      by_cases hx : out[i].From ≤ d ∧ d ≤ out[i].To
      · have h1 := hdis d hx.1
        have h2 : inS (out.take (i + 1)) d := (hin d).2 (.inr hx)
        simp [h1, h2, hx]
      · have h2 : inS (out.take (i + 1)) d ↔ inS (out.take i) d := (hin d).trans ⟨fun h => h.elim id fun h => absurd h hx, .inl⟩
        simp [h2, hx]
    rw [G_range, show a + 1 + ((b - a).toNat : Int) - 1 = b by omega] at hsum
    have hb1 := G_le (fun d => W h d && !decide (inS (out.take i) d)) (a + 1) (b - a).toNat
    unfold calCountG_L0
    dsimp only
    rw [if_pos (by simpa using hi), getI_nat hi, Option.bind_some, addI_some (by unfold inI; omega), Option.bind_some]
    by_cases hc : max out[i].From (a + 1) ≤ min out[i].To b
    · have hk := U_sub (W h) (x := max out[i].From (a + 1)) (y := min out[i].To b + 1) (by omega) (by omega)
      have v1 := hU (x := min out[i].To b + 1) (by omega) (by omega)
      have v2 := hU (x := max out[i].From (a + 1)) (by omega) (by omega)
      rw [if_pos (by simpa using hc), addI_some (by unfold inI; omega), Option.bind_some, upTo_spec hR (by omega) (by omega), Option.bind_some, upTo_spec hR (by omega) (by omega), Option.bind_some, subI_some (by unfold inI at *; omega), Option.bind_some, hk,
        subI_some (by unfold inI; omega), Option.bind_some, Option.bind_some, addI_one (show i < 4611686018427387904 by omega), Option.bind_some]
      refine ⟨_, rfl, rfl, by omega, ?_⟩
      dsimp only
      omega
    · rw [if_neg (by simpa using hc), Option.bind_some, addI_one (show i < 4611686018427387904 by omega), Option.bind_some]
      refine ⟨_, rfl, rfl, by omega, ?_⟩
      dsimp only
      rw [show (min out[i].To b + 1 - max out[i].From (a + 1)).toNat = 0 by omega] at hsum
      simp only [G] at hsum
      omega
  · rintro ⟨s, j⟩ ⟨rfl, _, hs⟩
    dsimp only at hs
    rw [List.take_length] at hs
    subst hs
    refine ⟨.ex 0 (_, (out.length : Int)), ?_, trivial, _, rfl⟩
    unfold calCountG_L0
    rw [if_neg (by simp)]
  · have : (fun d => W h d && !decide (inS ([] : List Stay) d)) = W h := by funext d; simp [inS]
    exact (congrArg (fun P => ((G P (a + 1) (b - a).toNat : Nat) : Int)) this).symm
  · rintro f ⟨hf, he, i, rfl⟩
    rw [hf, Option.bind_some]
end Go.Proofs.Ytdpekblabnfjnaa

namespace Go.Proofs.Ytdpekblabnfjnaa
open Go.Gb
set_option linter.unusedVariables false
set_option linter.unusedSimpArgs false

theorem half {x : Int} (h0 : 0 ≤ x) (h1 : x < 9223372036854775808) : IntKind.i64.wrap (IK.shr (IK.mk (IntKind.u64.wrap x) : IK .u64) 1).n = x / 2 := by
  unfold IK.shr
  dsimp only
  rw [IntKind.wrap_u64, Int.emod_eq_of_lt h0 (by omega), show ((2 : Int) ^ (1 : Int).toNat) = 2 from rfl, Int.fdiv_eq_ediv_of_nonneg _ (by decide), IntKind.wrap_i64]
  omega

theorem search_spec {n : Nat} {f : Int → Option Bool} (p : Nat → Bool) (hn : n ≤ 1099511627776) (hf : ∀ i : Nat, i < n → f i = some (p i)) (hp : ∀ i j, i ≤ j → p i = true → p j = true) :
    ∃ k : Nat, search n f = some (k : Int) ∧ k ≤ n ∧ (∀ j, j < k → p j = false) ∧ (k < n → p k = true) := by
  unfold search
  refine Exists.elim (loop_down (body := search_L0 f) (fun s => ∃ lo hi : Nat, s = ((lo : Int), (hi : Int)) ∧ lo ≤ hi ∧ hi ≤ n ∧ (∀ j, j < lo → p j = false) ∧ (hi < n → p hi = true)) (fun s => (s.2 - s.1).toNat)
    (fun g => ∃ k : Nat, ∃ h : Int, g = .ex 0 ((k : Int), h) ∧ k ≤ n ∧ (∀ j, j < k → p j = false) ∧ (k < n → p k = true)) ?_ (0, (n : Int)) ⟨0, n, rfl, Nat.zero_le _, Nat.le_refl _, fun j h => absurd h (Nat.not_lt_zero j), fun h => absurd h (Nat.lt_irrefl _)⟩ ((n : Int).toNat + 1) ?_) ?_
  · rintro s ⟨lo, hi, rfl, h1, h2, h3, h4⟩
    unfold search_L0
    dsimp only
    by_cases hlt : lo < hi
    · left
      have hh : ((lo : Int) + hi) / 2 = ((lo + hi) / 2 : Nat) := by omega
      rw [if_pos (by simpa using hlt), addI_some (by unfold inI; omega), Option.bind_some, half (by omega) (by omega), hh, hf _ (by omega), Option.bind_some]
      cases hm : p ((lo + hi) / 2) with
      | false =>
        rw [if_pos (by decide), addI_one (show (lo + hi) / 2 < 4611686018427387904 by omega), Option.bind_some, Option.bind_some]
        refine ⟨_, rfl, ⟨(lo + hi) / 2 + 1, hi, rfl, by omega, h2, fun j hj => ?_, h4⟩, ?_⟩
        · cases hpj : p j with
          | false => rfl
          | true => rw [hp j ((lo + hi) / 2) (by omega) hpj] at hm; cases hm
        · dsimp only; omega
      | true =>
        rw [if_neg (by decide), Option.bind_some]
        refine ⟨_, rfl, ⟨lo, (lo + hi) / 2, rfl, by omega, by omega, h3, fun _ => hm⟩, ?_⟩
        dsimp only; omega
    · right
      obtain rfl : lo = hi := by omega
      refine ⟨.ex 0 ((lo : Int), (lo : Int)), by rw [if_neg (by simp)], trivial, lo, _, rfl, h2, h3, h4⟩
  · dsimp only; omega
  · rintro g ⟨hg, he, k, h, rfl, h1, h2, h3⟩
    rw [hg, Option.bind_some]
    exact ⟨k, rfl, h1, h2, h3⟩

theorem cLess_spec (x y : Int) : cLess x y = some (decide (x < y)) := by
  unfold cLess cIsNaN
  simp

theorem binSearch_spec {h : List Int} (t : Int) (hR : RH h) : ∃ k, binSearch h t = some (k, decide (t ∈ h)) := by
  have hl := hR.1
  have hlt := List.pairwise_iff_getElem.1 hR.2.2
  unfold binSearch
  refine Exists.elim (loop_down (body := binSearch_L0 h t) (fun s => ∃ lo hi : Nat, s = ((lo : Int), (hi : Int)) ∧ lo ≤ hi ∧ hi ≤ h.length ∧ (∀ j (hj : j < h.length), j < lo → h[j] < t) ∧ (∀ hj : hi < h.length, t ≤ h[hi])) (fun s => (s.2 - s.1).toNat)
    (fun g => ∃ k : Nat, ∃ x : Int, g = .ex 0 ((k : Int), x) ∧ k ≤ h.length ∧ (∀ j (hj : j < h.length), j < k → h[j] < t) ∧ (∀ hj : k < h.length, t ≤ h[k])) ?_ (0, (h.length : Int)) ⟨0, h.length, rfl, Nat.zero_le _, Nat.le_refl _, fun j _ h => absurd h (Nat.not_lt_zero j), fun hj => absurd hj (Nat.lt_irrefl _)⟩ (h.length + 1) ?_) ?_
  · rintro s ⟨lo, hi, rfl, h1, h2, h3, h4⟩
    unfold binSearch_L0
    dsimp only
    by_cases hc : lo < hi
    · left
      have hh : ((lo : Int) + hi) / 2 = ((lo + hi) / 2 : Nat) := by omega
      have hm : (lo + hi) / 2 < h.length := by omega
      rw [if_pos (by simpa using hc), addI_some (by unfold inI; omega), Option.bind_some, half (by omega) (by omega), hh, getI_nat hm, Option.bind_some, cLess_spec, Option.bind_some]
      by_cases hv : h[(lo + hi) / 2] < t
      · rw [if_pos (by simpa using hv), addI_one (show (lo + hi) / 2 < 4611686018427387904 by omega), Option.bind_some, Option.bind_some]
        refine ⟨_, rfl, ⟨(lo + hi) / 2 + 1, hi, rfl, by omega, h2, fun j hj hjl => ?_, h4⟩, ?_⟩
        · rcases Nat.lt_or_ge j ((lo + hi) / 2) with hq | hq
          · have := hlt j _ hj hm hq; omega
          · obtain rfl : j = (lo + hi) / 2 := by omega
            exact hv
        · dsimp only; omega
      · rw [if_neg (by simpa using hv), Option.bind_some]
        refine ⟨_, rfl, ⟨lo, (lo + hi) / 2, rfl, by omega, by omega, h3, fun _ => by omega⟩, ?_⟩
        dsimp only; omega
    · right
      obtain rfl : lo = hi := by omega
      exact ⟨.ex 0 ((lo : Int), (lo : Int)), by rw [if_neg (by simp)], trivial, lo, _, rfl, h2, h3, h4⟩
  · dsimp only; omega
  · rintro g ⟨hg, he, k, x, rfl, h1, h2, h3⟩
    rw [hg, Option.bind_some]
    dsimp only
    refine ⟨(k : Int), ?_⟩
    have hmem : t ∈ h ↔ ∃ hk : k < h.length, h[k] = t := by
      constructor
      · intro ht
        obtain ⟨j, hj, rfl⟩ := List.getElem_of_mem ht
        have a1 : ¬ j < k := fun hjk => by have := h2 j hj hjk; omega
        have hk : k < h.length := by omega
        refine ⟨hk, ?_⟩
        rcases Nat.lt_or_ge k j with a2 | a2
        · have b1 := hlt k j hk hj a2
          have b2 := h3 hk
          omega
        · obtain rfl : j = k := by omega
          rfl
      · rintro ⟨hk, rfl⟩
        exact List.getElem_mem hk
    by_cases hk : k < h.length
    · rw [if_pos (by simpa using hk), getI_nat hk, Option.bind_some]
      by_cases he : h[k] = t
      · rw [if_pos (by simpa using he), Option.bind_some, Option.bind_some]
        have : t ∈ h := hmem.2 ⟨hk, he⟩
        simp [this]
      · have : ¬ t ∈ h := fun ht => he (hmem.1 ht).2
        rw [if_neg (by simpa using he), Option.bind_some]
        simp [this, sIsNaN]
    · have : ¬ t ∈ h := fun ht => hk (hmem.1 ht).1
      rw [if_neg (by simpa using hk), Option.bind_some]
      simp [this]

theorem contains_spec {l : List Stay} {f : Stay → Option Bool} (q : Stay → Bool) (hl : l.length ≤ 1000) (hf : ∀ s, f s = some (q s)) : containsFunc l f = some (l.any q) := by
  unfold containsFunc indexFunc
  refine Exists.elim (loop_up (body := indexFunc_L0 l f) (fun i s => s = (i : Int) ∧ ∀ j (hj : j < l.length), j < i → q l[j] = false) l.length
    (fun g => (l.any q = true ∧ ∃ i : Nat, g = .ret (i : Int)) ∨ (l.any q = false ∧ ∃ i, g = .ex 0 i)) ?_ ?_ 0 ⟨rfl, fun j _ h => absurd h (Nat.not_lt_zero j)⟩ (l.length + 1) (by omega)) ?_
  · rintro i s hi ⟨rfl, hG⟩
    unfold indexFunc_L0
    rw [if_pos (by simpa using hi), getI_nat hi, Option.bind_some, hf, Option.bind_some]
    by_cases hq : q l[i] = true
    · right
      exact ⟨.ret (i : Int), by rw [if_pos hq], trivial, .inl ⟨List.any_eq_true.2 ⟨_, List.getElem_mem hi, hq⟩, i, rfl⟩⟩
    · left
      rw [if_neg hq, addI_one (show i < 4611686018427387904 by omega), Option.bind_some]
      refine ⟨_, rfl, rfl, fun j hj hji => ?_⟩
      rcases Nat.lt_or_ge j i with h | h
      · exact hG j hj h
      · obtain rfl : j = i := by omega
        simpa using hq
  · rintro s ⟨rfl, hG⟩
    refine ⟨.ex 0 (l.length : Int), ?_, trivial, .inr ⟨List.any_eq_false.2 fun x hx => ?_, _, rfl⟩⟩
    · unfold indexFunc_L0
      rw [if_neg (by simp)]
    · obtain ⟨j, hj, rfl⟩ := List.getElem_of_mem hx
      simp [hG j hj hj]
  · rintro g ⟨hg, he, hp⟩
    rw [hg, Option.bind_some]
    rcases hp with ⟨h, i, rfl⟩ | ⟨h, i, rfl⟩
    · simp [h]
    · simp [h]

/-- The lists are valid. -/
def Ok (h : List Int) (l : List Stay) : Prop := VL l ∧ RH h
instance (h : List Int) (l : List Stay) : Decidable (Ok h l) := inferInstanceAs (Decidable (_ ∧ _))
def isD (d : Int) : Prop := 0 ≤ d ∧ d ≤ 1073741824
instance (d : Int) : Decidable (isD d) := inferInstanceAs (Decidable (_ ∧ _))

theorem calCounts_spec {h : List Int} {l : List Stay} (d : Int) : calCounts h l d = some (decide (Ok h l) && decide (isD d) && C h l d) := by
  unfold calCounts
  obtain ⟨c1, c2⟩ := calm_spec l
  by_cases hV : VL l
  · obtain ⟨out, hc, _⟩ := c1 hV
    rw [hc, Option.bind_some, if_neg (by simp), calRight_spec, Option.bind_some, Option.bind_some]
    by_cases hR : RH h
    · rw [if_neg (by simp [hR]), isDay_spec, Option.bind_some, Option.bind_some]
      have hOk : Ok h l := ⟨hV, hR⟩
      by_cases hd : isD d
      · have hd' := hd
        unfold isD at hd'
        rw [if_neg (by simp [hd']), show remI d 7 = some (d % 7) from by unfold remI; rw [Int.tmod_eq_emod_of_nonneg hd'.1, if_pos (by decide)], Option.bind_some, Option.bind_some]
        by_cases hw : d % 7 < 5
        · rw [if_neg (by simp; omega)]
          obtain ⟨k, hb⟩ := binSearch_spec d hR
          rw [hb, Option.bind_some]
          dsimp only
          by_cases hm : d ∈ h
          · rw [if_pos (by simp [hm])]; simp [C, W, hm]
          · rw [if_neg (by simp [hm]), contains_spec (l := l) (f := fun y0 => calCounts_1 y0 d) (fun s => decide (s.From ≤ d) && decide (d ≤ s.To)) (by have := hV.1; omega) (fun s => rfl), Option.bind_some]
            have : (l.any fun s => decide (s.From ≤ d) && decide (d ≤ s.To)) = decide (inS l d) := by
              rw [Bool.eq_iff_iff, decide_eq_true_iff, List.any_eq_true]; unfold inS; simp only [Bool.and_eq_true, decide_eq_true_eq]
            rw [this]
            simp [C, W, hm, hd, hOk, wk, hw]
        · rw [if_pos (by simp; omega)]; simp [C, W, wk, hw]
      · rw [if_pos (by unfold isD at hd; simp; omega), Option.bind_some, if_pos rfl]; simp [hd]
    · rw [if_pos (by simp [hR]), Option.bind_some, if_pos rfl, Option.bind_some, if_pos rfl]
      have : ¬ Ok h l := fun h => hR h.2
      simp [this]
  · rw [c2 hV, Option.bind_some, if_pos (by decide), Option.bind_some, if_pos rfl, Option.bind_some, if_pos rfl, Option.bind_some, if_pos rfl]
    have : ¬ Ok h l := fun h => hV h.1
    simp [this]

theorem count_eq {h : List Int} {l out : List Stay} {a b : Int} (hO : Ok h l) (hc : Calm l out) (ha : 0 ≤ a) (hab : a < b) (hb : b ≤ 1073741824) : calCountG h out a b = some (G (C h l) (a + 1) (b - a).toNat : Int) := by
  rw [countG_spec hO.2 hc.ok hc.asc (by have := hc.len; have := hO.1.1; omega) ha hab hb]
  have : (fun d => W h d && !decide (inS out d)) = C h l := by
    funext d
    have := hc.days d
    simp [C, this]
  rw [this]

theorem calCount_spec {h : List Int} {l : List Stay} (a b : Int) : calCount h l a b = some (if Ok h l ∧ isD a ∧ isD b ∧ a < b then (G (C h l) (a + 1) (b - a).toNat : Int) else 0) := by
  unfold calCount
  obtain ⟨c1, c2⟩ := calm_spec l
  by_cases hV : VL l
  · obtain ⟨out, hc, hC⟩ := c1 hV
    rw [hc, Option.bind_some, if_neg (by simp), calRight_spec, Option.bind_some, Option.bind_some]
    by_cases hR : RH h
    · have hOk : Ok h l := ⟨hV, hR⟩
      rw [if_neg (by simp [hR]), isDay_spec, Option.bind_some, Option.bind_some]
      by_cases hda : isD a
      · have hda' := hda
        unfold isD at hda'
        rw [if_neg (by simp [hda']), isDay_spec, Option.bind_some, Option.bind_some]
        by_cases hdb : isD b ∧ a < b
        · have hdb' := hdb
          unfold isD at hdb'
          rw [if_neg (by simp [hdb']), count_eq hOk hC hda'.1 hdb.2 hdb'.1.2, Option.bind_some, if_pos ⟨hOk, hda, hdb⟩]
        · rw [if_pos (by unfold isD at hdb; simp; omega), if_neg fun h => hdb h.2.2]
      · rw [if_pos (by unfold isD at hda; simp; omega), Option.bind_some, if_pos (by simp), if_neg fun h => hda h.2.1]
    · rw [if_pos (by simp [hR]), Option.bind_some, if_pos rfl, Option.bind_some, if_pos (by simp), if_neg fun h => hR h.1.2]
  · rw [c2 hV, Option.bind_some, if_pos (by decide), Option.bind_some, if_pos rfl, Option.bind_some, if_pos rfl, Option.bind_some, if_pos (by simp), if_neg fun h => hV h.1.1]

/-- What Deadline returns. -/
inductive DL (h : List Int) (l : List Stay) (day n : Int) : Int × Int → Prop where
  | arg : ¬ (Ok h l ∧ isD day ∧ isD n) → DL h l day n (0, 1)
  | zero : Ok h l → isD day → n = 0 → DL h l day n (day, 0)
  | none : Ok h l → isD day → 1 ≤ n → n ≤ 1073741824 → (G (C h l) (day + 1) (1073741824 - day).toNat : Int) < n → DL h l day n (0, 20)
  | some (k : Nat) : Ok h l → isD day → 1 ≤ n → n ≤ 1073741824 → day + 1 + k ≤ 1073741824 → (∀ j, j ≤ k → (G (C h l) (day + 1) j : Int) < n) → n ≤ (G (C h l) (day + 1) (k + 1) : Int) → DL h l day n (day + 1 + k, 0)

theorem calDeadline_spec {h : List Int} {l : List Stay} (day n : Int) : ∃ r, calDeadline h l day n = some r ∧ DL h l day n r := by
  unfold calDeadline
  obtain ⟨c1, c2⟩ := calm_spec l
  by_cases hV : VL l
  · obtain ⟨out, hc, hC⟩ := c1 hV
    rw [hc, Option.bind_some, if_neg (by simp), calRight_spec, Option.bind_some, Option.bind_some]
    by_cases hR : RH h
    · have hOk : Ok h l := ⟨hV, hR⟩
      rw [if_neg (by simp [hR]), isDay_spec, Option.bind_some, Option.bind_some]
      by_cases hda : isD day
      · have hda' := hda
        unfold isD at hda'
        rw [if_neg (by simp [hda']), isDay_spec, Option.bind_some, Option.bind_some]
        by_cases hdn : isD n
        · have hdn' := hdn
          unfold isD at hdn'
          rw [if_neg (by simp [hdn'])]
          by_cases h0 : n = 0
          · rw [if_pos (by simpa using h0)]
            exact ⟨_, rfl, .zero hOk hda h0⟩
          · rw [if_neg (by simpa using h0), subI_some (by unfold inI; omega), Option.bind_some]
            dsimp only
            obtain ⟨k, hs, hk, hlow, hhigh⟩ := search_spec (n := (1073741824 - day).toNat) (f := fun y0 => calDeadline_1 y0 h out day n) (fun i => decide (n ≤ (G (C h l) (day + 1) (i + 1) : Int))) (by omega)
              (fun i hi => by
                unfold calDeadline_1
                rw [addI_some (by unfold inI; omega), Option.bind_some, addI_some (by unfold inI; omega), Option.bind_some, count_eq hOk hC (by omega) (by omega) (by omega), Option.bind_some, show (day + 1 + (i : Int) - day).toNat = i + 1 by omega])
              (fun i j hij hi => by
                have := G_mono (C h l) (day + 1) (show i + 1 ≤ j + 1 by omega)
                simp only [decide_eq_true_eq] at hi ⊢
                omega)
            rw [show (((1073741824 - day).toNat : Nat) : Int) = 1073741824 - day by omega] at hs
            rw [hs, Option.bind_some]
            simp only [decide_eq_false_iff_not, Int.not_le, decide_eq_true_eq] at hlow hhigh
            by_cases hkn : (k : Int) = 1073741824 - day
            · rw [if_pos (by simpa using hkn)]
              refine ⟨_, rfl, .none hOk hda (by omega) hdn'.2 ?_⟩
              rw [← hkn, Int.toNat_natCast]
              cases k with
              | zero => simp only [G]; omega
              | succ k => exact hlow k (by omega)
            · rw [if_neg (by simpa using hkn), addI_some (by unfold inI; omega), Option.bind_some, addI_some (by unfold inI; omega), Option.bind_some]
              refine ⟨_, rfl, .some k hOk hda (by omega) hdn'.2 (by omega) (fun j hj => ?_) (hhigh (by omega))⟩
              cases j with
              | zero => simp only [G]; omega
              | succ j => exact hlow j (by omega)
        · rw [if_pos (by unfold isD at hdn; simp; omega)]
          exact ⟨_, rfl, .arg fun h => hdn h.2.2⟩
      · rw [if_pos (by unfold isD at hda; simp; omega), Option.bind_some, if_pos rfl]
        exact ⟨_, rfl, .arg fun h => hda h.2.1⟩
    · rw [if_pos (by simp [hR]), Option.bind_some, if_pos rfl, Option.bind_some, if_pos rfl]
      exact ⟨_, rfl, .arg fun h => hR h.1.2⟩
  · rw [c2 hV, Option.bind_some, if_pos (by decide), Option.bind_some, if_pos rfl, Option.bind_some, if_pos rfl, Option.bind_some, if_pos rfl]
    exact ⟨_, rfl, .arg fun h => hV h.1.1⟩

/-- The result is determined by what counts. -/
theorem DL.unique {h h' : List Int} {l l' : List Stay} {day n : Int} {r r' : Int × Int} (hr : DL h l day n r) (hr' : DL h' l' day n r') (hO : Ok h l ↔ Ok h' l') (hC : ∀ d, 0 ≤ d → C h l d = C h' l' d) : r = r' := by
  have hG : isD day → ∀ k, G (C h l) (day + 1) k = G (C h' l') (day + 1) k := fun hd k => G_congr fun d h1 _ => hC d (by unfold isD at hd; omega)
  cases hr with
  | arg hn =>
    cases hr' with
    | arg _ => rfl
    | zero o d e => exact absurd ⟨hO.2 o, d, by unfold isD; omega⟩ hn
    | none o d e f _ => exact absurd ⟨hO.2 o, d, by unfold isD; omega⟩ hn
    | some k o d e f _ _ _ => exact absurd ⟨hO.2 o, d, by unfold isD; omega⟩ hn
  | zero o d e =>
    cases hr' with
    | arg hn => exact absurd ⟨hO.1 o, d, by unfold isD; omega⟩ hn
    | zero _ _ _ => rfl
    | none _ _ e' _ _ => omega
    | some k _ _ e' _ _ _ _ => omega
  | none o d e f g =>
    cases hr' with
    | arg hn => exact absurd ⟨hO.1 o, d, by unfold isD; omega⟩ hn
    | zero _ _ e' => omega
    | none _ _ _ _ _ => rfl
    | some k _ _ _ _ hk _ hi =>
      rw [hG d] at g
      have := G_mono (C h' l') (day + 1) (show k + 1 ≤ (1073741824 - day).toNat by omega)
      omega
  | some k o d e f hk lo hi =>
    cases hr' with
    | arg hn => exact absurd ⟨hO.1 o, d, by unfold isD; omega⟩ hn
    | zero _ _ e' => omega
    | none _ _ _ _ g =>
      rw [hG d] at hi
      have := G_mono (C h' l') (day + 1) (show k + 1 ≤ (1073741824 - day).toNat by omega)
      omega
    | some k' _ _ _ _ _ lo' hi' =>
      rw [hG d] at hi
      have h1 : ¬ k' < k := fun hlt => by have := lo (k' + 1) (by omega); rw [hG d] at this; omega
      have h2 : ¬ k < k' := fun hlt => by have := lo' (k + 1) (by omega); omega
      obtain rfl : k = k' := by omega
      rfl

set_option maxRecDepth 100000 in
theorem small_true : small = some true := by decide +kernel
end Go.Proofs.Ytdpekblabnfjnaa

namespace Go.Proofs.Ytdpekblabnfjnaa
open Go.Gb
set_option linter.unusedVariables false
set_option linter.unusedSimpArgs false

theorem rIn_spec (n : Int) : rIn n = some (decide (isD n)) := by
  unfold rIn
  congr 1
  rw [Bool.eq_iff_iff, decide_eq_true_iff, Bool.and_eq_true, decide_eq_true_iff, decide_eq_true_iff]
  rfl
theorem rRight_spec {h : List Int} (hl : h.length ≤ 1100) : rRight h = some (decide (RH h)) := by
  unfold rRight
  refine Exists.elim (loop_up (body := rRight_L0 h) (fun i s => s = (i : Int) ∧ i ≤ h.length ∧ ∀ j (hj : j < h.length), j < i → isD h[j] ∧ (0 < j → (h[j - 1]'(by omega)) < h[j])) h.length
    (fun f => ((∀ j (hj : j < h.length), isD h[j] ∧ (0 < j → (h[j - 1]'(by omega)) < h[j])) ∧ ∃ i, f = .ex 0 i) ∨ (¬ RH h ∧ f = .ret false)) ?_ ?_ 0 ⟨rfl, Nat.zero_le _, fun j _ h => absurd h (Nat.not_lt_zero j)⟩ (h.length + 1) (by omega)) ?_
  · rintro i s hi ⟨rfl, _, hG⟩
    have hlast : ∀ v, (if decide (0 < (i : Int)) = true then (subI (i : Int) 1).bind fun x3 => (getI h x3).bind fun x4 => (some h[i]).bind fun x5 => some (decide (x5 ≤ x4)) else some false) = some v ↔ v = decide (∃ h0 : 0 < i, h[i] ≤ h[i - 1]'(by omega)) := by
      intro v
      by_cases h0 : 0 < i
      · rw [if_pos (by simpa using h0), subI_some (by unfold inI; omega), Option.bind_some, show (i : Int) - 1 = ((i - 1 : Nat) : Int) by omega, getI_nat (show i - 1 < h.length by omega), Option.bind_some, Option.bind_some]
        simp [h0, eq_comm]
      · rw [if_neg (by simpa using h0)]
        have : ¬ ∃ h0 : 0 < i, h[i] ≤ h[i - 1]'(by omega) := fun ⟨h1, _⟩ => h0 h1
        rw [decide_eq_false this, Option.some_inj, eq_comm]
    unfold rRight_L0
    rw [if_pos (by simpa using hi), getI_nat hi, Option.bind_some, rIn_spec, Option.bind_some]
    by_cases hd : isD h[i]
    · rw [if_neg (by simp [hd]), (hlast _).2 rfl, Option.bind_some, Option.bind_some]
      by_cases hlt : ∃ h0 : 0 < i, h[i] ≤ h[i - 1]'(by omega)
      · right
        refine ⟨.ret false, by rw [if_pos (by simpa using hlt)], trivial, .inr ⟨fun hR => ?_, rfl⟩⟩
        obtain ⟨h0, h1⟩ := hlt
        have := (List.pairwise_iff_getElem.1 hR.2.2) (i - 1) i (by omega) hi (by omega)
        omega
      · left
        rw [if_neg (by simpa using hlt), addI_one (show i < 4611686018427387904 by omega), Option.bind_some]
        refine ⟨_, rfl, rfl, by omega, fun j hj hji => ?_⟩
        rcases Nat.lt_or_ge j i with h' | h'
        · exact hG j hj h'
        · obtain rfl : j = i := by omega
          exact ⟨hd, fun h0 => Int.not_le.1 fun x => hlt ⟨h0, x⟩⟩
    · right
      refine ⟨.ret false, by rw [if_pos (by simp [hd]), Option.bind_some, if_pos rfl], trivial, .inr ⟨fun hR => hd ?_, rfl⟩⟩
      exact hR.2.1 _ (List.getElem_mem hi)
  · rintro s ⟨rfl, _, hG⟩
    refine ⟨.ex 0 (h.length : Int), ?_, trivial, .inl ⟨fun j hj => hG j hj hj, _, rfl⟩⟩
    unfold rRight_L0
    rw [if_neg (by simp)]
  · rintro f ⟨hf, he, ⟨hG, i, rfl⟩ | ⟨hR, rfl⟩⟩
    · rw [hf, Option.bind_some]
      dsimp only
      congr 1
      rw [decide_eq_decide]
      refine ⟨fun hl' => ⟨by omega, fun d hd => ?_, pairwise_steps fun j hj h0 => (hG j hj).2 h0⟩, fun hR => by have := hR.1; omega⟩
      obtain ⟨j, hj, rfl⟩ := List.getElem_of_mem hd
      exact (hG j hj).1
    · rw [hf, Option.bind_some]
      simp [hR]

theorem rightStays_spec {l : List Stay} (hl : l.length ≤ 1100) : rightStays l = some (decide (VL l)) := by
  unfold rightStays
  refine Exists.elim (loop_up (body := rightStays_L0 l) (fun i s => s = (i : Int) ∧ ∀ j (hj : j < l.length), j < i → VS l[j]) l.length
    (fun f => ((∀ s ∈ l, VS s) ∧ ∃ i, f = .ex 0 i) ∨ (¬ (∀ s ∈ l, VS s) ∧ f = .ret false)) ?_ ?_ 0 ⟨rfl, fun j _ h => absurd h (Nat.not_lt_zero j)⟩ (l.length + 1) (by omega)) ?_
  · rintro i s hi ⟨rfl, hG⟩
    unfold rightStays_L0
    simp only [if_pos (show decide ((i : Int) < (l.length : Int)) = true by simpa using hi), getI_nat hi, Option.bind_some]
    have e : ∀ k : Bool → Option (Flow Int Bool), ((if decide (l[i].From < 0) = true then some true else some (decide (l[i].To < l[i].From))).bind fun x4 => (if x4 = true then some true else some (decide (1073741824 < l[i].To))).bind k) = k (decide (¬ VS l[i])) := by
      intro k
      unfold VS
      by_cases h1 : l[i].From < 0
      · rw [if_pos (by simpa using h1), Option.bind_some, if_pos rfl, Option.bind_some]; congr 1; symm; rw [decide_eq_true_iff]; omega
      · rw [if_neg (by simpa using h1), Option.bind_some]
        by_cases h2 : l[i].To < l[i].From
        · rw [if_pos (by simpa using h2), Option.bind_some]; congr 1; symm; rw [decide_eq_true_iff]; omega
        · rw [if_neg (by simpa using h2), Option.bind_some]; congr 1; rw [decide_eq_decide]; omega
    rw [e]
    by_cases hok : VS l[i]
    · left
      refine ⟨((i + 1 : Nat) : Int), ?_, rfl, fun j hj hji => ?_⟩
      · rw [if_neg (by simpa using hok), addI_one (show i < 4611686018427387904 by omega), Option.bind_some]
      · rcases Nat.lt_or_ge j i with h | h
        · exact hG j hj h
        · obtain rfl : j = i := by omega
          exact hok
    · right
      exact ⟨.ret false, by rw [if_pos (by simpa using hok)], trivial, .inr ⟨fun h => hok (h _ (List.getElem_mem hi)), rfl⟩⟩
  · rintro s ⟨rfl, hG⟩
    refine ⟨.ex 0 (l.length : Int), ?_, trivial, .inl ⟨fun s hs => ?_, _, rfl⟩⟩
    · unfold rightStays_L0
      rw [if_neg (by simp)]
    · obtain ⟨j, hj, rfl⟩ := List.getElem_of_mem hs
      exact hG j hj hj
  · rintro f ⟨hf, he, ⟨hG, i, rfl⟩ | ⟨hG, rfl⟩⟩
    · rw [hf, Option.bind_some]
      dsimp only
      congr 1
      rw [decide_eq_decide]
      exact ⟨fun h => ⟨by omega, hG⟩, fun h => by have := h.1; omega⟩
    · rw [hf, Option.bind_some]
      have : ¬ VL l := fun h => hG h.2
      simp [this]

theorem rHas_spec {l : List Int} (n : Int) (hl : l.length ≤ 1100) : rHas l n = some (decide (n ∈ l)) := by
  unfold rHas
  refine Exists.elim (loop_up (body := rHas_L0 l n) (fun i s => s = (i : Int) ∧ ∀ j (hj : j < l.length), j < i → l[j] ≠ n) l.length
    (fun f => (n ∉ l ∧ ∃ i, f = .ex 0 i) ∨ (n ∈ l ∧ f = .ret true)) ?_ ?_ 0 ⟨rfl, fun j _ h => absurd h (Nat.not_lt_zero j)⟩ (l.length + 1) (by omega)) ?_
  · rintro i s hi ⟨rfl, hG⟩
    unfold rHas_L0
    rw [if_pos (by simpa using hi), getI_nat hi, Option.bind_some]
    by_cases hn : l[i] = n
    · right
      exact ⟨.ret true, by rw [if_pos (by simpa using hn)], trivial, .inr ⟨by rw [← hn]; exact List.getElem_mem hi, rfl⟩⟩
    · left
      rw [if_neg (by simpa using hn), addI_one (show i < 4611686018427387904 by omega), Option.bind_some]
      refine ⟨_, rfl, rfl, fun j hj hji => ?_⟩
      rcases Nat.lt_or_ge j i with h | h
      · exact hG j hj h
      · obtain rfl : j = i := by omega
        exact hn
  · rintro s ⟨rfl, hG⟩
    refine ⟨.ex 0 (l.length : Int), by unfold rHas_L0; rw [if_neg (by simp)], trivial, .inl ⟨fun hn => ?_, _, rfl⟩⟩
    obtain ⟨j, hj, e⟩ := List.getElem_of_mem hn
    exact hG j hj hj e
  · rintro f ⟨hf, he, ⟨hn, i, rfl⟩ | ⟨hn, rfl⟩⟩ <;> rw [hf, Option.bind_some] <;> simp [hn]

theorem rStayed_spec {l : List Stay} (d : Int) (hl : l.length ≤ 1100) : rStayed l d = some (decide (inS l d)) := by
  unfold rStayed
  refine Exists.elim (loop_up (body := rStayed_L0 l d) (fun i s => s = (i : Int) ∧ ∀ j (hj : j < l.length), j < i → ¬ (l[j].From ≤ d ∧ d ≤ l[j].To)) l.length
    (fun f => (¬ inS l d ∧ ∃ i, f = .ex 0 i) ∨ (inS l d ∧ f = .ret true)) ?_ ?_ 0 ⟨rfl, fun j _ h => absurd h (Nat.not_lt_zero j)⟩ (l.length + 1) (by omega)) ?_
  · rintro i s hi ⟨rfl, hG⟩
    unfold rStayed_L0
    simp only [if_pos (show decide ((i : Int) < (l.length : Int)) = true by simpa using hi), getI_nat hi, Option.bind_some]
    have e : (if decide (l[i].From ≤ d) = true then some (decide (d ≤ l[i].To)) else some false) = some (decide (l[i].From ≤ d ∧ d ≤ l[i].To)) := by
      by_cases h1 : l[i].From ≤ d <;> simp [h1]
    rw [e, Option.bind_some]
    by_cases hn : l[i].From ≤ d ∧ d ≤ l[i].To
    · right
      exact ⟨.ret true, by rw [if_pos (by simpa using hn)], trivial, .inr ⟨⟨_, List.getElem_mem hi, hn⟩, rfl⟩⟩
    · left
      rw [if_neg (by rw [decide_eq_true_iff]; exact hn), addI_one (show i < 4611686018427387904 by omega), Option.bind_some]
      refine ⟨_, rfl, rfl, fun j hj hji => ?_⟩
      rcases Nat.lt_or_ge j i with h | h
      · exact hG j hj h
      · obtain rfl : j = i := by omega
        exact hn
  · rintro s ⟨rfl, hG⟩
    refine ⟨.ex 0 (l.length : Int), by unfold rStayed_L0; rw [if_neg (by simp)], trivial, .inl ⟨?_, _, rfl⟩⟩
    rintro ⟨s, hs, h⟩
    obtain ⟨j, hj, rfl⟩ := List.getElem_of_mem hs
    exact hG j hj hj h
  · rintro f ⟨hf, he, ⟨hn, i, rfl⟩ | ⟨hn, rfl⟩⟩ <;> rw [hf, Option.bind_some] <;> simp [hn]

theorem rIsWork_spec {h : List Int} (d : Int) (hl : h.length ≤ 1100) : rIsWork h d = some (decide (RH h) && decide (isD d) && W h d) := by
  unfold rIsWork
  rw [rRight_spec hl, Option.bind_some]
  by_cases hR : RH h
  · rw [if_pos (by simpa using hR), rIn_spec, Option.bind_some, Option.bind_some]
    by_cases hd : isD d
    · have hd' := hd
      unfold isD at hd'
      rw [if_pos (by simpa using hd), show remI d 7 = some (d % 7) from by unfold remI; rw [Int.tmod_eq_emod_of_nonneg hd'.1, if_pos (by decide)], Option.bind_some, Option.bind_some]
      by_cases hw : d % 7 < 5
      · rw [if_pos (by simpa using hw), rHas_spec d hl, Option.bind_some, Option.bind_some]
        simp [W, wk, hw, hd, hR]
      · rw [if_neg (by simpa using hw), Option.bind_some]
        simp [W, wk, hw]
    · rw [if_neg (by simpa using hd), Option.bind_some, if_neg (by decide), Option.bind_some]
      simp [hd]
  · rw [if_neg (by simpa using hR), Option.bind_some, if_neg (by decide), Option.bind_some, if_neg (by decide), Option.bind_some]
    simp [hR]

theorem rCounts_spec {h : List Int} {l : List Stay} (d : Int) (hl : h.length ≤ 1100) (hl' : l.length ≤ 1100) : rCounts h l d = some (decide (Ok h l) && decide (isD d) && C h l d) := by
  unfold rCounts
  rw [rIsWork_spec d hl, Option.bind_some]
  unfold C
  by_cases hw : (decide (RH h) && decide (isD d) && W h d) = true
  · rw [if_pos hw, rightStays_spec hl', Option.bind_some, Option.bind_some]
    simp only [Bool.and_eq_true, decide_eq_true_eq] at hw
    by_cases hV : VL l
    · rw [if_pos (by simpa using hV), rStayed_spec d hl', Option.bind_some, Option.bind_some]
      have ho : Ok h l := ⟨hV, hw.1.1⟩
      simp [ho, hw]
    · rw [if_neg (by simpa using hV), Option.bind_some]
      have ho : ¬ Ok h l := fun h => hV h.1
      simp [ho]
  · rw [if_neg hw, Option.bind_some, if_neg (by decide), Option.bind_some]
    simp only [Bool.and_eq_true, decide_eq_true_eq, not_and, Bool.not_eq_true] at hw
    congr 1
    symm
    by_cases ho : Ok h l
    · by_cases hd : isD d
      · rw [hw ⟨ho.2, hd⟩]; simp
      · simp [hd]
    · simp [ho]

theorem rWeekdays_spec {n : Int} (h0 : 0 ≤ n) (h1 : n ≤ 1073741825) : rWeekdays n = some (G wk 0 n.toNat : Int) := by
  unfold rWeekdays
  rw [show quoI n 7 = some (n / 7) from by unfold quoI; rw [Int.tdiv_eq_ediv_of_nonneg h0, if_pos ⟨by decide, by unfold inI; omega⟩], Option.bind_some, mulI_some (by unfold inI; omega), Option.bind_some,
    show remI n 7 = some (n % 7) from by unfold remI; rw [Int.tmod_eq_emod_of_nonneg h0, if_pos (by decide)], Option.bind_some, addI_some (by unfold inI; omega), Option.bind_some]
  have := wk_count n.toNat
  rw [Int.toNat_of_nonneg h0] at this
  rw [this]

/-- Holidays on weekdays from a day to another one. -/
def holR (h : List Int) (a b : Int) : Nat := h.countP fun d => decide (a ≤ d ∧ d ≤ b) && wk d
theorem holR_eq {h : List Int} {a b : Int} (hab : a ≤ b) : hol h (b + 1) = hol h a + holR h a b := by
  unfold hol holR
  induction h with
  | nil => rfl
  | cons x t ih =>
    rw [List.countP_cons, List.countP_cons, List.countP_cons, ih]
    have e : decide (x < b + 1) = (decide (x < a) || decide (a ≤ x ∧ x ≤ b)) := by
      rw [Bool.eq_iff_iff]; simp only [Bool.or_eq_true, decide_eq_true_eq]; omega
    have e' : ¬ (decide (x < a) = true ∧ decide (a ≤ x ∧ x ≤ b) = true) := by simp only [decide_eq_true_eq]; omega
    rw [e]
    generalize List.countP (fun d => decide (d < a) && wk d) t = A
    generalize List.countP (fun d => decide (a ≤ d ∧ d ≤ b) && wk d) t = B
    revert e'
    clear ih e
    generalize decide (x < a) = p
    generalize decide (a ≤ x ∧ x ≤ b) = q
    generalize wk x = r
    intro e'
    cases p <;> cases q <;> cases r <;> simp at e' ⊢ <;> omega

theorem rWorked_spec {h : List Int} {a b : Int} (hR : RH h) (h0 : 0 ≤ a) (hab : a ≤ b + 1) (hb : b ≤ 1073741824) : rWorked h a b = some (G (W h) a (b + 1 - a).toNat : Int) := by
  unfold rWorked
  by_cases hlt : b < a
  · rw [if_pos (by simpa using hlt), show (b + 1 - a).toNat = 0 by omega]; rfl
  rw [if_neg (by simpa using hlt), addI_some (by unfold inI; omega), Option.bind_some, rWeekdays_spec (by omega) (by omega), Option.bind_some, rWeekdays_spec h0 (by omega), Option.bind_some]
  have g1 := G_le wk 0 (b + 1).toNat
  have g2 := G_le wk 0 a.toNat
  have g3 := G_mono wk 0 (show a.toNat ≤ (b + 1).toNat by omega)
  rw [subI_some (by unfold inI; omega), Option.bind_some]
  have hlen := hR.1
  refine Exists.elim (loop_up (body := rWorked_L0 h a b) (fun i s => s.2 = (i : Int) ∧ i ≤ h.length ∧ s.1 = (G wk 0 (b + 1).toNat : Int) - (G wk 0 a.toNat : Int) - (holR (h.take i) a b : Nat)) h.length
    (fun f => ∃ i, f = .ex 0 ((G wk 0 (b + 1).toNat : Int) - (G wk 0 a.toNat : Int) - (holR h a b : Nat), i)) ?_ ?_ ((G wk 0 (b + 1).toNat : Int) - (G wk 0 a.toNat : Int), 0) ⟨rfl, Nat.zero_le _, by simp [holR]⟩ (h.length + 1) (by omega)) ?_
  · rintro i ⟨s, j⟩ hi ⟨rfl, _, rfl⟩
    left
    have hd := hR.2.1 _ (List.getElem_mem hi)
    have hle : holR (h.take i) a b ≤ i := by
      have := List.countP_le_length (l := h.take i) (p := fun d => decide (a ≤ d ∧ d ≤ b) && wk d)
      rw [List.length_take] at this
      unfold holR
      omega
    have hstep : holR (h.take (i + 1)) a b = holR (h.take i) a b + (if (decide (a ≤ h[i] ∧ h[i] ≤ b) && wk h[i]) = true then 1 else 0) := by
      unfold holR
      rw [List.take_succ_eq_append_getElem hi, List.countP_append]
      simp [List.countP_cons]
    have hmod : remI h[i] 7 = some (h[i] % 7) := by unfold remI; rw [Int.tmod_eq_emod_of_nonneg hd.1, if_pos (by decide)]
    unfold rWorked_L0
    dsimp only
    simp only [if_pos (show decide ((i : Int) < (h.length : Int)) = true by simpa using hi), getI_nat hi, hmod, Option.bind_some]
    have e : ∀ k : Bool → Option (Flow (Int × Int) Int), ((if decide (a ≤ h[i]) = true then some (decide (h[i] ≤ b)) else some false).bind fun x3 => (if x3 = true then some (decide (h[i] % 7 < 5)) else some false).bind k) = k (decide (a ≤ h[i] ∧ h[i] ≤ b) && wk h[i]) := by
      intro k
      unfold wk
      by_cases h1 : a ≤ h[i] <;> by_cases h2 : h[i] ≤ b <;> simp [h1, h2]
    rw [e]
    by_cases hc : (decide (a ≤ h[i] ∧ h[i] ≤ b) && wk h[i]) = true
    · rw [if_pos hc, subI_some (by unfold inI; omega), Option.bind_some, Option.bind_some, addI_one (show i < 4611686018427387904 by omega), Option.bind_some]
      refine ⟨_, rfl, rfl, by omega, ?_⟩
      dsimp only
      rw [hstep, if_pos hc]
      omega
    · rw [if_neg hc, Option.bind_some, addI_one (show i < 4611686018427387904 by omega), Option.bind_some]
      refine ⟨_, rfl, rfl, by omega, ?_⟩
      dsimp only
      rw [hstep, if_neg hc]
      omega
  · rintro ⟨s, j⟩ ⟨rfl, _, rfl⟩
    refine ⟨.ex 0 (_, (h.length : Int)), ?_, trivial, _, rfl⟩
    unfold rWorked_L0
    rw [if_neg (by simp), List.take_length]
  · rintro f ⟨hf, he, i, rfl⟩
    rw [hf, Option.bind_some]
    dsimp only
    have c1 := hol_count hR.2.2 (fun d hd => (hR.2.1 d hd).1) (b + 1).toNat
    have c2 := hol_count hR.2.2 (fun d hd => (hR.2.1 d hd).1) a.toNat
    rw [Int.toNat_of_nonneg (show (0 : Int) ≤ b + 1 by omega)] at c1
    rw [Int.toNat_of_nonneg h0] at c2
    have c3 := holR_eq (h := h) (show a ≤ b by omega)
    have c4 := U_sub (W h) h0 (show a ≤ b + 1 by omega)
    congr 1
    omega
end Go.Proofs.Ytdpekblabnfjnaa

namespace Go.Proofs.Ytdpekblabnfjnaa
open Go.Gb
set_option linter.unusedVariables false
set_option linter.unusedSimpArgs false

/-- The end of the stays that contain a day, and the next stay's beginning. -/
def endOf (l : List Stay) (f : Int) : Int := l.foldl (fun e s => if s.From ≤ f ∧ f ≤ s.To then max e (s.To + 1) else e) f
def nextOf (l : List Stay) (f t : Int) : Int := l.foldl (fun n s => if f < s.From then min n s.From else n) (t + 1)

theorem endOf_snoc (l : List Stay) (s : Stay) (f : Int) : endOf (l ++ [s]) f = if s.From ≤ f ∧ f ≤ s.To then max (endOf l f) (s.To + 1) else endOf l f := by
  unfold endOf; rw [List.foldl_append]; rfl
theorem nextOf_snoc (l : List Stay) (s : Stay) (f t : Int) : nextOf (l ++ [s]) f t = if f < s.From then min (nextOf l f t) s.From else nextOf l f t := by
  unfold nextOf; rw [List.foldl_append]; rfl
theorem snoc_ind {P : List Stay → Prop} (h0 : P []) (h1 : ∀ l s, P l → P (l ++ [s])) : ∀ l, P l := by
  intro l
  rw [← List.reverse_reverse l]
  induction l.reverse with
  | nil => exact h0
  | cons a t ih => rw [List.reverse_cons]; exact h1 _ _ ih
theorem endOf_spec (f : Int) (l : List Stay) : f ≤ endOf l f ∧ (∀ s ∈ l, s.From ≤ f → f ≤ s.To → s.To + 1 ≤ endOf l f) ∧ (endOf l f = f ∨ ∃ s ∈ l, s.From ≤ f ∧ f ≤ s.To ∧ endOf l f = s.To + 1) := by
  induction l using snoc_ind with
  | h0 => exact ⟨Int.le_refl _, by simp, .inl rfl⟩
  | h1 l s ih =>
    obtain ⟨i1, i2, i3⟩ := ih
    rw [endOf_snoc]
    by_cases h : s.From ≤ f ∧ f ≤ s.To
    · rw [if_pos h]
      refine ⟨by omega, fun x hx h1 h2 => ?_, ?_⟩
      · rcases List.mem_append.1 hx with hx | hx
        · have := i2 x hx h1 h2; omega
        · obtain rfl := List.mem_singleton.1 hx; omega
      · by_cases hm : endOf l f ≤ s.To + 1
        · exact .inr ⟨s, by simp, h.1, h.2, by omega⟩
        · rcases i3 with i3 | ⟨x, hx, h1, h2, h3⟩
          · omega
          · exact .inr ⟨x, List.mem_append_left _ hx, h1, h2, by omega⟩
    · rw [if_neg h]
      refine ⟨i1, fun x hx h1 h2 => ?_, ?_⟩
      · rcases List.mem_append.1 hx with hx | hx
        · exact i2 x hx h1 h2
        · obtain rfl := List.mem_singleton.1 hx; exact absurd ⟨h1, h2⟩ h
      · rcases i3 with i3 | ⟨x, hx, h3⟩
        · exact .inl i3
        · exact .inr ⟨x, List.mem_append_left _ hx, h3⟩
theorem nextOf_spec (f t : Int) (l : List Stay) : nextOf l f t ≤ t + 1 ∧ (∀ s ∈ l, f < s.From → nextOf l f t ≤ s.From) ∧ (nextOf l f t = t + 1 ∨ ∃ s ∈ l, f < s.From ∧ nextOf l f t = s.From) := by
  induction l using snoc_ind with
  | h0 => exact ⟨Int.le_refl _, by simp, .inl rfl⟩
  | h1 l s ih =>
    obtain ⟨i1, i2, i3⟩ := ih
    rw [nextOf_snoc]
    by_cases h : f < s.From
    · rw [if_pos h]
      refine ⟨by omega, fun x hx h1 => ?_, ?_⟩
      · rcases List.mem_append.1 hx with hx | hx
        · have := i2 x hx h1; omega
        · obtain rfl := List.mem_singleton.1 hx; omega
      · by_cases hm : s.From ≤ nextOf l f t
        · exact .inr ⟨s, by simp, h, by omega⟩
        · rcases i3 with i3 | ⟨x, hx, h1, h2⟩
          · exact .inl (by omega)
          · exact .inr ⟨x, List.mem_append_left _ hx, h1, by omega⟩
    · rw [if_neg h]
      refine ⟨i1, fun x hx h1 => ?_, ?_⟩
      · rcases List.mem_append.1 hx with hx | hx
        · exact i2 x hx h1
        · obtain rfl := List.mem_singleton.1 hx; exact absurd h1 h
      · rcases i3 with i3 | ⟨x, hx, h3⟩
        · exact .inl i3
        · exact .inr ⟨x, List.mem_append_left _ hx, h3⟩

theorem counted_inner {l : List Stay} (hV : VL l) (f n t : Int) : ∃ i, iterL (rCounted_L1 l (f, n)) (l.length + 1) (t + 1, f, 0) = some (.ex 2 (nextOf l f t, endOf l f, i)) := by
  have hlen := hV.1
  refine Exists.elim (loop_up (body := rCounted_L1 l (f, n)) (fun i s => s.2.2 = (i : Int) ∧ i ≤ l.length ∧ s.1 = nextOf (l.take i) f t ∧ s.2.1 = endOf (l.take i) f) l.length
    (fun g => ∃ i, g = .ex 2 (nextOf l f t, endOf l f, i)) ?_ ?_ (t + 1, f, 0) ⟨rfl, Nat.zero_le _, rfl, rfl⟩ (l.length + 1) (by omega)) ?_
  · rintro i ⟨x, y, z⟩ hi ⟨rfl, _, rfl, rfl⟩
    left
    have hs := hV.2 _ (List.getElem_mem hi)
    unfold VS at hs
    have htake : l.take (i + 1) = l.take i ++ [l[i]] := List.take_succ_eq_append_getElem hi
    refine ⟨(nextOf (l.take (i + 1)) f t, endOf (l.take (i + 1)) f, ((i + 1 : Nat) : Int)), ?_, rfl, by omega, rfl, rfl⟩
    rw [htake, endOf_snoc, nextOf_snoc]
    unfold rCounted_L1
    dsimp only
    simp only [if_pos (show decide ((i : Int) < (l.length : Int)) = true by simpa using hi), getI_nat hi, Option.bind_some, addI_some (show inI (l[i].To + 1) by unfold inI; omega), addI_one (show i < 4611686018427387904 by omega)]
    by_cases h1 : l[i].From ≤ f
    · have h2 : ¬ f < l[i].From := by omega
      by_cases h3 : f ≤ l[i].To <;> simp [h1, h2, h3]
    · have h2 : f < l[i].From := by omega
      simp [h1, h2]
  · rintro ⟨x, y, z⟩ ⟨rfl, _, rfl, rfl⟩
    refine ⟨.ex 2 (nextOf l f t, endOf l f, (l.length : Int)), ?_, trivial, _, rfl⟩
    unfold rCounted_L1
    dsimp only
    rw [if_neg (by simp), List.take_length]
  · rintro g ⟨hg, he, i, rfl⟩
    exact ⟨i, hg⟩

/-- How many rounds are left at most. -/
def left (l : List Stay) (t f : Int) : Nat := if f ≤ t then 2 * l.countP (fun s => decide (f ≤ s.To)) + (if inS l f then 0 else 1) + 1 else 0
theorem countP_lt {l : List Stay} {p q : Stay → Bool} (h : ∀ s ∈ l, p s = true → q s = true) {x : Stay} (hx : x ∈ l) (h1 : p x = false) (h2 : q x = true) : l.countP p < l.countP q := by
  induction l with
  | nil => cases hx
  | cons a t ih =>
    rw [List.countP_cons, List.countP_cons]
    have hm : t.countP p ≤ t.countP q := List.countP_mono_left fun s hs => h s (List.mem_cons_of_mem _ hs)
    rcases List.mem_cons.1 hx with rfl | hx
    · rw [h1, h2]; simp; omega
    · have := ih (fun s hs => h s (List.mem_cons_of_mem _ hs)) hx
      have ha := h a List.mem_cons_self
      cases hpa : p a
      · simp; omega
      · rw [ha hpa]; simp; omega

theorem rCounted_spec {h : List Int} {l : List Stay} {a t : Int} (hO : Ok h l) (h0 : 0 ≤ a) (hat : a ≤ t + 1) (ht : t ≤ 1073741824) : rCounted h l a t = some (G (C h l) a (t + 1 - a).toNat : Int) := by
  unfold rCounted
  have hlen := hO.1.1
  refine Exists.elim (loop_down (body := rCounted_L0 h l t) (fun s => a ≤ s.1 ∧ s.1 ≤ 1073741825 ∧ (s.1 ≤ t → s.2 = (G (C h l) a (s.1 - a).toNat : Int)) ∧ (t < s.1 → s.2 = (G (C h l) a (t + 1 - a).toNat : Int))) (fun s => left l t s.1)
    (fun g => ∃ x, g = .ex 0 (x, (G (C h l) a (t + 1 - a).toNat : Int))) ?_ (a, 0) ⟨Int.le_refl _, by omega, fun _ => ?_, fun hlt => ?_⟩ (2 * l.length + 4) ?_) ?_
  · rintro ⟨f, n⟩ ⟨h1, h2, h3, h4⟩
    dsimp only at h1 h2 h3 h4
    by_cases hf : f ≤ t
    · left
      obtain ⟨i, hi⟩ := counted_inner hO.1 f n t
      obtain ⟨e1, e2, e3⟩ := endOf_spec f l
      obtain ⟨n1, n2, n3⟩ := nextOf_spec f t l
      have hn := h3 hf
      subst hn
      unfold rCounted_L0
      dsimp only
      rw [if_pos (by simpa using hf), addI_some (by unfold inI; omega), Option.bind_some, hi, Option.bind_some]
      dsimp only
      by_cases he : f < endOf l f
      · rw [if_pos (by simpa using he), Option.bind_some]
        obtain ⟨s, hs, s1, s2, s3⟩ := e3.resolve_left (by omega)
        have hsV := hO.1.2 s hs
        unfold VS at hsV
        have hz : ∀ d, f ≤ d → d < endOf l f → C h l d = false := by
          intro d d1 d2
          have : inS l d := ⟨s, hs, by omega, by omega⟩
          simp [C, this]
        have hG : ∀ m : Nat, (m : Int) ≤ endOf l f - f → G (C h l) a ((f - a).toNat + m) = G (C h l) a (f - a).toNat := by
          intro m
          induction m with
          | zero => intro; rfl
          | succ m ih =>
            intro hm
            rw [← Nat.add_assoc, G, ih (by omega), hz _ (by omega) (by omega)]
            rfl
        refine ⟨_, rfl, ⟨by omega, by omega, fun hle => ?_, fun hlt => ?_⟩, ?_⟩
        · dsimp only at hle ⊢
          have := hG (endOf l f - f).toNat (by omega)
          rw [show (f - a).toNat + (endOf l f - f).toNat = (endOf l f - a).toNat by omega] at this
          rw [this]
        · dsimp only at hlt ⊢
          have := hG (t + 1 - f).toNat (by omega)
          rw [show (f - a).toNat + (t + 1 - f).toNat = (t + 1 - a).toNat by omega] at this
          rw [this]
        · dsimp only
          have hin : inS l f := ⟨s, hs, s1, s2⟩
          unfold left
          rw [if_pos hf, if_pos hin]
          have hc : l.countP (fun s => decide (endOf l f ≤ s.To)) < l.countP (fun s => decide (f ≤ s.To)) :=
            countP_lt (fun x _ hx => by simp only [decide_eq_true_eq] at hx ⊢; omega) hs (by simp; omega) (by simpa using s2)
          split
          · split <;> omega
          · omega
      · have hef : endOf l f = f := by omega
        have hno : ∀ s ∈ l, ¬ (s.From ≤ f ∧ f ≤ s.To) := fun s hs ⟨q1, q2⟩ => by have := e2 s hs q1 q2; omega
        have hfn : f < nextOf l f t := by rcases n3 with n3 | ⟨s, hs, q1, q2⟩ <;> omega
        have hout : ∀ d, f ≤ d → d < nextOf l f t → C h l d = W h d := by
          intro d d1 d2
          have : ¬ inS l d := by
            rintro ⟨s, hs, q1, q2⟩
            by_cases hq : f < s.From
            · have := n2 s hs hq; omega
            · exact hno s hs ⟨by omega, by omega⟩
          simp [C, this]
        have hGW : G (C h l) f (nextOf l f t - f).toNat = G (W h) f (nextOf l f t - f).toNat := G_congr fun d d1 d2 => hout d d1 (by omega)
        have hadd := G_add (C h l) a (f - a).toNat (nextOf l f t - f).toNat
        rw [show a + ((f - a).toNat : Int) = f by omega, hGW, show (f - a).toNat + (nextOf l f t - f).toNat = (nextOf l f t - a).toNat by omega] at hadd
        have b1 := G_le (C h l) a (nextOf l f t - a).toNat
        rw [if_neg (by simpa using he), subI_some (by unfold inI; omega), Option.bind_some, rWorked_spec hO.2 (by omega) (by omega) (by omega), Option.bind_some, show nextOf l f t - 1 + 1 - f = nextOf l f t - f by omega, addI_some (by unfold inI; omega), Option.bind_some, Option.bind_some]
        refine ⟨_, rfl, ⟨by omega, by omega, fun hle => ?_, fun hlt => ?_⟩, ?_⟩
        · dsimp only at hle ⊢
          rw [hadd]; simp
        · dsimp only at hlt ⊢
          rw [show nextOf l f t = t + 1 by omega] at hadd ⊢
          rw [hadd]; simp
        · dsimp only
          unfold left
          have hin : ¬ inS l f := fun ⟨s, hs, q⟩ => hno s hs q
          rw [if_pos hf, if_neg hin]
          split
          · rename_i hle
            obtain ⟨s, hs, q1, q2⟩ := n3.resolve_left (by omega)
            have hsV := hO.1.2 s hs
            unfold VS at hsV
            have hin' : inS l (nextOf l f t) := ⟨s, hs, by omega, by omega⟩
            have hc : l.countP (fun s => decide (nextOf l f t ≤ s.To)) ≤ l.countP (fun s => decide (f ≤ s.To)) :=
              List.countP_mono_left fun x _ hx => by simp only [decide_eq_true_eq] at hx ⊢; omega
            rw [if_pos hin']
            omega
          · omega
    · right
      have hn := h4 (by omega)
      subst hn
      refine ⟨.ex 0 (f, _), ?_, trivial, f, rfl⟩
      unfold rCounted_L0
      rw [if_neg (by simpa using hf)]
  · dsimp only
    rw [show (a - a).toNat = 0 by omega]; rfl
  · dsimp only at hlt ⊢
    rw [show (t + 1 - a).toNat = 0 by omega]; rfl
  · unfold left
    dsimp only
    have := List.countP_le_length (l := l) (p := fun s => decide (a ≤ s.To))
    split
    · split <;> omega
    · omega
  · rintro g ⟨hg, he, x, rfl⟩
    rw [hg, Option.bind_some]

theorem guard_spec {h : List Int} {l : List Stay} (a b : Int) (hl : h.length ≤ 1100) (hl' : l.length ≤ 1100) {β : Type} (k : Bool → Option β) :
    ((rRight h).bind fun x1 => (if (!x1) = true then some true else (rightStays l).bind fun x2 => some (!x2)).bind fun x3 => (if x3 = true then some true else (rIn a).bind fun x4 => some (!x4)).bind fun x5 => (if x5 = true then some true else (rIn b).bind fun x6 => some (!x6)).bind k) = k (decide (¬ (Ok h l ∧ isD a ∧ isD b))) := by
  rw [rRight_spec hl, Option.bind_some, rightStays_spec hl', Option.bind_some, rIn_spec, Option.bind_some, rIn_spec, Option.bind_some]
  by_cases hR : RH h
  · rw [if_neg (by simpa using hR), Option.bind_some]
    by_cases hV : VL l
    · have ho : Ok h l := ⟨hV, hR⟩
      rw [if_neg (by simpa using hV), Option.bind_some]
      by_cases ha : isD a
      · rw [if_neg (by simpa using ha), Option.bind_some]
        simp [ho, ha]
      · rw [if_pos (by simpa using ha), Option.bind_some]
        simp [ha]
    · have ho : ¬ Ok h l := fun x => hV x.1
      rw [if_pos (by simpa using hV), Option.bind_some, if_pos rfl, Option.bind_some]
      simp [ho]
  · have ho : ¬ Ok h l := fun x => hR x.2
    rw [if_pos (by simpa using hR), Option.bind_some, if_pos rfl, Option.bind_some, if_pos rfl, Option.bind_some]
    simp [ho]

theorem rCount_spec {h : List Int} {l : List Stay} (a b : Int) (hl : h.length ≤ 1100) (hl' : l.length ≤ 1100) : rCount h l a b = some (if Ok h l ∧ isD a ∧ isD b ∧ a < b then (G (C h l) (a + 1) (b - a).toNat : Int) else 0) := by
  unfold rCount
  rw [guard_spec a b hl hl']
  by_cases hg : Ok h l ∧ isD a ∧ isD b
  · by_cases hab : a < b
    · have hda := hg.2.1; have hdb := hg.2.2
      unfold isD at hda hdb
      rw [if_neg (by simp [hg]; omega), addI_some (by unfold inI; omega), Option.bind_some, rCounted_spec hg.1 (by omega) (by omega) (by omega), Option.bind_some, if_pos ⟨hg.1, hg.2.1, hg.2.2, hab⟩, show b + 1 - (a + 1) = b - a by omega]
    · rw [if_pos (by simp [hg]; omega), if_neg fun x => hab x.2.2.2]
  · rw [if_pos (by simp [hg]), if_neg fun x => hg ⟨x.1, x.2.1, x.2.2.1⟩]

theorem halve {h : List Int} {l : List Stay} {day n : Int} (hO : Ok h l) (hd : isD day) : ∀ (m fuel : Nat) (lo hi : Int), m < fuel → day ≤ lo → lo < hi → hi ≤ 1073741824 → hi - lo ≤ (2 ^ m : Nat) →
    (G (C h l) (day + 1) (lo - day).toNat : Int) < n → n ≤ (G (C h l) (day + 1) (hi - day).toNat : Int) →
    ∃ x y, iterL (rDeadline_L0 h l day n) fuel (lo, hi) = some (.ex 0 (x, y)) ∧ day < y ∧ y ≤ 1073741824 ∧ (G (C h l) (day + 1) (y - 1 - day).toNat : Int) < n ∧ n ≤ (G (C h l) (day + 1) (y - day).toNat : Int)
  | m, 0, _, _, hm, _, _, _, _, _, _ => absurd hm (Nat.not_lt_zero m)
  | m, fuel + 1, lo, hi, hm, h1, h2, h3, h4, h5, h6 => by
    have hd' := hd
    unfold isD at hd'
    by_cases hs : lo + 1 < hi
    · obtain ⟨m, rfl⟩ : ∃ q, m = q + 1 := ⟨m - 1, by have : m ≠ 0 := (fun e => by subst e; simp at h4; omega); omega⟩
      have hp : (2 ^ (m + 1) : Nat) = 2 * 2 ^ m := by rw [Nat.pow_succ]; omega
      have hstep : rDeadline_L0 h l day n (lo, hi) = some (.go (if (G (C h l) (day + 1) ((lo + hi) / 2 - day).toNat : Int) < n then ((lo + hi) / 2, hi) else (lo, (lo + hi) / 2))) := by
        unfold rDeadline_L0
        dsimp only
        rw [addI_some (by unfold inI; omega), Option.bind_some, if_pos (by simpa using hs), addI_some (by unfold inI; omega), Option.bind_some,
          show quoI (lo + hi) 2 = some ((lo + hi) / 2) from by unfold quoI; rw [Int.tdiv_eq_ediv_of_nonneg (by omega), if_pos ⟨by decide, by unfold inI; omega⟩], Option.bind_some,
          addI_some (by unfold inI; omega), Option.bind_some, rCounted_spec hO (by omega) (by omega) (by omega), Option.bind_some, show (lo + hi) / 2 + 1 - (day + 1) = (lo + hi) / 2 - day by omega]
        by_cases hc : (G (C h l) (day + 1) ((lo + hi) / 2 - day).toNat : Int) < n
        · rw [if_pos (by simpa using hc), if_pos hc, Option.bind_some]
        · rw [if_neg (by simpa using hc), if_neg hc, Option.bind_some]
      rw [iterL, hstep]
      dsimp only
      by_cases hc : (G (C h l) (day + 1) ((lo + hi) / 2 - day).toNat : Int) < n
      · rw [if_pos hc]
        exact halve hO hd m fuel _ _ (by omega) (by omega) (by omega) h3 (by omega) hc h6
      · rw [if_neg hc]
        exact halve hO hd m fuel _ _ (by omega) (by omega) (by omega) (by omega) (by omega) h5 (by omega)
    · have hstep : rDeadline_L0 h l day n (lo, hi) = some (.ex 0 (lo, hi)) := by
        unfold rDeadline_L0
        dsimp only
        rw [addI_some (by unfold inI; omega), Option.bind_some, if_neg (by simpa using hs)]
      rw [iterL, hstep]
      exact ⟨lo, hi, rfl, by omega, h3, by rw [show hi - 1 - day = lo - day by omega]; exact h5, h6⟩

theorem rDeadline_spec {h : List Int} {l : List Stay} (day n : Int) (hl : h.length ≤ 1100) (hl' : l.length ≤ 1100) : ∃ r, rDeadline h l day n = some r ∧ DL h l day n r := by
  unfold rDeadline
  rw [guard_spec day n hl hl']
  by_cases hg : Ok h l ∧ isD day ∧ isD n
  · rw [if_neg (by simp [hg])]
    have hda := hg.2.1; have hdn := hg.2.2
    unfold isD at hda hdn
    by_cases h0 : n = 0
    · rw [if_pos (by simpa using h0)]
      exact ⟨_, rfl, .zero hg.1 hg.2.1 h0⟩
    rw [if_neg (by simpa using h0), addI_some (by unfold inI; omega), Option.bind_some, rCounted_spec hg.1 (by omega) (by omega) (by omega), Option.bind_some, show (1073741824 : Int) + 1 - (day + 1) = 1073741824 - day by omega]
    by_cases hc : (G (C h l) (day + 1) (1073741824 - day).toNat : Int) < n
    · rw [if_pos (by simpa using hc)]
      exact ⟨_, rfl, .none hg.1 hg.2.1 (by omega) hdn.2 hc⟩
    · rw [if_neg (by simpa using hc)]
      have hpos : day < 1073741824 := by
        rcases Int.lt_or_le day 1073741824 with h | h
        · exact h
        · rw [show (1073741824 - day).toNat = 0 by omega] at hc
          simp only [G] at hc; omega
      have hp30 : (2 ^ 30 : Nat) = 1073741824 := by decide
      obtain ⟨x, y, hi, y1, y2, y3, y4⟩ := halve (n := n) hg.1 hg.2.1 30 64 day 1073741824 (by decide) (Int.le_refl _) hpos (Int.le_refl _) (by rw [hp30]; omega) (by rw [show (day - day).toNat = 0 by omega]; simp only [G]; omega) (by omega)
      rw [hi, Option.bind_some]
      have hr := DL.some (h := h) (l := l) (day := day) (n := n) (y - 1 - day).toNat hg.1 hg.2.1 (by omega) hdn.2 (by omega) (fun j hj => by have := G_mono (C h l) (day + 1) hj; omega) (by rw [show (y - 1 - day).toNat + 1 = (y - day).toNat by omega]; exact y4)
      rw [show day + 1 + ((y - 1 - day).toNat : Int) = y by omega] at hr
      exact ⟨_, rfl, hr⟩
  · rw [if_pos (by simp [hg])]
    exact ⟨_, rfl, .arg hg⟩

theorem law_tells (h : List Int) (l : List Stay) (a b n : Int) : lawTells h l a b n = some true := by
  unfold lawTells
  rw [small_true, Option.bind_some]
  by_cases hg : 1100 < h.length ∨ 110 < l.length
  · rw [if_pos (by simp; omega)]
  · have hl : h.length ≤ 1100 := by omega
    have hl' : l.length ≤ 1100 := by omega
    rw [if_neg (by simp; omega)]
    obtain ⟨r1, e1, d1⟩ := calDeadline_spec (h := h) (l := []) a n
    obtain ⟨r2, e2, d2⟩ := rDeadline_spec (h := h) (l := []) a n hl (by simp)
    obtain ⟨r3, e3, d3⟩ := calDeadline_spec (h := h) (l := l) a n
    obtain ⟨r4, e4, d4⟩ := rDeadline_spec (h := h) (l := l) a n hl hl'
    obtain rfl := d1.unique d2 Iff.rfl fun _ _ => rfl
    obtain rfl := d3.unique d4 Iff.rfl fun _ _ => rfl
    have i1 : calIsWork h a = rIsWork h a := by
      unfold calIsWork
      rw [calCounts_spec, Option.bind_some, rIsWork_spec a hl]
      have hO : decide (Ok h []) = decide (RH h) := by
        rw [decide_eq_decide]
        exact ⟨fun x => x.2, fun x => ⟨⟨by simp, by simp⟩, x⟩⟩
      rw [hO]
      simp [C, inS]
    have i2 : calBetween h a b = rBetween h a b := by
      unfold calBetween rBetween
      rw [calCount_spec, rCount_spec a b hl (by simp)]
    unfold calAdd rAdd
    rw [e1, e2, e3, e4, calRight_spec, rRight_spec hl, i1, i2, rIsWork_spec a hl, calCounts_spec, rCounts_spec a hl hl', calCount_spec, rCount_spec a b hl hl']
    unfold rBetween
    rw [rCount_spec a b hl (by simp)]
    simp only [Option.bind_some, beq_self_eq_true, if_true, Bool.and_self]
end Go.Proofs.Ytdpekblabnfjnaa

