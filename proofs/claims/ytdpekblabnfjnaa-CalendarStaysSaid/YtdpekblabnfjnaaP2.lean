/- Calendar: days are counted. -/
import Derived.Test.YtdpekblabnfjnaaP1
namespace Go.Proofs.Ytdpekblabnfjnaa
open Go.Gb
set_option linter.unusedVariables false
set_option linter.unusedSimpArgs false

/-- How many of the n days from a on have the property. -/
def G (P : Int → Bool) (a : Int) : Nat → Nat
  | 0 => 0
  | n + 1 => G P a n + (if P (a + n) then 1 else 0)
theorem G_add (P : Int → Bool) (a : Int) (m : Nat) : ∀ n, G P a (m + n) = G P a m + G P (a + m) n
  | 0 => rfl
  | n + 1 => by
    rw [← Nat.add_assoc, G, G, G_add P a m n, Nat.add_assoc, show a + (m : Int) + (n : Int) = a + ((m + n : Nat) : Int) by omega]
theorem G_le (P : Int → Bool) (a : Int) : ∀ n, G P a n ≤ n
  | 0 => Nat.le_refl _
  | n + 1 => by have := G_le P a n; rw [G]; split <;> omega
theorem G_mono (P : Int → Bool) (a : Int) {m n : Nat} (h : m ≤ n) : G P a m ≤ G P a n := by
  obtain ⟨k, rfl⟩ := Nat.exists_eq_add_of_le h
  rw [G_add]; omega
theorem G_congr {P Q : Int → Bool} {a : Int} : ∀ {n : Nat}, (∀ d, a ≤ d → d < a + n → P d = Q d) → G P a n = G Q a n
  | 0, _ => rfl
  | n + 1, h => by rw [G, G, G_congr fun d h1 h2 => h d h1 (by omega), h (a + n) (by omega) (by omega)]
theorem G_sum {P Q R : Int → Bool} {a : Int} : ∀ {n : Nat}, (∀ d, a ≤ d → d < a + n → (if P d then 1 else 0) = (if Q d then 1 else 0) + (if R d then 1 else 0)) → G P a n = G Q a n + G R a n
  | 0, _ => rfl
  | n + 1, h => by rw [G, G, G, G_sum fun d h1 h2 => h d h1 (by omega), h (a + n) (by omega) (by omega)]; omega
theorem G_range (P : Int → Bool) (f t lo : Int) : ∀ n : Nat, G (fun d => P d && decide (f ≤ d ∧ d ≤ t)) lo n = G P (max f lo) (min t (lo + n - 1) + 1 - max f lo).toNat
  | 0 => by rw [show (min t (lo + (0 : Nat) - 1) + 1 - max f lo).toNat = 0 by omega]; rfl
  | n + 1 => by
    rw [G, G_range P f t lo n]
    by_cases h : f ≤ lo + n ∧ lo + n ≤ t
    · have e1 : (min t (lo + ((n + 1 : Nat) : Int) - 1) + 1 - max f lo).toNat = (min t (lo + n - 1) + 1 - max f lo).toNat + 1 := by omega
      have e2 : max f lo + ((min t (lo + n - 1) + 1 - max f lo).toNat : Int) = lo + n := by omega
      rw [e1, G, e2]
      simp [h]
    · have e1 : (min t (lo + ((n + 1 : Nat) : Int) - 1) + 1 - max f lo).toNat = (min t (lo + n - 1) + 1 - max f lo).toNat := by omega
      rw [e1]
      simp [h]

/-- A list of holidays that is valid. -/
def RH (h : List Int) : Prop := h.length ≤ 1000 ∧ (∀ d ∈ h, 0 ≤ d ∧ d ≤ 1073741824) ∧ h.Pairwise (· < ·)
instance (h : List Int) : Decidable (RH h) := inferInstanceAs (Decidable (_ ∧ _ ∧ _))
/-- A weekday that is no holiday. -/
def wk (d : Int) : Bool := decide (d % 7 < 5)
def W (h : List Int) (d : Int) : Bool := wk d && decide (d ∉ h)
instance (l : List Stay) (d : Int) : Decidable (inS l d) := inferInstanceAs (Decidable (∃ s, s ∈ l ∧ _))
/-- A day that counts. -/
def C (h : List Int) (l : List Stay) (d : Int) : Bool := W h d && !decide (inS l d)

theorem isDay_spec (n : Int) : isDay n = some (decide (0 ≤ n ∧ n ≤ 1073741824)) := by
  unfold isDay; simp [Bool.decide_and]

theorem pairwise_steps {l : List Int} (h : ∀ j (hj : j < l.length), 0 < j → (l[j - 1]'(by omega)) < l[j]) : l.Pairwise (· < ·) := by
  rw [List.pairwise_iff_getElem]
  intro i j hi hj hij
  induction j with
  | zero => omega
  | succ j ih =>
    have h1 := h (j + 1) hj (by omega)
    simp only [Nat.add_sub_cancel] at h1
    rcases Nat.lt_or_ge i j with h2 | h2
    · have := ih (by omega) h2; omega
    · obtain rfl : i = j := by omega
      exact h1

theorem calRight_spec (h : List Int) : calRight h = some (decide (RH h)) := by
  unfold calRight
  by_cases hl : h.length ≤ 1000
  · rw [if_neg (by simp; omega)]
    refine Exists.elim (loop_up (body := calRight_L0 h) (fun i s => s = (i : Int) ∧ ∀ j (hj : j < h.length), j < i → (0 ≤ h[j] ∧ h[j] ≤ 1073741824) ∧ (0 < j → (h[j - 1]'(by omega)) < h[j])) h.length
      (fun f => (RH h ∧ ∃ i, f = .ex 0 i) ∨ (¬ RH h ∧ f = .ret false)) ?_ ?_ 0 ⟨rfl, fun j _ h => absurd h (Nat.not_lt_zero j)⟩ (h.length + 1) (by omega)) ?_
    · rintro i s hi ⟨rfl, hG⟩
      unfold calRight_L0
      rw [if_pos (by simpa using hi), getI_nat hi, Option.bind_some, isDay_spec, Option.bind_some]
      by_cases hok : 0 ≤ h[i] ∧ h[i] ≤ 1073741824
      · rw [if_neg (by simp [hok])]
        by_cases h0 : 0 < i
        · rw [if_pos (by simpa using h0), subI_some (by unfold inI; omega), Option.bind_some, show (i : Int) - 1 = ((i - 1 : Nat) : Int) by omega, getI_nat (show i - 1 < h.length by omega), Option.bind_some, Option.bind_some, Option.bind_some]
          by_cases hlt : (h[i - 1]'(by omega)) < h[i]
          · left
            refine ⟨((i + 1 : Nat) : Int), ?_, rfl, fun j hj hji => ?_⟩
            · rw [if_neg (by simp; omega), addI_one (show i < 4611686018427387904 by omega), Option.bind_some]
            · rcases Nat.lt_or_ge j i with h | h
              · exact hG j hj h
              · obtain rfl : j = i := by omega
                exact ⟨hok, fun _ => hlt⟩
          · right
            refine ⟨.ret false, by rw [if_pos (by simp; omega)], trivial, .inr ⟨fun hR => hlt ?_, rfl⟩⟩
            exact (List.pairwise_iff_getElem.1 hR.2.2) (i - 1) i (by omega) hi (by omega)
        · left
          refine ⟨((i + 1 : Nat) : Int), ?_, rfl, fun j hj hji => ?_⟩
          · rw [if_neg (by simpa using h0), Option.bind_some, Option.bind_some, if_neg (by decide), addI_one (show i < 4611686018427387904 by omega), Option.bind_some]
          · obtain rfl : j = i := by omega
            exact ⟨hok, fun h => absurd h h0⟩
      · right
        refine ⟨.ret false, ?_, trivial, .inr ⟨fun hR => hok (hR.2.1 _ (List.getElem_mem hi)), rfl⟩⟩
        rw [if_pos (by simp; omega), Option.bind_some, if_pos rfl]
    · rintro s ⟨rfl, hG⟩
      refine ⟨.ex 0 (h.length : Int), ?_, trivial, .inl ⟨⟨hl, fun d hd => ?_, pairwise_steps fun j hj h0 => (hG j hj hj).2 h0⟩, _, rfl⟩⟩
      · unfold calRight_L0
        rw [if_neg (by simp)]
      · obtain ⟨j, hj, rfl⟩ := List.getElem_of_mem hd
        exact (hG j hj hj).1
    · rintro f ⟨hf, he, hp⟩
      rw [hf, Option.bind_some]
      rcases hp with ⟨hR, i, rfl⟩ | ⟨hR, rfl⟩
      · simp [hR]
      · simp [hR]
  · rw [if_pos (by simp; omega)]
    have : ¬ RH h := fun hR => hl hR.1
    simp [this]

theorem wk_count : ∀ n : Nat, (G wk 0 n : Int) = (n : Int) / 7 * 5 + min ((n : Int) % 7) 5
  | 0 => rfl
  | n + 1 => by
    have ih := wk_count n
    rw [G]
    unfold wk at ih ⊢
    by_cases h : (0 + (n : Int)) % 7 < 5
    · rw [if_pos (by simpa using h)]; omega
    · rw [if_neg (by simpa using h)]; omega

def hol (h : List Int) (n : Int) : Nat := h.countP fun d => decide (d < n) && wk d
theorem hol_succ (n : Int) : ∀ {h : List Int}, h.Pairwise (· < ·) → hol h (n + 1) = hol h n + (if n ∈ h ∧ wk n = true then 1 else 0)
  | [], _ => by simp [hol]
  | a :: t, hp => by
    obtain ⟨h1, h2⟩ := List.pairwise_cons.1 hp
    have ih := hol_succ n h2
    unfold hol at ih ⊢
    simp only [List.countP_cons, ih, List.mem_cons]
    by_cases e : a = n
    · subst e
      have hn : a ∉ t := fun h => Int.lt_irrefl _ (h1 a h)
      by_cases hw : wk a = true
      · simp [hn, hw, show a < a + 1 by omega]
      · simp [hn, hw]
    · have e' : ¬ n = a := fun h => e h.symm
      have e2 : decide (a < n + 1) = decide (a < n) := by rw [decide_eq_decide]; omega
      simp only [e', false_or, e2]
      omega
theorem hol_count {h : List Int} (hp : h.Pairwise (· < ·)) (h0 : ∀ d ∈ h, 0 ≤ d) : ∀ n : Nat, G (W h) 0 n + hol h n = G wk 0 n
  | 0 => by
    unfold hol G
    rw [List.countP_eq_zero.2]
    intro d hd
    have := h0 d hd
    simp
    omega
  | n + 1 => by
    have ih := hol_count hp h0 n
    have := hol_succ n hp
    rw [G, G, show ((n + 1 : Nat) : Int) = (n : Int) + 1 by omega, this]
    simp only [W, Int.zero_add]
    by_cases hw : wk n = true <;> by_cases hm : (n : Int) ∈ h <;> simp [hw, hm] <;> omega

theorem upTo_spec {h : List Int} (hR : RH h) {x : Int} (h0 : 0 ≤ x) (h1 : x ≤ 1073741825) : upTo h x = some (G (W h) 0 x.toNat : Int) := by
  unfold upTo
  have e1 : x.tdiv 7 = x / 7 := Int.tdiv_eq_ediv_of_nonneg h0
  have e2 : x.tmod 7 = x % 7 := Int.tmod_eq_emod_of_nonneg h0
  rw [show quoI x 7 = some (x / 7) from by unfold quoI; rw [e1, if_pos ⟨by decide, by unfold inI; omega⟩], Option.bind_some, mulI_some (by unfold inI; omega), Option.bind_some,
    show remI x 7 = some (x % 7) from by unfold remI; rw [e2, if_pos (by decide)], Option.bind_some, addI_some (by unfold inI; omega), Option.bind_some]
  refine Exists.elim (loop_up (body := upTo_L0 h x) (fun i s => s.2 = (i : Int) ∧ i ≤ h.length ∧ s.1 = x / 7 * 5 + min (x % 7) 5 - (hol (h.take i) x : Nat)) h.length
    (fun f => ∃ i, f = .ex 0 (x / 7 * 5 + min (x % 7) 5 - (hol h x : Nat), i)) ?_ ?_ (x / 7 * 5 + min (x % 7) 5, 0) ⟨rfl, Nat.zero_le _, by simp [hol]⟩ (h.length + 1) (by omega)) ?_
  · rintro i ⟨s, j⟩ hi ⟨rfl, _, rfl⟩
    left
    have hd := hR.2.1 _ (List.getElem_mem hi)
    have hlen := hR.1
    have hle : hol (h.take i) x ≤ i := by
      have := List.countP_le_length (l := h.take i) (p := fun d => decide (d < x) && wk d)
      rw [List.length_take] at this
      unfold hol
      omega
    have hstep : hol (h.take (i + 1)) x = hol (h.take i) x + (if (decide (h[i] < x) && wk h[i]) = true then 1 else 0) := by
      unfold hol
      rw [List.take_succ_eq_append_getElem hi, List.countP_append]
      simp [List.countP_cons]
    unfold upTo_L0
    dsimp only
    rw [if_pos (by simpa using hi), getI_nat hi, Option.bind_some]
    have hmod : remI h[i] 7 = some (h[i] % 7) := by unfold remI; rw [Int.tmod_eq_emod_of_nonneg hd.1, if_pos (by decide)]
    have hcond : (if decide (h[i] < x) = true then (remI h[i] 7).bind fun x204_5 => some (decide (x204_5 < 5)) else some false) = some (decide (h[i] < x) && wk h[i]) := by
      by_cases hlt : h[i] < x
      · rw [if_pos (by simpa using hlt), hmod, Option.bind_some]; simp [hlt, wk]
      · rw [if_neg (by simpa using hlt)]; simp [hlt]
    rw [hcond, Option.bind_some]
    by_cases hc : (decide (h[i] < x) && wk h[i]) = true
    · rw [if_pos hc, subI_some (by unfold inI; omega), Option.bind_some, Option.bind_some, addI_one (show i < 4611686018427387904 by omega), Option.bind_some]
      refine ⟨_, rfl, rfl, by omega, ?_⟩
      dsimp only
      rw [hstep, if_pos hc]
      omega
    · rw [if_neg hc, Option.bind_some, addI_one (show i < 4611686018427387904 by omega), Option.bind_some]
      refine ⟨_, rfl, rfl, by omega, ?_⟩
      dsimp only
      rw [hstep, if_neg hc]
      omega
  · rintro ⟨s, j⟩ ⟨rfl, _, rfl⟩
    refine ⟨.ex 0 (_, (h.length : Int)), ?_, trivial, _, rfl⟩
    unfold upTo_L0
    rw [if_neg (by simp), List.take_length]
  · rintro f ⟨hf, he, i, rfl⟩
    rw [hf, Option.bind_some]
    dsimp only
    have c1 := hol_count hR.2.2 (fun d hd => (hR.2.1 d hd).1) x.toNat
    have c2 := wk_count x.toNat
    rw [Int.toNat_of_nonneg h0] at c1 c2
    congr 1
    omega

/-- The numbers of days between two days, from those below both. -/
theorem U_sub (P : Int → Bool) {x y : Int} (h0 : 0 ≤ x) (h : x ≤ y) : (G P 0 y.toNat : Int) - (G P 0 x.toNat : Int) = (G P x (y - x).toNat : Nat) := by
  have e : y.toNat = x.toNat + (y - x).toNat := by omega
  rw [e, G_add, show (0 : Int) + (x.toNat : Int) = x by omega]
  omega

theorem countG_spec {h : List Int} {out : List Stay} {a b : Int} (hR : RH h) (hV : ∀ s ∈ out, VS s) (hasc : out.Pairwise fun a b => a.To < b.From) (hl : out.length ≤ 1000) (ha : 0 ≤ a) (hab : a < b) (hb : b ≤ 1073741824) :
    calCountG h out a b = some (G (fun d => W h d && !decide (inS out d)) (a + 1) (b - a).toNat : Int) := by
  unfold calCountG
  have hU : ∀ {x : Int}, 0 ≤ x → x ≤ 1073741825 → inI (G (W h) 0 x.toNat : Int) ∧ (G (W h) 0 x.toNat : Int) ≤ 1073741825 := by
    intro x h0 h1
    have := G_le (W h) 0 x.toNat
    unfold inI
    omega
  have u1 := hU (x := b + 1) (by omega) (by omega)
  have u2 := hU (x := a + 1) (by omega) (by omega)
  have s0 := U_sub (W h) (x := a + 1) (y := b + 1) (by omega) (by omega)
  rw [show b + 1 - (a + 1) = b - a by omega] at s0
  rw [addI_some (by unfold inI; omega), Option.bind_some, upTo_spec hR (by omega) (by omega), Option.bind_some, addI_some (by unfold inI; omega), Option.bind_some, upTo_spec hR (by omega) (by omega), Option.bind_some,
    subI_some (by unfold inI at *; omega), Option.bind_some, s0]
  refine Exists.elim (loop_up (body := calCountG_L0 h out a b) (fun i s => s.2 = (i : Int) ∧ i ≤ out.length ∧ s.1 = (G (fun d => W h d && !decide (inS (out.take i) d)) (a + 1) (b - a).toNat : Nat)) out.length
    (fun f => ∃ i, f = .ex 0 (((G (fun d => W h d && !decide (inS out d)) (a + 1) (b - a).toNat : Nat) : Int), i)) ?_ ?_ (((G (W h) (a + 1) (b - a).toNat : Nat) : Int), 0) ⟨rfl, Nat.zero_le _, ?_⟩ (out.length + 1) (by omega)) ?_
  · rintro i ⟨s, j⟩ hi ⟨rfl, _, hs⟩
    left
    dsimp only at hs
    have hVx := hV _ (List.getElem_mem hi)
    unfold VS at hVx
    have hin : ∀ d, inS (out.take (i + 1)) d ↔ inS (out.take i) d ∨ (out[i].From ≤ d ∧ d ≤ out[i].To) := by
      intro d
      rw [List.take_succ_eq_append_getElem hi]
      simp only [inS, List.mem_append, List.mem_singleton, or_and_right, exists_or, exists_eq_left]
    have hdis : ∀ d, out[i].From ≤ d → ¬ inS (out.take i) d := by
      rintro d hd ⟨s, hs, h1, h2⟩
      obtain ⟨q, hq, rfl⟩ := List.getElem_of_mem hs
      simp only [List.length_take] at hq
      rw [List.getElem_take] at h1 h2
      have := (List.pairwise_iff_getElem.1 hasc) q i (by omega) hi (by omega)
      omega
    have hsum : G (fun d => W h d && !decide (inS (out.take i) d)) (a + 1) (b - a).toNat = G (fun d => W h d && !decide (inS (out.take (i + 1)) d)) (a + 1) (b - a).toNat + G (fun d => W h d && decide (out[i].From ≤ d ∧ d ≤ out[i].To)) (a + 1) (b - a).toNat := by
      refine G_sum fun d _ _ => ?_
      by_cases hx : out[i].From ≤ d ∧ d ≤ out[i].To
      · have h1 := hdis d hx.1
        have h2 : inS (out.take (i + 1)) d := (hin d).2 (.inr hx)
        simp [h1, h2, hx]
      · have h2 : inS (out.take (i + 1)) d ↔ inS (out.take i) d := (hin d).trans ⟨fun h => h.elim id fun h => absurd h hx, .inl⟩
        simp [h2, hx]
    rw [G_range, show a + 1 + ((b - a).toNat : Int) - 1 = b by omega] at hsum
    have hb1 := G_le (fun d => W h d && !decide (inS (out.take i) d)) (a + 1) (b - a).toNat
    unfold calCountG_L0
    dsimp only
    rw [if_pos (by simpa using hi), getI_nat hi, Option.bind_some, addI_some (by unfold inI; omega), Option.bind_some]
    by_cases hc : max out[i].From (a + 1) ≤ min out[i].To b
    · have hk := U_sub (W h) (x := max out[i].From (a + 1)) (y := min out[i].To b + 1) (by omega) (by omega)
      have v1 := hU (x := min out[i].To b + 1) (by omega) (by omega)
      have v2 := hU (x := max out[i].From (a + 1)) (by omega) (by omega)
      rw [if_pos (by simpa using hc), addI_some (by unfold inI; omega), Option.bind_some, upTo_spec hR (by omega) (by omega), Option.bind_some, upTo_spec hR (by omega) (by omega), Option.bind_some, subI_some (by unfold inI at *; omega), Option.bind_some, hk,
        subI_some (by unfold inI; omega), Option.bind_some, Option.bind_some, addI_one (show i < 4611686018427387904 by omega), Option.bind_some]
      refine ⟨_, rfl, rfl, by omega, ?_⟩
      dsimp only
      omega
    · rw [if_neg (by simpa using hc), Option.bind_some, addI_one (show i < 4611686018427387904 by omega), Option.bind_some]
      refine ⟨_, rfl, rfl, by omega, ?_⟩
      dsimp only
      rw [show (min out[i].To b + 1 - max out[i].From (a + 1)).toNat = 0 by omega] at hsum
      simp only [G] at hsum
      omega
  · rintro ⟨s, j⟩ ⟨rfl, _, hs⟩
    dsimp only at hs
    rw [List.take_length] at hs
    subst hs
    refine ⟨.ex 0 (_, (out.length : Int)), ?_, trivial, _, rfl⟩
    unfold calCountG_L0
    rw [if_neg (by simp)]
  · have : (fun d => W h d && !decide (inS ([] : List Stay) d)) = W h := by funext d; simp [inS]
    exact (congrArg (fun P => ((G P (a + 1) (b - a).toNat : Nat) : Int)) this).symm
  · rintro f ⟨hf, he, i, rfl⟩
    rw [hf, Option.bind_some]
end Go.Proofs.Ytdpekblabnfjnaa
