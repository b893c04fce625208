/- The plain part of the proof (no program in sight), part 1 -/
import Derived.Test.YtachpkjjlebadaaT3
namespace Go.Proofs.Ytachpkjjlebadaa
open Go.Gb
set_option linter.unusedVariables false
set_option linter.unusedSimpArgs false
set_option linter.unusedSectionVars false
set_option linter.unusedVariables false
set_option linter.unusedSimpArgs false

def Tot {α : Type} (o : Option α) : Prop := ∃ r, o = some r
theorem Tot.pure {α : Type} (x : α) : Tot (some x) := ⟨x, rfl⟩
theorem Tot.bind {α β : Type} {o : Option α} {f : α → Option β} (h : Tot o) (g : ∀ x, o = some x → Tot (f x)) : Tot (o.bind f) := by
  obtain ⟨x, hx⟩ := h
  rw [hx]; exact g x hx
theorem Tot.ite {α : Type} {c : Prop} [Decidable c] {x y : Option α} (h : c → Tot x) (g : ¬c → Tot y) : Tot (if c then x else y) := by
  split
  · exact h ‹_›
  · exact g ‹_›
/-- a loop that counts -/
theorem tot_loop {σ ρ : Type} {body : σ → Option (Flow σ ρ)} (idx : σ → Int) (I : σ → Prop) (N : Nat)
    (step : ∀ s i, idx s = ((i : Nat) : Int) → i < N → I s → (∃ s', body s = some (.go s') ∧ idx s' = ((i + 1 : Nat) : Int) ∧ I s') ∨ ∃ f, body s = some f ∧ f.ends)
    (done : ∀ s, idx s = ((N : Nat) : Int) → I s → ∃ f, body s = some f ∧ f.ends) (s0 : σ) (h0 : idx s0 = 0) (hI : I s0) {fuel : Nat} (hf : N < fuel) : ∃ f, iterL body fuel s0 = some f ∧ f.ends := by
  obtain ⟨f, h1, h2, _⟩ := loop_up (body := body) (fun i s => idx s = ((i : Nat) : Int) ∧ I s) N (fun _ => True)
    (fun i s hi hs => (step s i hs.1 hi hs.2).imp (fun ⟨s', a, b, c⟩ => ⟨s', a, b, c⟩) fun ⟨f, a, b⟩ => ⟨f, a, b, trivial⟩)
    (fun s hs => let ⟨f, a, b⟩ := done s hs.1 hs.2; ⟨f, a, b, trivial⟩) s0 ⟨h0, hI⟩ fuel hf
  exact ⟨f, h1, h2⟩
theorem Tot.loop {σ ρ τ : Type} {o : Option (Flow σ ρ)} {f : Flow σ ρ → Option τ} (h : ∃ x, o = some x ∧ x.ends) (g : ∀ x, x.ends → Tot (f x)) : Tot (o.bind f) := by
  obtain ⟨x, hx, he⟩ := h
  rw [hx]; exact g x he

theorem containsV_tot {s : List Volume} {f : Volume → Option Bool} (hl : s.length ≤ 1000000) (hf : ∀ x, Tot (f x)) : Tot (slices_ContainsFunc_Volume s f) := by
  unfold slices_ContainsFunc_Volume
  refine Tot.bind ?_ fun _ _ => Tot.pure _
  unfold slices_IndexFunc_Volume
  refine Tot.loop (tot_loop (fun s => s) (fun _ => True) s.length ?_ ?_ 0 rfl trivial (by omega)) ?_
  · intro i n hi hn _
    subst hi
    unfold slices_IndexFunc_Volume_L0
    obtain ⟨b, hb⟩ := hf s[n]
    rw [if_pos (by simpa using hn), getI_nat hn]
    simp only [Option.bind_some, hb]
    cases b with
    | true => exact .inr ⟨_, rfl, trivial⟩
    | false =>
      rw [if_neg (by simp), addI_one (by omega)]
      exact .inl ⟨_, rfl, rfl, trivial⟩
  · intro i hi _
    subst hi
    unfold slices_IndexFunc_Volume_L0
    rw [if_neg (by simp)]
    exact ⟨_, rfl, trivial⟩
  · intro x hx
    cases x with
    | go _ => exact hx.elim
    | ex _ _ => exact Tot.pure _
    | ret _ => exact Tot.pure _
theorem containsD_tot {s : List Drawing} {f : Drawing → Option Bool} (hl : s.length ≤ 1000000) (hf : ∀ x ∈ s, Tot (f x)) : Tot (slices_ContainsFunc_Drawing s f) := by
  unfold slices_ContainsFunc_Drawing
  refine Tot.bind ?_ fun _ _ => Tot.pure _
  unfold slices_IndexFunc_Drawing
  refine Tot.loop (tot_loop (fun s => s) (fun _ => True) s.length ?_ ?_ 0 rfl trivial (by omega)) ?_
  · intro i n hi hn _
    subst hi
    unfold slices_IndexFunc_Drawing_L0
    obtain ⟨b, hb⟩ := hf s[n] (List.getElem_mem hn)
    rw [if_pos (by simpa using hn), getI_nat hn]
    simp only [Option.bind_some, hb]
    cases b with
    | true => exact .inr ⟨_, rfl, trivial⟩
    | false =>
      rw [if_neg (by simp), addI_one (by omega)]
      exact .inl ⟨_, rfl, rfl, trivial⟩
  · intro i hi _
    subst hi
    unfold slices_IndexFunc_Drawing_L0
    rw [if_neg (by simp)]
    exact ⟨_, rfl, trivial⟩
  · intro x hx
    cases x with
    | go _ => exact hx.elim
    | ex _ _ => exact Tot.pure _
    | ret _ => exact Tot.pure _
theorem strI_nat {s : ByteArray} {n : Nat} (h : n < s.size) : Tot (strI s (n : Int)) := by
  unfold strI
  rw [if_pos (by omega)]
  have : s[((n : Nat) : Int).toNat]? = some s[n] := by simp [h]
  rw [this]; exact Tot.pure _
theorem letter_tot (c : IK .u8) : Tot (lex_letter c) := Tot.pure _
theorem digit_tot (c : IK .u8) : Tot (lex_digit c) := Tot.pure _
theorem word1_tot (c : IK .u8) : Tot (lex_Word_1 c) := by
  unfold lex_Word_1
  refine (letter_tot c).bind fun x _ => ?_
  refine Tot.bind (Tot.ite (fun _ => Tot.pure _) fun _ => (digit_tot c).bind fun _ _ => Tot.pure _) fun _ _ => Tot.pure _
theorem span_tot {s : ByteArray} {f : IK .u8 → Option Bool} (hs : s.size ≤ 1000000) (hf : ∀ c, Tot (f c)) : Tot (lex_span s f) := by
  unfold lex_span
  refine Tot.loop (tot_loop (fun s => s) (fun _ => True) s.size ?_ ?_ 0 rfl trivial (by omega)) ?_
  · intro i n hi hn _
    subst hi
    unfold lex_span_L0
    obtain ⟨c, hc⟩ := strI_nat hn
    obtain ⟨b, hb⟩ := hf c
    rw [if_pos (by simpa using hn), hc]
    simp only [Option.bind_some, hb]
    cases b with
    | false => exact .inr ⟨_, rfl, trivial⟩
    | true =>
      rw [if_pos rfl, addI_one (by omega)]
      exact .inl ⟨_, rfl, rfl, trivial⟩
  · intro i hi _
    subst hi
    unfold lex_span_L0
    rw [if_neg (by simp)]
    exact ⟨_, rfl, trivial⟩
  · intro x hx
    cases x with
    | go _ => exact hx.elim
    | ex _ _ => exact Tot.pure _
    | ret _ => exact Tot.pure _
theorem word_tot (s : ByteArray) : ∃ b, lex_Word s = some b ∧ (b = true → s.size ≤ 20) := by
  have h1 : Tot (if ((s.toList == (⟨#[]⟩ : ByteArray).toList)) then some true else (strI s 0).bind fun c => (lex_letter c).bind fun l => some (!l)) := by
    refine Tot.ite (fun _ => Tot.pure _) fun h => ?_
    have hs : 0 < s.size := by
      rcases Nat.eq_zero_or_pos s.size with h0 | h0
      · exfalso
        apply h
        have : s = ⟨#[]⟩ := by
          cases s with | mk d =>
            have : d.size = 0 := h0
            have : d = #[] := Array.eq_empty_of_size_eq_zero this
            rw [this]
        rw [this]; simp
      · exact h0
    exact (strI_nat hs).bind fun c _ => (letter_tot c).bind fun _ _ => Tot.pure _
  obtain ⟨x, hx⟩ := h1
  unfold lex_Word
  rw [hx]
  simp only [Option.bind_some]
  by_cases hc : (x || decide (20 < (s.size : Int))) = true
  · rw [if_pos hc]; exact ⟨_, rfl, fun h => by simp at h⟩
  · rw [if_neg hc]
    have h20 : s.size ≤ 20 := by simp at hc; omega
    obtain ⟨n, hn⟩ := span_tot (s := s) (by omega) word1_tot
    rw [hn]
    exact ⟨_, rfl, fun _ => h20⟩
theorem contains_tot {s t : ByteArray} (h : s.size ≤ 4000) : Tot (strings_Contains s t) := by
  unfold strings_Contains
  rw [if_pos (by omega)]
  exact Tot.pure _
theorem i64_max : IntKind.i64.max = 9223372036854775807 := by simp [IntKind.max, IntKind.bits, IntKind.signed]
theorem catI_some {s t : ByteArray} (h : s.size + t.size ≤ 1000000) : catI s t = some (s ++ t) := by
  unfold catI
  rw [i64_max, if_pos (by omega)]
theorem name_aux (res s : ByteArray) (hr : res.size ≤ 4000) : Tot ((lex_Word s).bind fun x =>
    (if x then (catI (⟨#[32]⟩ : ByteArray) s).bind fun y => (catI y (⟨#[32]⟩ : ByteArray)).bind fun z => (strings_Contains res z).bind fun b => some (!b) else some false).bind fun b => some b) := by
  obtain ⟨b, hb, h20⟩ := word_tot s
  refine Tot.bind ⟨b, hb⟩ fun x hx => ?_
  refine Tot.bind (Tot.ite (fun h => ?_) fun _ => Tot.pure _) fun _ _ => Tot.pure _
  have hs : s.size ≤ 20 := h20 (by rw [← Option.some.inj (hx.symm.trans hb)]; exact h)
  have h1 : (⟨#[32]⟩ : ByteArray).size = 1 := rfl
  refine Tot.bind ⟨_, catI_some (by omega)⟩ fun y hy => ?_
  have hy : y.size = 1 + s.size := by
    rw [catI_some (by omega)] at hy
    rw [← Option.some.inj hy, ByteArray.size_append, h1]
  refine Tot.bind ⟨_, catI_some (by omega)⟩ fun z _ => ?_
  exact Tot.bind (contains_tot hr) fun _ _ => Tot.pure _
theorem name_tot (s : ByteArray) : Tot (syntax_Name s) := by
  unfold syntax_Name
  exact name_aux _ s (Nat.le_of_ble_eq_true (by kernel_rfl))
end Go.Proofs.Ytachpkjjlebadaa

namespace Go.Proofs.Ytachpkjjlebadaa
open Go.Gb
set_option linter.unusedVariables false
set_option linter.unusedSimpArgs false
set_option linter.unusedSectionVars false
set_option linter.unusedVariables false
set_option linter.unusedSimpArgs false

theorem addI_one' {i : Nat} (h : i < 9223372036854775807) : addI (i : Int) 1 = some ((i + 1 : Nat) : Int) := by
  rw [addI_some (by constructor <;> omega)]; simp
def SmP (p : Phase) : Prop := p.Volumes.length ≤ 12 ∧ p.Gives.length ≤ 6
def SmD (d : Drawing) : Prop := d.Phases.length ≤ 9 ∧ ∀ p ∈ d.Phases, SmP p
def SmL (l : List Drawing) : Prop := l.length ≤ 9 ∧ ∀ d ∈ l, SmD d
theorem flat_le {l : List Drawing} {d : Drawing} (h : d ∈ l) : d.Phases.length ≤ (l.flatMap fun d => d.Phases).length := by
  induction l with
  | nil => simp at h
  | cons x l ih =>
    rw [List.flatMap_cons, List.length_append]
    rcases List.mem_cons.1 h with rfl | h
    · omega
    · have := ih h; omega
theorem few_inner {l : List Drawing} {i : Nat} (hi : i < l.length) (hp : l[i].Phases.length ≤ maxLen) :
    ∃ f, iterL (ref30_fewDrawings_L1 l (i : Int)) ((l.flatMap fun d => d.Phases).length + 1) 0 = some f ∧ f.ends ∧ (match f with | .ex _ _ => ∀ p ∈ l[i].Phases, SmP p | .ret r => r = false | .go _ => False) := by
  have hm : (maxLen : Nat) = 9223372036854775807 := rfl
  refine loop_up (fun j s => s = ((j : Nat) : Int) ∧ ∀ m (h : m < l[i].Phases.length), m < j → SmP l[i].Phases[m]) l[i].Phases.length _ ?_ ?_ 0 ⟨rfl, fun m _ h => by omega⟩ _ (by have := flat_le (List.getElem_mem hi); omega)
  · intro j s hj ⟨hs, hI⟩
    subst hs
    unfold ref30_fewDrawings_L1
    rw [getI_nat hi]
    simp only [Option.bind_some]
    rw [if_pos (by simpa using hj), getI_nat hj]
    simp only [Option.bind_some]
    by_cases h1 : 12 < (l[i].Phases[j].Volumes.length : Int)
    · rw [if_pos (by simpa using h1)]
      simp only [Option.bind_some]
      exact .inr ⟨_, rfl, trivial, rfl⟩
    · rw [if_neg (by simpa using h1)]
      simp only [Option.bind_some]
      by_cases h2 : 6 < (l[i].Phases[j].Gives.length : Int)
      · rw [if_pos (by simpa using h2)]
        exact .inr ⟨_, rfl, trivial, rfl⟩
      · rw [if_neg (by simpa using h2), addI_one' (by omega)]
        refine .inl ⟨_, rfl, rfl, fun m hm' hlt => ?_⟩
        by_cases he : m = j
        · subst he; exact ⟨by omega, by omega⟩
        · exact hI m hm' (by omega)
  · intro s ⟨hs, hI⟩
    subst hs
    unfold ref30_fewDrawings_L1
    rw [getI_nat hi]
    simp only [Option.bind_some]
    rw [if_neg (by simp)]
    refine ⟨_, rfl, trivial, fun p hp' => ?_⟩
    obtain ⟨m, h, rfl⟩ := List.getElem_of_mem hp'
    exact hI m h h
theorem few_drawings {l : List Drawing} (hl : l.length ≤ maxLen) (hd : ∀ d ∈ l, d.Phases.length ≤ maxLen) : ∃ b, ref30_fewDrawings l = some b ∧ (b = true → SmL l) := by
  have hm : (maxLen : Nat) = 9223372036854775807 := rfl
  obtain ⟨f, h1, h2, h3⟩ := loop_up (body := ref30_fewDrawings_L0 l) (fun i s => s = ((i : Nat) : Int) ∧ ∀ m (h : m < l.length), m < i → SmD l[m]) l.length
    (fun f => match f with | .ex _ _ => ∀ d ∈ l, SmD d | .ret r => r = false | .go _ => False) (fun i s hi ⟨hs, hI⟩ => by
      subst hs
      unfold ref30_fewDrawings_L0
      rw [if_pos (by simpa using hi)]
      obtain ⟨g, g1, g2, g3⟩ := few_inner hi (hd _ (List.getElem_mem hi))
      rw [g1]
      cases g with
      | go _ => exact g2.elim
      | ret r =>
        obtain rfl : r = false := g3
        exact .inr ⟨_, rfl, trivial, rfl⟩
      | ex _ _ =>
        simp only [Option.bind_some]
        rw [getI_nat hi]
        simp only [Option.bind_some]
        by_cases h1 : 9 < (l[i].Phases.length : Int)
        · rw [if_pos (by simpa using h1)]
          exact .inr ⟨_, rfl, trivial, rfl⟩
        · rw [if_neg (by simpa using h1), addI_one' (by omega)]
          refine .inl ⟨_, rfl, rfl, fun m hm' hlt => ?_⟩
          by_cases he : m = i
          · subst he; exact ⟨by omega, g3⟩
          · exact hI m hm' (by omega)) (fun s ⟨hs, hI⟩ => by
      subst hs
      unfold ref30_fewDrawings_L0
      rw [if_neg (by simp)]
      refine ⟨_, rfl, trivial, fun d hd' => ?_⟩
      obtain ⟨m, h, rfl⟩ := List.getElem_of_mem hd'
      exact hI m h h) 0 ⟨rfl, fun m _ h => by omega⟩ (l.length + 1) (by omega)
  unfold ref30_fewDrawings
  rw [h1]
  cases f with
  | go _ => exact h2.elim
  | ret r => obtain rfl : r = false := h3; exact ⟨_, rfl, fun h => by cases h⟩
  | ex _ _ => exact ⟨_, rfl, fun h => ⟨by simp at h; omega, h3⟩⟩
def Lens (l : List Drawing) : Prop := l.length ≤ maxLen ∧ ∀ d ∈ l, d.Phases.length ≤ maxLen
theorem few_all {p : Plan} {d : Dossier} {l : List Act} (hd : Lens d.Drawings) (hl : l.length ≤ maxLen) (ha : ∀ a ∈ l, Lens a.Drawings) :
    ∃ b, ref30_Few p d l = some b ∧ (b = true → p.Rules.length ≤ 20 ∧ l.length ≤ 14 ∧ SmL d.Drawings ∧ ∀ a ∈ l, SmL a.Drawings) := by
  have hm : (maxLen : Nat) = 9223372036854775807 := rfl
  obtain ⟨f, h1, h2, h3⟩ := loop_up (body := ref30_Few_L0 l) (fun i s => s = ((i : Nat) : Int) ∧ ∀ m (h : m < l.length), m < i → SmL l[m].Drawings) l.length
    (fun f => match f with | .ex _ _ => ∀ a ∈ l, SmL a.Drawings | .ret r => r = false | .go _ => False) (fun i s hi ⟨hs, hI⟩ => by
      subst hs
      unfold ref30_Few_L0
      rw [if_pos (by simpa using hi), getI_nat hi]
      simp only [Option.bind_some]
      obtain ⟨b, g1, g2⟩ := few_drawings (ha _ (List.getElem_mem hi)).1 (ha _ (List.getElem_mem hi)).2
      rw [g1]
      simp only [Option.bind_some]
      cases b with
      | false => exact .inr ⟨_, rfl, trivial, rfl⟩
      | true =>
        rw [if_neg (by simp), addI_one' (by omega)]
        refine .inl ⟨_, rfl, rfl, fun m hm' hlt => ?_⟩
        by_cases he : m = i
        · subst he; exact g2 rfl
        · exact hI m hm' (by omega)) (fun s ⟨hs, hI⟩ => by
      subst hs
      unfold ref30_Few_L0
      rw [if_neg (by simp)]
      refine ⟨_, rfl, trivial, fun d hd' => ?_⟩
      obtain ⟨m, h, rfl⟩ := List.getElem_of_mem hd'
      exact hI m h h) 0 ⟨rfl, fun m _ h => by omega⟩ (l.length + 1) (by omega)
  unfold ref30_Few
  rw [h1]
  cases f with
  | go _ => exact h2.elim
  | ret r => obtain rfl : r = false := h3; exact ⟨_, rfl, fun h => by cases h⟩
  | ex _ _ =>
    obtain ⟨b, g1, g2⟩ := few_drawings hd.1 hd.2
    simp only [Option.bind_some, g1]
    by_cases hc : ((decide ((p.Rules.length : Int) ≤ 20)) && (decide ((l.length : Int) ≤ 14))) = true
    · rw [if_pos hc]
      simp at hc
      exact ⟨_, rfl, fun h => ⟨by omega, by omega, g2 h, h3⟩⟩
    · rw [if_neg hc]
      exact ⟨_, rfl, fun h => by cases h⟩
end Go.Proofs.Ytachpkjjlebadaa

namespace Go.Proofs.Ytachpkjjlebadaa
open Go.Gb
set_option linter.unusedVariables false
set_option linter.unusedSimpArgs false
set_option linter.unusedSectionVars false
set_option linter.unusedVariables false
set_option linter.unusedSimpArgs false

theorem all_tot {d : Drawing} (h : SmD d) : ∃ l, drawing_all d = some l ∧ l.length ≤ 108 := by
  obtain ⟨f, h1, h2, h3⟩ := loop_up (body := drawing_Volumes_L0 d 0 (d.Phases.length : Int)) (fun i s => s.2 = ((i : Nat) : Int) ∧ s.1.length ≤ 12 * i) d.Phases.length
    (fun f => match f with | .ex _ s => s.1.length ≤ 108 | _ => False) (fun i s hi ⟨hs, hI⟩ => by
      have h9 := h.1
      have hv := (h.2 _ (List.getElem_mem hi)).1
      unfold drawing_Volumes_L0
      rw [hs, if_pos (by simpa using hi), getI_nat hi, Option.bind_some, if_pos (by simp; omega), appI_some (by omega), Option.bind_some, Option.bind_some, addI_one (by omega), Option.bind_some]
      exact .inl ⟨_, rfl, rfl, by simp; omega⟩) (fun s ⟨hs, hI⟩ => by
      have h9 := h.1
      unfold drawing_Volumes_L0
      rw [hs, if_neg (by simp)]
      exact ⟨_, rfl, trivial, by show s.1.length ≤ 108; omega⟩) ([], 0) ⟨rfl, by simp⟩ (d.Phases.length + 1) (by omega)
  unfold drawing_all drawing_Volumes
  rw [h1]
  cases f with
  | go _ => exact h2.elim
  | ret r => exact h3.elim
  | ex _ s => exact ⟨_, rfl, h3⟩
theorem rightV_tot (v : Volume) : Tot (drawing_RightVolume v) := by
  unfold drawing_RightVolume rect_Right
  refine Tot.bind (Tot.pure _) fun _ _ => Tot.ite (fun _ => Tot.pure _) fun _ => Tot.ite (fun _ => Tot.pure _) fun _ => Tot.pure _
theorem meet_tot (a b : Box) : Tot (drawing_meet a b) := by
  unfold drawing_meet rect_Intersect rect_checked rect_Right
  refine Tot.bind (Tot.bind (Tot.pure _) fun _ _ => Tot.bind (Tot.ite (fun _ => Tot.pure _) fun _ => Tot.bind (Tot.pure _) fun _ _ => Tot.pure _) fun _ _ => Tot.ite (fun _ => Tot.pure _) fun _ =>
    Tot.bind (Tot.bind (Tot.pure _) fun _ _ => Tot.ite (fun _ => Tot.pure _) fun _ => Tot.pure _) fun _ _ => Tot.pure _) fun _ _ => Tot.pure _
theorem form0_tot {l : List Volume} (h : l.length ≤ 1000000) : ∃ f, iterL (drawing_Form_L0 l) (l.length + 1) 0 = some f ∧ f.ends := by
  refine tot_loop (fun s => s) (fun _ => True) l.length ?_ ?_ 0 rfl trivial (by omega)
  · intro s i hs hi _
    subst hs
    unfold drawing_Form_L0
    rw [if_pos (by simpa using hi), getI_nat hi]
    simp only [Option.bind_some]
    obtain ⟨b, hb⟩ := rightV_tot l[i]
    rw [hb]
    simp only [Option.bind_some]
    obtain ⟨c, hc⟩ : Tot (if (!b) = true then some true else (sliceI l 0 (i : Int)).bind fun y => (slices_ContainsFunc_Volume y (fun y0 => drawing_Form_1 y0 l[i])).bind fun z => some z) := by
      refine Tot.ite (fun _ => Tot.pure _) fun _ => ?_
      rw [sliceI_some (by omega) (by omega) (by omega)]
      simp only [Option.bind_some]
      refine Tot.bind (containsV_tot (by simp; omega) fun x => ?_) fun _ _ => Tot.pure _
      unfold drawing_Form_1
      exact Tot.bind (meet_tot _ _) fun _ _ => Tot.pure _
    rw [hc]
    simp only [Option.bind_some]
    cases c with
    | true => exact .inr ⟨_, rfl, trivial⟩
    | false =>
      rw [if_neg (by simp), addI_one (by omega)]
      exact .inl ⟨_, rfl, rfl, trivial⟩
  · intro s hs _
    subst hs
    unfold drawing_Form_L0
    rw [if_neg (by simp)]
    exact ⟨_, rfl, trivial⟩
theorem form2_tot {p : Phase} (h : SmP p) : ∃ f, iterL (drawing_Form_L2 p) (p.Gives.length + 1) ((⟨[]⟩ : (GMap ByteArray Bool)), 0) = some f ∧ f.ends := by
  have h6 := h.2
  refine tot_loop (fun s => s.2) (fun _ => True) p.Gives.length ?_ ?_ _ rfl trivial (by omega)
  · intro s i hs hi _
    unfold drawing_Form_L2
    rw [hs, if_pos (by simpa using hi), getI_nat hi]
    simp only [Option.bind_some]
    obtain ⟨c, hc⟩ : Tot (if (getK (s.1).l p.Gives[i].Name).getD false = true then some true else (syntax_Name p.Gives[i].Name).bind fun y => some (!y)) :=
      Tot.ite (fun _ => Tot.pure _) fun _ => Tot.bind (name_tot _) fun _ _ => Tot.pure _
    rw [hc]
    simp only [Option.bind_some]
    split
    · exact .inr ⟨_, rfl, trivial⟩
    · rw [addI_one (by omega)]
      exact .inl ⟨_, rfl, rfl, trivial⟩
  · intro s hs _
    unfold drawing_Form_L2
    rw [hs, if_neg (by simp)]
    exact ⟨_, rfl, trivial⟩
theorem form1_tot {d : Drawing} (h : SmD d) : ∃ f, iterL (drawing_Form_L1 d) (d.Phases.length + 1) 0 = some f ∧ f.ends := by
  have h9 := h.1
  refine tot_loop (fun s => s) (fun _ => True) d.Phases.length ?_ ?_ 0 rfl trivial (by omega)
  · intro s i hs hi _
    subst hs
    unfold drawing_Form_L1
    rw [if_pos (by simpa using hi), getI_nat hi]
    simp only [Option.bind_some]
    obtain ⟨f, hf, he⟩ := form2_tot (h.2 _ (List.getElem_mem hi))
    rw [hf]
    simp only [Option.bind_some]
    cases f with
    | go _ => exact he.elim
    | ret r => exact .inr ⟨_, rfl, trivial⟩
    | ex _ _ =>
      dsimp only
      split
      · exact .inr ⟨_, rfl, trivial⟩
      · rw [addI_one (by omega)]
        exact .inl ⟨_, rfl, rfl, trivial⟩
  · intro s hs _
    subst hs
    unfold drawing_Form_L1
    rw [if_neg (by simp)]
    exact ⟨_, rfl, trivial⟩
theorem form_tot {d : Drawing} (h : SmD d) : Tot (drawing_Form d) := by
  obtain ⟨l, hl, h108⟩ := all_tot h
  unfold drawing_Form
  rw [hl]
  simp only [Option.bind_some]
  refine Tot.ite (fun _ => Tot.pure _) fun _ => ?_
  refine Tot.loop (form0_tot (by omega)) fun x hx => ?_
  cases x with
  | go _ => exact hx.elim
  | ret _ => exact Tot.pure _
  | ex _ _ =>
    refine Tot.loop (form1_tot h) fun x hx => ?_
    cases x with
    | go _ => exact hx.elim
    | ret _ => exact Tot.pure _
    | ex _ _ => exact Tot.pure _
theorem formed_tot {l : List Drawing} (h : SmL l) : Tot (dossier_formed l) := by
  have h9 := h.1
  unfold dossier_formed
  refine Tot.ite (fun _ => Tot.pure _) fun _ => ?_
  refine Tot.bind (containsD_tot (by omega) fun x hx => ?_) fun _ _ => Tot.pure _
  unfold dossier_formed_1
  exact Tot.bind (form_tot (h.2 x hx)) fun _ _ => Tot.pure _
theorem right_tot {d : Dossier} (h : SmL d.Drawings) : Tot (dossier_Right d) := by
  unfold dossier_Right
  refine Tot.bind ?_ fun _ _ => Tot.ite (fun _ => Tot.pure _) fun _ => Tot.bind (formed_tot h) fun _ _ => Tot.pure _
  refine Tot.ite (fun _ => Tot.pure _) fun _ => Tot.bind ?_ fun _ _ => Tot.pure _
  refine Tot.ite (fun _ => Tot.pure _) fun _ => Tot.bind ?_ fun _ _ => Tot.pure _
  refine Tot.ite (fun _ => Tot.pure _) fun _ => Tot.bind ?_ fun _ _ => Tot.pure _
  refine Tot.ite (fun _ => Tot.pure _) fun _ => Tot.bind ?_ fun _ _ => Tot.pure _
  refine Tot.ite (fun _ => Tot.pure _) fun _ => Tot.bind ?_ fun _ _ => Tot.pure _
  exact Tot.ite (fun _ => Tot.pure _) fun _ => Tot.pure _
end Go.Proofs.Ytachpkjjlebadaa

namespace Go.Proofs.Ytachpkjjlebadaa
open Go.Gb
set_option linter.unusedVariables false
set_option linter.unusedSimpArgs false
set_option linter.unusedSectionVars false
set_option linter.unusedVariables false
set_option linter.unusedSimpArgs false

theorem appI_nil {α : Type} {s : List α} (h : s.length ≤ 1000000) : appI [] s = some s := by
  rw [appI_some (by simp; omega), List.nil_append]
theorem cloneD_eq {s : List Drawing} (h : s.length ≤ 1000000) : slices_Clone_Drawing s = some s := by
  unfold slices_Clone_Drawing; rw [appI_nil h, Option.bind_some]
theorem cloneP_eq {s : List Phase} (h : s.length ≤ 1000000) : slices_Clone_Phase s = some s := by
  unfold slices_Clone_Phase; rw [appI_nil h, Option.bind_some]
theorem cloneV_eq {s : List Volume} (h : s.length ≤ 1000000) : slices_Clone_Volume s = some s := by
  unfold slices_Clone_Volume; rw [appI_nil h, Option.bind_some]
theorem cloneE_eq {s : List Entry} (h : s.length ≤ 1000000) : slices_Clone_Entry s = some s := by
  unfold slices_Clone_Entry; rw [appI_nil h, Option.bind_some]
theorem clone1_eq {l : List Phase} (hl : l.length ≤ 9) (h : ∀ p ∈ l, SmP p) : ∃ f, iterL (dossier_clone_L1 l) (l.length + 1) (l, 0) = some f ∧ f.ends ∧ (match f with | .ex _ s => s.1 = l | _ => False) := by
  refine loop_up (fun i s => s = (l, ((i : Nat) : Int))) l.length _ ?_ ?_ _ rfl _ (by omega)
  · intro i s hi hs
    subst hs
    have hp := h _ (List.getElem_mem hi)
    unfold dossier_clone_L1
    dsimp only
    rw [if_pos (by simpa using hi), getI_nat hi, Option.bind_some, cloneV_eq (by have := hp.1; omega), Option.bind_some, cloneE_eq (by have := hp.2; omega), Option.bind_some, Option.bind_some, Option.bind_some, addI_one (by omega), Option.bind_some]
    refine .inl ⟨_, rfl, ?_⟩
    have e : (⟨l[i].Volumes, l[i].Gives⟩ : Phase) = l[i] := rfl
    rw [e, Int.toNat_natCast, List.set_getElem_self]
  · intro s hs
    subst hs
    unfold dossier_clone_L1
    dsimp only
    rw [if_neg (by simp)]
    exact ⟨_, rfl, trivial, rfl⟩
theorem clone_eq {l : List Drawing} (h : SmL l) : dossier_clone l = some l := by
  have h9 := h.1
  obtain ⟨f, h1, h2, h3⟩ := loop_up (body := dossier_clone_L0 l) (fun i s => s = (l, ((i : Nat) : Int))) l.length (fun f => match f with | .ex _ s => s.1 = l | _ => False) (fun i s hi hs => by
      subst hs
      have hd := h.2 _ (List.getElem_mem hi)
      unfold dossier_clone_L0
      dsimp only
      rw [if_pos (by simpa using hi), getI_nat hi, Option.bind_some, cloneP_eq (by have := hd.1; omega), Option.bind_some]
      obtain ⟨g, g1, g2, g3⟩ := clone1_eq hd.1 hd.2
      rw [g1]
      cases g with
      | go _ => exact g2.elim
      | ret _ => exact g3.elim
      | ex j t =>
        have g3 : t.1 = l[i].Phases := g3
        rw [Option.bind_some]
        dsimp only
        rw [Option.bind_some, addI_one (by omega), Option.bind_some, Option.bind_some]
        refine .inl ⟨_, rfl, ?_⟩
        rw [g3]
        have e : ({ l[i] with Phases := l[i].Phases } : Drawing) = l[i] := rfl
        rw [e, Int.toNat_natCast, List.set_getElem_self]) (fun s hs => by
      subst hs
      unfold dossier_clone_L0
      dsimp only
      rw [if_neg (by simp)]
      exact ⟨_, rfl, trivial, rfl⟩) (l, 0) rfl (l.length + 1) (by omega)
  unfold dossier_clone
  rw [cloneD_eq (by omega), Option.bind_some, h1]
  cases f with
  | go _ => exact h2.elim
  | ret _ => exact h3.elim
  | ex _ s => have h3 : s.1 = l := h3; rw [Option.bind_some]; dsimp only; rw [h3]

theorem eqP_tot {s t : List Phase} {f : Phase → Phase → Option Bool} (hl : s.length ≤ 1000000) (hf : ∀ x ∈ s, ∀ y ∈ t, Tot (f x y)) : Tot (slices_EqualFunc_Phase_Phase_Phase s t f) := by
  unfold slices_EqualFunc_Phase_Phase_Phase
  refine Tot.ite (fun _ => Tot.pure _) fun hlen => ?_
  have hlen : s.length = t.length := by simp at hlen; omega
  refine Tot.loop (tot_loop (fun s => s) (fun _ => True) s.length ?_ ?_ 0 rfl trivial (by omega)) ?_
  · intro i n hi hn _
    subst hi
    unfold slices_EqualFunc_Phase_Phase_Phase_L0
    obtain ⟨b, hb⟩ := hf s[n] (List.getElem_mem hn) (t[n]'(by omega)) (List.getElem_mem _)
    rw [if_pos (by simpa using hn), getI_nat hn, Option.bind_some, getI_nat (by omega : n < t.length), Option.bind_some, hb, Option.bind_some]
    cases b with
    | false => exact .inr ⟨_, rfl, trivial⟩
    | true =>
      rw [if_neg (by simp), addI_one (by omega)]
      exact .inl ⟨_, rfl, rfl, trivial⟩
  · intro i hi _
    subst hi
    unfold slices_EqualFunc_Phase_Phase_Phase_L0
    rw [if_neg (by simp)]
    exact ⟨_, rfl, trivial⟩
  · intro x hx
    cases x with
    | go _ => exact hx.elim
    | ex _ _ => exact Tot.pure _
    | ret _ => exact Tot.pure _
theorem eqD_tot {s t : List Drawing} {f : Drawing → Drawing → Option Bool} (hl : s.length ≤ 1000000) (hf : ∀ x ∈ s, ∀ y ∈ t, Tot (f x y)) : Tot (slices_EqualFunc_Drawing_Drawing_Drawing s t f) := by
  unfold slices_EqualFunc_Drawing_Drawing_Drawing
  refine Tot.ite (fun _ => Tot.pure _) fun hlen => ?_
  have hlen : s.length = t.length := by simp at hlen; omega
  refine Tot.loop (tot_loop (fun s => s) (fun _ => True) s.length ?_ ?_ 0 rfl trivial (by omega)) ?_
  · intro i n hi hn _
    subst hi
    unfold slices_EqualFunc_Drawing_Drawing_Drawing_L0
    obtain ⟨b, hb⟩ := hf s[n] (List.getElem_mem hn) (t[n]'(by omega)) (List.getElem_mem _)
    rw [if_pos (by simpa using hn), getI_nat hn, Option.bind_some, getI_nat (by omega : n < t.length), Option.bind_some, hb, Option.bind_some]
    cases b with
    | false => exact .inr ⟨_, rfl, trivial⟩
    | true =>
      rw [if_neg (by simp), addI_one (by omega)]
      exact .inl ⟨_, rfl, rfl, trivial⟩
  · intro i hi _
    subst hi
    unfold slices_EqualFunc_Drawing_Drawing_Drawing_L0
    rw [if_neg (by simp)]
    exact ⟨_, rfl, trivial⟩
  · intro x hx
    cases x with
    | go _ => exact hx.elim
    | ex _ _ => exact Tot.pure _
    | ret _ => exact Tot.pure _
theorem eqE_tot {s t : List Entry} (hl : s.length ≤ 1000000) : Tot (slices_Equal_Entry s t) := by
  unfold slices_Equal_Entry
  refine Tot.ite (fun _ => Tot.pure _) fun hlen => ?_
  have hlen : s.length = t.length := by simp at hlen; omega
  refine Tot.loop (tot_loop (fun s => s) (fun _ => True) s.length ?_ ?_ 0 rfl trivial (by omega)) ?_
  · intro i n hi hn _
    subst hi
    unfold slices_Equal_Entry_L0
    rw [if_pos (by simpa using hn), getI_nat hn, Option.bind_some, getI_nat (by omega : n < t.length), Option.bind_some]
    split
    · exact .inr ⟨_, rfl, trivial⟩
    · rw [addI_one (by omega)]
      exact .inl ⟨_, rfl, rfl, trivial⟩
  · intro i hi _
    subst hi
    unfold slices_Equal_Entry_L0
    rw [if_neg (by simp)]
    exact ⟨_, rfl, trivial⟩
  · intro x hx
    cases x with
    | go _ => exact hx.elim
    | ex _ _ => exact Tot.pure _
    | ret _ => exact Tot.pure _
theorem lower_tot (a b : Volume) : Tot (dossier_lower a b) := by
  unfold dossier_lower
  exact Tot.ite (fun _ => Tot.pure _) fun _ => Tot.pure _
theorem takes_tot {a b : Phase} (ha : SmP a) (hb : SmP b) : Tot (dossier_takes a b) := by
  have h1 := hb.1
  have h2 := ha.2
  unfold dossier_takes
  refine Tot.loop (tot_loop (fun s => s.2) (fun _ => True) b.Volumes.length ?_ ?_ _ rfl trivial (by omega)) ?_
  · intro s n hs hn _
    unfold dossier_takes_L0
    rw [hs, if_pos (by simpa using hn), getI_nat hn, Option.bind_some]
    obtain ⟨c, hc⟩ : Tot (if (decide (0 < (s.1.length : Int))) = true then (getI s.1 0).bind fun x => (dossier_lower x b.Volumes[n]).bind fun y => some y else some false) := by
      refine Tot.ite (fun h => ?_) fun _ => Tot.pure _
      have h : 0 < s.1.length := by simpa using h
      rw [show (0 : Int) = ((0 : Nat) : Int) from rfl, getI_nat h, Option.bind_some]
      exact Tot.bind (lower_tot _ _) fun _ _ => Tot.pure _
    have hlen : c = true → 0 < s.1.length := by
      intro hct
      subst hct
      rcases Nat.eq_zero_or_pos s.1.length with h0 | h0
      · rw [if_neg (by simp [h0])] at hc; simp at hc
      · exact h0
    rw [hc, Option.bind_some]
    obtain ⟨e, he⟩ : Tot (if c = true then (sliceI s.1 1 (s.1.length : Int)).bind fun x => some x else some s.1) := by
      refine Tot.ite (fun h => ?_) fun _ => Tot.pure _
      have := hlen h
      rw [sliceI_some (by omega) (by omega) (by omega), Option.bind_some]
      exact Tot.pure _
    rw [he, Option.bind_some, addI_one (by omega)]
    exact .inl ⟨_, rfl, rfl, trivial⟩
  · intro s hs _
    unfold dossier_takes_L0
    rw [hs, if_neg (by simp)]
    exact ⟨_, rfl, trivial⟩
  · intro x hx
    cases x with
    | go _ => exact hx.elim
    | ex _ _ => exact Tot.bind (Tot.ite (fun _ => Tot.bind (eqE_tot (by omega)) fun _ _ => Tot.pure _) fun _ => Tot.pure _) fun _ _ => Tot.pure _
    | ret _ => exact Tot.pure _
theorem less_tot {a b : List Drawing} (ha : SmL a) (hb : SmL b) : Tot (dossier_Less a b) := by
  have h9 := ha.1
  unfold dossier_Less
  refine Tot.bind (eqD_tot (by omega) fun x hx y hy => ?_) fun _ _ => Tot.pure _
  unfold dossier_Less_1
  refine Tot.bind (Tot.ite (fun _ => Tot.bind (eqP_tot (by have := (ha.2 x hx).1; omega) fun p hp q hq => takes_tot ((ha.2 x hx).2 p hp) ((hb.2 y hy).2 q hq)) fun _ _ => Tot.pure _) fun _ => Tot.pure _) fun _ _ => Tot.pure _
end Go.Proofs.Ytachpkjjlebadaa

namespace Go.Proofs.Ytachpkjjlebadaa
open Go.Gb
set_option linter.unusedVariables false
set_option linter.unusedSimpArgs false
set_option linter.unusedSectionVars false
set_option linter.unusedVariables false
set_option linter.unusedSimpArgs false

theorem index_some {l : List Int} {v : Int} (hl : l.length ≤ 1000000) : ∃ r, slices_Index_int l v = some r ∧ (0 ≤ r ↔ v ∈ l) := by
  obtain ⟨f, h1, h2, h3⟩ := loop_up (body := slices_Index_int_L0 l v) (fun i s => s = ((i : Nat) : Int) ∧ ∀ m (h : m < l.length), m < i → l[m] ≠ v) l.length
    (fun f => match f with | .ex _ _ => v ∉ l | .ret r => 0 ≤ r ∧ v ∈ l | .go _ => False) (fun i s hi ⟨hs, hI⟩ => by
      subst hs
      unfold slices_Index_int_L0
      rw [if_pos (by simpa using hi), getI_nat hi, Option.bind_some]
      by_cases hv : v = l[i]
      · rw [if_pos (by simpa using hv)]
        exact .inr ⟨_, rfl, trivial, by omega, by rw [hv]; exact List.getElem_mem hi⟩
      · rw [if_neg (by simpa using hv), addI_one (by omega)]
        refine .inl ⟨_, rfl, rfl, fun m hm hlt => ?_⟩
        by_cases he : m = i
        · subst he; exact fun e => hv e.symm
        · exact hI m hm (by omega)) (fun s ⟨hs, hI⟩ => by
      subst hs
      unfold slices_Index_int_L0
      rw [if_neg (by simp)]
      refine ⟨_, rfl, trivial, fun hv => ?_⟩
      obtain ⟨m, h, e⟩ := List.getElem_of_mem hv
      exact hI m h h e) 0 ⟨rfl, fun m _ h => by omega⟩ (l.length + 1) (by omega)
  unfold slices_Index_int
  rw [h1, Option.bind_some]
  cases f with
  | go _ => exact h2.elim
  | ex _ _ => exact ⟨_, rfl, by constructor <;> intro h <;> first | omega | exact absurd h h3⟩
  | ret r => exact ⟨_, rfl, fun _ => h3.2, fun _ => h3.1⟩
theorem contains_int {l : List Int} {v : Int} (hl : l.length ≤ 1000000) : slices_Contains_int l v = some (decide (v ∈ l)) := by
  obtain ⟨r, h1, h2⟩ := index_some (v := v) hl
  unfold slices_Contains_int
  rw [h1, Option.bind_some]
  congr 1
  simp [h2]
theorem days_tot {p : Plan} {day : Int} (hp : p.Rules.length ≤ 20) (hd : 0 ≤ day ∧ day ≤ 1073741824) : ∃ l, clause_Days p day = some l ∧ l.length ≤ 21 := by
  obtain ⟨f, h1, h2, h3⟩ := loop_up (body := clause_Days_L0 p day) (fun i s => s.2 = ((i : Nat) : Int) ∧ s.1.length ≤ 1 + i) p.Rules.length
    (fun f => match f with | .ex _ s => s.1.length ≤ 21 | _ => False) (fun i s hi ⟨hs, hI⟩ => by
      unfold clause_Days_L0
      rw [hs, if_pos (by simpa using hi), getI_nat hi, Option.bind_some]
      obtain ⟨c, hc, hc2⟩ : ∃ c, (if ((decide (1 ≤ p.Rules[i].From)) && (decide (p.Rules[i].From ≤ day))) = true then (subI day p.Rules[i].From).bind fun x => some (decide (x < p.Rules[i].Grace)) else some false) = some c ∧ (c = true → 1 ≤ p.Rules[i].From ∧ p.Rules[i].From ≤ day) := by
        by_cases h : ((decide (1 ≤ p.Rules[i].From)) && (decide (p.Rules[i].From ≤ day))) = true
        · rw [if_pos h]
          simp at h
          rw [subI_some (by constructor <;> omega), Option.bind_some]
          exact ⟨_, rfl, fun _ => h⟩
        · rw [if_neg h]
          exact ⟨_, rfl, fun h => by cases h⟩
      rw [hc, Option.bind_some]
      obtain ⟨e, he, he2⟩ : ∃ e, (if c = true then (subI p.Rules[i].From 1).bind fun x => (appI s.1 [x]).bind fun y => some y else some s.1) = some e ∧ e.length ≤ 1 + (i + 1) := by
        cases c with
        | true =>
          have := hc2 rfl
          rw [if_pos rfl, subI_some (by constructor <;> omega), Option.bind_some, appI_some (by simp; omega), Option.bind_some]
          exact ⟨_, rfl, by simp; omega⟩
        | false => exact ⟨_, rfl, by omega⟩
      rw [he, Option.bind_some, addI_one (by omega)]
      exact .inl ⟨_, rfl, rfl, he2⟩) (fun s ⟨hs, hI⟩ => by
      unfold clause_Days_L0
      rw [hs, if_neg (by simp)]
      exact ⟨_, rfl, trivial, by show s.1.length ≤ 21; omega⟩) ([day], 0) ⟨rfl, by simp⟩ (p.Rules.length + 1) (by omega)
  unfold clause_Days
  rw [h1, Option.bind_some]
  cases f with
  | go _ => exact h2.elim
  | ret _ => exact h3.elim
  | ex _ s =>
    have h3 : s.1.length ≤ 21 := h3
    dsimp only
    obtain ⟨r, g1, g2, g3⟩ := sortInts_spec (l := s.1) (by omega)
    have hr : r.length = s.1.length := g2.length_eq
    obtain ⟨t, k1, _, _, k4⟩ := compactInts_spec (l := r) (by omega) g3
    rw [g1, Option.bind_some, k1, Option.bind_some]
    unfold reverseInts
    rw [if_pos (by omega), Option.bind_some]
    exact ⟨_, rfl, by simp; omega⟩
theorem may_tot {p : Plan} {day n : Int} (hp : p.Rules.length ≤ 20) (hd : 0 ≤ day ∧ day ≤ 1073741824) : Tot (clause_May p day n) := by
  obtain ⟨l, h1, h2⟩ := days_tot hp hd
  unfold clause_May
  rw [h1, Option.bind_some, contains_int (by omega), Option.bind_some]
  exact Tot.pure _
def actsOf (s : Int) : List Int :=
  if s = 0 then [0, 1, 2, 7, 8, 9, 10] else if s = 1 then [1, 2, 7, 8, 9, 10] else if s = 2 then [2, 3, 7, 9, 10] else if s = 3 then [2, 4, 7, 9] else if s = 4 then [5, 6, 7, 9] else if s = 5 then [9] else []
theorem acts_eq (s : Int) : dossier_Acts s = some (actsOf s) := by
  unfold dossier_Acts actsOf
  by_cases h0 : s = 0
  · simp [h0]
  · by_cases h1 : s = 1
    · simp [h1]
    · by_cases h2 : s = 2
      · simp [h2]
      · by_cases h3 : s = 3
        · simp [h3]
        · by_cases h4 : s = 4
          · simp [h4]
          · by_cases h5 : s = 5
            · simp [h5]
            · simp [h0, h1, h2, h3, h4, h5]
theorem acts_len (s : Int) : (actsOf s).length ≤ 7 := by
  unfold actsOf
  repeat' split
  all_goals simp
theorem right_spec {d : Dossier} (h : SmL d.Drawings) : ∃ b, dossier_Right d = some b ∧ (b = true → 1 ≤ d.Id ∧ 0 ≤ d.State ∧ d.State ≤ 9 ∧ 0 ≤ d.Day ∧ d.Day ≤ 1073741824) := by
  obtain ⟨b, hb⟩ := right_tot h
  refine ⟨b, hb, fun hbt => ?_⟩
  subst hbt
  obtain ⟨g, hg⟩ := formed_tot h
  unfold dossier_Right at hb
  rw [hg] at hb
  by_cases h1 : d.Id < 1
  · simp [h1] at hb
  by_cases h2 : d.Holder < 0
  · simp [h1, h2] at hb
  by_cases h3 : d.Into < 0
  · simp [h1, h2, h3] at hb
  by_cases h4 : d.State < 0
  · simp [h1, h2, h3, h4] at hb
  by_cases h5 : 9 < d.State
  · simp [h1, h2, h3, h4, h5] at hb
  by_cases h6 : d.Day < 0
  · simp [h1, h2, h3, h4, h5, h6] at hb
  by_cases h7 : 1073741824 < d.Day
  · simp [h1, h2, h3, h4, h5, h6, h7] at hb
  exact ⟨by omega, by omega, by omega, by omega, by omega⟩
end Go.Proofs.Ytachpkjjlebadaa

namespace Go.Proofs.Ytachpkjjlebadaa
open Go.Gb
set_option linter.unusedVariables false
set_option linter.unusedSimpArgs false
set_option linter.unusedSectionVars false
set_option linter.unusedVariables false
set_option linter.unusedSimpArgs false

def noD : Dossier := ⟨0, 0, 0, 0, 0, [], 0, 0⟩
theorem step_eq {p : Plan} {d : Dossier} {a : Act} {b : Bool} (hb : dossier_Right d = some b) (hs : SmL d.Drawings) : dossier_Step p d a =
    if (!b || (decide (a.Kind < 0) || (decide (11 ≤ a.Kind) || ((decide (0 < (a.Drawings.length : Int))) && (a.Kind != 2))))) then some (noD, 1) else
    if (decide (a.Day < d.Day) || decide (1073741824 < a.Day)) then some (noD, 20) else
    if decide (a.Kind ∈ actsOf d.State) then (dossier_change p { d with Day := a.Day } a d.Day).bind (fun x => some (x.1, x.2)) else some (noD, 7) := by
  have e1 : ((if (!b) = true then some (!b) else (if decide (a.Kind < 0) = true then some (decide (a.Kind < 0)) else (if decide (11 ≤ a.Kind) = true then some (decide (11 ≤ a.Kind)) else
      some ((decide (0 < (a.Drawings.length : Int))) && (a.Kind != 2))).bind fun s => some s).bind fun s => some s) : Option Bool) =
      some (!b || (decide (a.Kind < 0) || (decide (11 ≤ a.Kind) || ((decide (0 < (a.Drawings.length : Int))) && (a.Kind != 2))))) := by
    cases b with
    | false => rfl
    | true =>
      by_cases h1 : a.Kind < 0
      · simp [h1]
      · by_cases h2 : 11 ≤ a.Kind
        · simp [h1, h2]
        · simp [h1, h2]
  have e2 : ((if decide (a.Day < d.Day) = true then some (decide (a.Day < d.Day)) else some (decide (1073741824 < a.Day))) : Option Bool) = some (decide (a.Day < d.Day) || decide (1073741824 < a.Day)) := by
    by_cases h : a.Day < d.Day <;> simp [h]
  unfold dossier_Step
  rw [hb, Option.bind_some, e1, Option.bind_some, e2, Option.bind_some, acts_eq, Option.bind_some, contains_int (by have := acts_len d.State; omega), Option.bind_some, clone_eq hs, Option.bind_some]
  split
  · rfl
  · split
    · rfl
    · by_cases h : a.Kind ∈ actsOf d.State
      · rw [if_neg (by simp [h]), if_pos (by simp [h])]
      · rw [if_pos (by simp [h]), if_neg (by simp [h])]; rfl
theorem acts_range {s k : Int} (h : k ∈ actsOf s) : 0 ≤ k ∧ k ≤ 10 := by
  unfold actsOf at h
  repeat' split at h
  all_goals (simp at h)
  all_goals omega
def plan0 : Plan := ⟨[], [], [], [], [], [], [], 0⟩
theorem may0 : clause_May plan0 5 5 = some true := by
  obtain ⟨r, g1, g2, g3⟩ := sortInts_spec (l := [5]) (by simp)
  obtain ⟨t, k1, _, k3, k4⟩ := compactInts_spec (l := r) (by have := g2.length_eq; simp at this; omega) g3
  have ht : t.length ≤ 1 := by have := g2.length_eq; simp at this; omega
  have h5 : (5 : Int) ∈ t := (k3 5).2 (g2.mem_iff.2 (by simp))
  have hD : clause_Days plan0 5 = some t.reverse := by
    unfold clause_Days
    rw [show iterL (clause_Days_L0 plan0 5) (plan0.Rules.length + 1) ([5], 0) = some (.ex 0 ([5], 0)) from rfl, Option.bind_some]
    dsimp only
    rw [g1, Option.bind_some, k1, Option.bind_some]
    unfold reverseInts
    rw [if_pos (by omega), Option.bind_some]
  unfold clause_May
  rw [hD, Option.bind_some, contains_int (by simp; omega), Option.bind_some]
  simp [h5]
def box0 (h : Int) : List Drawing := [⟨1, [⟨[⟨⟨⟨0, 0, 4, 4⟩, 0, h⟩, 2, 0, false⟩], []⟩]⟩]
theorem box_eq (h : Int) : law30_box h = some (box0 h) := rfl
theorem box_sm (h : Int) : SmL (box0 h) := ⟨by simp [box0], fun d hd => by
  obtain rfl : d = _ := List.mem_singleton.1 hd
  exact ⟨by simp, fun p hp => by
    obtain rfl : p = _ := List.mem_singleton.1 hp
    exact ⟨by simp, by simp⟩⟩⟩
theorem step1 : dossier_Step plan0 ⟨1, 0, 0, 3, 0, box0 9, 0, 0⟩ ⟨1, 5, 5, []⟩ = some (⟨1, 0, 2, 5, 5, box0 9, 0, 0⟩, 0) := by
  have hr : dossier_Right ⟨1, 0, 0, 3, 0, box0 9, 0, 0⟩ = some true := by kernel_rfl
  rw [step_eq hr (box_sm 9), if_neg (by decide), if_neg (by decide), if_pos (by decide)]
  unfold dossier_change
  dsimp only
  rw [may0]
  rfl
theorem small_true : law30_small = some true := by
  unfold law30_small
  rw [box_eq 9, Option.bind_some]
  rw [show (⟨[], [], [], [], [], [], [], 0⟩ : Plan) = plan0 from rfl, step1, Option.bind_some]
  kernel_rfl
end Go.Proofs.Ytachpkjjlebadaa

namespace Go.Proofs.Ytachpkjjlebadaa
open Go.Gb
set_option linter.unusedVariables false
set_option linter.unusedSimpArgs false
set_option linter.unusedSectionVars false
set_option linter.unusedVariables false
set_option linter.unusedSimpArgs false

theorem sameV_refl {l : List Volume} (h : l.length ≤ 1000000) : ref19_SameVolumes l l = some true := by
  obtain ⟨f, h1, h2, h3⟩ := loop_up (body := ref19_SameVolumes_L0 l l) (fun i s => s = ((i : Nat) : Int)) l.length (fun f => match f with | .ex _ _ => True | _ => False) (fun i s hi hs => by
      subst hs
      unfold ref19_SameVolumes_L0
      rw [if_pos (by simpa using hi), getI_nat hi, Option.bind_some, Option.bind_some, if_neg (by simp), addI_one (by omega)]
      exact .inl ⟨_, rfl, rfl⟩) (fun s hs => by
      subst hs
      unfold ref19_SameVolumes_L0
      rw [if_neg (by simp)]
      exact ⟨_, rfl, trivial, trivial⟩) 0 rfl (l.length + l.length + 1) (by omega)
  unfold ref19_SameVolumes
  rw [if_neg (by simp), h1, Option.bind_some]
  cases f with
  | go _ => exact h2.elim
  | ret _ => exact h3.elim
  | ex _ _ => rfl
theorem sameE_refl {l : List Entry} (h : l.length ≤ 1000000) : ref15_SameEntries l l = some true := by
  obtain ⟨f, h1, h2, h3⟩ := loop_up (body := ref15_SameEntries_L0 l l) (fun i s => s = ((i : Nat) : Int)) l.length (fun f => match f with | .ex _ _ => True | _ => False) (fun i s hi hs => by
      subst hs
      unfold ref15_SameEntries_L0
      rw [if_pos (by simpa using hi), getI_nat hi, Option.bind_some, Option.bind_some, if_neg (by simp), addI_one (by omega)]
      exact .inl ⟨_, rfl, rfl⟩) (fun s hs => by
      subst hs
      unfold ref15_SameEntries_L0
      rw [if_neg (by simp)]
      exact ⟨_, rfl, trivial, trivial⟩) 0 rfl (l.length + l.length + 1) (by omega)
  unfold ref15_SameEntries
  rw [if_neg (by simp), h1, Option.bind_some]
  cases f with
  | go _ => exact h2.elim
  | ret _ => exact h3.elim
  | ex _ _ => rfl
theorem sameD_refl {d : Drawing} (h : SmD d) : ref19_Same d d = some true := by
  have h9 := h.1
  obtain ⟨f, h1, h2, h3⟩ := loop_up (body := ref19_Same_L0 d d) (fun i s => s = ((i : Nat) : Int)) d.Phases.length (fun f => match f with | .ex _ _ => True | _ => False) (fun i s hi hs => by
      subst hs
      have hp := h.2 _ (List.getElem_mem hi)
      unfold ref19_Same_L0
      rw [if_pos (by simpa using hi), getI_nat hi, Option.bind_some, Option.bind_some, sameV_refl (by have := hp.1; omega), Option.bind_some, if_neg (by simp), Option.bind_some, Option.bind_some,
        sameE_refl (by have := hp.2; omega), Option.bind_some, Option.bind_some, if_neg (by simp), addI_one (by omega)]
      exact .inl ⟨_, rfl, rfl⟩) (fun s hs => by
      subst hs
      unfold ref19_Same_L0
      rw [if_neg (by simp)]
      exact ⟨_, rfl, trivial, trivial⟩) 0 rfl (d.Phases.length + 1) (by omega)
  unfold ref19_Same
  rw [if_neg (by simp), h1, Option.bind_some]
  cases f with
  | go _ => exact h2.elim
  | ret _ => exact h3.elim
  | ex _ _ => rfl
theorem same_refl {d : Dossier} (h : SmL d.Drawings) : ref30_Same d d = some true := by
  have h9 := h.1
  obtain ⟨f, h1, h2, h3⟩ := loop_up (body := ref30_Same_L0 d d) (fun i s => s = ((i : Nat) : Int)) d.Drawings.length (fun f => match f with | .ex _ _ => True | _ => False) (fun i s hi hs => by
      subst hs
      unfold ref30_Same_L0
      rw [if_pos (by simpa using hi), getI_nat hi, Option.bind_some, Option.bind_some, sameD_refl (h.2 _ (List.getElem_mem hi)), Option.bind_some, if_neg (by simp), addI_one (by omega)]
      exact .inl ⟨_, rfl, rfl⟩) (fun s hs => by
      subst hs
      unfold ref30_Same_L0
      rw [if_neg (by simp)]
      exact ⟨_, rfl, trivial, trivial⟩) 0 rfl (d.Drawings.length + 1) (by omega)
  unfold ref30_Same
  rw [if_neg (by simp), h1, Option.bind_some]
  cases f with
  | go _ => exact h2.elim
  | ret _ => exact h3.elim
  | ex _ _ => rfl
end Go.Proofs.Ytachpkjjlebadaa

namespace Go.Proofs.Ytachpkjjlebadaa
open Go.Gb
set_option linter.unusedVariables false
set_option linter.unusedSimpArgs false
set_option linter.unusedSectionVars false
set_option linter.unusedVariables false
set_option linter.unusedSimpArgs false

theorem sm_nil : SmL [] := ⟨by simp, fun d hd => by simp at hd⟩
theorem amend_sm {d : Dossier} {l : List Drawing} (hd : SmL d.Drawings) (hl : SmL l) : ∃ r, dossier_amend d l = some r ∧ SmL r.1.Drawings := by
  obtain ⟨g, hg⟩ := formed_tot hl
  unfold dossier_amend
  rw [hg, Option.bind_some]
  cases g with
  | false => rw [if_pos (show (!false) = true from rfl)]; exact ⟨_, rfl, sm_nil⟩
  | true =>
    rw [if_neg (by simp)]
    obtain ⟨c, hc⟩ : Tot (if (decide (2 ≤ d.State)) = true then (dossier_Less l d.Drawings).bind fun x => some (!x) else some false) := Tot.ite (fun _ => Tot.bind (less_tot hl hd) fun _ _ => Tot.pure _) fun _ => Tot.pure _
    rw [hc, Option.bind_some]
    cases c with
    | true => rw [if_pos rfl, Option.bind_some, clone_eq hl, Option.bind_some]; exact ⟨_, rfl, hl⟩
    | false => rw [if_neg (by simp), Option.bind_some, clone_eq hl, Option.bind_some]; exact ⟨_, rfl, hl⟩
theorem change_sm {p : Plan} {d : Dossier} {a : Act} {before : Int} (hp : p.Rules.length ≤ 20) (hd : SmL d.Drawings) (hl : SmL a.Drawings) (hday : 0 ≤ a.Day ∧ a.Day ≤ 1073741824) (hbe : 0 ≤ before ∧ before ≤ 1073741824)
    (hk : 0 ≤ a.Kind ∧ a.Kind ≤ 10) : ∃ r, dossier_change p d a before = some r ∧ SmL r.1.Drawings := by
  obtain ⟨m, hm⟩ := may_tot (n := a.N) hp hday
  obtain ⟨am, ham, hams⟩ := amend_sm hd hl
  have hsub : subI a.Day before = some (a.Day - before) := subI_some (by constructor <;> omega)
  unfold dossier_change
  rw [hm, ham, hsub]
  have : a.Kind = 0 ∨ a.Kind = 1 ∨ a.Kind = 2 ∨ a.Kind = 3 ∨ a.Kind = 4 ∨ a.Kind = 5 ∨ a.Kind = 6 ∨ a.Kind = 7 ∨ a.Kind = 8 ∨ a.Kind = 9 ∨ a.Kind = 10 := by omega
  rcases this with h | h | h | h | h | h | h | h | h | h | h <;> rw [h]
  · exact ⟨_, rfl, hd⟩
  · cases m
    · exact ⟨_, rfl, sm_nil⟩
    · exact ⟨_, rfl, hd⟩
  · exact ⟨_, rfl, hams⟩
  · exact ⟨_, rfl, hd⟩
  · exact ⟨_, rfl, hd⟩
  · by_cases hc : ((decide (a.N < 0)) || (decide ((d.Drawings.length : Int) ≤ a.N))) = true
    · rw [if_pos hc]; exact ⟨_, rfl, sm_nil⟩
    · rw [if_neg hc]; exact ⟨_, rfl, hd⟩
  · exact ⟨_, rfl, hd⟩
  · exact ⟨_, rfl, hd⟩
  · by_cases hc : a.Day - before < 365
    · exact ⟨(noD, 20), by simp [hc, noD], sm_nil⟩
    · exact ⟨({ d with State := 8 }, 0), by simp [hc], hd⟩
  · by_cases hc : ((decide (a.N < 0)) || (a.N == d.Holder)) = true
    · rw [if_pos hc]; exact ⟨_, rfl, sm_nil⟩
    · rw [if_neg hc]; exact ⟨_, rfl, hd⟩
  · by_cases hc : ((decide (a.N < 1)) || (a.N == d.Id)) = true
    · rw [if_pos hc]; exact ⟨_, rfl, sm_nil⟩
    · rw [if_neg hc]; exact ⟨_, rfl, hd⟩
theorem step_sm {p : Plan} {d : Dossier} {a : Act} (hp : p.Rules.length ≤ 20) (hd : SmL d.Drawings) (hl : SmL a.Drawings) : ∃ r, dossier_Step p d a = some r ∧ SmL r.1.Drawings := by
  obtain ⟨b, hb, hb2⟩ := right_spec hd
  rw [step_eq hb hd]
  split
  · exact ⟨_, rfl, sm_nil⟩
  · rename_i h1
    split
    · exact ⟨_, rfl, sm_nil⟩
    · rename_i h2
      split
      · rename_i h3
        simp at h1 h2 h3
        have hr := hb2 h1.1
        obtain ⟨r, h4, h5⟩ := change_sm (d := { d with Day := a.Day }) (before := d.Day) hp hd hl ⟨by omega, by omega⟩ ⟨by omega, by omega⟩ (acts_range h3)
        rw [h4, Option.bind_some]
        exact ⟨_, rfl, h5⟩
      · exact ⟨_, rfl, sm_nil⟩
end Go.Proofs.Ytachpkjjlebadaa

namespace Go.Proofs.Ytachpkjjlebadaa
open Go.Gb
set_option linter.unusedVariables false
set_option linter.unusedSimpArgs false
set_option linter.unusedSectionVars false
set_option linter.unusedVariables false
set_option linter.unusedSimpArgs false

noncomputable def runL (p : Plan) : Nat → Dossier → List Act → Option (Dossier × Int × Int)
  | i, d, [] => some (d, (i : Int), 0)
  | i, d, a :: l => (dossier_Step p d a).bind fun x => if (x.2 != 0) = true then some (d, (i : Int), x.2) else runL p (i + 1) x.1 l
theorem run_loop (p : Plan) (L : List Act) (hL : L.length ≤ 1000000) : ∀ (l : List Act) (i : Nat) (d z : Dossier) (fuel : Nat), L.drop i = l → l.length < fuel → i + l.length = L.length →
    (iterL (dossier_Run_L0 p L) fuel ((i : Int), d, z)).bind (fun f => match f with | .go _ => none | .ex _ s => some (s.2.1, (L.length : Int), (0 : Int)) | .ret r => some r) = runL p i d l
  | [], i, d, z, fuel, h, hf, hi => by
    obtain ⟨fuel, rfl⟩ : ∃ n, fuel = n + 1 := ⟨fuel - 1, by simp at hf; omega⟩
    have hi : i = L.length := by simpa using hi
    subst hi
    have e : dossier_Run_L0 p L ((L.length : Int), d, z) = some (.ex 0 ((L.length : Int), d, z)) := by
      unfold dossier_Run_L0
      dsimp only
      rw [if_neg (by simp)]
    simp only [iterL, e, Option.bind_some, runL]
  | a :: l, i, d, z, fuel, h, hf, hi => by
    obtain ⟨fuel, rfl⟩ : ∃ n, fuel = n + 1 := ⟨fuel - 1, by simp at hf; omega⟩
    have hlt : i < L.length := by simp at hi; omega
    have ha : L[i] = a := by
      have := List.drop_eq_getElem_cons hlt
      rw [h] at this
      exact (List.cons.inj this).1.symm
    have hl : L.drop (i + 1) = l := by
      have := List.drop_eq_getElem_cons hlt
      rw [h] at this
      exact (List.cons.inj this).2.symm
    cases hst : dossier_Step p d a with
    | none =>
      have e : dossier_Run_L0 p L ((i : Int), d, z) = none := by
        unfold dossier_Run_L0
        dsimp only
        rw [if_pos (by simpa using hlt), getI_nat hlt, Option.bind_some, ha, hst]
        rfl
      simp only [iterL, e, runL, hst, Option.bind_none]
    | some x =>
      by_cases hx : (x.2 != 0) = true
      · have e : dossier_Run_L0 p L ((i : Int), d, z) = some (.ret (d, (i : Int), x.2)) := by
          unfold dossier_Run_L0
          dsimp only
          rw [if_pos (by simpa using hlt), getI_nat hlt, Option.bind_some, ha, hst, Option.bind_some, if_pos hx]
        simp only [iterL, e, runL, hst, Option.bind_some, if_pos hx]
      · have e : dossier_Run_L0 p L ((i : Int), d, z) = some (.go (((i + 1 : Nat) : Int), x.1, z)) := by
          unfold dossier_Run_L0
          dsimp only
          rw [if_pos (by simpa using hlt), getI_nat hlt, Option.bind_some, ha, hst, Option.bind_some, if_neg hx, addI_one (by omega)]
          rfl
        have ih := run_loop p L hL l (i + 1) x.1 z fuel hl (by simp at hf; omega) (by simp at hi; omega)
        simp only [iterL, e, runL, hst, Option.bind_some, if_neg hx]
        exact ih
theorem run_eq {p : Plan} {d : Dossier} {l : List Act} (hl : l.length ≤ 1000000) (hd : SmL d.Drawings) : dossier_Run p d l = runL p 0 d l := by
  unfold dossier_Run
  rw [clone_eq hd, Option.bind_some]
  exact run_loop p l hl l 0 d _ (l.length + 1) rfl (by omega) (by omega)
/-- one act more -/
theorem runL_snoc {p : Plan} : ∀ (l : List Act) (i : Nat) (d now : Dossier) (a : Act) (n : Dossier) (e : Int), runL p i d l = some (now, ((i + l.length : Nat) : Int), 0) → dossier_Step p now a = some (n, e) →
    runL p i d (l ++ [a]) = if e = 0 then some (n, ((i + l.length + 1 : Nat) : Int), 0) else some (now, ((i + l.length : Nat) : Int), e)
  | [], i, d, now, a, n, e, h, hs => by
    simp only [runL, List.length_nil, Nat.add_zero, Option.some.injEq, Prod.mk.injEq] at h
    obtain ⟨rfl, _⟩ := h
    simp only [List.nil_append, runL, hs, Option.bind_some]
    by_cases he : e = 0
    · simp [he, runL]
    · simp [he]
  | b :: l, i, d, now, a, n, e, h, hs => by
    simp only [runL] at h
    obtain ⟨x, hx, h⟩ := bind_some h
    by_cases hx0 : (x.2 != 0) = true
    · rw [if_pos hx0] at h
      simp only [Option.some.injEq, Prod.mk.injEq] at h
      simp [h.2.2] at hx0
    · rw [if_neg hx0] at h
      have := runL_snoc l (i + 1) x.1 now a n e (by rw [h]; simp; omega) hs
      simp only [List.cons_append, runL, hx, Option.bind_some, if_neg hx0, this]
      have e1 : i + 1 + l.length = i + (b :: l).length := by simp; omega
      rw [e1]
theorem runL_tot {p : Plan} (hp : p.Rules.length ≤ 20) : ∀ (l : List Act) (i : Nat) (d : Dossier), SmL d.Drawings → (∀ a ∈ l, SmL a.Drawings) → Tot (runL p i d l)
  | [], i, d, _, _ => Tot.pure _
  | a :: l, i, d, hd, hl => by
    obtain ⟨x, hx, hs⟩ := step_sm (a := a) hp hd (hl a (by simp))
    simp only [runL, hx, Option.bind_some]
    exact Tot.ite (fun _ => Tot.pure _) fun _ => runL_tot hp l (i + 1) x.1 hs fun b hb => hl b (by simp [hb])
end Go.Proofs.Ytachpkjjlebadaa

namespace Go.Proofs.Ytachpkjjlebadaa
open Go.Gb
set_option linter.unusedVariables false
set_option linter.unusedSimpArgs false
set_option linter.unusedSectionVars false
set_option linter.unusedVariables false
set_option linter.unusedSimpArgs false

/-- what Right says -/
structure RightP (d : Dossier) : Prop where
  id : 1 ≤ d.Id
  holder : 0 ≤ d.Holder
  into : 0 ≤ d.Into
  state : 0 ≤ d.State ∧ d.State ≤ 9
  day : 0 ≤ d.Day ∧ d.Day ≤ 1073741824
  formed : dossier_formed d.Drawings = some true
  choice : 0 ≤ d.Choice ∧ d.Choice < (d.Drawings.length : Int)
theorem right_intro {d : Dossier} (h : RightP d) : dossier_Right d = some true := by
  obtain ⟨h1, h2, h3, ⟨h4, h5⟩, ⟨h6, h7⟩, h8, h9, h10⟩ := h
  unfold dossier_Right
  rw [h8]
  have e1 : ¬ d.Id < 1 := by omega
  have e2 : ¬ d.Holder < 0 := by omega
  have e3 : ¬ d.Into < 0 := by omega
  have e4 : ¬ d.State < 0 := by omega
  have e5 : ¬ 9 < d.State := by omega
  have e6 : ¬ d.Day < 0 := by omega
  have e7 : ¬ 1073741824 < d.Day := by omega
  simp [e1, e2, e3, e4, e5, e6, e7, h9, h10]
theorem right_elim {d : Dossier} (hs : SmL d.Drawings) (h : dossier_Right d = some true) : RightP d := by
  obtain ⟨g, hg⟩ := formed_tot hs
  unfold dossier_Right at h
  rw [hg] at h
  by_cases h1 : d.Id < 1
  · simp [h1] at h
  by_cases h2 : d.Holder < 0
  · simp [h1, h2] at h
  by_cases h3 : d.Into < 0
  · simp [h1, h2, h3] at h
  by_cases h4 : d.State < 0
  · simp [h1, h2, h3, h4] at h
  by_cases h5 : 9 < d.State
  · simp [h1, h2, h3, h4, h5] at h
  by_cases h6 : d.Day < 0
  · simp [h1, h2, h3, h4, h5, h6] at h
  by_cases h7 : 1073741824 < d.Day
  · simp [h1, h2, h3, h4, h5, h6, h7] at h
  simp [h1, h2, h3, h4, h5, h6, h7] at h
  exact ⟨by omega, by omega, by omega, ⟨by omega, by omega⟩, ⟨by omega, by omega⟩, by rw [hg, h.1.1], ⟨h.1.2, h.2⟩⟩
theorem formed_len {l : List Drawing} (h : dossier_formed l = some true) : 1 ≤ l.length := by
  unfold dossier_formed at h
  split at h
  · simp at h
  · rename_i hc
    simp at hc
    omega
theorem amend_ok {d : Dossier} {l : List Drawing} {n : Dossier} {e : Int} (hd : SmL d.Drawings) (hl : SmL l) (h : dossier_amend d l = some (n, e)) :
    (e = 0 ∧ dossier_formed l = some true ∧ n.Drawings = l ∧ n.Choice = 0 ∧ n.Id = d.Id ∧ n.Holder = d.Holder ∧ n.Into = d.Into ∧ n.Day = d.Day ∧ (n.State = d.State ∨ n.State = 1)) ∨ (e = 1 ∧ n = noD) := by
  obtain ⟨g, hg⟩ := formed_tot hl
  unfold dossier_amend at h
  rw [hg, Option.bind_some] at h
  cases g with
  | false =>
    rw [if_pos (show (!false) = true from rfl)] at h
    have h := Option.some.inj h
    exact .inr ⟨(congrArg Prod.snd h).symm, (congrArg Prod.fst h).symm⟩
  | true =>
    rw [if_neg (by simp)] at h
    obtain ⟨c, hc⟩ : Tot (if (decide (2 ≤ d.State)) = true then (dossier_Less l d.Drawings).bind fun x => some (!x) else some false) := Tot.ite (fun _ => Tot.bind (less_tot hl hd) fun _ _ => Tot.pure _) fun _ => Tot.pure _
    rw [hc, Option.bind_some] at h
    cases c with
    | true =>
      rw [if_pos rfl, Option.bind_some, clone_eq hl, Option.bind_some] at h
      have h := Option.some.inj h
      obtain ⟨rfl, rfl⟩ := Prod.mk.inj h
      exact .inl ⟨rfl, hg, rfl, rfl, rfl, rfl, rfl, rfl, .inr rfl⟩
    | false =>
      rw [if_neg (by simp), Option.bind_some, clone_eq hl, Option.bind_some] at h
      have h := Option.some.inj h
      obtain ⟨rfl, rfl⟩ := Prod.mk.inj h
      exact .inl ⟨rfl, hg, rfl, rfl, rfl, rfl, rfl, rfl, .inl rfl⟩
end Go.Proofs.Ytachpkjjlebadaa

namespace Go.Proofs.Ytachpkjjlebadaa
open Go.Gb
set_option linter.unusedVariables false
set_option linter.unusedSimpArgs false
set_option linter.unusedSectionVars false
set_option linter.unusedVariables false
set_option linter.unusedSimpArgs false

theorem change_ok {p : Plan} {d : Dossier} {a : Act} {before : Int} (hp : p.Rules.length ≤ 20) (R : RightP d) (hd : SmL d.Drawings) (hl : SmL a.Drawings) (hday : 0 ≤ a.Day ∧ a.Day ≤ 1073741824) (hbe : 0 ≤ before ∧ before ≤ 1073741824)
    (hk : 0 ≤ a.Kind ∧ a.Kind ≤ 10) : ∃ n e, dossier_change p d a before = some (n, e) ∧ ((e = 0 ∧ RightP n ∧ n.Day = d.Day ∧ n.Id = d.Id) ∨ ((e = 1 ∨ e = 20) ∧ n = noD)) := by
  obtain ⟨m, hm⟩ := may_tot (n := a.N) hp hday
  obtain ⟨am, ham, hams⟩ := amend_sm hd hl
  have hsub : subI a.Day before = some (a.Day - before) := subI_some (by constructor <;> omega)
  have hst : ∀ k : Int, 0 ≤ k ∧ k ≤ 9 → RightP { d with State := k } := fun k h => ⟨R.id, R.holder, R.into, h, R.day, R.formed, R.choice⟩
  unfold dossier_change
  rw [hm, ham, hsub]
  have : a.Kind = 0 ∨ a.Kind = 1 ∨ a.Kind = 2 ∨ a.Kind = 3 ∨ a.Kind = 4 ∨ a.Kind = 5 ∨ a.Kind = 6 ∨ a.Kind = 7 ∨ a.Kind = 8 ∨ a.Kind = 9 ∨ a.Kind = 10 := by omega
  rcases this with h | h | h | h | h | h | h | h | h | h | h <;> rw [h]
  · exact ⟨_, _, rfl, .inl ⟨rfl, hst 1 (by omega), rfl, rfl⟩⟩
  · cases m
    · exact ⟨_, _, rfl, .inr ⟨.inr rfl, rfl⟩⟩
    · exact ⟨_, _, rfl, .inl ⟨rfl, ⟨R.id, R.holder, R.into, ⟨by simp, by simp⟩, R.day, R.formed, R.choice⟩, rfl, rfl⟩⟩
  · obtain ⟨n, e⟩ := am
    refine ⟨n, e, rfl, ?_⟩
    rcases amend_ok hd hl ham with ⟨h0, h1, h2, h3, h4, h5, h6, h7, h8⟩ | ⟨h0, h1⟩
    · have hlen := formed_len h1
      refine .inl ⟨h0, ⟨by rw [h4]; exact R.id, by rw [h5]; exact R.holder, by rw [h6]; exact R.into, ?_, by rw [h7]; exact R.day, by rw [h2]; exact h1, by rw [h3, h2]; exact ⟨by omega, by omega⟩⟩, h7, h4⟩
      rcases h8 with h8 | h8
      · rw [h8]; exact R.state
      · rw [h8]; exact ⟨by omega, by omega⟩
    · exact .inr ⟨.inl h0, h1⟩
  · exact ⟨_, _, rfl, .inl ⟨rfl, hst 3 (by omega), rfl, rfl⟩⟩
  · exact ⟨_, _, rfl, .inl ⟨rfl, hst 4 (by omega), rfl, rfl⟩⟩
  · by_cases hc : ((decide (a.N < 0)) || (decide ((d.Drawings.length : Int) ≤ a.N))) = true
    · rw [if_pos hc]; exact ⟨_, _, rfl, .inr ⟨.inl rfl, rfl⟩⟩
    · rw [if_neg hc]
      simp at hc
      exact ⟨_, _, rfl, .inl ⟨rfl, ⟨R.id, R.holder, R.into, ⟨by simp, by simp⟩, R.day, R.formed, ⟨hc.1, hc.2⟩⟩, rfl, rfl⟩⟩
  · exact ⟨_, _, rfl, .inl ⟨rfl, hst 6 (by omega), rfl, rfl⟩⟩
  · exact ⟨_, _, rfl, .inl ⟨rfl, hst 7 (by omega), rfl, rfl⟩⟩
  · by_cases hc : a.Day - before < 365
    · exact ⟨noD, 20, by simp [hc, noD], .inr ⟨.inr rfl, rfl⟩⟩
    · exact ⟨{ d with State := 8 }, 0, by simp [hc], .inl ⟨rfl, hst 8 (by omega), rfl, rfl⟩⟩
  · by_cases hc : ((decide (a.N < 0)) || (a.N == d.Holder)) = true
    · rw [if_pos hc]; exact ⟨_, _, rfl, .inr ⟨.inl rfl, rfl⟩⟩
    · rw [if_neg hc]
      simp at hc
      exact ⟨_, _, rfl, .inl ⟨rfl, ⟨R.id, hc.1, R.into, R.state, R.day, R.formed, R.choice⟩, rfl, rfl⟩⟩
  · by_cases hc : ((decide (a.N < 1)) || (a.N == d.Id)) = true
    · rw [if_pos hc]; exact ⟨_, _, rfl, .inr ⟨.inl rfl, rfl⟩⟩
    · rw [if_neg hc]
      simp at hc
      exact ⟨_, _, rfl, .inl ⟨rfl, ⟨R.id, R.holder, by show 0 ≤ a.N; omega, ⟨by simp, by simp⟩, R.day, R.formed, R.choice⟩, rfl, rfl⟩⟩
def wrongB (b : Bool) (a : Act) : Bool := !b || (decide (a.Kind < 0) || (decide (11 ≤ a.Kind) || ((decide (0 < (a.Drawings.length : Int))) && (a.Kind != 2))))
def lateB (d : Dossier) (a : Act) : Bool := decide (a.Day < d.Day) || decide (1073741824 < a.Day)
/-- a step in full -/
theorem step_full {p : Plan} {d : Dossier} {a : Act} {b : Bool} (hp : p.Rules.length ≤ 20) (hb : dossier_Right d = some b) (hd : SmL d.Drawings) (hl : SmL a.Drawings) : ∃ n e, dossier_Step p d a = some (n, e) ∧
    ((wrongB b a = true ∧ e = 1 ∧ n = noD) ∨ (wrongB b a = false ∧ lateB d a = true ∧ e = 20 ∧ n = noD) ∨ (wrongB b a = false ∧ lateB d a = false ∧ a.Kind ∉ actsOf d.State ∧ e = 7 ∧ n = noD) ∨
     (wrongB b a = false ∧ lateB d a = false ∧ a.Kind ∈ actsOf d.State ∧ ((e = 0 ∧ dossier_Right n = some true ∧ n.Day = a.Day ∧ d.Day ≤ a.Day ∧ n.Id = d.Id) ∨ ((e = 1 ∨ e = 20) ∧ n = noD)))) := by
  have hstep : dossier_Step p d a = if wrongB b a = true then some (noD, 1) else if lateB d a = true then some (noD, 20) else if decide (a.Kind ∈ actsOf d.State) = true then (dossier_change p { d with Day := a.Day } a d.Day).bind (fun x => some (x.1, x.2)) else some (noD, 7) := step_eq hb hd
  rw [hstep]
  by_cases h1 : wrongB b a = true
  · exact ⟨noD, 1, if_pos h1, .inl ⟨h1, rfl, rfl⟩⟩
  · have h1' : wrongB b a = false := by simpa using h1
    rw [if_neg h1]
    by_cases h2 : lateB d a = true
    · exact ⟨noD, 20, if_pos h2, .inr (.inl ⟨h1', h2, rfl, rfl⟩)⟩
    · have h2' : lateB d a = false := by simpa using h2
      rw [if_neg h2]
      by_cases h3 : a.Kind ∈ actsOf d.State
      · rw [if_pos (by simpa using h3)]
        have hbt : b = true := by
          cases b with
          | true => rfl
          | false => simp [wrongB] at h1'
        subst hbt
        have R := right_elim hd hb
        simp [lateB] at h2'
        obtain ⟨n, e, g1, g2⟩ := change_ok (d := { d with Day := a.Day }) (before := d.Day) hp ⟨R.id, R.holder, R.into, R.state, ⟨by show 0 ≤ a.Day; have := R.day; omega, by show a.Day ≤ _; omega⟩, R.formed, R.choice⟩ hd hl ⟨by have := R.day; omega, by omega⟩ R.day (acts_range h3)
        rw [g1, Option.bind_some]
        refine ⟨n, e, rfl, .inr (.inr (.inr ⟨h1', by simp [lateB]; omega, h3, ?_⟩))⟩
        rcases g2 with ⟨k1, k2, k3, k4⟩ | k
        · exact .inl ⟨k1, right_intro k2, k3, by omega, k4⟩
        · exact .inr k
      · rw [if_neg (by simpa using h3)]
        exact ⟨noD, 7, rfl, .inr (.inr (.inl ⟨h1', h2', h3, rfl, rfl⟩))⟩
end Go.Proofs.Ytachpkjjlebadaa

namespace Go.Proofs.Ytachpkjjlebadaa
open Go.Gb
set_option linter.unusedVariables false
set_option linter.unusedSimpArgs false
set_option linter.unusedSectionVars false
set_option linter.unusedVariables false
set_option linter.unusedSimpArgs false

theorem possible {k : Act} {l : List Int} (h : l.length ≤ 1000) {fuel : Nat} (hf : l.length < fuel) : ∃ n, iterL (law30_DossierDays_L1 k l) fuel (false, 0) = some (.ex 2 (decide (k.Kind ∈ l), n)) := by
  obtain ⟨f, h1, h2, h3⟩ := loop_up (body := law30_DossierDays_L1 k l) (fun i s => s = (decide (k.Kind ∈ l.take i), ((i : Nat) : Int))) l.length (fun f => ∃ n, f = .ex 2 (decide (k.Kind ∈ l), n)) (fun i s hi hs => by
      subst hs
      unfold law30_DossierDays_L1
      dsimp only
      rw [if_pos (by simpa using hi)]
      have e : (if (decide (k.Kind ∈ l.take i)) = true then some true else (getI l (i : Int)).bind fun x => some (x == k.Kind)) = some (decide (k.Kind ∈ l.take (i + 1))) := by
        have hmem : k.Kind ∈ l.take (i + 1) ↔ k.Kind ∈ l.take i ∨ k.Kind = l[i] := by rw [List.take_succ_eq_append_getElem hi, List.mem_append, List.mem_singleton]
        by_cases hm : k.Kind ∈ l.take i
        · rw [if_pos (by simpa using hm)]
          congr 1
          exact (decide_eq_true (hmem.2 (.inl hm))).symm
        · rw [if_neg (by simpa using hm), getI_nat hi, Option.bind_some]
          congr 1
          by_cases he : l[i] = k.Kind
          · rw [show (l[i] == k.Kind) = true from by simpa using he]
            exact (decide_eq_true (hmem.2 (.inr he.symm))).symm
          · rw [show (l[i] == k.Kind) = false from by simpa using he]
            exact (decide_eq_false (fun h => (hmem.1 h).elim hm (fun h => he h.symm))).symm
      rw [e, Option.bind_some, addI_one (by omega)]
      exact .inl ⟨_, rfl, rfl⟩) (fun s hs => by
      subst hs
      unfold law30_DossierDays_L1
      dsimp only
      rw [if_neg (by simp), List.take_length]
      exact ⟨_, rfl, trivial, _, rfl⟩) (false, 0) (by simp) fuel hf
  obtain ⟨n, rfl⟩ := h3
  exact ⟨n, h1⟩
theorem law_DossierDays (p : Plan) (d : Dossier) (l : List Act) (hd : Lens d.Drawings) (hll : l.length ≤ maxLen) (ha : ∀ a ∈ l, Lens a.Drawings) : law30_DossierDays p d l = some true := by
  obtain ⟨b, hb, hbs⟩ := few_all (p := p) hd hll ha
  unfold law30_DossierDays
  rw [small_true, Option.bind_some, hb, Option.bind_some]
  cases b with
  | false => rw [if_pos (show (!false) = true from rfl)]
  | true =>
    obtain ⟨hp, h14, hsd, hsa⟩ := hbs rfl
    rw [if_neg (by simp)]
    obtain ⟨f, g1, g2, g3⟩ := loop_up (body := law30_DossierDays_L0 p d l) (fun i s => s.2.1 = ((i : Nat) : Int) ∧ SmL s.2.2.Drawings ∧ (s.1 = false → runL p 0 d (l.take i) = some (s.2.2, ((0 + (l.take i).length : Nat) : Int), 0))) l.length
      (fun f => match f with | .ex _ _ => True | _ => False) (fun i s hi ⟨hs, hsm, hrun⟩ => by
        obtain ⟨failed, j, now⟩ := s
        dsimp only at hs hsm hrun
        subst hs
        have hai := hsa _ (List.getElem_mem hi)
        obtain ⟨r, hr⟩ := right_tot hsm
        obtain ⟨n, e, hst, hfull⟩ := step_full (a := l[i]) hp hr hsm hai
        obtain ⟨x, hx, hxs⟩ := step_sm (a := l[i]) hp hsm hai
        obtain rfl : x = (n, e) := Option.some.inj (hx.symm.trans hst)
        have hns : SmL n.Drawings := hxs
        have htl : l.take (i + 1) = l.take i ++ [l[i]] := List.take_succ_eq_append_getElem hi
        obtain ⟨⟨y, yn, ye⟩, hy⟩ := runL_tot hp (l.take (i + 1)) 0 d hsd (fun a h => hsa a (List.mem_of_mem_take h))
        have hRun : dossier_Run p d (l.take (i + 1)) = some (y, yn, ye) := by rw [run_eq (by simp; omega) hsd]; exact hy
        have hlen : (l.take i).length = i := by simp; omega
        have hsn : failed = false → (e = 0 → y = n ∧ yn = ((i + 1 : Nat) : Int) ∧ ye = 0) ∧ (e ≠ 0 → y = now ∧ yn = (i : Int) ∧ ye = e) := by
          intro hf
          have h := runL_snoc (l.take i) 0 d now l[i] n e (hrun hf) hst
          rw [← htl, hy] at h
          constructor
          · intro he
            rw [if_pos he] at h
            simp only [Option.some.injEq, Prod.mk.injEq] at h
            exact ⟨h.1, by rw [h.2.1, hlen]; omega, h.2.2⟩
          · intro he
            rw [if_neg he] at h
            simp only [Option.some.injEq, Prod.mk.injEq] at h
            exact ⟨h.1, by rw [h.2.1, hlen]; omega, h.2.2⟩
        have hA : (if ((!failed) && (e == 0)) = true then (if (ye != 0) = true then some true else (addI (i : Int) 1).bind fun z => some (yn != z)).bind fun t => (if t = true then some true else (ref30_Same y n).bind fun z => some (!z)).bind fun z => some z else some false) = some false := by
          cases failed with
          | true => rfl
          | false =>
            by_cases he : e = 0
            · obtain ⟨k1, k2, k3⟩ := (hsn rfl).1 he
              rw [if_pos (by simp [he]), if_neg (by simp [k3]), addI_one (by omega), Option.bind_some, Option.bind_some, if_neg (by simp [k2]), k1, same_refl hns]
              rfl
            · rw [if_neg (by simp [he])]
        have hB : (if ((!failed) && (e != 0)) = true then (if ((ye != e) || (yn != (i : Int))) = true then some true else (ref30_Same y now).bind fun z => some (!z)).bind fun z => some z else some false) = some false := by
          cases failed with
          | true => rfl
          | false =>
            by_cases he : e = 0
            · rw [if_neg (by simp [he])]
            · obtain ⟨k1, k2, k3⟩ := (hsn rfl).2 he
              rw [if_pos (by simp [he]), if_neg (by simp [k2, k3]), k1, same_refl hsm]
              rfl
        obtain ⟨q, hq⟩ := possible (k := l[i]) (l := actsOf now.State) (fuel := l.length + (actsOf now.State).length + 1) (by have := acts_len now.State; omega) (by omega)
        have hsl : sliceI l 0 ((i + 1 : Nat) : Int) = some (l.take (i + 1)) := by
          rw [sliceI_some (by omega) (by omega) (by omega)]; simp
        unfold law30_DossierDays_L0
        dsimp only
        rw [if_pos (by simpa using hi), getI_nat hi, Option.bind_some, hst, Option.bind_some, addI_one (by omega), Option.bind_some, hsl, Option.bind_some, hRun, Option.bind_some]
        rw [addI_one (by omega)] at hA
        rw [hA, Option.bind_some, if_neg (by simp), hB, Option.bind_some, Option.bind_some, if_neg (by simp), acts_eq, Option.bind_some, hq, Option.bind_some]
        dsimp only
        by_cases he : e = 0
        · have hl : l[i].Kind ∈ actsOf now.State ∧ dossier_Right n = some true ∧ n.Day = l[i].Day ∧ now.Day ≤ l[i].Day ∧ n.Id = now.Id := by
            rcases hfull with ⟨_, h, _⟩ | ⟨_, _, h, _⟩ | ⟨_, _, _, h, _⟩ | ⟨_, _, h3, h⟩
            · omega
            · omega
            · omega
            · rcases h with ⟨_, k1, k2, k3, k4⟩ | ⟨h, _⟩
              · exact ⟨h3, k1, k2, k3, k4⟩
              · omega
          obtain ⟨k0, k1, k2, k3, k4⟩ := hl
          rw [if_neg (by simp [he]), if_neg (by simp [k0, k2, k4]; omega), k1, Option.bind_some, Option.bind_some, if_neg (by simp), Option.bind_some]
          dsimp only
          rw [Option.bind_some]
          refine .inl ⟨_, rfl, rfl, hns, fun hf => ?_⟩
          obtain ⟨m1, m2, m3⟩ := (hsn hf).1 he
          rw [hy, m1, m2, m3]
          congr 3
          simp
          omega
        · have hn : n = noD := by
            rcases hfull with ⟨_, _, h⟩ | ⟨_, _, _, h⟩ | ⟨_, _, _, _, h⟩ | ⟨_, _, _, h⟩
            · exact h
            · exact h
            · exact h
            · rcases h with ⟨h, _⟩ | ⟨_, h⟩
              · exact absurd h he
              · exact h
          have hW : ((((!r) || (decide (l[i].Kind < 0))) || (decide (11 ≤ l[i].Kind))) || ((decide (0 < (l[i].Drawings.length : Int))) && (l[i].Kind != 2))) = wrongB r l[i] := by simp [wrongB, Bool.or_assoc]
          have hS : ref30_Same noD ⟨0, 0, 0, 0, 0, [], 0, 0⟩ = some true := same_refl (d := noD) sm_nil
          rw [if_pos (by simp [he]), hr, Option.bind_some, hW, if_neg (by
            rcases hfull with ⟨h1, h2, _⟩ | ⟨h1, h2, h3, _⟩ | ⟨h1, h2, h3, h4, _⟩ | ⟨h1, h2, h3, h4⟩
            · simp [h1, h2]
            · have h2' : (decide (l[i].Day < now.Day) || decide (1073741824 < l[i].Day)) = true := h2
              rw [h1, h2']; simp [h3]
            · have h2' : (decide (l[i].Day < now.Day) || decide (1073741824 < l[i].Day)) = false := h2
              rw [h1, h2']; simp [h3, h4]
            · have h2' : (decide (l[i].Day < now.Day) || decide (1073741824 < l[i].Day)) = false := h2
              rcases h4 with ⟨h4, _⟩ | ⟨h4 | h4, _⟩
              · exact absurd h4 he
              · rw [h1, h2']; simp [h3, h4]
              · rw [h1, h2']; simp [h3, h4]), hn, hS, Option.bind_some, Option.bind_some, if_neg (by simp), Option.bind_some]
          dsimp only
          rw [Option.bind_some]
          exact .inl ⟨_, rfl, rfl, hsm, fun h => by cases h⟩) (fun s ⟨hs, _, _⟩ => by
        unfold law30_DossierDays_L0
        rw [hs, if_neg (by simp)]
        exact ⟨_, rfl, trivial, trivial⟩) (false, 0, d) ⟨rfl, hsd, fun _ => by simp [runL]⟩ (l.length + 1) (by omega)
    rw [g1, Option.bind_some]
    cases f with
    | go _ => exact g2.elim
    | ret _ => exact g3.elim
    | ex _ _ => rfl
end Go.Proofs.Ytachpkjjlebadaa

