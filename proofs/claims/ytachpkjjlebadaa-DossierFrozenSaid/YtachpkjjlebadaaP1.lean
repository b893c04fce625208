/- The plain part of the proof (no program in sight), part 1 -/
import Derived.Test.YtachpkjjlebadaaT3
namespace Go.Proofs.Ytachpkjjlebadaa
open Go.Gb
set_option linter.unusedVariables false
set_option linter.unusedSimpArgs false
set_option linter.unusedSectionVars false
set_option linter.unusedVariables false
set_option linter.unusedSimpArgs false

def Tot {α : Type} (o : Option α) : Prop := ∃ r, o = some r
theorem Tot.pure {α : Type} (x : α) : Tot (some x) := ⟨x, rfl⟩
theorem Tot.bind {α β : Type} {o : Option α} {f : α → Option β} (h : Tot o) (g : ∀ x, o = some x → Tot (f x)) : Tot (o.bind f) := by
  obtain ⟨x, hx⟩ := h
  rw [hx]; exact g x hx
theorem Tot.ite {α : Type} {c : Prop} [Decidable c] {x y : Option α} (h : c → Tot x) (g : ¬c → Tot y) : Tot (if c then x else y) := by
  split
  · exact h ‹_›
  · exact g ‹_›
/-- a loop that counts -/
theorem tot_loop {σ ρ : Type} {body : σ → Option (Flow σ ρ)} (idx : σ → Int) (I : σ → Prop) (N : Nat)
    (step : ∀ s i, idx s = ((i : Nat) : Int) → i < N → I s → (∃ s', body s = some (.go s') ∧ idx s' = ((i + 1 : Nat) : Int) ∧ I s') ∨ ∃ f, body s = some f ∧ f.ends)
    (done : ∀ s, idx s = ((N : Nat) : Int) → I s → ∃ f, body s = some f ∧ f.ends) (s0 : σ) (h0 : idx s0 = 0) (hI : I s0) {fuel : Nat} (hf : N < fuel) : ∃ f, iterL body fuel s0 = some f ∧ f.ends := by
  obtain ⟨f, h1, h2, _⟩ := loop_up (body := body) (fun i s => idx s = ((i : Nat) : Int) ∧ I s) N (fun _ => True)
    (fun i s hi hs => (step s i hs.1 hi hs.2).imp (fun ⟨s', a, b, c⟩ => ⟨s', a, b, c⟩) fun ⟨f, a, b⟩ => ⟨f, a, b, trivial⟩)
    (fun s hs => let ⟨f, a, b⟩ := done s hs.1 hs.2; ⟨f, a, b, trivial⟩) s0 ⟨h0, hI⟩ fuel hf
  exact ⟨f, h1, h2⟩
theorem Tot.loop {σ ρ τ : Type} {o : Option (Flow σ ρ)} {f : Flow σ ρ → Option τ} (h : ∃ x, o = some x ∧ x.ends) (g : ∀ x, x.ends → Tot (f x)) : Tot (o.bind f) := by
  obtain ⟨x, hx, he⟩ := h
  rw [hx]; exact g x he

theorem containsV_tot {s : List Volume} {f : Volume → Option Bool} (hl : s.length ≤ 1000000) (hf : ∀ x, Tot (f x)) : Tot (slices_ContainsFunc_Volume s f) := by
  unfold slices_ContainsFunc_Volume
  refine Tot.bind ?_ fun _ _ => Tot.pure _
  unfold slices_IndexFunc_Volume
  refine Tot.loop (tot_loop (fun s => s) (fun _ => True) s.length ?_ ?_ 0 rfl trivial (by omega)) ?_
  · intro i n hi hn _
    subst hi
    unfold slices_IndexFunc_Volume_L0
    obtain ⟨b, hb⟩ := hf s[n]
    rw [if_pos (by simpa using hn), getI_nat hn]
    simp only [Option.bind_some, hb]
    cases b with
    | true => exact .inr ⟨_, rfl, trivial⟩
    | false =>
      rw [if_neg (by simp), addI_one (by omega)]
      exact .inl ⟨_, rfl, rfl, trivial⟩
  · intro i hi _
    subst hi
    unfold slices_IndexFunc_Volume_L0
    rw [if_neg (by simp)]
    exact ⟨_, rfl, trivial⟩
  · intro x hx
    cases x with
    | go _ => exact hx.elim
    | ex _ _ => exact Tot.pure _
    | ret _ => exact Tot.pure _
theorem containsD_tot {s : List Drawing} {f : Drawing → Option Bool} (hl : s.length ≤ 1000000) (hf : ∀ x ∈ s, Tot (f x)) : Tot (slices_ContainsFunc_Drawing s f) := by
  unfold slices_ContainsFunc_Drawing
  refine Tot.bind ?_ fun _ _ => Tot.pure _
  unfold slices_IndexFunc_Drawing
  refine Tot.loop (tot_loop (fun s => s) (fun _ => True) s.length ?_ ?_ 0 rfl trivial (by omega)) ?_
  · intro i n hi hn _
    subst hi
    unfold slices_IndexFunc_Drawing_L0
    obtain ⟨b, hb⟩ := hf s[n] (List.getElem_mem hn)
    rw [if_pos (by simpa using hn), getI_nat hn]
    simp only [Option.bind_some, hb]
    cases b with
    | true => exact .inr ⟨_, rfl, trivial⟩
    | false =>
      rw [if_neg (by simp), addI_one (by omega)]
      exact .inl ⟨_, rfl, rfl, trivial⟩
  · intro i hi _
    subst hi
    unfold slices_IndexFunc_Drawing_L0
    rw [if_neg (by simp)]
    exact ⟨_, rfl, trivial⟩
  · intro x hx
    cases x with
    | go _ => exact hx.elim
    | ex _ _ => exact Tot.pure _
    | ret _ => exact Tot.pure _
theorem strI_nat {s : ByteArray} {n : Nat} (h : n < s.size) : Tot (strI s (n : Int)) := by
  unfold strI
  rw [if_pos (by omega)]
  have : s[((n : Nat) : Int).toNat]? = some s[n] := by simp [h]
  rw [this]; exact Tot.pure _
theorem letter_tot (c : IK .u8) : Tot (lex_letter c) := Tot.pure _
theorem digit_tot (c : IK .u8) : Tot (lex_digit c) := Tot.pure _
theorem word1_tot (c : IK .u8) : Tot (lex_Word_1 c) := by
  unfold lex_Word_1
  refine (letter_tot c).bind fun x _ => ?_
  refine Tot.bind (Tot.ite (fun _ => Tot.pure _) fun _ => (digit_tot c).bind fun _ _ => Tot.pure _) fun _ _ => Tot.pure _
theorem span_tot {s : ByteArray} {f : IK .u8 → Option Bool} (hs : s.size ≤ 1000000) (hf : ∀ c, Tot (f c)) : Tot (lex_span s f) := by
  unfold lex_span
  refine Tot.loop (tot_loop (fun s => s) (fun _ => True) s.size ?_ ?_ 0 rfl trivial (by omega)) ?_
  · intro i n hi hn _
    subst hi
    unfold lex_span_L0
    obtain ⟨c, hc⟩ := strI_nat hn
    obtain ⟨b, hb⟩ := hf c
    rw [if_pos (by simpa using hn), hc]
    simp only [Option.bind_some, hb]
    cases b with
    | false => exact .inr ⟨_, rfl, trivial⟩
    | true =>
      rw [if_pos rfl, addI_one (by omega)]
      exact .inl ⟨_, rfl, rfl, trivial⟩
  · intro i hi _
    subst hi
    unfold lex_span_L0
    rw [if_neg (by simp)]
    exact ⟨_, rfl, trivial⟩
  · intro x hx
    cases x with
    | go _ => exact hx.elim
    | ex _ _ => exact Tot.pure _
    | ret _ => exact Tot.pure _
theorem word_tot (s : ByteArray) : ∃ b, lex_Word s = some b ∧ (b = true → s.size ≤ 20) := by
  have h1 : Tot (if ((s.toList == (⟨#[]⟩ : ByteArray).toList)) then some true else (strI s 0).bind fun c => (lex_letter c).bind fun l => some (!l)) := by
    refine Tot.ite (fun _ => Tot.pure _) fun h => ?_
    have hs : 0 < s.size := by
      rcases Nat.eq_zero_or_pos s.size with h0 | h0
      · exfalso
        apply h
        have : s = ⟨#[]⟩ := by
          cases s with | mk d =>
            have : d.size = 0 := h0
            have : d = #[] := Array.eq_empty_of_size_eq_zero this
            rw [this]
        rw [this]; simp
      · exact h0
    exact (strI_nat hs).bind fun c _ => (letter_tot c).bind fun _ _ => Tot.pure _
  obtain ⟨x, hx⟩ := h1
  unfold lex_Word
  rw [hx]
  simp only [Option.bind_some]
  by_cases hc : (x || decide (20 < (s.size : Int))) = true
  · rw [if_pos hc]; exact ⟨_, rfl, fun h => by simp at h⟩
  · rw [if_neg hc]
    have h20 : s.size ≤ 20 := by simp at hc; omega
    obtain ⟨n, hn⟩ := span_tot (s := s) (by omega) word1_tot
    rw [hn]
    exact ⟨_, rfl, fun _ => h20⟩
theorem contains_tot {s t : ByteArray} (h : s.size ≤ 4000) : Tot (strings_Contains s t) := by
  unfold strings_Contains
  rw [if_pos (by omega)]
  exact Tot.pure _
theorem i64_max : IntKind.i64.max = 9223372036854775807 := by simp [IntKind.max, IntKind.bits, IntKind.signed]
theorem catI_some {s t : ByteArray} (h : s.size + t.size ≤ 1000000) : catI s t = some (s ++ t) := by
  unfold catI
  rw [i64_max, if_pos (by omega)]
theorem name_aux (res s : ByteArray) (hr : res.size ≤ 4000) : Tot ((lex_Word s).bind fun x =>
    (if x then (catI (⟨#[32]⟩ : ByteArray) s).bind fun y => (catI y (⟨#[32]⟩ : ByteArray)).bind fun z => (strings_Contains res z).bind fun b => some (!b) else some false).bind fun b => some b) := by
  obtain ⟨b, hb, h20⟩ := word_tot s
  refine Tot.bind ⟨b, hb⟩ fun x hx => ?_
  refine Tot.bind (Tot.ite (fun h => ?_) fun _ => Tot.pure _) fun _ _ => Tot.pure _
  have hs : s.size ≤ 20 := h20 (by rw [← Option.some.inj (hx.symm.trans hb)]; exact h)
  have h1 : (⟨#[32]⟩ : ByteArray).size = 1 := rfl
  refine Tot.bind ⟨_, catI_some (by omega)⟩ fun y hy => ?_
  have hy : y.size = 1 + s.size := by
    rw [catI_some (by omega)] at hy
    rw [← Option.some.inj hy, ByteArray.size_append, h1]
  refine Tot.bind ⟨_, catI_some (by omega)⟩ fun z _ => ?_
  exact Tot.bind (contains_tot hr) fun _ _ => Tot.pure _
theorem name_tot (s : ByteArray) : Tot (syntax_Name s) := by
  unfold syntax_Name
  exact name_aux _ s (Nat.le_of_ble_eq_true (by kernel_rfl))
end Go.Proofs.Ytachpkjjlebadaa

namespace Go.Proofs.Ytachpkjjlebadaa
open Go.Gb
set_option linter.unusedVariables false
set_option linter.unusedSimpArgs false
set_option linter.unusedSectionVars false
set_option linter.unusedVariables false
set_option linter.unusedSimpArgs false

theorem addI_one' {i : Nat} (h : i < 9223372036854775807) : addI (i : Int) 1 = some ((i + 1 : Nat) : Int) := by
  rw [addI_some (by constructor <;> omega)]; simp
def SmP (p : Phase) : Prop := p.Volumes.length ≤ 12 ∧ p.Gives.length ≤ 6
def SmD (d : Drawing) : Prop := d.Phases.length ≤ 9 ∧ ∀ p ∈ d.Phases, SmP p
def SmL (l : List Drawing) : Prop := l.length ≤ 9 ∧ ∀ d ∈ l, SmD d
theorem flat_le {l : List Drawing} {d : Drawing} (h : d ∈ l) : d.Phases.length ≤ (l.flatMap fun d => d.Phases).length := by
  induction l with
  | nil => simp at h
  | cons x l ih =>
    rw [List.flatMap_cons, List.length_append]
    rcases List.mem_cons.1 h with rfl | h
    · omega
    · have := ih h; omega
theorem few_inner {l : List Drawing} {i : Nat} (hi : i < l.length) (hp : l[i].Phases.length ≤ maxLen) :
    ∃ f, iterL (ref30_fewDrawings_L1 l (i : Int)) ((l.flatMap fun d => d.Phases).length + 1) 0 = some f ∧ f.ends ∧ (match f with | .ex _ _ => ∀ p ∈ l[i].Phases, SmP p | .ret r => r = false | .go _ => False) := by
  have hm : (maxLen : Nat) = 9223372036854775807 := rfl
  refine loop_up (fun j s => s = ((j : Nat) : Int) ∧ ∀ m (h : m < l[i].Phases.length), m < j → SmP l[i].Phases[m]) l[i].Phases.length _ ?_ ?_ 0 ⟨rfl, fun m _ h => by omega⟩ _ (by have := flat_le (List.getElem_mem hi); omega)
  · intro j s hj ⟨hs, hI⟩
    subst hs
    unfold ref30_fewDrawings_L1
    rw [getI_nat hi]
    simp only [Option.bind_some]
    rw [if_pos (by simpa using hj), getI_nat hj]
    simp only [Option.bind_some]
    by_cases h1 : 12 < (l[i].Phases[j].Volumes.length : Int)
    · rw [if_pos (by simpa using h1)]
      simp only [Option.bind_some]
      exact .inr ⟨_, rfl, trivial, rfl⟩
    · rw [if_neg (by simpa using h1)]
      simp only [Option.bind_some]
      by_cases h2 : 6 < (l[i].Phases[j].Gives.length : Int)
      · rw [if_pos (by simpa using h2)]
        exact .inr ⟨_, rfl, trivial, rfl⟩
      · rw [if_neg (by simpa using h2), addI_one' (by omega)]
        refine .inl ⟨_, rfl, rfl, fun m hm' hlt => ?_⟩
        by_cases he : m = j
        · subst he; exact ⟨by omega, by omega⟩
        · exact hI m hm' (by omega)
  · intro s ⟨hs, hI⟩
    subst hs
    unfold ref30_fewDrawings_L1
    rw [getI_nat hi]
    simp only [Option.bind_some]
    rw [if_neg (by simp)]
    refine ⟨_, rfl, trivial, fun p hp' => ?_⟩
    obtain ⟨m, h, rfl⟩ := List.getElem_of_mem hp'
    exact hI m h h
theorem few_drawings {l : List Drawing} (hl : l.length ≤ maxLen) (hd : ∀ d ∈ l, d.Phases.length ≤ maxLen) : ∃ b, ref30_fewDrawings l = some b ∧ (b = true → SmL l) := by
  have hm : (maxLen : Nat) = 9223372036854775807 := rfl
  obtain ⟨f, h1, h2, h3⟩ := loop_up (body := ref30_fewDrawings_L0 l) (fun i s => s = ((i : Nat) : Int) ∧ ∀ m (h : m < l.length), m < i → SmD l[m]) l.length
    (fun f => match f with | .ex _ _ => ∀ d ∈ l, SmD d | .ret r => r = false | .go _ => False) (fun i s hi ⟨hs, hI⟩ => by
      subst hs
      unfold ref30_fewDrawings_L0
      rw [if_pos (by simpa using hi)]
      obtain ⟨g, g1, g2, g3⟩ := few_inner hi (hd _ (List.getElem_mem hi))
      rw [g1]
      cases g with
      | go _ => exact g2.elim
      | ret r =>
        obtain rfl : r = false := g3
        exact .inr ⟨_, rfl, trivial, rfl⟩
      | ex _ _ =>
        simp only [Option.bind_some]
        rw [getI_nat hi]
        simp only [Option.bind_some]
        by_cases h1 : 9 < (l[i].Phases.length : Int)
        · rw [if_pos (by simpa using h1)]
          exact .inr ⟨_, rfl, trivial, rfl⟩
        · rw [if_neg (by simpa using h1), addI_one' (by omega)]
          refine .inl ⟨_, rfl, rfl, fun m hm' hlt => ?_⟩
          by_cases he : m = i
          · subst he; exact ⟨by omega, g3⟩
          · exact hI m hm' (by omega)) (fun s ⟨hs, hI⟩ => by
      subst hs
      unfold ref30_fewDrawings_L0
      rw [if_neg (by simp)]
      refine ⟨_, rfl, trivial, fun d hd' => ?_⟩
      obtain ⟨m, h, rfl⟩ := List.getElem_of_mem hd'
      exact hI m h h) 0 ⟨rfl, fun m _ h => by omega⟩ (l.length + 1) (by omega)
  unfold ref30_fewDrawings
  rw [h1]
  cases f with
  | go _ => exact h2.elim
  | ret r => obtain rfl : r = false := h3; exact ⟨_, rfl, fun h => by cases h⟩
  | ex _ _ => exact ⟨_, rfl, fun h => ⟨by simp at h; omega, h3⟩⟩
def Lens (l : List Drawing) : Prop := l.length ≤ maxLen ∧ ∀ d ∈ l, d.Phases.length ≤ maxLen
theorem few_all {p : Plan} {d : Dossier} {l : List Act} (hd : Lens d.Drawings) (hl : l.length ≤ maxLen) (ha : ∀ a ∈ l, Lens a.Drawings) :
    ∃ b, ref30_Few p d l = some b ∧ (b = true → p.Rules.length ≤ 20 ∧ l.length ≤ 14 ∧ SmL d.Drawings ∧ ∀ a ∈ l, SmL a.Drawings) := by
  have hm : (maxLen : Nat) = 9223372036854775807 := rfl
  obtain ⟨f, h1, h2, h3⟩ := loop_up (body := ref30_Few_L0 l) (fun i s => s = ((i : Nat) : Int) ∧ ∀ m (h : m < l.length), m < i → SmL l[m].Drawings) l.length
    (fun f => match f with | .ex _ _ => ∀ a ∈ l, SmL a.Drawings | .ret r => r = false | .go _ => False) (fun i s hi ⟨hs, hI⟩ => by
      subst hs
      unfold ref30_Few_L0
      rw [if_pos (by simpa using hi), getI_nat hi]
      simp only [Option.bind_some]
      obtain ⟨b, g1, g2⟩ := few_drawings (ha _ (List.getElem_mem hi)).1 (ha _ (List.getElem_mem hi)).2
      rw [g1]
      simp only [Option.bind_some]
      cases b with
      | false => exact .inr ⟨_, rfl, trivial, rfl⟩
      | true =>
        rw [if_neg (by simp), addI_one' (by omega)]
        refine .inl ⟨_, rfl, rfl, fun m hm' hlt => ?_⟩
        by_cases he : m = i
        · subst he; exact g2 rfl
        · exact hI m hm' (by omega)) (fun s ⟨hs, hI⟩ => by
      subst hs
      unfold ref30_Few_L0
      rw [if_neg (by simp)]
      refine ⟨_, rfl, trivial, fun d hd' => ?_⟩
      obtain ⟨m, h, rfl⟩ := List.getElem_of_mem hd'
      exact hI m h h) 0 ⟨rfl, fun m _ h => by omega⟩ (l.length + 1) (by omega)
  unfold ref30_Few
  rw [h1]
  cases f with
  | go _ => exact h2.elim
  | ret r => obtain rfl : r = false := h3; exact ⟨_, rfl, fun h => by cases h⟩
  | ex _ _ =>
    obtain ⟨b, g1, g2⟩ := few_drawings hd.1 hd.2
    simp only [Option.bind_some, g1]
    by_cases hc : ((decide ((p.Rules.length : Int) ≤ 20)) && (decide ((l.length : Int) ≤ 14))) = true
    · rw [if_pos hc]
      simp at hc
      exact ⟨_, rfl, fun h => ⟨by omega, by omega, g2 h, h3⟩⟩
    · rw [if_neg hc]
      exact ⟨_, rfl, fun h => by cases h⟩
end Go.Proofs.Ytachpkjjlebadaa

namespace Go.Proofs.Ytachpkjjlebadaa
open Go.Gb
set_option linter.unusedVariables false
set_option linter.unusedSimpArgs false
set_option linter.unusedSectionVars false
set_option linter.unusedVariables false
set_option linter.unusedSimpArgs false

theorem all_tot {d : Drawing} (h : SmD d) : ∃ l, drawing_all d = some l ∧ l.length ≤ 108 := by
  obtain ⟨f, h1, h2, h3⟩ := loop_up (body := drawing_Volumes_L0 d 0 (d.Phases.length : Int)) (fun i s => s.2 = ((i : Nat) : Int) ∧ s.1.length ≤ 12 * i) d.Phases.length
    (fun f => match f with | .ex _ s => s.1.length ≤ 108 | _ => False) (fun i s hi ⟨hs, hI⟩ => by
      have h9 := h.1
      have hv := (h.2 _ (List.getElem_mem hi)).1
      unfold drawing_Volumes_L0
      rw [hs, if_pos (by simpa using hi), getI_nat hi, Option.bind_some, if_pos (by simp; omega), appI_some (by omega), Option.bind_some, Option.bind_some, addI_one (by omega), Option.bind_some]
      exact .inl ⟨_, rfl, rfl, by simp; omega⟩) (fun s ⟨hs, hI⟩ => by
      have h9 := h.1
      unfold drawing_Volumes_L0
      rw [hs, if_neg (by simp)]
      exact ⟨_, rfl, trivial, by show s.1.length ≤ 108; omega⟩) ([], 0) ⟨rfl, by simp⟩ (d.Phases.length + 1) (by omega)
  unfold drawing_all drawing_Volumes
  rw [h1]
  cases f with
  | go _ => exact h2.elim
  | ret r => exact h3.elim
  | ex _ s => exact ⟨_, rfl, h3⟩
theorem rightV_tot (v : Volume) : Tot (drawing_RightVolume v) := by
  unfold drawing_RightVolume rect_Right
  refine Tot.bind (Tot.pure _) fun _ _ => Tot.ite (fun _ => Tot.pure _) fun _ => Tot.ite (fun _ => Tot.pure _) fun _ => Tot.pure _
theorem meet_tot (a b : Box) : Tot (drawing_meet a b) := by
  unfold drawing_meet rect_Intersect rect_checked rect_Right
  refine Tot.bind (Tot.bind (Tot.pure _) fun _ _ => Tot.bind (Tot.ite (fun _ => Tot.pure _) fun _ => Tot.bind (Tot.pure _) fun _ _ => Tot.pure _) fun _ _ => Tot.ite (fun _ => Tot.pure _) fun _ =>
    Tot.bind (Tot.bind (Tot.pure _) fun _ _ => Tot.ite (fun _ => Tot.pure _) fun _ => Tot.pure _) fun _ _ => Tot.pure _) fun _ _ => Tot.pure _
theorem form0_tot {l : List Volume} (h : l.length ≤ 1000000) : ∃ f, iterL (drawing_Form_L0 l) (l.length + 1) 0 = some f ∧ f.ends := by
  refine tot_loop (fun s => s) (fun _ => True) l.length ?_ ?_ 0 rfl trivial (by omega)
  · intro s i hs hi _
    subst hs
    unfold drawing_Form_L0
    rw [if_pos (by simpa using hi), getI_nat hi]
    simp only [Option.bind_some]
    obtain ⟨b, hb⟩ := rightV_tot l[i]
    rw [hb]
    simp only [Option.bind_some]
    obtain ⟨c, hc⟩ : Tot (if (!b) = true then some true else (sliceI l 0 (i : Int)).bind fun y => (slices_ContainsFunc_Volume y (fun y0 => drawing_Form_1 y0 l[i])).bind fun z => some z) := by
      refine Tot.ite (fun _ => Tot.pure _) fun _ => ?_
      rw [sliceI_some (by omega) (by omega) (by omega)]
      simp only [Option.bind_some]
      refine Tot.bind (containsV_tot (by simp; omega) fun x => ?_) fun _ _ => Tot.pure _
      unfold drawing_Form_1
      exact Tot.bind (meet_tot _ _) fun _ _ => Tot.pure _
    rw [hc]
    simp only [Option.bind_some]
    cases c with
    | true => exact .inr ⟨_, rfl, trivial⟩
    | false =>
      rw [if_neg (by simp), addI_one (by omega)]
      exact .inl ⟨_, rfl, rfl, trivial⟩
  · intro s hs _
    subst hs
    unfold drawing_Form_L0
    rw [if_neg (by simp)]
    exact ⟨_, rfl, trivial⟩
theorem form2_tot {p : Phase} (h : SmP p) : ∃ f, iterL (drawing_Form_L2 p) (p.Gives.length + 1) ((⟨[]⟩ : (GMap ByteArray Bool)), 0) = some f ∧ f.ends := by
  have h6 := h.2
  refine tot_loop (fun s => s.2) (fun _ => True) p.Gives.length ?_ ?_ _ rfl trivial (by omega)
  · intro s i hs hi _
    unfold drawing_Form_L2
    rw [hs, if_pos (by simpa using hi), getI_nat hi]
    simp only [Option.bind_some]
    obtain ⟨c, hc⟩ : Tot (if (getK (s.1).l p.Gives[i].Name).getD false = true then some true else (syntax_Name p.Gives[i].Name).bind fun y => some (!y)) :=
      Tot.ite (fun _ => Tot.pure _) fun _ => Tot.bind (name_tot _) fun _ _ => Tot.pure _
    rw [hc]
    simp only [Option.bind_some]
    split
    · exact .inr ⟨_, rfl, trivial⟩
    · rw [addI_one (by omega)]
      exact .inl ⟨_, rfl, rfl, trivial⟩
  · intro s hs _
    unfold drawing_Form_L2
    rw [hs, if_neg (by simp)]
    exact ⟨_, rfl, trivial⟩
theorem form1_tot {d : Drawing} (h : SmD d) : ∃ f, iterL (drawing_Form_L1 d) (d.Phases.length + 1) 0 = some f ∧ f.ends := by
  have h9 := h.1
  refine tot_loop (fun s => s) (fun _ => True) d.Phases.length ?_ ?_ 0 rfl trivial (by omega)
  · intro s i hs hi _
    subst hs
    unfold drawing_Form_L1
    rw [if_pos (by simpa using hi), getI_nat hi]
    simp only [Option.bind_some]
    obtain ⟨f, hf, he⟩ := form2_tot (h.2 _ (List.getElem_mem hi))
    rw [hf]
    simp only [Option.bind_some]
    cases f with
    | go _ => exact he.elim
    | ret r => exact .inr ⟨_, rfl, trivial⟩
    | ex _ _ =>
      dsimp only
      split
      · exact .inr ⟨_, rfl, trivial⟩
      · rw [addI_one (by omega)]
        exact .inl ⟨_, rfl, rfl, trivial⟩
  · intro s hs _
    subst hs
    unfold drawing_Form_L1
    rw [if_neg (by simp)]
    exact ⟨_, rfl, trivial⟩
theorem form_tot {d : Drawing} (h : SmD d) : Tot (drawing_Form d) := by
  obtain ⟨l, hl, h108⟩ := all_tot h
  unfold drawing_Form
  rw [hl]
  simp only [Option.bind_some]
  refine Tot.ite (fun _ => Tot.pure _) fun _ => ?_
  refine Tot.loop (form0_tot (by omega)) fun x hx => ?_
  cases x with
  | go _ => exact hx.elim
  | ret _ => exact Tot.pure _
  | ex _ _ =>
    refine Tot.loop (form1_tot h) fun x hx => ?_
    cases x with
    | go _ => exact hx.elim
    | ret _ => exact Tot.pure _
    | ex _ _ => exact Tot.pure _
theorem formed_tot {l : List Drawing} (h : SmL l) : Tot (dossier_formed l) := by
  have h9 := h.1
  unfold dossier_formed
  refine Tot.ite (fun _ => Tot.pure _) fun _ => ?_
  refine Tot.bind (containsD_tot (by omega) fun x hx => ?_) fun _ _ => Tot.pure _
  unfold dossier_formed_1
  exact Tot.bind (form_tot (h.2 x hx)) fun _ _ => Tot.pure _
theorem right_tot {d : Dossier} (h : SmL d.Drawings) : Tot (dossier_Right d) := by
  unfold dossier_Right
  refine Tot.bind ?_ fun _ _ => Tot.ite (fun _ => Tot.pure _) fun _ => Tot.bind (formed_tot h) fun _ _ => Tot.pure _
  refine Tot.ite (fun _ => Tot.pure _) fun _ => Tot.bind ?_ fun _ _ => Tot.pure _
  refine Tot.ite (fun _ => Tot.pure _) fun _ => Tot.bind ?_ fun _ _ => Tot.pure _
  refine Tot.ite (fun _ => Tot.pure _) fun _ => Tot.bind ?_ fun _ _ => Tot.pure _
  refine Tot.ite (fun _ => Tot.pure _) fun _ => Tot.bind ?_ fun _ _ => Tot.pure _
  refine Tot.ite (fun _ => Tot.pure _) fun _ => Tot.bind ?_ fun _ _ => Tot.pure _
  exact Tot.ite (fun _ => Tot.pure _) fun _ => Tot.pure _
end Go.Proofs.Ytachpkjjlebadaa

namespace Go.Proofs.Ytachpkjjlebadaa
open Go.Gb
set_option linter.unusedVariables false
set_option linter.unusedSimpArgs false
set_option linter.unusedSectionVars false
set_option linter.unusedVariables false
set_option linter.unusedSimpArgs false

theorem appI_nil {α : Type} {s : List α} (h : s.length ≤ 1000000) : appI [] s = some s := by
  rw [appI_some (by simp; omega), List.nil_append]
theorem cloneD_eq {s : List Drawing} (h : s.length ≤ 1000000) : slices_Clone_Drawing s = some s := by
  unfold slices_Clone_Drawing; rw [appI_nil h, Option.bind_some]
theorem cloneP_eq {s : List Phase} (h : s.length ≤ 1000000) : slices_Clone_Phase s = some s := by
  unfold slices_Clone_Phase; rw [appI_nil h, Option.bind_some]
theorem cloneV_eq {s : List Volume} (h : s.length ≤ 1000000) : slices_Clone_Volume s = some s := by
  unfold slices_Clone_Volume; rw [appI_nil h, Option.bind_some]
theorem cloneE_eq {s : List Entry} (h : s.length ≤ 1000000) : slices_Clone_Entry s = some s := by
  unfold slices_Clone_Entry; rw [appI_nil h, Option.bind_some]
theorem clone1_eq {l : List Phase} (hl : l.length ≤ 9) (h : ∀ p ∈ l, SmP p) : ∃ f, iterL (dossier_clone_L1 l) (l.length + 1) (l, 0) = some f ∧ f.ends ∧ (match f with | .ex _ s => s.1 = l | _ => False) := by
  refine loop_up (fun i s => s = (l, ((i : Nat) : Int))) l.length _ ?_ ?_ _ rfl _ (by omega)
  · intro i s hi hs
    subst hs
    have hp := h _ (List.getElem_mem hi)
    unfold dossier_clone_L1
    dsimp only
    rw [if_pos (by simpa using hi), getI_nat hi, Option.bind_some, cloneV_eq (by have := hp.1; omega), Option.bind_some, cloneE_eq (by have := hp.2; omega), Option.bind_some, Option.bind_some, Option.bind_some, addI_one (by omega), Option.bind_some]
    refine .inl ⟨_, rfl, ?_⟩
    have e : (⟨l[i].Volumes, l[i].Gives⟩ : Phase) = l[i] := rfl
    rw [e, Int.toNat_natCast, List.set_getElem_self]
  · intro s hs
    subst hs
    unfold dossier_clone_L1
    dsimp only
    rw [if_neg (by simp)]
    exact ⟨_, rfl, trivial, rfl⟩
theorem clone_eq {l : List Drawing} (h : SmL l) : dossier_clone l = some l := by
  have h9 := h.1
  obtain ⟨f, h1, h2, h3⟩ := loop_up (body := dossier_clone_L0 l) (fun i s => s = (l, ((i : Nat) : Int))) l.length (fun f => match f with | .ex _ s => s.1 = l | _ => False) (fun i s hi hs => by
      subst hs
      have hd := h.2 _ (List.getElem_mem hi)
      unfold dossier_clone_L0
      dsimp only
      rw [if_pos (by simpa using hi), getI_nat hi, Option.bind_some, cloneP_eq (by have := hd.1; omega), Option.bind_some]
      obtain ⟨g, g1, g2, g3⟩ := clone1_eq hd.1 hd.2
      rw [g1]
      cases g with
      | go _ => exact g2.elim
      | ret _ => exact g3.elim
      | ex j t =>
        have g3 : t.1 = l[i].Phases := g3
        rw [Option.bind_some]
        dsimp only
        rw [Option.bind_some, addI_one (by omega), Option.bind_some, Option.bind_some]
        refine .inl ⟨_, rfl, ?_⟩
        rw [g3]
        have e : ({ l[i] with Phases := l[i].Phases } : Drawing) = l[i] := rfl
        rw [e, Int.toNat_natCast, List.set_getElem_self]) (fun s hs => by
      subst hs
      unfold dossier_clone_L0
      dsimp only
      rw [if_neg (by simp)]
      exact ⟨_, rfl, trivial, rfl⟩) (l, 0) rfl (l.length + 1) (by omega)
  unfold dossier_clone
  rw [cloneD_eq (by omega), Option.bind_some, h1]
  cases f with
  | go _ => exact h2.elim
  | ret _ => exact h3.elim
  | ex _ s => have h3 : s.1 = l := h3; rw [Option.bind_some]; dsimp only; rw [h3]

theorem eqP_tot {s t : List Phase} {f : Phase → Phase → Option Bool} (hl : s.length ≤ 1000000) (hf : ∀ x ∈ s, ∀ y ∈ t, Tot (f x y)) : Tot (slices_EqualFunc_Phase_Phase_Phase s t f) := by
  unfold slices_EqualFunc_Phase_Phase_Phase
  refine Tot.ite (fun _ => Tot.pure _) fun hlen => ?_
  have hlen : s.length = t.length := by simp at hlen; omega
  refine Tot.loop (tot_loop (fun s => s) (fun _ => True) s.length ?_ ?_ 0 rfl trivial (by omega)) ?_
  · intro i n hi hn _
    subst hi
    unfold slices_EqualFunc_Phase_Phase_Phase_L0
    obtain ⟨b, hb⟩ := hf s[n] (List.getElem_mem hn) (t[n]'(by omega)) (List.getElem_mem _)
    rw [if_pos (by simpa using hn), getI_nat hn, Option.bind_some, getI_nat (by omega : n < t.length), Option.bind_some, hb, Option.bind_some]
    cases b with
    | false => exact .inr ⟨_, rfl, trivial⟩
    | true =>
      rw [if_neg (by simp), addI_one (by omega)]
      exact .inl ⟨_, rfl, rfl, trivial⟩
  · intro i hi _
    subst hi
    unfold slices_EqualFunc_Phase_Phase_Phase_L0
    rw [if_neg (by simp)]
    exact ⟨_, rfl, trivial⟩
  · intro x hx
    cases x with
    | go _ => exact hx.elim
    | ex _ _ => exact Tot.pure _
    | ret _ => exact Tot.pure _
theorem eqD_tot {s t : List Drawing} {f : Drawing → Drawing → Option Bool} (hl : s.length ≤ 1000000) (hf : ∀ x ∈ s, ∀ y ∈ t, Tot (f x y)) : Tot (slices_EqualFunc_Drawing_Drawing_Drawing s t f) := by
  unfold slices_EqualFunc_Drawing_Drawing_Drawing
  refine Tot.ite (fun _ => Tot.pure _) fun hlen => ?_
  have hlen : s.length = t.length := by simp at hlen; omega
  refine Tot.loop (tot_loop (fun s => s) (fun _ => True) s.length ?_ ?_ 0 rfl trivial (by omega)) ?_
  · intro i n hi hn _
    subst hi
    unfold slices_EqualFunc_Drawing_Drawing_Drawing_L0
    obtain ⟨b, hb⟩ := hf s[n] (List.getElem_mem hn) (t[n]'(by omega)) (List.getElem_mem _)
    rw [if_pos (by simpa using hn), getI_nat hn, Option.bind_some, getI_nat (by omega : n < t.length), Option.bind_some, hb, Option.bind_some]
    cases b with
    | false => exact .inr ⟨_, rfl, trivial⟩
    | true =>
      rw [if_neg (by simp), addI_one (by omega)]
      exact .inl ⟨_, rfl, rfl, trivial⟩
  · intro i hi _
    subst hi
    unfold slices_EqualFunc_Drawing_Drawing_Drawing_L0
    rw [if_neg (by simp)]
    exact ⟨_, rfl, trivial⟩
  · intro x hx
    cases x with
    | go _ => exact hx.elim
    | ex _ _ => exact Tot.pure _
    | ret _ => exact Tot.pure _
theorem eqE_tot {s t : List Entry} (hl : s.length ≤ 1000000) : Tot (slices_Equal_Entry s t) := by
  unfold slices_Equal_Entry
  refine Tot.ite (fun _ => Tot.pure _) fun hlen => ?_
  have hlen : s.length = t.length := by simp at hlen; omega
  refine Tot.loop (tot_loop (fun s => s) (fun _ => True) s.length ?_ ?_ 0 rfl trivial (by omega)) ?_
  · intro i n hi hn _
    subst hi
    unfold slices_Equal_Entry_L0
    rw [if_pos (by simpa using hn), getI_nat hn, Option.bind_some, getI_nat (by omega : n < t.length), Option.bind_some]
    split
    · exact .inr ⟨_, rfl, trivial⟩
    · rw [addI_one (by omega)]
      exact .inl ⟨_, rfl, rfl, trivial⟩
  · intro i hi _
    subst hi
    unfold slices_Equal_Entry_L0
    rw [if_neg (by simp)]
    exact ⟨_, rfl, trivial⟩
  · intro x hx
    cases x with
    | go _ => exact hx.elim
    | ex _ _ => exact Tot.pure _
    | ret _ => exact Tot.pure _
theorem lower_tot (a b : Volume) : Tot (dossier_lower a b) := by
  unfold dossier_lower
  exact Tot.ite (fun _ => Tot.pure _) fun _ => Tot.pure _
theorem takes_tot {a b : Phase} (ha : SmP a) (hb : SmP b) : Tot (dossier_takes a b) := by
  have h1 := hb.1
  have h2 := ha.2
  unfold dossier_takes
  refine Tot.loop (tot_loop (fun s => s.2) (fun _ => True) b.Volumes.length ?_ ?_ _ rfl trivial (by omega)) ?_
  · intro s n hs hn _
    unfold dossier_takes_L0
    rw [hs, if_pos (by simpa using hn), getI_nat hn, Option.bind_some]
    obtain ⟨c, hc⟩ : Tot (if (decide (0 < (s.1.length : Int))) = true then (getI s.1 0).bind fun x => (dossier_lower x b.Volumes[n]).bind fun y => some y else some false) := by
      refine Tot.ite (fun h => ?_) fun _ => Tot.pure _
      have h : 0 < s.1.length := by simpa using h
      rw [show (0 : Int) = ((0 : Nat) : Int) from rfl, getI_nat h, Option.bind_some]
      exact Tot.bind (lower_tot _ _) fun _ _ => Tot.pure _
    have hlen : c = true → 0 < s.1.length := by
      intro hct
      subst hct
      rcases Nat.eq_zero_or_pos s.1.length with h0 | h0
      · rw [if_neg (by simp [h0])] at hc; simp at hc
      · exact h0
    rw [hc, Option.bind_some]
    obtain ⟨e, he⟩ : Tot (if c = true then (sliceI s.1 1 (s.1.length : Int)).bind fun x => some x else some s.1) := by
      refine Tot.ite (fun h => ?_) fun _ => Tot.pure _
      have := hlen h
      rw [sliceI_some (by omega) (by omega) (by omega), Option.bind_some]
      exact Tot.pure _
    rw [he, Option.bind_some, addI_one (by omega)]
    exact .inl ⟨_, rfl, rfl, trivial⟩
  · intro s hs _
    unfold dossier_takes_L0
    rw [hs, if_neg (by simp)]
    exact ⟨_, rfl, trivial⟩
  · intro x hx
    cases x with
    | go _ => exact hx.elim
    | ex _ _ => exact Tot.bind (Tot.ite (fun _ => Tot.bind (eqE_tot (by omega)) fun _ _ => Tot.pure _) fun _ => Tot.pure _) fun _ _ => Tot.pure _
    | ret _ => exact Tot.pure _
theorem less_tot {a b : List Drawing} (ha : SmL a) (hb : SmL b) : Tot (dossier_Less a b) := by
  have h9 := ha.1
  unfold dossier_Less
  refine Tot.bind (eqD_tot (by omega) fun x hx y hy => ?_) fun _ _ => Tot.pure _
  unfold dossier_Less_1
  refine Tot.bind (Tot.ite (fun _ => Tot.bind (eqP_tot (by have := (ha.2 x hx).1; omega) fun p hp q hq => takes_tot ((ha.2 x hx).2 p hp) ((hb.2 y hy).2 q hq)) fun _ _ => Tot.pure _) fun _ => Tot.pure _) fun _ _ => Tot.pure _
end Go.Proofs.Ytachpkjjlebadaa

namespace Go.Proofs.Ytachpkjjlebadaa
open Go.Gb
set_option linter.unusedVariables false
set_option linter.unusedSimpArgs false
set_option linter.unusedSectionVars false
set_option linter.unusedVariables false
set_option linter.unusedSimpArgs false

theorem index_some {l : List Int} {v : Int} (hl : l.length ≤ 1000000) : ∃ r, slices_Index_int l v = some r ∧ (0 ≤ r ↔ v ∈ l) := by
  obtain ⟨f, h1, h2, h3⟩ := loop_up (body := slices_Index_int_L0 l v) (fun i s => s = ((i : Nat) : Int) ∧ ∀ m (h : m < l.length), m < i → l[m] ≠ v) l.length
    (fun f => match f with | .ex _ _ => v ∉ l | .ret r => 0 ≤ r ∧ v ∈ l | .go _ => False) (fun i s hi ⟨hs, hI⟩ => by
      subst hs
      unfold slices_Index_int_L0
      rw [if_pos (by simpa using hi), getI_nat hi, Option.bind_some]
      by_cases hv : v = l[i]
      · rw [if_pos (by simpa using hv)]
        exact .inr ⟨_, rfl, trivial, by omega, by rw [hv]; exact List.getElem_mem hi⟩
      · rw [if_neg (by simpa using hv), addI_one (by omega)]
        refine .inl ⟨_, rfl, rfl, fun m hm hlt => ?_⟩
        by_cases he : m = i
        · subst he; exact fun e => hv e.symm
        · exact hI m hm (by omega)) (fun s ⟨hs, hI⟩ => by
      subst hs
      unfold slices_Index_int_L0
      rw [if_neg (by simp)]
      refine ⟨_, rfl, trivial, fun hv => ?_⟩
      obtain ⟨m, h, e⟩ := List.getElem_of_mem hv
      exact hI m h h e) 0 ⟨rfl, fun m _ h => by omega⟩ (l.length + 1) (by omega)
  unfold slices_Index_int
  rw [h1, Option.bind_some]
  cases f with
  | go _ => exact h2.elim
  | ex _ _ => exact ⟨_, rfl, by constructor <;> intro h <;> first | omega | exact absurd h h3⟩
  | ret r => exact ⟨_, rfl, fun _ => h3.2, fun _ => h3.1⟩
theorem contains_int {l : List Int} {v : Int} (hl : l.length ≤ 1000000) : slices_Contains_int l v = some (decide (v ∈ l)) := by
  obtain ⟨r, h1, h2⟩ := index_some (v := v) hl
  unfold slices_Contains_int
  rw [h1, Option.bind_some]
  congr 1
  simp [h2]
theorem days_tot {p : Plan} {day : Int} (hp : p.Rules.length ≤ 20) (hd : 0 ≤ day ∧ day ≤ 1073741824) : ∃ l, clause_Days p day = some l ∧ l.length ≤ 21 := by
  obtain ⟨f, h1, h2, h3⟩ := loop_up (body := clause_Days_L0 p day) (fun i s => s.2 = ((i : Nat) : Int) ∧ s.1.length ≤ 1 + i) p.Rules.length
    (fun f => match f with | .ex _ s => s.1.length ≤ 21 | _ => False) (fun i s hi ⟨hs, hI⟩ => by
      unfold clause_Days_L0
      rw [hs, if_pos (by simpa using hi), getI_nat hi, Option.bind_some]
      obtain ⟨c, hc, hc2⟩ : ∃ c, (if ((decide (1 ≤ p.Rules[i].From)) && (decide (p.Rules[i].From ≤ day))) = true then (subI day p.Rules[i].From).bind fun x => some (decide (x < p.Rules[i].Grace)) else some false) = some c ∧ (c = true → 1 ≤ p.Rules[i].From ∧ p.Rules[i].From ≤ day) := by
        by_cases h : ((decide (1 ≤ p.Rules[i].From)) && (decide (p.Rules[i].From ≤ day))) = true
        · rw [if_pos h]
          simp at h
          rw [subI_some (by constructor <;> omega), Option.bind_some]
          exact ⟨_, rfl, fun _ => h⟩
        · rw [if_neg h]
          exact ⟨_, rfl, fun h => by cases h⟩
      rw [hc, Option.bind_some]
      obtain ⟨e, he, he2⟩ : ∃ e, (if c = true then (subI p.Rules[i].From 1).bind fun x => (appI s.1 [x]).bind fun y => some y else some s.1) = some e ∧ e.length ≤ 1 + (i + 1) := by
        cases c with
        | true =>
          have := hc2 rfl
          rw [if_pos rfl, subI_some (by constructor <;> omega), Option.bind_some, appI_some (by simp; omega), Option.bind_some]
          exact ⟨_, rfl, by simp; omega⟩
        | false => exact ⟨_, rfl, by omega⟩
      rw [he, Option.bind_some, addI_one (by omega)]
      exact .inl ⟨_, rfl, rfl, he2⟩) (fun s ⟨hs, hI⟩ => by
      unfold clause_Days_L0
      rw [hs, if_neg (by simp)]
      exact ⟨_, rfl, trivial, by show s.1.length ≤ 21; omega⟩) ([day], 0) ⟨rfl, by simp⟩ (p.Rules.length + 1) (by omega)
  unfold clause_Days
  rw [h1, Option.bind_some]
  cases f with
  | go _ => exact h2.elim
  | ret _ => exact h3.elim
  | ex _ s =>
    have h3 : s.1.length ≤ 21 := h3
    dsimp only
    obtain ⟨r, g1, g2, g3⟩ := sortInts_spec (l := s.1) (by omega)
    have hr : r.length = s.1.length := g2.length_eq
    obtain ⟨t, k1, _, _, k4⟩ := compactInts_spec (l := r) (by omega) g3
    rw [g1, Option.bind_some, k1, Option.bind_some]
    unfold reverseInts
    rw [if_pos (by omega), Option.bind_some]
    exact ⟨_, rfl, by simp; omega⟩
theorem may_tot {p : Plan} {day n : Int} (hp : p.Rules.length ≤ 20) (hd : 0 ≤ day ∧ day ≤ 1073741824) : Tot (clause_May p day n) := by
  obtain ⟨l, h1, h2⟩ := days_tot hp hd
  unfold clause_May
  rw [h1, Option.bind_some, contains_int (by omega), Option.bind_some]
  exact Tot.pure _
def actsOf (s : Int) : List Int :=
  if s = 0 then [0, 1, 2, 7, 8, 9, 10] else if s = 1 then [1, 2, 7, 8, 9, 10] else if s = 2 then [2, 3, 7, 9, 10] else if s = 3 then [2, 4, 7, 9] else if s = 4 then [5, 6, 7, 9] else if s = 5 then [9] else []
theorem acts_eq (s : Int) : dossier_Acts s = some (actsOf s) := by
  unfold dossier_Acts actsOf
  by_cases h0 : s = 0
  · simp [h0]
  · by_cases h1 : s = 1
    · simp [h1]
    · by_cases h2 : s = 2
      · simp [h2]
      · by_cases h3 : s = 3
        · simp [h3]
        · by_cases h4 : s = 4
          · simp [h4]
          · by_cases h5 : s = 5
            · simp [h5]
            · simp [h0, h1, h2, h3, h4, h5]
theorem acts_len (s : Int) : (actsOf s).length ≤ 7 := by
  unfold actsOf
  repeat' split
  all_goals simp
theorem right_spec {d : Dossier} (h : SmL d.Drawings) : ∃ b, dossier_Right d = some b ∧ (b = true → 1 ≤ d.Id ∧ 0 ≤ d.State ∧ d.State ≤ 9 ∧ 0 ≤ d.Day ∧ d.Day ≤ 1073741824) := by
  obtain ⟨b, hb⟩ := right_tot h
  refine ⟨b, hb, fun hbt => ?_⟩
  subst hbt
  obtain ⟨g, hg⟩ := formed_tot h
  unfold dossier_Right at hb
  rw [hg] at hb
  by_cases h1 : d.Id < 1
  · simp [h1] at hb
  by_cases h2 : d.Holder < 0
  · simp [h1, h2] at hb
  by_cases h3 : d.Into < 0
  · simp [h1, h2, h3] at hb
  by_cases h4 : d.State < 0
  · simp [h1, h2, h3, h4] at hb
  by_cases h5 : 9 < d.State
  · simp [h1, h2, h3, h4, h5] at hb
  by_cases h6 : d.Day < 0
  · simp [h1, h2, h3, h4, h5, h6] at hb
  by_cases h7 : 1073741824 < d.Day
  · simp [h1, h2, h3, h4, h5, h6, h7] at hb
  exact ⟨by omega, by omega, by omega, by omega, by omega⟩
end Go.Proofs.Ytachpkjjlebadaa

namespace Go.Proofs.Ytachpkjjlebadaa
open Go.Gb
set_option linter.unusedVariables false
set_option linter.unusedSimpArgs false
set_option linter.unusedSectionVars false
set_option linter.unusedVariables false
set_option linter.unusedSimpArgs false

def noD : Dossier := ⟨0, 0, 0, 0, 0, [], 0, 0⟩
theorem step_eq {p : Plan} {d : Dossier} {a : Act} {b : Bool} (hb : dossier_Right d = some b) (hs : SmL d.Drawings) : dossier_Step p d a =
    if (!b || (decide (a.Kind < 0) || (decide (11 ≤ a.Kind) || ((decide (0 < (a.Drawings.length : Int))) && (a.Kind != 2))))) then some (noD, 1) else
    if (decide (a.Day < d.Day) || decide (1073741824 < a.Day)) then some (noD, 20) else
    if decide (a.Kind ∈ actsOf d.State) then (dossier_change p { d with Day := a.Day } a d.Day).bind (fun x => some (x.1, x.2)) else some (noD, 7) := by
  have e1 : ((if (!b) = true then some (!b) else (if decide (a.Kind < 0) = true then some (decide (a.Kind < 0)) else (if decide (11 ≤ a.Kind) = true then some (decide (11 ≤ a.Kind)) else
      some ((decide (0 < (a.Drawings.length : Int))) && (a.Kind != 2))).bind fun s => some s).bind fun s => some s) : Option Bool) =
      some (!b || (decide (a.Kind < 0) || (decide (11 ≤ a.Kind) || ((decide (0 < (a.Drawings.length : Int))) && (a.Kind != 2))))) := by
    cases b with
    | false => rfl
    | true =>
      by_cases h1 : a.Kind < 0
      · simp [h1]
      · by_cases h2 : 11 ≤ a.Kind
        · simp [h1, h2]
        · simp [h1, h2]
  have e2 : ((if decide (a.Day < d.Day) = true then some (decide (a.Day < d.Day)) else some (decide (1073741824 < a.Day))) : Option Bool) = some (decide (a.Day < d.Day) || decide (1073741824 < a.Day)) := by
    by_cases h : a.Day < d.Day <;> simp [h]
  unfold dossier_Step
  rw [hb, Option.bind_some, e1, Option.bind_some, e2, Option.bind_some, acts_eq, Option.bind_some, contains_int (by have := acts_len d.State; omega), Option.bind_some, clone_eq hs, Option.bind_some]
  split
  · rfl
  · split
    · rfl
    · by_cases h : a.Kind ∈ actsOf d.State
      · rw [if_neg (by simp [h]), if_pos (by simp [h])]
      · rw [if_pos (by simp [h]), if_neg (by simp [h])]; rfl
theorem acts_range {s k : Int} (h : k ∈ actsOf s) : 0 ≤ k ∧ k ≤ 10 := by
  unfold actsOf at h
  repeat' split at h
  all_goals (simp at h)
  all_goals omega
def plan0 : Plan := ⟨[], [], [], [], [], [], [], 0⟩
theorem may0 : clause_May plan0 5 5 = some true := by
  obtain ⟨r, g1, g2, g3⟩ := sortInts_spec (l := [5]) (by simp)
  obtain ⟨t, k1, _, k3, k4⟩ := compactInts_spec (l := r) (by have := g2.length_eq; simp at this; omega) g3
  have ht : t.length ≤ 1 := by have := g2.length_eq; simp at this; omega
  have h5 : (5 : Int) ∈ t := (k3 5).2 (g2.mem_iff.2 (by simp))
  have hD : clause_Days plan0 5 = some t.reverse := by
    unfold clause_Days
    rw [show iterL (clause_Days_L0 plan0 5) (plan0.Rules.length + 1) ([5], 0) = some (.ex 0 ([5], 0)) from rfl, Option.bind_some]
    dsimp only
    rw [g1, Option.bind_some, k1, Option.bind_some]
    unfold reverseInts
    rw [if_pos (by omega), Option.bind_some]
  unfold clause_May
  rw [hD, Option.bind_some, contains_int (by simp; omega), Option.bind_some]
  simp [h5]
def box0 (h : Int) : List Drawing := [⟨1, [⟨[⟨⟨⟨0, 0, 4, 4⟩, 0, h⟩, 2, 0, false⟩], []⟩]⟩]
theorem box_eq (h : Int) : law30_box h = some (box0 h) := rfl
theorem box_sm (h : Int) : SmL (box0 h) := ⟨by simp [box0], fun d hd => by
  obtain rfl : d = _ := List.mem_singleton.1 hd
  exact ⟨by simp, fun p hp => by
    obtain rfl : p = _ := List.mem_singleton.1 hp
    exact ⟨by simp, by simp⟩⟩⟩
theorem step1 : dossier_Step plan0 ⟨1, 0, 0, 3, 0, box0 9, 0, 0⟩ ⟨1, 5, 5, []⟩ = some (⟨1, 0, 2, 5, 5, box0 9, 0, 0⟩, 0) := by
  have hr : dossier_Right ⟨1, 0, 0, 3, 0, box0 9, 0, 0⟩ = some true := by kernel_rfl
  rw [step_eq hr (box_sm 9), if_neg (by decide), if_neg (by decide), if_pos (by decide)]
  unfold dossier_change
  dsimp only
  rw [may0]
  rfl
theorem small_true : law30_small = some true := by
  unfold law30_small
  rw [box_eq 9, Option.bind_some]
  rw [show (⟨[], [], [], [], [], [], [], 0⟩ : Plan) = plan0 from rfl, step1, Option.bind_some]
  kernel_rfl
end Go.Proofs.Ytachpkjjlebadaa

namespace Go.Proofs.Ytachpkjjlebadaa
open Go.Gb
set_option linter.unusedVariables false
set_option linter.unusedSimpArgs false
set_option linter.unusedSectionVars false
set_option linter.unusedVariables false
set_option linter.unusedSimpArgs false

theorem sameV_refl {l : List Volume} (h : l.length ≤ 1000000) : ref19_SameVolumes l l = some true := by
  obtain ⟨f, h1, h2, h3⟩ := loop_up (body := ref19_SameVolumes_L0 l l) (fun i s => s = ((i : Nat) : Int)) l.length (fun f => match f with | .ex _ _ => True | _ => False) (fun i s hi hs => by
      subst hs
      unfold ref19_SameVolumes_L0
      rw [if_pos (by simpa using hi), getI_nat hi, Option.bind_some, Option.bind_some, if_neg (by simp), addI_one (by omega)]
      exact .inl ⟨_, rfl, rfl⟩) (fun s hs => by
      subst hs
      unfold ref19_SameVolumes_L0
      rw [if_neg (by simp)]
      exact ⟨_, rfl, trivial, trivial⟩) 0 rfl (l.length + l.length + 1) (by omega)
  unfold ref19_SameVolumes
  rw [if_neg (by simp), h1, Option.bind_some]
  cases f with
  | go _ => exact h2.elim
  | ret _ => exact h3.elim
  | ex _ _ => rfl
theorem sameE_refl {l : List Entry} (h : l.length ≤ 1000000) : ref15_SameEntries l l = some true := by
  obtain ⟨f, h1, h2, h3⟩ := loop_up (body := ref15_SameEntries_L0 l l) (fun i s => s = ((i : Nat) : Int)) l.length (fun f => match f with | .ex _ _ => True | _ => False) (fun i s hi hs => by
      subst hs
      unfold ref15_SameEntries_L0
      rw [if_pos (by simpa using hi), getI_nat hi, Option.bind_some, Option.bind_some, if_neg (by simp), addI_one (by omega)]
      exact .inl ⟨_, rfl, rfl⟩) (fun s hs => by
      subst hs
      unfold ref15_SameEntries_L0
      rw [if_neg (by simp)]
      exact ⟨_, rfl, trivial, trivial⟩) 0 rfl (l.length + l.length + 1) (by omega)
  unfold ref15_SameEntries
  rw [if_neg (by simp), h1, Option.bind_some]
  cases f with
  | go _ => exact h2.elim
  | ret _ => exact h3.elim
  | ex _ _ => rfl
theorem sameD_refl {d : Drawing} (h : SmD d) : ref19_Same d d = some true := by
  have h9 := h.1
  obtain ⟨f, h1, h2, h3⟩ := loop_up (body := ref19_Same_L0 d d) (fun i s => s = ((i : Nat) : Int)) d.Phases.length (fun f => match f with | .ex _ _ => True | _ => False) (fun i s hi hs => by
      subst hs
      have hp := h.2 _ (List.getElem_mem hi)
      unfold ref19_Same_L0
      rw [if_pos (by simpa using hi), getI_nat hi, Option.bind_some, Option.bind_some, sameV_refl (by have := hp.1; omega), Option.bind_some, if_neg (by simp), Option.bind_some, Option.bind_some,
        sameE_refl (by have := hp.2; omega), Option.bind_some, Option.bind_some, if_neg (by simp), addI_one (by omega)]
      exact .inl ⟨_, rfl, rfl⟩) (fun s hs => by
      subst hs
      unfold ref19_Same_L0
      rw [if_neg (by simp)]
      exact ⟨_, rfl, trivial, trivial⟩) 0 rfl (d.Phases.length + 1) (by omega)
  unfold ref19_Same
  rw [if_neg (by simp), h1, Option.bind_some]
  cases f with
  | go _ => exact h2.elim
  | ret _ => exact h3.elim
  | ex _ _ => rfl
theorem same_refl {d : Dossier} (h : SmL d.Drawings) : ref30_Same d d = some true := by
  have h9 := h.1
  obtain ⟨f, h1, h2, h3⟩ := loop_up (body := ref30_Same_L0 d d) (fun i s => s = ((i : Nat) : Int)) d.Drawings.length (fun f => match f with | .ex _ _ => True | _ => False) (fun i s hi hs => by
      subst hs
      unfold ref30_Same_L0
      rw [if_pos (by simpa using hi), getI_nat hi, Option.bind_some, Option.bind_some, sameD_refl (h.2 _ (List.getElem_mem hi)), Option.bind_some, if_neg (by simp), addI_one (by omega)]
      exact .inl ⟨_, rfl, rfl⟩) (fun s hs => by
      subst hs
      unfold ref30_Same_L0
      rw [if_neg (by simp)]
      exact ⟨_, rfl, trivial, trivial⟩) 0 rfl (d.Drawings.length + 1) (by omega)
  unfold ref30_Same
  rw [if_neg (by simp), h1, Option.bind_some]
  cases f with
  | go _ => exact h2.elim
  | ret _ => exact h3.elim
  | ex _ _ => rfl
theorem step_ok {p : Plan} {d n : Dossier} {a : Act} {b : Bool} {e : Int} (hb : dossier_Right d = some b) (hs : SmL d.Drawings) (h : dossier_Step p d a = some (n, e)) (he : e = 0) :
    b = true ∧ a.Kind ∈ actsOf d.State ∧ d.Day ≤ a.Day ∧ a.Day ≤ 1073741824 ∧ dossier_change p { d with Day := a.Day } a d.Day = some (n, 0) := by
  subst he
  rw [step_eq hb hs] at h
  split at h
  · simp at h
  · rename_i h1
    split at h
    · simp at h
    · rename_i h2
      split at h
      · rename_i h3
        obtain ⟨x, hx, h⟩ := bind_some h
        have h := Option.some.inj h
        simp at h1 h2 h3
        have hxx : x = (n, 0) := h
        subst hxx
        exact ⟨h1.1, h3, by omega, by omega, hx⟩
      · simp at h
end Go.Proofs.Ytachpkjjlebadaa

namespace Go.Proofs.Ytachpkjjlebadaa
open Go.Gb
set_option linter.unusedVariables false
set_option linter.unusedSimpArgs false
set_option linter.unusedSectionVars false
set_option linter.unusedVariables false
set_option linter.unusedSimpArgs false

theorem sm_nil : SmL [] := ⟨by simp, fun d hd => by simp at hd⟩
theorem amend_sm {d : Dossier} {l : List Drawing} (hd : SmL d.Drawings) (hl : SmL l) : ∃ r, dossier_amend d l = some r ∧ SmL r.1.Drawings := by
  obtain ⟨g, hg⟩ := formed_tot hl
  unfold dossier_amend
  rw [hg, Option.bind_some]
  cases g with
  | false => rw [if_pos (show (!false) = true from rfl)]; exact ⟨_, rfl, sm_nil⟩
  | true =>
    rw [if_neg (by simp)]
    obtain ⟨c, hc⟩ : Tot (if (decide (2 ≤ d.State)) = true then (dossier_Less l d.Drawings).bind fun x => some (!x) else some false) := Tot.ite (fun _ => Tot.bind (less_tot hl hd) fun _ _ => Tot.pure _) fun _ => Tot.pure _
    rw [hc, Option.bind_some]
    cases c with
    | true => rw [if_pos rfl, Option.bind_some, clone_eq hl, Option.bind_some]; exact ⟨_, rfl, hl⟩
    | false => rw [if_neg (by simp), Option.bind_some, clone_eq hl, Option.bind_some]; exact ⟨_, rfl, hl⟩
theorem change_sm {p : Plan} {d : Dossier} {a : Act} {before : Int} (hp : p.Rules.length ≤ 20) (hd : SmL d.Drawings) (hl : SmL a.Drawings) (hday : 0 ≤ a.Day ∧ a.Day ≤ 1073741824) (hbe : 0 ≤ before ∧ before ≤ 1073741824)
    (hk : 0 ≤ a.Kind ∧ a.Kind ≤ 10) : ∃ r, dossier_change p d a before = some r ∧ SmL r.1.Drawings := by
  obtain ⟨m, hm⟩ := may_tot (n := a.N) hp hday
  obtain ⟨am, ham, hams⟩ := amend_sm hd hl
  have hsub : subI a.Day before = some (a.Day - before) := subI_some (by constructor <;> omega)
  unfold dossier_change
  rw [hm, ham, hsub]
  have : a.Kind = 0 ∨ a.Kind = 1 ∨ a.Kind = 2 ∨ a.Kind = 3 ∨ a.Kind = 4 ∨ a.Kind = 5 ∨ a.Kind = 6 ∨ a.Kind = 7 ∨ a.Kind = 8 ∨ a.Kind = 9 ∨ a.Kind = 10 := by omega
  rcases this with h | h | h | h | h | h | h | h | h | h | h <;> rw [h]
  · exact ⟨_, rfl, hd⟩
  · cases m
    · exact ⟨_, rfl, sm_nil⟩
    · exact ⟨_, rfl, hd⟩
  · exact ⟨_, rfl, hams⟩
  · exact ⟨_, rfl, hd⟩
  · exact ⟨_, rfl, hd⟩
  · by_cases hc : ((decide (a.N < 0)) || (decide ((d.Drawings.length : Int) ≤ a.N))) = true
    · rw [if_pos hc]; exact ⟨_, rfl, sm_nil⟩
    · rw [if_neg hc]; exact ⟨_, rfl, hd⟩
  · exact ⟨_, rfl, hd⟩
  · exact ⟨_, rfl, hd⟩
  · by_cases hc : a.Day - before < 365
    · exact ⟨(noD, 20), by simp [hc, noD], sm_nil⟩
    · exact ⟨({ d with State := 8 }, 0), by simp [hc], hd⟩
  · by_cases hc : ((decide (a.N < 0)) || (a.N == d.Holder)) = true
    · rw [if_pos hc]; exact ⟨_, rfl, sm_nil⟩
    · rw [if_neg hc]; exact ⟨_, rfl, hd⟩
  · by_cases hc : ((decide (a.N < 1)) || (a.N == d.Id)) = true
    · rw [if_pos hc]; exact ⟨_, rfl, sm_nil⟩
    · rw [if_neg hc]; exact ⟨_, rfl, hd⟩
theorem step_sm {p : Plan} {d : Dossier} {a : Act} (hp : p.Rules.length ≤ 20) (hd : SmL d.Drawings) (hl : SmL a.Drawings) : ∃ r, dossier_Step p d a = some r ∧ SmL r.1.Drawings := by
  obtain ⟨b, hb, hb2⟩ := right_spec hd
  rw [step_eq hb hd]
  split
  · exact ⟨_, rfl, sm_nil⟩
  · rename_i h1
    split
    · exact ⟨_, rfl, sm_nil⟩
    · rename_i h2
      split
      · rename_i h3
        simp at h1 h2 h3
        have hr := hb2 h1.1
        obtain ⟨r, h4, h5⟩ := change_sm (d := { d with Day := a.Day }) (before := d.Day) hp hd hl ⟨by omega, by omega⟩ ⟨by omega, by omega⟩ (acts_range h3)
        rw [h4, Option.bind_some]
        exact ⟨_, rfl, h5⟩
      · exact ⟨_, rfl, sm_nil⟩
theorem change_plan {p q : Plan} {d : Dossier} {a : Act} {before : Int} (h : a.Kind ≠ 1) : dossier_change p d a before = dossier_change q d a before := by
  unfold dossier_change
  rw [show (a.Kind == 1) = false from by simpa using h]
  rfl
theorem change1 {p : Plan} {d : Dossier} {a : Act} {before : Int} {m : Bool} (h : a.Kind = 1) (hm : clause_May p a.Day a.N = some m) : dossier_change p d a before = if m = true then some ({ d with State := 2, Rule := a.N }, 0) else some (noD, 20) := by
  unfold dossier_change
  rw [hm, h]
  cases m <;> rfl
theorem law_DossierFrozen (p q : Plan) (d : Dossier) (a : Act) (hd : Lens d.Drawings) (ha : Lens a.Drawings) : law30_DossierFrozen p q d a = some true := by
  obtain ⟨b, hb, hbs⟩ := few_all (p := p) (d := d) (l := [a]) hd (by show 1 ≤ 9223372036854775807; omega) (fun x hx => by obtain rfl := List.mem_singleton.1 hx; exact ha)
  obtain ⟨c, hc, hcs⟩ := few_all (p := q) (d := d) (l := []) hd (by show 0 ≤ 9223372036854775807; omega) (fun x hx => by simp at hx)
  unfold law30_DossierFrozen
  rw [small_true, Option.bind_some, hb, Option.bind_some]
  cases b with
  | false => rw [if_pos (show (!false) = true from rfl), Option.bind_some, if_pos rfl]
  | true =>
    obtain ⟨hp, _, hsd, hsa⟩ := hbs rfl
    have hsa := hsa a (by simp)
    rw [if_neg (by simp), hc, Option.bind_some, Option.bind_some]
    cases c with
    | false => rw [if_pos (show (!false) = true from rfl)]
    | true =>
      have hq := (hcs rfl).1
      rw [if_neg (by simp)]
      obtain ⟨⟨n, e⟩, hst, hsm⟩ := step_sm (a := a) hp hsd hsa
      obtain ⟨⟨n', e'⟩, hst', hsm'⟩ := step_sm (a := a) hq hsd hsa
      obtain ⟨r, hr, hr2⟩ := right_spec hsd
      rw [hst, Option.bind_some, hst', Option.bind_some]
      by_cases hk : a.Kind = 1
      · rw [if_neg (by simp [hk]), if_pos rfl]
        have key : ∀ (p : Plan) (n : Dossier) (e : Int), p.Rules.length ≤ 20 → dossier_Step p d a = some (n, e) → e = 0 → clause_May p a.Day a.N = some true ∧ n.Rule = a.N := by
          intro p n e hp hst he
          obtain ⟨h1, h2, h3, h4, h5⟩ := step_ok hr hsd hst he
          have hR := hr2 h1
          obtain ⟨m, hm⟩ := may_tot (p := p) (day := a.Day) (n := a.N) hp ⟨by omega, by omega⟩
          rw [change1 hk hm] at h5
          cases m with
          | false => simp [noD] at h5
          | true =>
            rw [if_pos rfl] at h5
            have := congrArg (fun x : Dossier × Int => x.1.Rule) (Option.some.inj h5)
            exact ⟨hm, this.symm⟩
        have e1 : ((if (e != 0) = true then some true else (if (n.Rule == a.N) = true then (clause_May p a.Day a.N).bind fun x => some x else some false).bind fun x => some x) : Option Bool) = some true := by
          by_cases he : e = 0
          · obtain ⟨k1, k2⟩ := key p n e hp hst he
            rw [if_neg (by simp [he]), if_pos (by simp [k2]), k1]; rfl
          · rw [if_pos (by simp [he])]
        have e2 : ((if (e' != 0) = true then some true else (clause_May q a.Day a.N).bind fun x => some x) : Option Bool) = some true := by
          by_cases he : e' = 0
          · obtain ⟨k1, k2⟩ := key q n' e' hq hst' he
            rw [if_neg (by simp [he]), k1]; rfl
          · rw [if_pos (by simp [he])]
        rw [e1, Option.bind_some, Option.bind_some, if_pos rfl, e2]
        rfl
      · rw [if_pos (by simp [hk])]
        have hpq : dossier_Step p d a = dossier_Step q d a := by
          rw [step_eq hr hsd, step_eq hr hsd, change_plan (p := p) (q := q) hk]
        rw [hpq, hst'] at hst
        obtain ⟨rfl, rfl⟩ := Prod.mk.inj (Option.some.inj hst)
        rw [if_pos (by simp), same_refl hsm']
        rfl
end Go.Proofs.Ytachpkjjlebadaa

