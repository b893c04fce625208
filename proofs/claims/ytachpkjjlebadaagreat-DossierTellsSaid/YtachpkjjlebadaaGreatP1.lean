/- The plain part of the proof (no program in sight), part 1 -/
import Derived.Test.YtachpkjjlebadaaGreatT3
namespace Go.Proofs.YtachpkjjlebadaaGreat
open Go.Gb
set_option linter.unusedVariables false
structure Slab where
  Z0 : Int
  Z1 : Int
  Area : (List Rect)
  deriving DecidableEq, Inhabited
end Go.Proofs.YtachpkjjlebadaaGreat

namespace Go.Proofs.YtachpkjjlebadaaGreat
open Go.Gb
set_option linter.unusedVariables false
set_option linter.unusedSimpArgs false
set_option linter.unusedSectionVars false
set_option linter.unusedVariables false
set_option linter.unusedSimpArgs false

/-- The cell (x, y) is in the rectangle. -/
def rin (r : Rect) (x y : Int) : Prop := (r.X0 ≤ x ∧ x < r.X1) ∧ r.Y0 ≤ y ∧ y < r.Y1
instance (r : Rect) (x y : Int) : Decidable (rin r x y) := inferInstanceAs (Decidable (_ ∧ _))
def cells (l : List Rect) (x y : Int) : Prop := ∃ r ∈ l, rin r x y
def VR (r : Rect) : Prop := 0 ≤ r.X0 ∧ r.X0 < r.X1 ∧ r.X1 ≤ 1048576 ∧ 0 ≤ r.Y0 ∧ r.Y0 < r.Y1 ∧ r.Y1 ≤ 1048576
instance (r : Rect) : Decidable (VR r) := inferInstanceAs (Decidable (_ ∧ _))
abbrev Col := Runs Bool
theorem rect_Right_eq (r : Rect) : rect_Right r = some (decide (VR r)) := by
  unfold rect_Right
  congr 1
  rw [Bool.eq_iff_iff, decide_eq_true_iff]
  simp only [Bool.and_eq_true, decide_eq_true_eq]
  unfold VR
  constructor
  · rintro ⟨⟨⟨⟨⟨h1, h2⟩, h3⟩, h4⟩, h5⟩, h6⟩; exact ⟨h1, h2, h3, h4, h5, h6⟩
  · rintro ⟨h1, h2, h3, h4, h5, h6⟩; exact ⟨⟨⟨⟨⟨h1, h2⟩, h3⟩, h4⟩, h5⟩, h6⟩

/-! Merging intervals in the order of their beginnings. -/
/-! The column of rectangles at x. -/
end Go.Proofs.YtachpkjjlebadaaGreat

namespace Go.Proofs.YtachpkjjlebadaaGreat
open Go.Gb
set_option linter.unusedVariables false
set_option linter.unusedSimpArgs false
set_option linter.unusedSectionVars false
set_option linter.unusedVariables false
set_option linter.unusedSimpArgs false

/-! The list of rectangles that runs of columns stand for. -/
def flatG (G : Runs Col) : List Rect := G.flatMap fun g => g.2.2.map fun s => ⟨g.1, s.1, g.2.1, s.2.1⟩
/-- The list is the form of the set of cells. -/
def IsForm (S : Int → Int → Prop) (out : List Rect) : Prop :=
  ∃ G : Runs Col, Canon [] G ∧ (∀ a b c, (a, b, c) ∈ G → Canon false c) ∧ (∀ x y, rval false (rval [] G x) y = true ↔ S x y) ∧ out = flatG G
theorem IsForm.congr {S S' : Int → Int → Prop} {out : List Rect} (h : IsForm S out) (he : ∀ x y, S x y ↔ S' x y) : IsForm S' out := by
  obtain ⟨G, h1, h2, h3, rfl⟩ := h
  exact ⟨G, h1, h2, fun x y => (h3 x y).trans (he x y), rfl⟩
/-- The form has the cells of the set. -/
theorem rval_true_mem {c : Col} {y : Int} : rval false c y = true → ∃ a b, (a, b, true) ∈ c ∧ a ≤ y ∧ y < b := by
  intro h
  rcases rval_mem (e := false) (l := c) (x := y) with h1 | ⟨a, b, h1, h2⟩
  · rw [h] at h1; simp at h1
  · rw [h] at h1; exact ⟨a, b, h1, h2⟩
theorem IsForm.cells {S : Int → Int → Prop} {out : List Rect} (h : IsForm S out) (x y : Int) : cells out x y ↔ S x y := by
  obtain ⟨G, h1, h2, h3, rfl⟩ := h
  rw [← h3]
  constructor
  · rintro ⟨r, hr, hx, hy⟩
    simp only [flatG, List.mem_flatMap, List.mem_map] at hr
    obtain ⟨⟨a, b, c⟩, hg, ⟨f, t, v⟩, hs, rfl⟩ := hr
    have hc := h2 a b c hg
    have hv : v = true := by
      have := (canon_mem hc hs).2
      cases v <;> simp_all
    subst hv
    rw [rval_of_mem h1 hg hx.1 hx.2]
    exact rval_of_mem hc hs hy.1 hy.2
  · intro h
    obtain ⟨f, t, hs, hy1, hy2⟩ := rval_true_mem h
    rcases rval_mem (e := []) (l := G) (x := x) with h4 | ⟨a, b, h4, h5⟩
    · rw [h4] at hs; simp at hs
    · refine ⟨⟨a, f, b, t⟩, ?_, h5, hy1, hy2⟩
      simp only [flatG, List.mem_flatMap, List.mem_map]
      exact ⟨_, h4, _, hs, rfl⟩
theorem form_nil : IsForm (fun _ _ => False) [] := ⟨[], trivial, by simp, by simp [rval], rfl⟩

/-! Strips -/
end Go.Proofs.YtachpkjjlebadaaGreat

namespace Go.Proofs.YtachpkjjlebadaaGreat
open Go.Gb
set_option linter.unusedVariables false
set_option linter.unusedSimpArgs false
set_option linter.unusedSectionVars false
set_option linter.unusedVariables false
set_option linter.unusedSimpArgs false

instance (l : List Rect) (x y : Int) : Decidable (cells l x y) := inferInstanceAs (Decidable (∃ r ∈ l, rin r x y))
/-- The list is a region. -/
def RR (a : List Rect) : Prop := (∀ r ∈ a, VR r) ∧ a.length ≤ 200 ∧ IsForm (cells a) a
theorem RR_nil : RR [] := ⟨by simp, by simp, form_nil.congr fun x y => by simp [cells]⟩

/-! Combining -/
end Go.Proofs.YtachpkjjlebadaaGreat

namespace Go.Proofs.YtachpkjjlebadaaGreat
open Go.Gb
set_option linter.unusedVariables false
set_option linter.unusedSimpArgs false
set_option linter.unusedSectionVars false
set_option linter.unusedVariables false
set_option linter.unusedSimpArgs false

def slabRuns (s : List Slab) : Runs (List Rect) := s.map fun x => (x.Z0, x.Z1, x.Area)
/-- The cross-section at z. -/
def sect (s : List Slab) (z : Int) : List Rect := rval [] (slabRuns s) z
/-- The cube (x, y, z) is in the solid. -/
def scells (s : List Slab) (x y z : Int) : Prop := cells (sect s z) x y
instance (s : List Slab) (x y z : Int) : Decidable (scells s x y z) := inferInstanceAs (Decidable (cells _ _ _))
/-- The list is the solid of the set of cubes. -/
structure IsSolid (S : Int → Int → Int → Prop) (out : List Slab) : Prop where
  canon : Canon [] (slabRuns out)
  form : ∀ z, IsForm (fun x y => S x y z) (sect out z)
theorem IsSolid.congr {S S' : Int → Int → Int → Prop} {out : List Slab} (h : IsSolid S out) (he : ∀ x y z, S x y z ↔ S' x y z) : IsSolid S' out :=
  ⟨h.canon, fun z => (h.form z).congr fun x y => he x y z⟩
theorem IsSolid.cells {S : Int → Int → Int → Prop} {out : List Slab} (h : IsSolid S out) (x y z : Int) : scells out x y z ↔ S x y z := (h.form z).cells x y
/-- The list is a solid. -/
structure SS (s : List Slab) : Prop where
  len : s.length ≤ 80
  canon : Canon [] (slabRuns s)
  ok : ∀ b ∈ s, 0 ≤ b.Z0 ∧ b.Z1 ≤ 4096 ∧ RR b.Area
theorem SS.sect {s : List Slab} (h : SS s) (z : Int) : RR (sect s z) := by
  rcases rval_mem (e := []) (l := slabRuns s) (x := z) with h1 | ⟨a, b, h1, _⟩
  · unfold YtachpkjjlebadaaGreat.sect; rw [h1]; exact RR_nil
  · obtain ⟨x, hx, he⟩ := List.mem_map.1 h1
    simp only [Prod.mk.injEq] at he
    unfold YtachpkjjlebadaaGreat.sect; rw [← he.2.2]; exact (h.ok x hx).2.2
/-! Right -/
/-! put -/
/-! Heights -/
/-! The solid of a function of z that is constant between cuts -/
end Go.Proofs.YtachpkjjlebadaaGreat

namespace Go.Proofs.YtachpkjjlebadaaGreat
open Go.Gb
set_option linter.unusedVariables false
set_option linter.unusedSimpArgs false
set_option linter.unusedSectionVars false
set_option linter.unusedVariables false
set_option linter.unusedSimpArgs false

/-! Of -/
def VB (b : Box) : Prop := VR b.Base ∧ 0 ≤ b.Z0 ∧ b.Z0 < b.Z1 ∧ b.Z1 ≤ 4096
instance (b : Box) : Decidable (VB b) := inferInstanceAs (Decidable (_ ∧ _))
def bases (l : List Box) (z : Int) : List Rect := (l.filter fun b => decide (b.Z0 ≤ z) && decide (z < b.Z1)).map (·.Base)
/-! Combining -/
end Go.Proofs.YtachpkjjlebadaaGreat

namespace Go.Proofs.YtachpkjjlebadaaGreat
open Go.Gb
set_option linter.unusedVariables false
set_option linter.unusedSimpArgs false
set_option linter.unusedSectionVars false
set_option linter.unusedVariables false
set_option linter.unusedSimpArgs false

def ends (l : List (Int × Int)) : List Int := l.flatMap fun r => [r.1, r.2]
/-- What holds at a cell hangs on the rectangles alone that the cell is in. -/
structure Hangs (S : Int → Int → Prop) (l : List Rect) : Prop where
  same : ∀ x y x' y', (∀ r ∈ l, rin r x y ↔ rin r x' y') → (S x y ↔ S x' y')
  none : ∀ x y, (∀ r ∈ l, ¬ rin r x y) → ¬ S x y
/-- What holds at a cube hangs on the boxes alone that it is in. -/
structure Hangs3 (S : Int → Int → Int → Prop) (l : List Box) : Prop where
  same : ∀ x y z x' y' z', (∀ b ∈ l, (rin b.Base x y ∧ b.Z0 ≤ z ∧ z < b.Z1) ↔ (rin b.Base x' y' ∧ b.Z0 ≤ z' ∧ z' < b.Z1)) → (S x y z ↔ S x' y' z')
  none : ∀ x y z, (∀ b ∈ l, ¬ (rin b.Base x y ∧ b.Z0 ≤ z ∧ z < b.Z1)) → ¬ S x y z
theorem Hangs3.at {S : Int → Int → Int → Prop} {l : List Box} (h : Hangs3 S l) (z : Int) : Hangs (fun x y => S x y z) (bases l z) := by
  have hb : ∀ b ∈ l, (b.Z0 ≤ z ∧ z < b.Z1) → b.Base ∈ bases l z := fun b hb hz => List.mem_map.2 ⟨b, List.mem_filter.2 ⟨hb, by simpa using hz⟩, rfl⟩
  refine ⟨fun x y x' y' he => h.same _ _ _ _ _ _ fun b hbl => ?_, fun x y hno => h.none _ _ _ fun b hbl hh => hno _ (hb b hbl hh.2) hh.1⟩
  constructor
  · rintro ⟨h1, h2⟩; exact ⟨(he _ (hb b hbl h2)).1 h1, h2⟩
  · rintro ⟨h1, h2⟩; exact ⟨(he _ (hb b hbl h2)).2 h1, h2⟩
theorem Hangs3.congr {S T : Int → Int → Int → Prop} {l : List Box} (h : Hangs3 S l) (he : ∀ x y z, S x y z ↔ T x y z) : Hangs3 T l :=
  ⟨fun x y z x' y' z' hh => by rw [← he, ← he]; exact h.same _ _ _ _ _ _ hh, fun x y z hn => by rw [← he]; exact h.none _ _ _ hn⟩
end Go.Proofs.YtachpkjjlebadaaGreat

namespace Go.Proofs.YtachpkjjlebadaaGreat
open Go.Gb
set_option linter.unusedVariables false
set_option linter.unusedSimpArgs false
set_option linter.unusedSectionVars false
set_option linter.unusedVariables false
set_option linter.unusedSimpArgs false

def Tot {α : Type} (o : Option α) : Prop := ∃ r, o = some r
theorem Tot.pure {α : Type} (x : α) : Tot (some x) := ⟨x, rfl⟩
theorem Tot.bind {α β : Type} {o : Option α} {f : α → Option β} (h : Tot o) (g : ∀ x, o = some x → Tot (f x)) : Tot (o.bind f) := by
  obtain ⟨x, hx⟩ := h
  rw [hx]; exact g x hx
theorem Tot.ite {α : Type} {c : Prop} [Decidable c] {x y : Option α} (h : c → Tot x) (g : ¬c → Tot y) : Tot (if c then x else y) := by
  split
  · exact h ‹_›
  · exact g ‹_›
/-- a loop that counts -/
theorem tot_loop {σ ρ : Type} {body : σ → Option (Flow σ ρ)} (idx : σ → Int) (I : σ → Prop) (N : Nat)
    (step : ∀ s i, idx s = ((i : Nat) : Int) → i < N → I s → (∃ s', body s = some (.go s') ∧ idx s' = ((i + 1 : Nat) : Int) ∧ I s') ∨ ∃ f, body s = some f ∧ f.ends)
    (done : ∀ s, idx s = ((N : Nat) : Int) → I s → ∃ f, body s = some f ∧ f.ends) (s0 : σ) (h0 : idx s0 = 0) (hI : I s0) {fuel : Nat} (hf : N < fuel) : ∃ f, iterL body fuel s0 = some f ∧ f.ends := by
  obtain ⟨f, h1, h2, _⟩ := loop_up (body := body) (fun i s => idx s = ((i : Nat) : Int) ∧ I s) N (fun _ => True)
    (fun i s hi hs => (step s i hs.1 hi hs.2).imp (fun ⟨s', a, b, c⟩ => ⟨s', a, b, c⟩) fun ⟨f, a, b⟩ => ⟨f, a, b, trivial⟩)
    (fun s hs => let ⟨f, a, b⟩ := done s hs.1 hs.2; ⟨f, a, b, trivial⟩) s0 ⟨h0, hI⟩ fuel hf
  exact ⟨f, h1, h2⟩
theorem Tot.loop {σ ρ τ : Type} {o : Option (Flow σ ρ)} {f : Flow σ ρ → Option τ} (h : ∃ x, o = some x ∧ x.ends) (g : ∀ x, x.ends → Tot (f x)) : Tot (o.bind f) := by
  obtain ⟨x, hx, he⟩ := h
  rw [hx]; exact g x he

theorem containsV_tot {s : List Volume} {f : Volume → Option Bool} (hl : s.length ≤ 1000000) (hf : ∀ x, Tot (f x)) : Tot (slices_ContainsFunc_Volume s f) := by
  unfold slices_ContainsFunc_Volume
  refine Tot.bind ?_ fun _ _ => Tot.pure _
  unfold slices_IndexFunc_Volume
  refine Tot.loop (tot_loop (fun s => s) (fun _ => True) s.length ?_ ?_ 0 rfl trivial (by omega)) ?_
  · intro i n hi hn _
    subst hi
    unfold slices_IndexFunc_Volume_L0
    obtain ⟨b, hb⟩ := hf s[n]
    rw [if_pos (by simpa using hn), getI_nat hn]
    simp only [Option.bind_some, hb]
    cases b with
    | true => exact .inr ⟨_, rfl, trivial⟩
    | false =>
      rw [if_neg (by simp), addI_one (by omega)]
      exact .inl ⟨_, rfl, rfl, trivial⟩
  · intro i hi _
    subst hi
    unfold slices_IndexFunc_Volume_L0
    rw [if_neg (by simp)]
    exact ⟨_, rfl, trivial⟩
  · intro x hx
    cases x with
    | go _ => exact hx.elim
    | ex _ _ => exact Tot.pure _
    | ret _ => exact Tot.pure _
theorem containsD_tot {s : List Drawing} {f : Drawing → Option Bool} (hl : s.length ≤ 1000000) (hf : ∀ x ∈ s, Tot (f x)) : Tot (slices_ContainsFunc_Drawing s f) := by
  unfold slices_ContainsFunc_Drawing
  refine Tot.bind ?_ fun _ _ => Tot.pure _
  unfold slices_IndexFunc_Drawing
  refine Tot.loop (tot_loop (fun s => s) (fun _ => True) s.length ?_ ?_ 0 rfl trivial (by omega)) ?_
  · intro i n hi hn _
    subst hi
    unfold slices_IndexFunc_Drawing_L0
    obtain ⟨b, hb⟩ := hf s[n] (List.getElem_mem hn)
    rw [if_pos (by simpa using hn), getI_nat hn]
    simp only [Option.bind_some, hb]
    cases b with
    | true => exact .inr ⟨_, rfl, trivial⟩
    | false =>
      rw [if_neg (by simp), addI_one (by omega)]
      exact .inl ⟨_, rfl, rfl, trivial⟩
  · intro i hi _
    subst hi
    unfold slices_IndexFunc_Drawing_L0
    rw [if_neg (by simp)]
    exact ⟨_, rfl, trivial⟩
  · intro x hx
    cases x with
    | go _ => exact hx.elim
    | ex _ _ => exact Tot.pure _
    | ret _ => exact Tot.pure _
theorem strI_nat {s : ByteArray} {n : Nat} (h : n < s.size) : Tot (strI s (n : Int)) := by
  unfold strI
  rw [if_pos (by omega)]
  have : s[((n : Nat) : Int).toNat]? = some s[n] := by simp [h]
  rw [this]; exact Tot.pure _
theorem letter_tot (c : IK .u8) : Tot (lex_letter c) := Tot.pure _
theorem digit_tot (c : IK .u8) : Tot (lex_digit c) := Tot.pure _
theorem word1_tot (c : IK .u8) : Tot (lex_Word_1 c) := by
  unfold lex_Word_1
  refine (letter_tot c).bind fun x _ => ?_
  refine Tot.bind (Tot.ite (fun _ => Tot.pure _) fun _ => (digit_tot c).bind fun _ _ => Tot.pure _) fun _ _ => Tot.pure _
theorem span_tot {s : ByteArray} {f : IK .u8 → Option Bool} (hs : s.size ≤ 1000000) (hf : ∀ c, Tot (f c)) : Tot (lex_span s f) := by
  unfold lex_span
  refine Tot.loop (tot_loop (fun s => s) (fun _ => True) s.size ?_ ?_ 0 rfl trivial (by omega)) ?_
  · intro i n hi hn _
    subst hi
    unfold lex_span_L0
    obtain ⟨c, hc⟩ := strI_nat hn
    obtain ⟨b, hb⟩ := hf c
    rw [if_pos (by simpa using hn), hc]
    simp only [Option.bind_some, hb]
    cases b with
    | false => exact .inr ⟨_, rfl, trivial⟩
    | true =>
      rw [if_pos rfl, addI_one (by omega)]
      exact .inl ⟨_, rfl, rfl, trivial⟩
  · intro i hi _
    subst hi
    unfold lex_span_L0
    rw [if_neg (by simp)]
    exact ⟨_, rfl, trivial⟩
  · intro x hx
    cases x with
    | go _ => exact hx.elim
    | ex _ _ => exact Tot.pure _
    | ret _ => exact Tot.pure _
theorem word_tot (s : ByteArray) : ∃ b, lex_Word s = some b ∧ (b = true → s.size ≤ 20) := by
  have h1 : Tot (if ((s.toList == (⟨#[]⟩ : ByteArray).toList)) then some true else (strI s 0).bind fun c => (lex_letter c).bind fun l => some (!l)) := by
    refine Tot.ite (fun _ => Tot.pure _) fun h => ?_
    have hs : 0 < s.size := by
      rcases Nat.eq_zero_or_pos s.size with h0 | h0
      · exfalso
        apply h
        have : s = ⟨#[]⟩ := by
          cases s with | mk d =>
            have : d.size = 0 := h0
            have : d = #[] := Array.eq_empty_of_size_eq_zero this
            rw [this]
        rw [this]; simp
      · exact h0
    exact (strI_nat hs).bind fun c _ => (letter_tot c).bind fun _ _ => Tot.pure _
  obtain ⟨x, hx⟩ := h1
  unfold lex_Word
  rw [hx]
  simp only [Option.bind_some]
  by_cases hc : (x || decide (20 < (s.size : Int))) = true
  · rw [if_pos hc]; exact ⟨_, rfl, fun h => by simp at h⟩
  · rw [if_neg hc]
    have h20 : s.size ≤ 20 := by simp at hc; omega
    obtain ⟨n, hn⟩ := span_tot (s := s) (by omega) word1_tot
    rw [hn]
    exact ⟨_, rfl, fun _ => h20⟩
theorem contains_tot {s t : ByteArray} (h : s.size ≤ 4000) : Tot (strings_Contains s t) := by
  unfold strings_Contains
  rw [if_pos (by omega)]
  exact Tot.pure _
theorem i64_max : IntKind.i64.max = 9223372036854775807 := by simp [IntKind.max, IntKind.bits, IntKind.signed]
theorem catI_some {s t : ByteArray} (h : s.size + t.size ≤ 1000000) : catI s t = some (s ++ t) := by
  unfold catI
  rw [i64_max, if_pos (by omega)]
theorem name_aux (res s : ByteArray) (hr : res.size ≤ 4000) : Tot ((lex_Word s).bind fun x =>
    (if x then (catI (⟨#[32]⟩ : ByteArray) s).bind fun y => (catI y (⟨#[32]⟩ : ByteArray)).bind fun z => (strings_Contains res z).bind fun b => some (!b) else some false).bind fun b => some b) := by
  obtain ⟨b, hb, h20⟩ := word_tot s
  refine Tot.bind ⟨b, hb⟩ fun x hx => ?_
  refine Tot.bind (Tot.ite (fun h => ?_) fun _ => Tot.pure _) fun _ _ => Tot.pure _
  have hs : s.size ≤ 20 := h20 (by rw [← Option.some.inj (hx.symm.trans hb)]; exact h)
  have h1 : (⟨#[32]⟩ : ByteArray).size = 1 := rfl
  refine Tot.bind ⟨_, catI_some (by omega)⟩ fun y hy => ?_
  have hy : y.size = 1 + s.size := by
    rw [catI_some (by omega)] at hy
    rw [← Option.some.inj hy, ByteArray.size_append, h1]
  refine Tot.bind ⟨_, catI_some (by omega)⟩ fun z _ => ?_
  exact Tot.bind (contains_tot hr) fun _ _ => Tot.pure _
theorem name_tot (s : ByteArray) : Tot (syntax_Name s) := by
  unfold syntax_Name
  exact name_aux _ s (Nat.le_of_ble_eq_true (by kernel_rfl))
end Go.Proofs.YtachpkjjlebadaaGreat

namespace Go.Proofs.YtachpkjjlebadaaGreat
open Go.Gb
set_option linter.unusedVariables false
set_option linter.unusedSimpArgs false
set_option linter.unusedSectionVars false
set_option linter.unusedVariables false
set_option linter.unusedSimpArgs false

theorem addI_one' {i : Nat} (h : i < 9223372036854775807) : addI (i : Int) 1 = some ((i + 1 : Nat) : Int) := by
  rw [addI_some (by constructor <;> omega)]; simp
def SmP (p : Phase) : Prop := p.Volumes.length ≤ 12 ∧ p.Gives.length ≤ 6
def SmD (d : Drawing) : Prop := d.Phases.length ≤ 9 ∧ ∀ p ∈ d.Phases, SmP p
def SmL (l : List Drawing) : Prop := l.length ≤ 9 ∧ ∀ d ∈ l, SmD d
theorem flat_le {l : List Drawing} {d : Drawing} (h : d ∈ l) : d.Phases.length ≤ (l.flatMap fun d => d.Phases).length := by
  induction l with
  | nil => simp at h
  | cons x l ih =>
    rw [List.flatMap_cons, List.length_append]
    rcases List.mem_cons.1 h with rfl | h
    · omega
    · have := ih h; omega
theorem few_inner {l : List Drawing} {i : Nat} (hi : i < l.length) (hp : l[i].Phases.length ≤ maxLen) :
    ∃ f, iterL (ref30_fewDrawings_L1 l (i : Int)) ((l.flatMap fun d => d.Phases).length + 1) 0 = some f ∧ f.ends ∧ (match f with | .ex _ _ => ∀ p ∈ l[i].Phases, SmP p | .ret r => r = false | .go _ => False) := by
  have hm : (maxLen : Nat) = 9223372036854775807 := rfl
  refine loop_up (fun j s => s = ((j : Nat) : Int) ∧ ∀ m (h : m < l[i].Phases.length), m < j → SmP l[i].Phases[m]) l[i].Phases.length _ ?_ ?_ 0 ⟨rfl, fun m _ h => by omega⟩ _ (by have := flat_le (List.getElem_mem hi); omega)
  · intro j s hj ⟨hs, hI⟩
    subst hs
    unfold ref30_fewDrawings_L1
    rw [getI_nat hi]
    simp only [Option.bind_some]
    rw [if_pos (by simpa using hj), getI_nat hj]
    simp only [Option.bind_some]
    by_cases h1 : 12 < (l[i].Phases[j].Volumes.length : Int)
    · rw [if_pos (by simpa using h1)]
      simp only [Option.bind_some]
      exact .inr ⟨_, rfl, trivial, rfl⟩
    · rw [if_neg (by simpa using h1)]
      simp only [Option.bind_some]
      by_cases h2 : 6 < (l[i].Phases[j].Gives.length : Int)
      · rw [if_pos (by simpa using h2)]
        exact .inr ⟨_, rfl, trivial, rfl⟩
      · rw [if_neg (by simpa using h2), addI_one' (by omega)]
        refine .inl ⟨_, rfl, rfl, fun m hm' hlt => ?_⟩
        by_cases he : m = j
        · subst he; exact ⟨by omega, by omega⟩
        · exact hI m hm' (by omega)
  · intro s ⟨hs, hI⟩
    subst hs
    unfold ref30_fewDrawings_L1
    rw [getI_nat hi]
    simp only [Option.bind_some]
    rw [if_neg (by simp)]
    refine ⟨_, rfl, trivial, fun p hp' => ?_⟩
    obtain ⟨m, h, rfl⟩ := List.getElem_of_mem hp'
    exact hI m h h
theorem few_drawings {l : List Drawing} (hl : l.length ≤ maxLen) (hd : ∀ d ∈ l, d.Phases.length ≤ maxLen) : ∃ b, ref30_fewDrawings l = some b ∧ (b = true → SmL l) := by
  have hm : (maxLen : Nat) = 9223372036854775807 := rfl
  obtain ⟨f, h1, h2, h3⟩ := loop_up (body := ref30_fewDrawings_L0 l) (fun i s => s = ((i : Nat) : Int) ∧ ∀ m (h : m < l.length), m < i → SmD l[m]) l.length
    (fun f => match f with | .ex _ _ => ∀ d ∈ l, SmD d | .ret r => r = false | .go _ => False) (fun i s hi ⟨hs, hI⟩ => by
      subst hs
      unfold ref30_fewDrawings_L0
      rw [if_pos (by simpa using hi)]
      obtain ⟨g, g1, g2, g3⟩ := few_inner hi (hd _ (List.getElem_mem hi))
      rw [g1]
      cases g with
      | go _ => exact g2.elim
      | ret r =>
        obtain rfl : r = false := g3
        exact .inr ⟨_, rfl, trivial, rfl⟩
      | ex _ _ =>
        simp only [Option.bind_some]
        rw [getI_nat hi]
        simp only [Option.bind_some]
        by_cases h1 : 9 < (l[i].Phases.length : Int)
        · rw [if_pos (by simpa using h1)]
          exact .inr ⟨_, rfl, trivial, rfl⟩
        · rw [if_neg (by simpa using h1), addI_one' (by omega)]
          refine .inl ⟨_, rfl, rfl, fun m hm' hlt => ?_⟩
          by_cases he : m = i
          · subst he; exact ⟨by omega, g3⟩
          · exact hI m hm' (by omega)) (fun s ⟨hs, hI⟩ => by
      subst hs
      unfold ref30_fewDrawings_L0
      rw [if_neg (by simp)]
      refine ⟨_, rfl, trivial, fun d hd' => ?_⟩
      obtain ⟨m, h, rfl⟩ := List.getElem_of_mem hd'
      exact hI m h h) 0 ⟨rfl, fun m _ h => by omega⟩ (l.length + 1) (by omega)
  unfold ref30_fewDrawings
  rw [h1]
  cases f with
  | go _ => exact h2.elim
  | ret r => obtain rfl : r = false := h3; exact ⟨_, rfl, fun h => by cases h⟩
  | ex _ _ => exact ⟨_, rfl, fun h => ⟨by simp at h; omega, h3⟩⟩
def Lens (l : List Drawing) : Prop := l.length ≤ maxLen ∧ ∀ d ∈ l, d.Phases.length ≤ maxLen
theorem few_all {p : Plan} {d : Dossier} {l : List Act} (hd : Lens d.Drawings) (hl : l.length ≤ maxLen) (ha : ∀ a ∈ l, Lens a.Drawings) :
    ∃ b, ref30_Few p d l = some b ∧ (b = true → p.Rules.length ≤ 20 ∧ l.length ≤ 14 ∧ SmL d.Drawings ∧ ∀ a ∈ l, SmL a.Drawings) := by
  have hm : (maxLen : Nat) = 9223372036854775807 := rfl
  obtain ⟨f, h1, h2, h3⟩ := loop_up (body := ref30_Few_L0 l) (fun i s => s = ((i : Nat) : Int) ∧ ∀ m (h : m < l.length), m < i → SmL l[m].Drawings) l.length
    (fun f => match f with | .ex _ _ => ∀ a ∈ l, SmL a.Drawings | .ret r => r = false | .go _ => False) (fun i s hi ⟨hs, hI⟩ => by
      subst hs
      unfold ref30_Few_L0
      rw [if_pos (by simpa using hi), getI_nat hi]
      simp only [Option.bind_some]
      obtain ⟨b, g1, g2⟩ := few_drawings (ha _ (List.getElem_mem hi)).1 (ha _ (List.getElem_mem hi)).2
      rw [g1]
      simp only [Option.bind_some]
      cases b with
      | false => exact .inr ⟨_, rfl, trivial, rfl⟩
      | true =>
        rw [if_neg (by simp), addI_one' (by omega)]
        refine .inl ⟨_, rfl, rfl, fun m hm' hlt => ?_⟩
        by_cases he : m = i
        · subst he; exact g2 rfl
        · exact hI m hm' (by omega)) (fun s ⟨hs, hI⟩ => by
      subst hs
      unfold ref30_Few_L0
      rw [if_neg (by simp)]
      refine ⟨_, rfl, trivial, fun d hd' => ?_⟩
      obtain ⟨m, h, rfl⟩ := List.getElem_of_mem hd'
      exact hI m h h) 0 ⟨rfl, fun m _ h => by omega⟩ (l.length + 1) (by omega)
  unfold ref30_Few
  rw [h1]
  cases f with
  | go _ => exact h2.elim
  | ret r => obtain rfl : r = false := h3; exact ⟨_, rfl, fun h => by cases h⟩
  | ex _ _ =>
    obtain ⟨b, g1, g2⟩ := few_drawings hd.1 hd.2
    simp only [Option.bind_some, g1]
    by_cases hc : ((decide ((p.Rules.length : Int) ≤ 20)) && (decide ((l.length : Int) ≤ 14))) = true
    · rw [if_pos hc]
      simp at hc
      exact ⟨_, rfl, fun h => ⟨by omega, by omega, g2 h, h3⟩⟩
    · rw [if_neg hc]
      exact ⟨_, rfl, fun h => by cases h⟩
end Go.Proofs.YtachpkjjlebadaaGreat

namespace Go.Proofs.YtachpkjjlebadaaGreat
open Go.Gb
set_option linter.unusedVariables false
set_option linter.unusedSimpArgs false
set_option linter.unusedSectionVars false
set_option linter.unusedVariables false
set_option linter.unusedSimpArgs false

theorem all_tot {d : Drawing} (h : SmD d) : ∃ l, drawing_all d = some l ∧ l.length ≤ 108 := by
  obtain ⟨f, h1, h2, h3⟩ := loop_up (body := drawing_Volumes_L0 d 0 (d.Phases.length : Int)) (fun i s => s.2 = ((i : Nat) : Int) ∧ s.1.length ≤ 12 * i) d.Phases.length
    (fun f => match f with | .ex _ s => s.1.length ≤ 108 | _ => False) (fun i s hi ⟨hs, hI⟩ => by
      have h9 := h.1
      have hv := (h.2 _ (List.getElem_mem hi)).1
      unfold drawing_Volumes_L0
      rw [hs, if_pos (by simpa using hi), getI_nat hi, Option.bind_some, if_pos (by simp; omega), appI_some (by omega), Option.bind_some, Option.bind_some, addI_one (by omega), Option.bind_some]
      exact .inl ⟨_, rfl, rfl, by simp; omega⟩) (fun s ⟨hs, hI⟩ => by
      have h9 := h.1
      unfold drawing_Volumes_L0
      rw [hs, if_neg (by simp)]
      exact ⟨_, rfl, trivial, by show s.1.length ≤ 108; omega⟩) ([], 0) ⟨rfl, by simp⟩ (d.Phases.length + 1) (by omega)
  unfold drawing_all drawing_Volumes
  rw [h1]
  cases f with
  | go _ => exact h2.elim
  | ret r => exact h3.elim
  | ex _ s => exact ⟨_, rfl, h3⟩
theorem rightV_tot (v : Volume) : Tot (drawing_RightVolume v) := by
  unfold drawing_RightVolume rect_Right
  refine Tot.bind (Tot.pure _) fun _ _ => Tot.ite (fun _ => Tot.pure _) fun _ => Tot.ite (fun _ => Tot.pure _) fun _ => Tot.pure _
theorem meet_tot (a b : Box) : Tot (drawing_meet a b) := by
  unfold drawing_meet rect_Intersect rect_checked rect_Right
  refine Tot.bind (Tot.bind (Tot.pure _) fun _ _ => Tot.bind (Tot.ite (fun _ => Tot.pure _) fun _ => Tot.bind (Tot.pure _) fun _ _ => Tot.pure _) fun _ _ => Tot.ite (fun _ => Tot.pure _) fun _ =>
    Tot.bind (Tot.bind (Tot.pure _) fun _ _ => Tot.ite (fun _ => Tot.pure _) fun _ => Tot.pure _) fun _ _ => Tot.pure _) fun _ _ => Tot.pure _
theorem form0_tot {l : List Volume} (h : l.length ≤ 1000000) : ∃ f, iterL (drawing_Form_L0 l) (l.length + 1) 0 = some f ∧ f.ends := by
  refine tot_loop (fun s => s) (fun _ => True) l.length ?_ ?_ 0 rfl trivial (by omega)
  · intro s i hs hi _
    subst hs
    unfold drawing_Form_L0
    rw [if_pos (by simpa using hi), getI_nat hi]
    simp only [Option.bind_some]
    obtain ⟨b, hb⟩ := rightV_tot l[i]
    rw [hb]
    simp only [Option.bind_some]
    obtain ⟨c, hc⟩ : Tot (if (!b) = true then some true else (sliceI l 0 (i : Int)).bind fun y => (slices_ContainsFunc_Volume y (fun y0 => drawing_Form_1 y0 l[i])).bind fun z => some z) := by
      refine Tot.ite (fun _ => Tot.pure _) fun _ => ?_
      rw [sliceI_some (by omega) (by omega) (by omega)]
      simp only [Option.bind_some]
      refine Tot.bind (containsV_tot (by simp; omega) fun x => ?_) fun _ _ => Tot.pure _
      unfold drawing_Form_1
      exact Tot.bind (meet_tot _ _) fun _ _ => Tot.pure _
    rw [hc]
    simp only [Option.bind_some]
    cases c with
    | true => exact .inr ⟨_, rfl, trivial⟩
    | false =>
      rw [if_neg (by simp), addI_one (by omega)]
      exact .inl ⟨_, rfl, rfl, trivial⟩
  · intro s hs _
    subst hs
    unfold drawing_Form_L0
    rw [if_neg (by simp)]
    exact ⟨_, rfl, trivial⟩
theorem form2_tot {p : Phase} (h : SmP p) : ∃ f, iterL (drawing_Form_L2 p) (p.Gives.length + 1) ((⟨[]⟩ : (GMap ByteArray Bool)), 0) = some f ∧ f.ends := by
  have h6 := h.2
  refine tot_loop (fun s => s.2) (fun _ => True) p.Gives.length ?_ ?_ _ rfl trivial (by omega)
  · intro s i hs hi _
    unfold drawing_Form_L2
    rw [hs, if_pos (by simpa using hi), getI_nat hi]
    simp only [Option.bind_some]
    obtain ⟨c, hc⟩ : Tot (if (getK (s.1).l p.Gives[i].Name).getD false = true then some true else (syntax_Name p.Gives[i].Name).bind fun y => some (!y)) :=
      Tot.ite (fun _ => Tot.pure _) fun _ => Tot.bind (name_tot _) fun _ _ => Tot.pure _
    rw [hc]
    simp only [Option.bind_some]
    split
    · exact .inr ⟨_, rfl, trivial⟩
    · rw [addI_one (by omega)]
      exact .inl ⟨_, rfl, rfl, trivial⟩
  · intro s hs _
    unfold drawing_Form_L2
    rw [hs, if_neg (by simp)]
    exact ⟨_, rfl, trivial⟩
theorem form1_tot {d : Drawing} (h : SmD d) : ∃ f, iterL (drawing_Form_L1 d) (d.Phases.length + 1) 0 = some f ∧ f.ends := by
  have h9 := h.1
  refine tot_loop (fun s => s) (fun _ => True) d.Phases.length ?_ ?_ 0 rfl trivial (by omega)
  · intro s i hs hi _
    subst hs
    unfold drawing_Form_L1
    rw [if_pos (by simpa using hi), getI_nat hi]
    simp only [Option.bind_some]
    obtain ⟨f, hf, he⟩ := form2_tot (h.2 _ (List.getElem_mem hi))
    rw [hf]
    simp only [Option.bind_some]
    cases f with
    | go _ => exact he.elim
    | ret r => exact .inr ⟨_, rfl, trivial⟩
    | ex _ _ =>
      dsimp only
      split
      · exact .inr ⟨_, rfl, trivial⟩
      · rw [addI_one (by omega)]
        exact .inl ⟨_, rfl, rfl, trivial⟩
  · intro s hs _
    subst hs
    unfold drawing_Form_L1
    rw [if_neg (by simp)]
    exact ⟨_, rfl, trivial⟩
theorem form_tot {d : Drawing} (h : SmD d) : Tot (drawing_Form d) := by
  obtain ⟨l, hl, h108⟩ := all_tot h
  unfold drawing_Form
  rw [hl]
  simp only [Option.bind_some]
  refine Tot.ite (fun _ => Tot.pure _) fun _ => ?_
  refine Tot.loop (form0_tot (by omega)) fun x hx => ?_
  cases x with
  | go _ => exact hx.elim
  | ret _ => exact Tot.pure _
  | ex _ _ =>
    refine Tot.loop (form1_tot h) fun x hx => ?_
    cases x with
    | go _ => exact hx.elim
    | ret _ => exact Tot.pure _
    | ex _ _ => exact Tot.pure _
theorem formed_tot {l : List Drawing} (h : SmL l) : Tot (dossier_formed l) := by
  have h9 := h.1
  unfold dossier_formed
  refine Tot.ite (fun _ => Tot.pure _) fun _ => ?_
  refine Tot.bind (containsD_tot (by omega) fun x hx => ?_) fun _ _ => Tot.pure _
  unfold dossier_formed_1
  exact Tot.bind (form_tot (h.2 x hx)) fun _ _ => Tot.pure _
theorem right_tot {d : Dossier} (h : SmL d.Drawings) : Tot (dossier_Right d) := by
  unfold dossier_Right
  refine Tot.bind ?_ fun _ _ => Tot.ite (fun _ => Tot.pure _) fun _ => Tot.bind (formed_tot h) fun _ _ => Tot.pure _
  refine Tot.ite (fun _ => Tot.pure _) fun _ => Tot.bind ?_ fun _ _ => Tot.pure _
  refine Tot.ite (fun _ => Tot.pure _) fun _ => Tot.bind ?_ fun _ _ => Tot.pure _
  refine Tot.ite (fun _ => Tot.pure _) fun _ => Tot.bind ?_ fun _ _ => Tot.pure _
  refine Tot.ite (fun _ => Tot.pure _) fun _ => Tot.bind ?_ fun _ _ => Tot.pure _
  refine Tot.ite (fun _ => Tot.pure _) fun _ => Tot.bind ?_ fun _ _ => Tot.pure _
  exact Tot.ite (fun _ => Tot.pure _) fun _ => Tot.pure _
end Go.Proofs.YtachpkjjlebadaaGreat

namespace Go.Proofs.YtachpkjjlebadaaGreat
open Go.Gb
set_option linter.unusedVariables false
set_option linter.unusedSimpArgs false
set_option linter.unusedSectionVars false
set_option linter.unusedVariables false
set_option linter.unusedSimpArgs false

theorem appI_nil {α : Type} {s : List α} (h : s.length ≤ 1000000) : appI [] s = some s := by
  rw [appI_some (by simp; omega), List.nil_append]
theorem cloneD_eq {s : List Drawing} (h : s.length ≤ 1000000) : slices_Clone_Drawing s = some s := by
  unfold slices_Clone_Drawing; rw [appI_nil h, Option.bind_some]
theorem cloneP_eq {s : List Phase} (h : s.length ≤ 1000000) : slices_Clone_Phase s = some s := by
  unfold slices_Clone_Phase; rw [appI_nil h, Option.bind_some]
theorem cloneV_eq {s : List Volume} (h : s.length ≤ 1000000) : slices_Clone_Volume s = some s := by
  unfold slices_Clone_Volume; rw [appI_nil h, Option.bind_some]
theorem cloneE_eq {s : List Entry} (h : s.length ≤ 1000000) : slices_Clone_Entry s = some s := by
  unfold slices_Clone_Entry; rw [appI_nil h, Option.bind_some]
theorem clone1_eq {l : List Phase} (hl : l.length ≤ 9) (h : ∀ p ∈ l, SmP p) : ∃ f, iterL (dossier_clone_L1 l) (l.length + 1) (l, 0) = some f ∧ f.ends ∧ (match f with | .ex _ s => s.1 = l | _ => False) := by
  refine loop_up (fun i s => s = (l, ((i : Nat) : Int))) l.length _ ?_ ?_ _ rfl _ (by omega)
  · intro i s hi hs
    subst hs
    have hp := h _ (List.getElem_mem hi)
    unfold dossier_clone_L1
    dsimp only
    rw [if_pos (by simpa using hi), getI_nat hi, Option.bind_some, cloneV_eq (by have := hp.1; omega), Option.bind_some, cloneE_eq (by have := hp.2; omega), Option.bind_some, Option.bind_some, Option.bind_some, addI_one (by omega), Option.bind_some]
    refine .inl ⟨_, rfl, ?_⟩
    have e : (⟨l[i].Volumes, l[i].Gives⟩ : Phase) = l[i] := rfl
    rw [e, Int.toNat_natCast, List.set_getElem_self]
  · intro s hs
    subst hs
    unfold dossier_clone_L1
    dsimp only
    rw [if_neg (by simp)]
    exact ⟨_, rfl, trivial, rfl⟩
theorem clone_eq {l : List Drawing} (h : SmL l) : dossier_clone l = some l := by
  have h9 := h.1
  obtain ⟨f, h1, h2, h3⟩ := loop_up (body := dossier_clone_L0 l) (fun i s => s = (l, ((i : Nat) : Int))) l.length (fun f => match f with | .ex _ s => s.1 = l | _ => False) (fun i s hi hs => by
      subst hs
      have hd := h.2 _ (List.getElem_mem hi)
      unfold dossier_clone_L0
      dsimp only
      rw [if_pos (by simpa using hi), getI_nat hi, Option.bind_some, cloneP_eq (by have := hd.1; omega), Option.bind_some]
      obtain ⟨g, g1, g2, g3⟩ := clone1_eq hd.1 hd.2
      rw [g1]
      cases g with
      | go _ => exact g2.elim
      | ret _ => exact g3.elim
      | ex j t =>
        have g3 : t.1 = l[i].Phases := g3
        rw [Option.bind_some]
        dsimp only
        rw [Option.bind_some, addI_one (by omega), Option.bind_some, Option.bind_some]
        refine .inl ⟨_, rfl, ?_⟩
        rw [g3]
        have e : ({ l[i] with Phases := l[i].Phases } : Drawing) = l[i] := rfl
        rw [e, Int.toNat_natCast, List.set_getElem_self]) (fun s hs => by
      subst hs
      unfold dossier_clone_L0
      dsimp only
      rw [if_neg (by simp)]
      exact ⟨_, rfl, trivial, rfl⟩) (l, 0) rfl (l.length + 1) (by omega)
  unfold dossier_clone
  rw [cloneD_eq (by omega), Option.bind_some, h1]
  cases f with
  | go _ => exact h2.elim
  | ret _ => exact h3.elim
  | ex _ s => have h3 : s.1 = l := h3; rw [Option.bind_some]; dsimp only; rw [h3]

theorem eqP_tot {s t : List Phase} {f : Phase → Phase → Option Bool} (hl : s.length ≤ 1000000) (hf : ∀ x ∈ s, ∀ y ∈ t, Tot (f x y)) : Tot (slices_EqualFunc_Phase_Phase_Phase s t f) := by
  unfold slices_EqualFunc_Phase_Phase_Phase
  refine Tot.ite (fun _ => Tot.pure _) fun hlen => ?_
  have hlen : s.length = t.length := by simp at hlen; omega
  refine Tot.loop (tot_loop (fun s => s) (fun _ => True) s.length ?_ ?_ 0 rfl trivial (by omega)) ?_
  · intro i n hi hn _
    subst hi
    unfold slices_EqualFunc_Phase_Phase_Phase_L0
    obtain ⟨b, hb⟩ := hf s[n] (List.getElem_mem hn) (t[n]'(by omega)) (List.getElem_mem _)
    rw [if_pos (by simpa using hn), getI_nat hn, Option.bind_some, getI_nat (by omega : n < t.length), Option.bind_some, hb, Option.bind_some]
    cases b with
    | false => exact .inr ⟨_, rfl, trivial⟩
    | true =>
      rw [if_neg (by simp), addI_one (by omega)]
      exact .inl ⟨_, rfl, rfl, trivial⟩
  · intro i hi _
    subst hi
    unfold slices_EqualFunc_Phase_Phase_Phase_L0
    rw [if_neg (by simp)]
    exact ⟨_, rfl, trivial⟩
  · intro x hx
    cases x with
    | go _ => exact hx.elim
    | ex _ _ => exact Tot.pure _
    | ret _ => exact Tot.pure _
theorem eqD_tot {s t : List Drawing} {f : Drawing → Drawing → Option Bool} (hl : s.length ≤ 1000000) (hf : ∀ x ∈ s, ∀ y ∈ t, Tot (f x y)) : Tot (slices_EqualFunc_Drawing_Drawing_Drawing s t f) := by
  unfold slices_EqualFunc_Drawing_Drawing_Drawing
  refine Tot.ite (fun _ => Tot.pure _) fun hlen => ?_
  have hlen : s.length = t.length := by simp at hlen; omega
  refine Tot.loop (tot_loop (fun s => s) (fun _ => True) s.length ?_ ?_ 0 rfl trivial (by omega)) ?_
  · intro i n hi hn _
    subst hi
    unfold slices_EqualFunc_Drawing_Drawing_Drawing_L0
    obtain ⟨b, hb⟩ := hf s[n] (List.getElem_mem hn) (t[n]'(by omega)) (List.getElem_mem _)
    rw [if_pos (by simpa using hn), getI_nat hn, Option.bind_some, getI_nat (by omega : n < t.length), Option.bind_some, hb, Option.bind_some]
    cases b with
    | false => exact .inr ⟨_, rfl, trivial⟩
    | true =>
      rw [if_neg (by simp), addI_one (by omega)]
      exact .inl ⟨_, rfl, rfl, trivial⟩
  · intro i hi _
    subst hi
    unfold slices_EqualFunc_Drawing_Drawing_Drawing_L0
    rw [if_neg (by simp)]
    exact ⟨_, rfl, trivial⟩
  · intro x hx
    cases x with
    | go _ => exact hx.elim
    | ex _ _ => exact Tot.pure _
    | ret _ => exact Tot.pure _
theorem eqE_tot {s t : List Entry} (hl : s.length ≤ 1000000) : Tot (slices_Equal_Entry s t) := by
  unfold slices_Equal_Entry
  refine Tot.ite (fun _ => Tot.pure _) fun hlen => ?_
  have hlen : s.length = t.length := by simp at hlen; omega
  refine Tot.loop (tot_loop (fun s => s) (fun _ => True) s.length ?_ ?_ 0 rfl trivial (by omega)) ?_
  · intro i n hi hn _
    subst hi
    unfold slices_Equal_Entry_L0
    rw [if_pos (by simpa using hn), getI_nat hn, Option.bind_some, getI_nat (by omega : n < t.length), Option.bind_some]
    split
    · exact .inr ⟨_, rfl, trivial⟩
    · rw [addI_one (by omega)]
      exact .inl ⟨_, rfl, rfl, trivial⟩
  · intro i hi _
    subst hi
    unfold slices_Equal_Entry_L0
    rw [if_neg (by simp)]
    exact ⟨_, rfl, trivial⟩
  · intro x hx
    cases x with
    | go _ => exact hx.elim
    | ex _ _ => exact Tot.pure _
    | ret _ => exact Tot.pure _
theorem lower_tot (a b : Volume) : Tot (dossier_lower a b) := by
  unfold dossier_lower
  exact Tot.ite (fun _ => Tot.pure _) fun _ => Tot.pure _
theorem takes_tot {a b : Phase} (ha : SmP a) (hb : SmP b) : Tot (dossier_takes a b) := by
  have h1 := hb.1
  have h2 := ha.2
  unfold dossier_takes
  refine Tot.loop (tot_loop (fun s => s.2) (fun _ => True) b.Volumes.length ?_ ?_ _ rfl trivial (by omega)) ?_
  · intro s n hs hn _
    unfold dossier_takes_L0
    rw [hs, if_pos (by simpa using hn), getI_nat hn, Option.bind_some]
    obtain ⟨c, hc⟩ : Tot (if (decide (0 < (s.1.length : Int))) = true then (getI s.1 0).bind fun x => (dossier_lower x b.Volumes[n]).bind fun y => some y else some false) := by
      refine Tot.ite (fun h => ?_) fun _ => Tot.pure _
      have h : 0 < s.1.length := by simpa using h
      rw [show (0 : Int) = ((0 : Nat) : Int) from rfl, getI_nat h, Option.bind_some]
      exact Tot.bind (lower_tot _ _) fun _ _ => Tot.pure _
    have hlen : c = true → 0 < s.1.length := by
      intro hct
      subst hct
      rcases Nat.eq_zero_or_pos s.1.length with h0 | h0
      · rw [if_neg (by simp [h0])] at hc; simp at hc
      · exact h0
    rw [hc, Option.bind_some]
    obtain ⟨e, he⟩ : Tot (if c = true then (sliceI s.1 1 (s.1.length : Int)).bind fun x => some x else some s.1) := by
      refine Tot.ite (fun h => ?_) fun _ => Tot.pure _
      have := hlen h
      rw [sliceI_some (by omega) (by omega) (by omega), Option.bind_some]
      exact Tot.pure _
    rw [he, Option.bind_some, addI_one (by omega)]
    exact .inl ⟨_, rfl, rfl, trivial⟩
  · intro s hs _
    unfold dossier_takes_L0
    rw [hs, if_neg (by simp)]
    exact ⟨_, rfl, trivial⟩
  · intro x hx
    cases x with
    | go _ => exact hx.elim
    | ex _ _ => exact Tot.bind (Tot.ite (fun _ => Tot.bind (eqE_tot (by omega)) fun _ _ => Tot.pure _) fun _ => Tot.pure _) fun _ _ => Tot.pure _
    | ret _ => exact Tot.pure _
theorem less_tot {a b : List Drawing} (ha : SmL a) (hb : SmL b) : Tot (dossier_Less a b) := by
  have h9 := ha.1
  unfold dossier_Less
  refine Tot.bind (eqD_tot (by omega) fun x hx y hy => ?_) fun _ _ => Tot.pure _
  unfold dossier_Less_1
  refine Tot.bind (Tot.ite (fun _ => Tot.bind (eqP_tot (by have := (ha.2 x hx).1; omega) fun p hp q hq => takes_tot ((ha.2 x hx).2 p hp) ((hb.2 y hy).2 q hq)) fun _ _ => Tot.pure _) fun _ => Tot.pure _) fun _ _ => Tot.pure _
end Go.Proofs.YtachpkjjlebadaaGreat

namespace Go.Proofs.YtachpkjjlebadaaGreat
open Go.Gb
set_option linter.unusedVariables false
set_option linter.unusedSimpArgs false
set_option linter.unusedSectionVars false
set_option linter.unusedVariables false
set_option linter.unusedSimpArgs false

theorem index_some {l : List Int} {v : Int} (hl : l.length ≤ 1000000) : ∃ r, slices_Index_int l v = some r ∧ (0 ≤ r ↔ v ∈ l) := by
  obtain ⟨f, h1, h2, h3⟩ := loop_up (body := slices_Index_int_L0 l v) (fun i s => s = ((i : Nat) : Int) ∧ ∀ m (h : m < l.length), m < i → l[m] ≠ v) l.length
    (fun f => match f with | .ex _ _ => v ∉ l | .ret r => 0 ≤ r ∧ v ∈ l | .go _ => False) (fun i s hi ⟨hs, hI⟩ => by
      subst hs
      unfold slices_Index_int_L0
      rw [if_pos (by simpa using hi), getI_nat hi, Option.bind_some]
      by_cases hv : v = l[i]
      · rw [if_pos (by simpa using hv)]
        exact .inr ⟨_, rfl, trivial, by omega, by rw [hv]; exact List.getElem_mem hi⟩
      · rw [if_neg (by simpa using hv), addI_one (by omega)]
        refine .inl ⟨_, rfl, rfl, fun m hm hlt => ?_⟩
        by_cases he : m = i
        · subst he; exact fun e => hv e.symm
        · exact hI m hm (by omega)) (fun s ⟨hs, hI⟩ => by
      subst hs
      unfold slices_Index_int_L0
      rw [if_neg (by simp)]
      refine ⟨_, rfl, trivial, fun hv => ?_⟩
      obtain ⟨m, h, e⟩ := List.getElem_of_mem hv
      exact hI m h h e) 0 ⟨rfl, fun m _ h => by omega⟩ (l.length + 1) (by omega)
  unfold slices_Index_int
  rw [h1, Option.bind_some]
  cases f with
  | go _ => exact h2.elim
  | ex _ _ => exact ⟨_, rfl, by constructor <;> intro h <;> first | omega | exact absurd h h3⟩
  | ret r => exact ⟨_, rfl, fun _ => h3.2, fun _ => h3.1⟩
theorem contains_int {l : List Int} {v : Int} (hl : l.length ≤ 1000000) : slices_Contains_int l v = some (decide (v ∈ l)) := by
  obtain ⟨r, h1, h2⟩ := index_some (v := v) hl
  unfold slices_Contains_int
  rw [h1, Option.bind_some]
  congr 1
  simp [h2]
theorem days_tot {p : Plan} {day : Int} (hp : p.Rules.length ≤ 20) (hd : 0 ≤ day ∧ day ≤ 1073741824) : ∃ l, clause_Days p day = some l ∧ l.length ≤ 21 := by
  obtain ⟨f, h1, h2, h3⟩ := loop_up (body := clause_Days_L0 p day) (fun i s => s.2 = ((i : Nat) : Int) ∧ s.1.length ≤ 1 + i) p.Rules.length
    (fun f => match f with | .ex _ s => s.1.length ≤ 21 | _ => False) (fun i s hi ⟨hs, hI⟩ => by
      unfold clause_Days_L0
      rw [hs, if_pos (by simpa using hi), getI_nat hi, Option.bind_some]
      obtain ⟨c, hc, hc2⟩ : ∃ c, (if ((decide (1 ≤ p.Rules[i].From)) && (decide (p.Rules[i].From ≤ day))) = true then (subI day p.Rules[i].From).bind fun x => some (decide (x < p.Rules[i].Grace)) else some false) = some c ∧ (c = true → 1 ≤ p.Rules[i].From ∧ p.Rules[i].From ≤ day) := by
        by_cases h : ((decide (1 ≤ p.Rules[i].From)) && (decide (p.Rules[i].From ≤ day))) = true
        · rw [if_pos h]
          simp at h
          rw [subI_some (by constructor <;> omega), Option.bind_some]
          exact ⟨_, rfl, fun _ => h⟩
        · rw [if_neg h]
          exact ⟨_, rfl, fun h => by cases h⟩
      rw [hc, Option.bind_some]
      obtain ⟨e, he, he2⟩ : ∃ e, (if c = true then (subI p.Rules[i].From 1).bind fun x => (appI s.1 [x]).bind fun y => some y else some s.1) = some e ∧ e.length ≤ 1 + (i + 1) := by
        cases c with
        | true =>
          have := hc2 rfl
          rw [if_pos rfl, subI_some (by constructor <;> omega), Option.bind_some, appI_some (by simp; omega), Option.bind_some]
          exact ⟨_, rfl, by simp; omega⟩
        | false => exact ⟨_, rfl, by omega⟩
      rw [he, Option.bind_some, addI_one (by omega)]
      exact .inl ⟨_, rfl, rfl, he2⟩) (fun s ⟨hs, hI⟩ => by
      unfold clause_Days_L0
      rw [hs, if_neg (by simp)]
      exact ⟨_, rfl, trivial, by show s.1.length ≤ 21; omega⟩) ([day], 0) ⟨rfl, by simp⟩ (p.Rules.length + 1) (by omega)
  unfold clause_Days
  rw [h1, Option.bind_some]
  cases f with
  | go _ => exact h2.elim
  | ret _ => exact h3.elim
  | ex _ s =>
    have h3 : s.1.length ≤ 21 := h3
    dsimp only
    obtain ⟨r, g1, g2, g3⟩ := sortInts_spec (l := s.1) (by omega)
    have hr : r.length = s.1.length := g2.length_eq
    obtain ⟨t, k1, _, _, k4⟩ := compactInts_spec (l := r) (by omega) g3
    rw [g1, Option.bind_some, k1, Option.bind_some]
    unfold reverseInts
    rw [if_pos (by omega), Option.bind_some]
    exact ⟨_, rfl, by simp; omega⟩
theorem may_tot {p : Plan} {day n : Int} (hp : p.Rules.length ≤ 20) (hd : 0 ≤ day ∧ day ≤ 1073741824) : Tot (clause_May p day n) := by
  obtain ⟨l, h1, h2⟩ := days_tot hp hd
  unfold clause_May
  rw [h1, Option.bind_some, contains_int (by omega), Option.bind_some]
  exact Tot.pure _
def actsOf (s : Int) : List Int :=
  if s = 0 then [0, 1, 2, 7, 8, 9, 10] else if s = 1 then [1, 2, 7, 8, 9, 10] else if s = 2 then [2, 3, 7, 9, 10] else if s = 3 then [2, 4, 7, 9] else if s = 4 then [5, 6, 7, 9] else if s = 5 then [9] else []
theorem acts_eq (s : Int) : dossier_Acts s = some (actsOf s) := by
  unfold dossier_Acts actsOf
  by_cases h0 : s = 0
  · simp [h0]
  · by_cases h1 : s = 1
    · simp [h1]
    · by_cases h2 : s = 2
      · simp [h2]
      · by_cases h3 : s = 3
        · simp [h3]
        · by_cases h4 : s = 4
          · simp [h4]
          · by_cases h5 : s = 5
            · simp [h5]
            · simp [h0, h1, h2, h3, h4, h5]
theorem acts_len (s : Int) : (actsOf s).length ≤ 7 := by
  unfold actsOf
  repeat' split
  all_goals simp
theorem right_spec {d : Dossier} (h : SmL d.Drawings) : ∃ b, dossier_Right d = some b ∧ (b = true → 1 ≤ d.Id ∧ 0 ≤ d.State ∧ d.State ≤ 9 ∧ 0 ≤ d.Day ∧ d.Day ≤ 1073741824) := by
  obtain ⟨b, hb⟩ := right_tot h
  refine ⟨b, hb, fun hbt => ?_⟩
  subst hbt
  obtain ⟨g, hg⟩ := formed_tot h
  unfold dossier_Right at hb
  rw [hg] at hb
  by_cases h1 : d.Id < 1
  · simp [h1] at hb
  by_cases h2 : d.Holder < 0
  · simp [h1, h2] at hb
  by_cases h3 : d.Into < 0
  · simp [h1, h2, h3] at hb
  by_cases h4 : d.State < 0
  · simp [h1, h2, h3, h4] at hb
  by_cases h5 : 9 < d.State
  · simp [h1, h2, h3, h4, h5] at hb
  by_cases h6 : d.Day < 0
  · simp [h1, h2, h3, h4, h5, h6] at hb
  by_cases h7 : 1073741824 < d.Day
  · simp [h1, h2, h3, h4, h5, h6, h7] at hb
  exact ⟨by omega, by omega, by omega, by omega, by omega⟩
end Go.Proofs.YtachpkjjlebadaaGreat

namespace Go.Proofs.YtachpkjjlebadaaGreat
open Go.Gb
set_option linter.unusedVariables false
set_option linter.unusedSimpArgs false
set_option linter.unusedSectionVars false
set_option linter.unusedVariables false
set_option linter.unusedSimpArgs false

def noD : Dossier := ⟨0, 0, 0, 0, 0, [], 0, 0⟩
theorem step_eq {p : Plan} {d : Dossier} {a : Act} {b : Bool} (hb : dossier_Right d = some b) (hs : SmL d.Drawings) : dossier_Step p d a =
    if (!b || (decide (a.Kind < 0) || (decide (11 ≤ a.Kind) || ((decide (0 < (a.Drawings.length : Int))) && (a.Kind != 2))))) then some (noD, 1) else
    if (decide (a.Day < d.Day) || decide (1073741824 < a.Day)) then some (noD, 20) else
    if decide (a.Kind ∈ actsOf d.State) then (dossier_change p { d with Day := a.Day } a d.Day).bind (fun x => some (x.1, x.2)) else some (noD, 7) := by
  have e1 : ((if (!b) = true then some (!b) else (if decide (a.Kind < 0) = true then some (decide (a.Kind < 0)) else (if decide (11 ≤ a.Kind) = true then some (decide (11 ≤ a.Kind)) else
      some ((decide (0 < (a.Drawings.length : Int))) && (a.Kind != 2))).bind fun s => some s).bind fun s => some s) : Option Bool) =
      some (!b || (decide (a.Kind < 0) || (decide (11 ≤ a.Kind) || ((decide (0 < (a.Drawings.length : Int))) && (a.Kind != 2))))) := by
    cases b with
    | false => rfl
    | true =>
      by_cases h1 : a.Kind < 0
      · simp [h1]
      · by_cases h2 : 11 ≤ a.Kind
        · simp [h1, h2]
        · simp [h1, h2]
  have e2 : ((if decide (a.Day < d.Day) = true then some (decide (a.Day < d.Day)) else some (decide (1073741824 < a.Day))) : Option Bool) = some (decide (a.Day < d.Day) || decide (1073741824 < a.Day)) := by
    by_cases h : a.Day < d.Day <;> simp [h]
  unfold dossier_Step
  rw [hb, Option.bind_some, e1, Option.bind_some, e2, Option.bind_some, acts_eq, Option.bind_some, contains_int (by have := acts_len d.State; omega), Option.bind_some, clone_eq hs, Option.bind_some]
  split
  · rfl
  · split
    · rfl
    · by_cases h : a.Kind ∈ actsOf d.State
      · rw [if_neg (by simp [h]), if_pos (by simp [h])]
      · rw [if_pos (by simp [h]), if_neg (by simp [h])]; rfl
theorem acts_range {s k : Int} (h : k ∈ actsOf s) : 0 ≤ k ∧ k ≤ 10 := by
  unfold actsOf at h
  repeat' split at h
  all_goals (simp at h)
  all_goals omega
def plan0 : Plan := ⟨[], [], [], [], [], [], [], 0⟩
theorem may0 : clause_May plan0 5 5 = some true := by
  obtain ⟨r, g1, g2, g3⟩ := sortInts_spec (l := [5]) (by simp)
  obtain ⟨t, k1, _, k3, k4⟩ := compactInts_spec (l := r) (by have := g2.length_eq; simp at this; omega) g3
  have ht : t.length ≤ 1 := by have := g2.length_eq; simp at this; omega
  have h5 : (5 : Int) ∈ t := (k3 5).2 (g2.mem_iff.2 (by simp))
  have hD : clause_Days plan0 5 = some t.reverse := by
    unfold clause_Days
    rw [show iterL (clause_Days_L0 plan0 5) (plan0.Rules.length + 1) ([5], 0) = some (.ex 0 ([5], 0)) from rfl, Option.bind_some]
    dsimp only
    rw [g1, Option.bind_some, k1, Option.bind_some]
    unfold reverseInts
    rw [if_pos (by omega), Option.bind_some]
  unfold clause_May
  rw [hD, Option.bind_some, contains_int (by simp; omega), Option.bind_some]
  simp [h5]
def box0 (h : Int) : List Drawing := [⟨1, [⟨[⟨⟨⟨0, 0, 4, 4⟩, 0, h⟩, 2, 0, false⟩], []⟩]⟩]
theorem box_eq (h : Int) : law30_box h = some (box0 h) := rfl
theorem box_sm (h : Int) : SmL (box0 h) := ⟨by simp [box0], fun d hd => by
  obtain rfl : d = _ := List.mem_singleton.1 hd
  exact ⟨by simp, fun p hp => by
    obtain rfl : p = _ := List.mem_singleton.1 hp
    exact ⟨by simp, by simp⟩⟩⟩
theorem step1 : dossier_Step plan0 ⟨1, 0, 0, 3, 0, box0 9, 0, 0⟩ ⟨1, 5, 5, []⟩ = some (⟨1, 0, 2, 5, 5, box0 9, 0, 0⟩, 0) := by
  have hr : dossier_Right ⟨1, 0, 0, 3, 0, box0 9, 0, 0⟩ = some true := by kernel_rfl
  rw [step_eq hr (box_sm 9), if_neg (by decide), if_neg (by decide), if_pos (by decide)]
  unfold dossier_change
  dsimp only
  rw [may0]
  rfl
theorem small_true : law30_small = some true := by
  unfold law30_small
  rw [box_eq 9, Option.bind_some]
  rw [show (⟨[], [], [], [], [], [], [], 0⟩ : Plan) = plan0 from rfl, step1, Option.bind_some]
  kernel_rfl
end Go.Proofs.YtachpkjjlebadaaGreat

namespace Go.Proofs.YtachpkjjlebadaaGreat
open Go.Gb
set_option linter.unusedVariables false
set_option linter.unusedSimpArgs false
set_option linter.unusedSectionVars false
set_option linter.unusedVariables false
set_option linter.unusedSimpArgs false

theorem sameV_refl {l : List Volume} (h : l.length ≤ 1000000) : ref19_SameVolumes l l = some true := by
  obtain ⟨f, h1, h2, h3⟩ := loop_up (body := ref19_SameVolumes_L0 l l) (fun i s => s = ((i : Nat) : Int)) l.length (fun f => match f with | .ex _ _ => True | _ => False) (fun i s hi hs => by
      subst hs
      unfold ref19_SameVolumes_L0
      rw [if_pos (by simpa using hi), getI_nat hi, Option.bind_some, Option.bind_some, if_neg (by simp), addI_one (by omega)]
      exact .inl ⟨_, rfl, rfl⟩) (fun s hs => by
      subst hs
      unfold ref19_SameVolumes_L0
      rw [if_neg (by simp)]
      exact ⟨_, rfl, trivial, trivial⟩) 0 rfl (l.length + l.length + 1) (by omega)
  unfold ref19_SameVolumes
  rw [if_neg (by simp), h1, Option.bind_some]
  cases f with
  | go _ => exact h2.elim
  | ret _ => exact h3.elim
  | ex _ _ => rfl
theorem sameE_refl {l : List Entry} (h : l.length ≤ 1000000) : ref15_SameEntries l l = some true := by
  obtain ⟨f, h1, h2, h3⟩ := loop_up (body := ref15_SameEntries_L0 l l) (fun i s => s = ((i : Nat) : Int)) l.length (fun f => match f with | .ex _ _ => True | _ => False) (fun i s hi hs => by
      subst hs
      unfold ref15_SameEntries_L0
      rw [if_pos (by simpa using hi), getI_nat hi, Option.bind_some, Option.bind_some, if_neg (by simp), addI_one (by omega)]
      exact .inl ⟨_, rfl, rfl⟩) (fun s hs => by
      subst hs
      unfold ref15_SameEntries_L0
      rw [if_neg (by simp)]
      exact ⟨_, rfl, trivial, trivial⟩) 0 rfl (l.length + l.length + 1) (by omega)
  unfold ref15_SameEntries
  rw [if_neg (by simp), h1, Option.bind_some]
  cases f with
  | go _ => exact h2.elim
  | ret _ => exact h3.elim
  | ex _ _ => rfl
theorem sameD_refl {d : Drawing} (h : SmD d) : ref19_Same d d = some true := by
  have h9 := h.1
  obtain ⟨f, h1, h2, h3⟩ := loop_up (body := ref19_Same_L0 d d) (fun i s => s = ((i : Nat) : Int)) d.Phases.length (fun f => match f with | .ex _ _ => True | _ => False) (fun i s hi hs => by
      subst hs
      have hp := h.2 _ (List.getElem_mem hi)
      unfold ref19_Same_L0
      rw [if_pos (by simpa using hi), getI_nat hi, Option.bind_some, Option.bind_some, sameV_refl (by have := hp.1; omega), Option.bind_some, if_neg (by simp), Option.bind_some, Option.bind_some,
        sameE_refl (by have := hp.2; omega), Option.bind_some, Option.bind_some, if_neg (by simp), addI_one (by omega)]
      exact .inl ⟨_, rfl, rfl⟩) (fun s hs => by
      subst hs
      unfold ref19_Same_L0
      rw [if_neg (by simp)]
      exact ⟨_, rfl, trivial, trivial⟩) 0 rfl (d.Phases.length + 1) (by omega)
  unfold ref19_Same
  rw [if_neg (by simp), h1, Option.bind_some]
  cases f with
  | go _ => exact h2.elim
  | ret _ => exact h3.elim
  | ex _ _ => rfl
theorem same_refl {d : Dossier} (h : SmL d.Drawings) : ref30_Same d d = some true := by
  have h9 := h.1
  obtain ⟨f, h1, h2, h3⟩ := loop_up (body := ref30_Same_L0 d d) (fun i s => s = ((i : Nat) : Int)) d.Drawings.length (fun f => match f with | .ex _ _ => True | _ => False) (fun i s hi hs => by
      subst hs
      unfold ref30_Same_L0
      rw [if_pos (by simpa using hi), getI_nat hi, Option.bind_some, Option.bind_some, sameD_refl (h.2 _ (List.getElem_mem hi)), Option.bind_some, if_neg (by simp), addI_one (by omega)]
      exact .inl ⟨_, rfl, rfl⟩) (fun s hs => by
      subst hs
      unfold ref30_Same_L0
      rw [if_neg (by simp)]
      exact ⟨_, rfl, trivial, trivial⟩) 0 rfl (d.Drawings.length + 1) (by omega)
  unfold ref30_Same
  rw [if_neg (by simp), h1, Option.bind_some]
  cases f with
  | go _ => exact h2.elim
  | ret _ => exact h3.elim
  | ex _ _ => rfl
end Go.Proofs.YtachpkjjlebadaaGreat

namespace Go.Proofs.YtachpkjjlebadaaGreat
open Go.Gb
set_option linter.unusedVariables false
set_option linter.unusedSimpArgs false
set_option linter.unusedSectionVars false
set_option linter.unusedVariables false
set_option linter.unusedSimpArgs false

theorem sm_nil : SmL [] := ⟨by simp, fun d hd => by simp at hd⟩
theorem amend_sm {d : Dossier} {l : List Drawing} (hd : SmL d.Drawings) (hl : SmL l) : ∃ r, dossier_amend d l = some r ∧ SmL r.1.Drawings := by
  obtain ⟨g, hg⟩ := formed_tot hl
  unfold dossier_amend
  rw [hg, Option.bind_some]
  cases g with
  | false => rw [if_pos (show (!false) = true from rfl)]; exact ⟨_, rfl, sm_nil⟩
  | true =>
    rw [if_neg (by simp)]
    obtain ⟨c, hc⟩ : Tot (if (decide (2 ≤ d.State)) = true then (dossier_Less l d.Drawings).bind fun x => some (!x) else some false) := Tot.ite (fun _ => Tot.bind (less_tot hl hd) fun _ _ => Tot.pure _) fun _ => Tot.pure _
    rw [hc, Option.bind_some]
    cases c with
    | true => rw [if_pos rfl, Option.bind_some, clone_eq hl, Option.bind_some]; exact ⟨_, rfl, hl⟩
    | false => rw [if_neg (by simp), Option.bind_some, clone_eq hl, Option.bind_some]; exact ⟨_, rfl, hl⟩
theorem change_sm {p : Plan} {d : Dossier} {a : Act} {before : Int} (hp : p.Rules.length ≤ 20) (hd : SmL d.Drawings) (hl : SmL a.Drawings) (hday : 0 ≤ a.Day ∧ a.Day ≤ 1073741824) (hbe : 0 ≤ before ∧ before ≤ 1073741824)
    (hk : 0 ≤ a.Kind ∧ a.Kind ≤ 10) : ∃ r, dossier_change p d a before = some r ∧ SmL r.1.Drawings := by
  obtain ⟨m, hm⟩ := may_tot (n := a.N) hp hday
  obtain ⟨am, ham, hams⟩ := amend_sm hd hl
  have hsub : subI a.Day before = some (a.Day - before) := subI_some (by constructor <;> omega)
  unfold dossier_change
  rw [hm, ham, hsub]
  have : a.Kind = 0 ∨ a.Kind = 1 ∨ a.Kind = 2 ∨ a.Kind = 3 ∨ a.Kind = 4 ∨ a.Kind = 5 ∨ a.Kind = 6 ∨ a.Kind = 7 ∨ a.Kind = 8 ∨ a.Kind = 9 ∨ a.Kind = 10 := by omega
  rcases this with h | h | h | h | h | h | h | h | h | h | h <;> rw [h]
  · exact ⟨_, rfl, hd⟩
  · cases m
    · exact ⟨_, rfl, sm_nil⟩
    · exact ⟨_, rfl, hd⟩
  · exact ⟨_, rfl, hams⟩
  · exact ⟨_, rfl, hd⟩
  · exact ⟨_, rfl, hd⟩
  · by_cases hc : ((decide (a.N < 0)) || (decide ((d.Drawings.length : Int) ≤ a.N))) = true
    · rw [if_pos hc]; exact ⟨_, rfl, sm_nil⟩
    · rw [if_neg hc]; exact ⟨_, rfl, hd⟩
  · exact ⟨_, rfl, hd⟩
  · exact ⟨_, rfl, hd⟩
  · by_cases hc : a.Day - before < 365
    · exact ⟨(noD, 20), by simp [hc, noD], sm_nil⟩
    · exact ⟨({ d with State := 8 }, 0), by simp [hc], hd⟩
  · by_cases hc : ((decide (a.N < 0)) || (a.N == d.Holder)) = true
    · rw [if_pos hc]; exact ⟨_, rfl, sm_nil⟩
    · rw [if_neg hc]; exact ⟨_, rfl, hd⟩
  · by_cases hc : ((decide (a.N < 1)) || (a.N == d.Id)) = true
    · rw [if_pos hc]; exact ⟨_, rfl, sm_nil⟩
    · rw [if_neg hc]; exact ⟨_, rfl, hd⟩
theorem step_sm {p : Plan} {d : Dossier} {a : Act} (hp : p.Rules.length ≤ 20) (hd : SmL d.Drawings) (hl : SmL a.Drawings) : ∃ r, dossier_Step p d a = some r ∧ SmL r.1.Drawings := by
  obtain ⟨b, hb, hb2⟩ := right_spec hd
  rw [step_eq hb hd]
  split
  · exact ⟨_, rfl, sm_nil⟩
  · rename_i h1
    split
    · exact ⟨_, rfl, sm_nil⟩
    · rename_i h2
      split
      · rename_i h3
        simp at h1 h2 h3
        have hr := hb2 h1.1
        obtain ⟨r, h4, h5⟩ := change_sm (d := { d with Day := a.Day }) (before := d.Day) hp hd hl ⟨by omega, by omega⟩ ⟨by omega, by omega⟩ (acts_range h3)
        rw [h4, Option.bind_some]
        exact ⟨_, rfl, h5⟩
      · exact ⟨_, rfl, sm_nil⟩
end Go.Proofs.YtachpkjjlebadaaGreat

namespace Go.Proofs.YtachpkjjlebadaaGreat
open Go.Gb
set_option linter.unusedVariables false
set_option linter.unusedSimpArgs false
set_option linter.unusedSectionVars false
set_option linter.unusedVariables false
set_option linter.unusedSimpArgs false

noncomputable def runL (p : Plan) : Nat → Dossier → List Act → Option (Dossier × Int × Int)
  | i, d, [] => some (d, (i : Int), 0)
  | i, d, a :: l => (dossier_Step p d a).bind fun x => if (x.2 != 0) = true then some (d, (i : Int), x.2) else runL p (i + 1) x.1 l
theorem run_loop (p : Plan) (L : List Act) (hL : L.length ≤ 1000000) : ∀ (l : List Act) (i : Nat) (d z : Dossier) (fuel : Nat), L.drop i = l → l.length < fuel → i + l.length = L.length →
    (iterL (dossier_Run_L0 p L) fuel ((i : Int), d, z)).bind (fun f => match f with | .go _ => none | .ex _ s => some (s.2.1, (L.length : Int), (0 : Int)) | .ret r => some r) = runL p i d l
  | [], i, d, z, fuel, h, hf, hi => by
    obtain ⟨fuel, rfl⟩ : ∃ n, fuel = n + 1 := ⟨fuel - 1, by simp at hf; omega⟩
    have hi : i = L.length := by simpa using hi
    subst hi
    have e : dossier_Run_L0 p L ((L.length : Int), d, z) = some (.ex 0 ((L.length : Int), d, z)) := by
      unfold dossier_Run_L0
      dsimp only
      rw [if_neg (by simp)]
    simp only [iterL, e, Option.bind_some, runL]
  | a :: l, i, d, z, fuel, h, hf, hi => by
    obtain ⟨fuel, rfl⟩ : ∃ n, fuel = n + 1 := ⟨fuel - 1, by simp at hf; omega⟩
    have hlt : i < L.length := by simp at hi; omega
    have ha : L[i] = a := by
      have := List.drop_eq_getElem_cons hlt
      rw [h] at this
      exact (List.cons.inj this).1.symm
    have hl : L.drop (i + 1) = l := by
      have := List.drop_eq_getElem_cons hlt
      rw [h] at this
      exact (List.cons.inj this).2.symm
    cases hst : dossier_Step p d a with
    | none =>
      have e : dossier_Run_L0 p L ((i : Int), d, z) = none := by
        unfold dossier_Run_L0
        dsimp only
        rw [if_pos (by simpa using hlt), getI_nat hlt, Option.bind_some, ha, hst]
        rfl
      simp only [iterL, e, runL, hst, Option.bind_none]
    | some x =>
      by_cases hx : (x.2 != 0) = true
      · have e : dossier_Run_L0 p L ((i : Int), d, z) = some (.ret (d, (i : Int), x.2)) := by
          unfold dossier_Run_L0
          dsimp only
          rw [if_pos (by simpa using hlt), getI_nat hlt, Option.bind_some, ha, hst, Option.bind_some, if_pos hx]
        simp only [iterL, e, runL, hst, Option.bind_some, if_pos hx]
      · have e : dossier_Run_L0 p L ((i : Int), d, z) = some (.go (((i + 1 : Nat) : Int), x.1, z)) := by
          unfold dossier_Run_L0
          dsimp only
          rw [if_pos (by simpa using hlt), getI_nat hlt, Option.bind_some, ha, hst, Option.bind_some, if_neg hx, addI_one (by omega)]
          rfl
        have ih := run_loop p L hL l (i + 1) x.1 z fuel hl (by simp at hf; omega) (by simp at hi; omega)
        simp only [iterL, e, runL, hst, Option.bind_some, if_neg hx]
        exact ih
theorem run_eq {p : Plan} {d : Dossier} {l : List Act} (hl : l.length ≤ 1000000) (hd : SmL d.Drawings) : dossier_Run p d l = runL p 0 d l := by
  unfold dossier_Run
  rw [clone_eq hd, Option.bind_some]
  exact run_loop p l hl l 0 d _ (l.length + 1) rfl (by omega) (by omega)
end Go.Proofs.YtachpkjjlebadaaGreat

namespace Go.Proofs.YtachpkjjlebadaaGreat
open Go.Gb
set_option linter.unusedVariables false
set_option linter.unusedSimpArgs false
set_option linter.unusedSectionVars false
set_option linter.unusedVariables false
set_option linter.unusedSimpArgs false

theorem eqP_spec {s t : List Phase} {f : Phase → Phase → Option Bool} (hl : s.length ≤ 1000000) (hf : ∀ x ∈ s, ∀ y ∈ t, Tot (f x y)) :
    ∃ b, slices_EqualFunc_Phase_Phase_Phase s t f = some b ∧ (b = true ↔ s.length = t.length ∧ ∀ i (h1 : i < s.length) (h2 : i < t.length), f s[i] t[i] = some true) := by
  unfold slices_EqualFunc_Phase_Phase_Phase
  by_cases hlen : s.length = t.length
  · rw [if_neg (by simp [hlen])]
    obtain ⟨fl, h1, h2, h3⟩ := loop_up (body := slices_EqualFunc_Phase_Phase_Phase_L0 s t f) (fun i n => n = ((i : Nat) : Int) ∧ ∀ m (h1 : m < s.length) (h2 : m < t.length), m < i → f s[m] t[m] = some true) s.length
      (fun fl => match fl with | .ex _ _ => ∀ i (h1 : i < s.length) (h2 : i < t.length), f s[i] t[i] = some true | .ret r => r = false ∧ ∃ i, ∃ (h1 : i < s.length) (h2 : i < t.length), f s[i] t[i] = some false | .go _ => False) (fun i n hi ⟨hn, hI⟩ => by
        subst hn
        unfold slices_EqualFunc_Phase_Phase_Phase_L0
        obtain ⟨b, hb⟩ := hf s[i] (List.getElem_mem hi) (t[i]'(by omega)) (List.getElem_mem _)
        rw [if_pos (by simpa using hi), getI_nat hi, Option.bind_some, getI_nat (by omega : i < t.length), Option.bind_some, hb, Option.bind_some]
        cases b with
        | false => exact .inr ⟨_, rfl, trivial, rfl, i, hi, by omega, hb⟩
        | true =>
          rw [if_neg (by simp), addI_one (by omega)]
          refine .inl ⟨_, rfl, rfl, fun m h1 h2 hm => ?_⟩
          by_cases e : m = i
          · subst e; exact hb
          · exact hI m h1 h2 (by omega)) (fun n ⟨hn, hI⟩ => by
        subst hn
        unfold slices_EqualFunc_Phase_Phase_Phase_L0
        rw [if_neg (by simp)]
        exact ⟨_, rfl, trivial, fun i h1 h2 => hI i h1 h2 h1⟩) 0 ⟨rfl, fun m _ _ h => by omega⟩ (s.length + 1) (by omega)
    rw [h1, Option.bind_some]
    cases fl with
    | go _ => exact h3.elim
    | ex _ _ => exact ⟨_, rfl, fun _ => ⟨hlen, h3⟩, fun _ => rfl⟩
    | ret r =>
      obtain ⟨rfl, i, g1, g2, g3⟩ := h3
      refine ⟨_, rfl, fun h => by simp at h, fun h => ?_⟩
      rw [h.2 i g1 g2] at g3; simp at g3
  · rw [if_pos (by simp; omega)]
    exact ⟨_, rfl, fun h => by simp at h, fun h => absurd h.1 hlen⟩
theorem eqD_spec {s t : List Drawing} {f : Drawing → Drawing → Option Bool} (hl : s.length ≤ 1000000) (hf : ∀ x ∈ s, ∀ y ∈ t, Tot (f x y)) :
    ∃ b, slices_EqualFunc_Drawing_Drawing_Drawing s t f = some b ∧ (b = true ↔ s.length = t.length ∧ ∀ i (h1 : i < s.length) (h2 : i < t.length), f s[i] t[i] = some true) := by
  unfold slices_EqualFunc_Drawing_Drawing_Drawing
  by_cases hlen : s.length = t.length
  · rw [if_neg (by simp [hlen])]
    obtain ⟨fl, h1, h2, h3⟩ := loop_up (body := slices_EqualFunc_Drawing_Drawing_Drawing_L0 s t f) (fun i n => n = ((i : Nat) : Int) ∧ ∀ m (h1 : m < s.length) (h2 : m < t.length), m < i → f s[m] t[m] = some true) s.length
      (fun fl => match fl with | .ex _ _ => ∀ i (h1 : i < s.length) (h2 : i < t.length), f s[i] t[i] = some true | .ret r => r = false ∧ ∃ i, ∃ (h1 : i < s.length) (h2 : i < t.length), f s[i] t[i] = some false | .go _ => False) (fun i n hi ⟨hn, hI⟩ => by
        subst hn
        unfold slices_EqualFunc_Drawing_Drawing_Drawing_L0
        obtain ⟨b, hb⟩ := hf s[i] (List.getElem_mem hi) (t[i]'(by omega)) (List.getElem_mem _)
        rw [if_pos (by simpa using hi), getI_nat hi, Option.bind_some, getI_nat (by omega : i < t.length), Option.bind_some, hb, Option.bind_some]
        cases b with
        | false => exact .inr ⟨_, rfl, trivial, rfl, i, hi, by omega, hb⟩
        | true =>
          rw [if_neg (by simp), addI_one (by omega)]
          refine .inl ⟨_, rfl, rfl, fun m h1 h2 hm => ?_⟩
          by_cases e : m = i
          · subst e; exact hb
          · exact hI m h1 h2 (by omega)) (fun n ⟨hn, hI⟩ => by
        subst hn
        unfold slices_EqualFunc_Drawing_Drawing_Drawing_L0
        rw [if_neg (by simp)]
        exact ⟨_, rfl, trivial, fun i h1 h2 => hI i h1 h2 h1⟩) 0 ⟨rfl, fun m _ _ h => by omega⟩ (s.length + 1) (by omega)
    rw [h1, Option.bind_some]
    cases fl with
    | go _ => exact h3.elim
    | ex _ _ => exact ⟨_, rfl, fun _ => ⟨hlen, h3⟩, fun _ => rfl⟩
    | ret r =>
      obtain ⟨rfl, i, g1, g2, g3⟩ := h3
      refine ⟨_, rfl, fun h => by simp at h, fun h => ?_⟩
      rw [h.2 i g1 g2] at g3; simp at g3
  · rw [if_pos (by simp; omega)]
    exact ⟨_, rfl, fun h => by simp at h, fun h => absurd h.1 hlen⟩
theorem eqE_spec {s t : List Entry} (hl : s.length ≤ 1000000) : slices_Equal_Entry s t = some (decide (s = t)) := by
  unfold slices_Equal_Entry
  by_cases hlen : s.length = t.length
  · rw [if_neg (by simp [hlen])]
    obtain ⟨fl, h1, h2, h3⟩ := loop_up (body := slices_Equal_Entry_L0 s t) (fun i n => n = ((i : Nat) : Int) ∧ ∀ m (h1 : m < s.length) (h2 : m < t.length), m < i → s[m] = t[m]) s.length
      (fun fl => match fl with | .ex _ _ => s = t | .ret r => r = false ∧ s ≠ t | .go _ => False) (fun i n hi ⟨hn, hI⟩ => by
        subst hn
        unfold slices_Equal_Entry_L0
        rw [if_pos (by simpa using hi), getI_nat hi, Option.bind_some, getI_nat (by omega : i < t.length), Option.bind_some]
        by_cases he : s[i] = t[i]'(by omega)
        · rw [if_neg (by simpa using he), addI_one (by omega)]
          refine .inl ⟨_, rfl, rfl, fun m h1 h2 hm => ?_⟩
          by_cases e : m = i
          · subst e; exact he
          · exact hI m h1 h2 (by omega)
        · rw [if_pos (by simpa using he)]
          refine .inr ⟨_, rfl, trivial, rfl, fun h => he ?_⟩
          subst h; rfl) (fun n ⟨hn, hI⟩ => by
        subst hn
        unfold slices_Equal_Entry_L0
        rw [if_neg (by simp)]
        exact ⟨_, rfl, trivial, List.ext_getElem hlen fun i h1 h2 => hI i h1 h2 h1⟩) 0 ⟨rfl, fun m _ _ h => by omega⟩ (s.length + 1) (by omega)
    rw [h1, Option.bind_some]
    cases fl with
    | go _ => exact h3.elim
    | ex _ _ =>
      have h3 : s = t := h3
      dsimp only; rw [decide_eq_true h3]
    | ret r =>
      obtain ⟨rfl, h3⟩ := h3
      dsimp only; rw [decide_eq_false h3]
  · rw [if_pos (by simp; omega), decide_eq_false fun h => hlen (by rw [h])]

/-- lower, and with fewer units -/
def lowB (a b : Volume) : Bool := decide (a.Box.Z1 ≤ b.Box.Z1 ∧ a.Units ≤ b.Units ∧ a.Box.Base = b.Box.Base ∧ a.Box.Z0 = b.Box.Z0 ∧ a.Use = b.Use ∧ a.Extra = b.Extra)
theorem lower_eq (a b : Volume) : dossier_lower a b = some (lowB a b) := by
  unfold dossier_lower lowB
  by_cases h1 : b.Box.Z1 < a.Box.Z1
  · rw [if_pos (by simp [h1])]
    congr 1; exact (decide_eq_false fun h => by omega).symm
  · by_cases h2 : b.Units < a.Units
    · rw [if_pos (by simp [h2])]
      congr 1; exact (decide_eq_false fun h => by omega).symm
    · rw [if_neg (by simp [h1, h2])]
      congr 1
      rw [decide_eq_decide]
      obtain ⟨⟨b1, b2, b3⟩, b4, b5, b6⟩ := b
      obtain ⟨⟨a1, a2, a3⟩, a4, a5, a6⟩ := a
      simp only [Volume.mk.injEq, Box.mk.injEq] at *
      constructor
      · rintro ⟨⟨h3, h4, _⟩, h5, _, h6⟩; exact ⟨by omega, by omega, h3, h4, h5, h6⟩
      · rintro ⟨_, _, h3, h4, h5, h6⟩; exact ⟨⟨h3, h4, trivial⟩, h5, trivial, h6⟩
theorem low_trans {a b c : Volume} (h : lowB a b = true) (g : lowB b c = true) : lowB a c = true := by
  simp only [lowB, decide_eq_true_eq] at *
  obtain ⟨h1, h2, h3, h4, h5, h6⟩ := h
  obtain ⟨g1, g2, g3, g4, g5, g6⟩ := g
  exact ⟨by omega, by omega, h3.trans g3, h4.trans g4, h5.trans g5, h6.trans g6⟩
/-- some volumes are others, in this order, that may have become lower -/
inductive Emb : List Volume → List Volume → Prop
  | nil (m : List Volume) : Emb [] m
  | cons {a b : Volume} {l m : List Volume} (h : lowB a b = true) (t : Emb l m) : Emb (a :: l) (b :: m)
  | skip {l m : List Volume} (b : Volume) (t : Emb l m) : Emb l (b :: m)
theorem Emb.trans {m n : List Volume} (g : Emb m n) : ∀ {l : List Volume}, Emb l m → Emb l n := by
  induction g with
  | nil n => intro l h; cases h; exact .nil _
  | cons hab _ ih =>
    intro l h
    cases h with
    | nil => exact .nil _
    | cons h' t => exact .cons (low_trans h' hab) (ih t)
    | skip _ t => exact .skip _ (ih t)
  | skip b _ ih => intro l h; exact .skip b (ih h)
theorem Emb.tail {a : Volume} {l m : List Volume} (h : Emb (a :: l) m) : Emb l m := by
  generalize hx : a :: l = x at h
  induction h with
  | nil => simp at hx
  | cons _ t _ => obtain ⟨rfl, rfl⟩ := List.cons.inj hx; exact .skip _ t
  | skip b _ ih => exact .skip b (ih hx)
/-- the search of takes -/
def stepG (l : List Volume) (v : Volume) : List Volume := match l with
  | [] => []
  | a :: l => if lowB a v then l else a :: l
theorem foldG_nil : ∀ m : List Volume, m.foldl stepG [] = []
  | [] => rfl
  | _ :: m => foldG_nil m
theorem foldG : ∀ (m l : List Volume), m.foldl stepG l = [] ↔ Emb l m
  | [], l => ⟨fun h => by cases h; exact .nil _, fun h => by cases h; rfl⟩
  | v :: m, [] => ⟨fun _ => .nil _, fun _ => foldG_nil _⟩
  | v :: m, a :: l => by
    rw [List.foldl_cons]
    by_cases h : lowB a v = true
    · rw [show stepG (a :: l) v = l from if_pos h, foldG m l]
      refine ⟨fun t => .cons h t, fun t => ?_⟩
      cases t with
      | cons _ t => exact t
      | skip _ t => exact t.tail
    · rw [show stepG (a :: l) v = a :: l from if_neg h, foldG m (a :: l)]
      refine ⟨fun t => .skip _ t, fun t => ?_⟩
      cases t with
      | cons h' _ => exact absurd h' h
      | skip _ t => exact t
theorem takes_spec {a b : Phase} (ha : SmP a) (hb : SmP b) : ∃ c, dossier_takes a b = some c ∧ (c = true ↔ Emb a.Volumes b.Volumes ∧ a.Gives = b.Gives) := by
  have hb1 := hb.1; have ha1 := ha.1; have ha2 := ha.2
  obtain ⟨fl, h1, h2, h3⟩ := loop_up (body := dossier_takes_L0 b) (fun i s => s.2 = ((i : Nat) : Int) ∧ s.1 = (b.Volumes.take i).foldl stepG a.Volumes ∧ s.1.length ≤ 12) b.Volumes.length
    (fun fl => match fl with | .ex _ s => s.1 = b.Volumes.foldl stepG a.Volumes | _ => False) (fun i s hi ⟨hs, hI, hl⟩ => by
      obtain ⟨l, j⟩ := s
      dsimp only at hs hI hl
      subst hs
      unfold dossier_takes_L0
      dsimp only
      rw [if_pos (by simpa using hi), getI_nat hi, Option.bind_some]
      have hst : (b.Volumes.take (i + 1)).foldl stepG a.Volumes = stepG l b.Volumes[i] := by
        rw [List.take_succ_eq_append_getElem hi, List.foldl_append, ← hI]; rfl
      cases l with
      | nil =>
        rw [if_neg (by simp), Option.bind_some, if_neg (by simp), Option.bind_some, addI_one (by omega)]
        exact .inl ⟨_, rfl, rfl, by rw [hst]; rfl, by simp⟩
      | cons x l =>
        rw [if_pos (by simp), show (0 : Int) = ((0 : Nat) : Int) from rfl, getI_nat (by simp), Option.bind_some, lower_eq, Option.bind_some, Option.bind_some, List.getElem_cons_zero]
        by_cases hc : lowB x b.Volumes[i] = true
        · rw [if_pos hc, sliceI_some (by omega) (by simp; omega) (by omega), Option.bind_some, Option.bind_some, addI_one (by omega)]
          refine .inl ⟨_, rfl, rfl, ?_, ?_⟩
          · rw [hst]
            show _ = stepG (x :: l) _
            rw [show stepG (x :: l) b.Volumes[i] = l from if_pos hc]
            simp
          · simp at hl ⊢; omega
        · rw [if_neg hc, Option.bind_some, addI_one (by omega)]
          exact .inl ⟨_, rfl, rfl, by rw [hst]; exact (if_neg hc).symm, hl⟩) (fun s ⟨hs, hI, _⟩ => by
      unfold dossier_takes_L0
      rw [hs, if_neg (by simp)]
      rw [List.take_length] at hI
      exact ⟨_, rfl, trivial, hI⟩) (a.Volumes, 0) ⟨rfl, by simp, ha1⟩ (b.Volumes.length + 1) (by omega)
  unfold dossier_takes
  rw [h1, Option.bind_some]
  cases fl with
  | go _ => exact h3.elim
  | ret _ => exact h3.elim
  | ex _ s =>
    have h3 : s.1 = b.Volumes.foldl stepG a.Volumes := h3
    dsimp only
    rw [eqE_spec (by omega)]
    by_cases hz : s.1 = []
    · rw [if_pos (by simp [hz]), Option.bind_some, Option.bind_some]
      have hE := (foldG b.Volumes a.Volumes).1 (h3.symm.trans hz)
      refine ⟨_, rfl, ?_⟩
      rw [decide_eq_true_eq]
      exact ⟨fun h => ⟨hE, h⟩, fun h => h.2⟩
    · rw [if_neg (by simpa using hz), Option.bind_some]
      refine ⟨_, rfl, fun h => by simp at h, fun h => ?_⟩
      exact absurd (h3.trans ((foldG _ _).2 h.1)) hz
/-- a drawing takes only away from another one -/
def LessD (x y : Drawing) : Prop := x.Lot = y.Lot ∧ x.Phases.length = y.Phases.length ∧ ∀ j (h1 : j < x.Phases.length) (h2 : j < y.Phases.length), Emb x.Phases[j].Volumes y.Phases[j].Volumes ∧ x.Phases[j].Gives = y.Phases[j].Gives
def LessP (a b : List Drawing) : Prop := a.length = b.length ∧ ∀ i (h1 : i < a.length) (h2 : i < b.length), LessD a[i] b[i]
theorem lessD_spec {x y : Drawing} (hx : SmD x) (hy : SmD y) : ∃ c, dossier_Less_1 x y = some c ∧ (c = true ↔ LessD x y) := by
  have h9 := hx.1
  unfold dossier_Less_1
  by_cases hl : x.Lot = y.Lot
  · rw [if_pos (by simpa using hl)]
    obtain ⟨c, h1, h2⟩ := eqP_spec (s := x.Phases) (t := y.Phases) (f := dossier_takes) (by omega) fun p hp q hq => takes_tot (hx.2 p hp) (hy.2 q hq)
    rw [h1, Option.bind_some, Option.bind_some]
    refine ⟨_, rfl, h2.trans ⟨fun h => ⟨hl, h.1, fun j g1 g2 => ?_⟩, fun h => ⟨h.2.1, fun j g1 g2 => ?_⟩⟩⟩
    · obtain ⟨d, k1, k2⟩ := takes_spec (hx.2 _ (List.getElem_mem g1)) (hy.2 _ (List.getElem_mem g2))
      rw [h.2 j g1 g2] at k1
      exact k2.1 (Option.some.inj k1).symm
    · obtain ⟨d, k1, k2⟩ := takes_spec (hx.2 _ (List.getElem_mem g1)) (hy.2 _ (List.getElem_mem g2))
      rw [k1, k2.2 (h.2.2 j g1 g2)]
  · rw [if_neg (by simpa using hl), Option.bind_some]
    exact ⟨_, rfl, fun h => by simp at h, fun h => absurd h.1 hl⟩
theorem less_spec {a b : List Drawing} (ha : SmL a) (hb : SmL b) : ∃ c, dossier_Less a b = some c ∧ (c = true ↔ LessP a b) := by
  have h9 := ha.1
  unfold dossier_Less
  obtain ⟨c, h1, h2⟩ := eqD_spec (s := a) (t := b) (f := dossier_Less_1) (by omega) fun p hp q hq => (lessD_spec (ha.2 p hp) (hb.2 q hq)).imp fun _ h => h.1
  rw [h1, Option.bind_some]
  refine ⟨_, rfl, h2.trans ⟨fun h => ⟨h.1, fun j g1 g2 => ?_⟩, fun h => ⟨h.1, fun j g1 g2 => ?_⟩⟩⟩
  · obtain ⟨d, k1, k2⟩ := lessD_spec (ha.2 _ (List.getElem_mem g1)) (hb.2 _ (List.getElem_mem g2))
    rw [h.2 j g1 g2] at k1
    exact k2.1 (Option.some.inj k1).symm
  · obtain ⟨d, k1, k2⟩ := lessD_spec (ha.2 _ (List.getElem_mem g1)) (hb.2 _ (List.getElem_mem g2))
    rw [k1, k2.2 (h.2 j g1 g2)]
theorem LessD.trans {x y z : Drawing} (h : LessD x y) (g : LessD y z) : LessD x z :=
  ⟨h.1.trans g.1, h.2.1.trans g.2.1, fun j h1 h2 => ⟨(g.2.2 j (by have := h.2.1; omega) h2).1.trans (h.2.2 j h1 (by have := h.2.1; omega)).1, (h.2.2 j h1 (by have := h.2.1; omega)).2.trans (g.2.2 j (by have := h.2.1; omega) h2).2⟩⟩
theorem LessP.trans {a b c : List Drawing} (h : LessP a b) (g : LessP b c) : LessP a c :=
  ⟨h.1.trans g.1, fun i h1 h2 => (h.2 i h1 (by have := h.1; omega)).trans (g.2 i (by have := h.1; omega) h2)⟩
end Go.Proofs.YtachpkjjlebadaaGreat

namespace Go.Proofs.YtachpkjjlebadaaGreat
open Go.Gb
set_option linter.unusedVariables false
set_option linter.unusedSimpArgs false
set_option linter.unusedSectionVars false
set_option linter.unusedVariables false
set_option linter.unusedSimpArgs false

def allV (d : Drawing) : List Volume := d.Phases.flatMap (·.Volumes)
theorem volumes_eq {d : Drawing} (h : SmD d) {n : Int} (hn : (d.Phases.length : Int) ≤ n) : drawing_Volumes d 0 n = some (allV d) := by
  obtain ⟨f, h1, h2, h3⟩ := loop_up (body := drawing_Volumes_L0 d 0 n) (fun i s => s.2 = ((i : Nat) : Int) ∧ s.1 = (d.Phases.take i).flatMap (·.Volumes) ∧ s.1.length ≤ 12 * i) d.Phases.length
    (fun f => match f with | .ex _ s => s.1 = allV d | _ => False) (fun i s hi ⟨hs, hI, hl⟩ => by
      have h9 := h.1
      have hv := (h.2 _ (List.getElem_mem hi)).1
      unfold drawing_Volumes_L0
      rw [hs, if_pos (by simpa using hi), getI_nat hi, Option.bind_some, if_pos (by simp; omega), appI_some (by omega), Option.bind_some, Option.bind_some, addI_one (by omega), Option.bind_some]
      refine .inl ⟨_, rfl, rfl, ?_, by simp; omega⟩
      rw [List.take_succ_eq_append_getElem hi, List.flatMap_append, hI]
      simp) (fun s ⟨hs, hI, _⟩ => by
      unfold drawing_Volumes_L0
      rw [hs, if_neg (by simp)]
      rw [List.take_length] at hI
      exact ⟨_, rfl, trivial, hI⟩) ([], 0) ⟨rfl, by simp, by simp⟩ (d.Phases.length + 1) (by omega)
  unfold drawing_Volumes
  rw [h1, Option.bind_some]
  cases f with
  | go _ => exact h2.elim
  | ret r => exact h3.elim
  | ex _ s => dsimp only at h3 ⊢; rw [h3]
theorem all_eq {d : Drawing} (h : SmD d) : drawing_all d = some (allV d) := by
  unfold drawing_all
  rw [volumes_eq h (Int.le_refl _), Option.bind_some]
theorem containsD_spec {s : List Drawing} {f : Drawing → Option Bool} (hl : s.length ≤ 1000000) (hf : ∀ x ∈ s, Tot (f x)) : ∃ b, slices_ContainsFunc_Drawing s f = some b ∧ (b = false ↔ ∀ x ∈ s, f x = some false) := by
  obtain ⟨fl, h1, h2, h3⟩ := loop_up (body := slices_IndexFunc_Drawing_L0 s f) (fun i t => t = ((i : Nat) : Int) ∧ ∀ m (h : m < s.length), m < i → f s[m] = some false) s.length
    (fun fl => match fl with | .ex _ _ => ∀ x ∈ s, f x = some false | .ret r => 0 ≤ r ∧ ∃ x ∈ s, f x = some true | .go _ => False) (fun i t hi ⟨ht, hI⟩ => by
      subst ht
      unfold slices_IndexFunc_Drawing_L0
      obtain ⟨b, hb⟩ := hf s[i] (List.getElem_mem hi)
      rw [if_pos (by simpa using hi), getI_nat hi, Option.bind_some, hb, Option.bind_some]
      cases b with
      | true => exact .inr ⟨_, rfl, trivial, by show (0 : Int) ≤ i; omega, _, List.getElem_mem hi, hb⟩
      | false =>
        rw [if_neg (by simp), addI_one (by omega)]
        refine .inl ⟨_, rfl, rfl, fun m hm hmi => ?_⟩
        by_cases e : m = i
        · subst e; exact hb
        · exact hI m hm (by omega)) (fun t ⟨ht, hI⟩ => by
      subst ht
      unfold slices_IndexFunc_Drawing_L0
      rw [if_neg (by simp)]
      refine ⟨_, rfl, trivial, fun x hx => ?_⟩
      obtain ⟨m, hm, rfl⟩ := List.getElem_of_mem hx
      exact hI m hm hm) 0 ⟨rfl, fun m _ h => by omega⟩ (s.length + 1) (by omega)
  unfold slices_ContainsFunc_Drawing slices_IndexFunc_Drawing
  rw [h1, Option.bind_some]
  cases fl with
  | go _ => exact h3.elim
  | ex _ _ => exact ⟨_, rfl, fun _ => h3, fun _ => rfl⟩
  | ret r =>
    obtain ⟨h3, x, hx, hxt⟩ := h3
    refine ⟨_, rfl, fun h => ?_, fun h => ?_⟩
    · simp only [decide_eq_false_iff_not] at h; exact absurd h3 h
    · rw [h x hx] at hxt; simp at hxt
def FB (d : Drawing) : Bool := drawing_Form d == some true
theorem FB_eq {d : Drawing} (h : SmD d) : drawing_Form d = some (FB d) := by
  obtain ⟨g, hg⟩ := form_tot h
  unfold FB
  rw [hg]
  cases g <;> rfl
def fmd (l : List Drawing) : Bool := decide (1 ≤ l.length) && decide (l.length ≤ 8) && l.all FB
theorem formed_eq {l : List Drawing} (hl : SmL l) : dossier_formed l = some (fmd l) := by
  have h9 := hl.1
  unfold dossier_formed fmd
  by_cases h1 : l.length < 1
  · rw [if_pos (by simp; omega)]; simp; omega
  · by_cases h2 : 8 < l.length
    · rw [if_pos (by simp; omega)]; simp; omega
    · rw [if_neg (by simp; omega)]
      obtain ⟨b, hb, hbs⟩ := containsD_spec (s := l) (f := dossier_formed_1) (by omega) fun x hx => by
        unfold dossier_formed_1; exact Tot.bind (form_tot (hl.2 x hx)) fun _ _ => Tot.pure _
      rw [hb, Option.bind_some, decide_eq_true (by omega : 1 ≤ l.length), decide_eq_true (by omega : l.length ≤ 8)]
      simp only [Bool.true_and, Option.some.injEq]
      have key : b = false ↔ l.all FB = true := by
        rw [hbs, List.all_eq_true]
        refine forall_congr' fun x => forall_congr' fun hx => ?_
        unfold dossier_formed_1
        rw [FB_eq (hl.2 x hx), Option.bind_some]
        simp
      cases b with
      | false => exact (key.1 rfl).symm
      | true =>
        cases hq : l.all FB with
        | false => rfl
        | true => exact absurd (key.2 hq) (by simp)
end Go.Proofs.YtachpkjjlebadaaGreat

namespace Go.Proofs.YtachpkjjlebadaaGreat
open Go.Gb
set_option linter.unusedVariables false
set_option linter.unusedSimpArgs false
set_option linter.unusedSectionVars false
set_option linter.unusedVariables false
set_option linter.unusedSimpArgs false

/-- a loop that counts up, and leaves with false where something does not hold -/
theorem loop_all {body : Int → Option (Flow Int Bool)} {id : Nat} (N : Nat) (Q : Nat → Prop) (hN : N ≤ 1000000000)
    (step : ∀ i : Nat, i < N → (∀ m, m < i → Q m) → (Q i ∧ body (i : Int) = (addI (i : Int) 1).bind fun x => some (.go x)) ∨ (¬ Q i ∧ body (i : Int) = some (.ret false)))
    (done : body (N : Int) = some (.ex id (N : Int))) {fuel : Nat} (hf : N < fuel) :
    ((∀ m, m < N → Q m) ∧ iterL body fuel 0 = some (.ex id (N : Int))) ∨ ((∃ m, m < N ∧ ¬ Q m) ∧ iterL body fuel 0 = some (.ret false)) := by
  obtain ⟨f, h1, h2, h3⟩ := loop_up (body := body) (fun i s => s = ((i : Nat) : Int) ∧ ∀ m, m < i → Q m) N
    (fun f => ((∀ m, m < N → Q m) ∧ f = .ex id (N : Int)) ∨ ((∃ m, m < N ∧ ¬ Q m) ∧ f = .ret false)) (fun i s hi ⟨hs, hI⟩ => by
      subst hs
      rcases step i hi hI with ⟨hq, hb⟩ | ⟨hq, hb⟩
      · rw [addI_one (by omega)] at hb
        refine .inl ⟨_, hb, rfl, fun m hm => ?_⟩
        by_cases e : m = i
        · subst e; exact hq
        · exact hI m (by omega)
      · exact .inr ⟨_, hb, trivial, .inr ⟨⟨i, hi, hq⟩, rfl⟩⟩) (fun s ⟨hs, hI⟩ => by
      subst hs
      exact ⟨_, done, trivial, .inl ⟨hI, rfl⟩⟩) 0 ⟨rfl, fun m h => by omega⟩ fuel hf
  rcases h3 with ⟨h3, rfl⟩ | ⟨h3, rfl⟩
  · exact .inl ⟨h3, h1⟩
  · exact .inr ⟨h3, h1⟩

def letB (b : UInt8) : Bool := decide ((97 : Int) ≤ (b.toNat : Int)) && decide ((b.toNat : Int) ≤ 122)
def digB (b : UInt8) : Bool := decide ((48 : Int) ≤ (b.toNat : Int)) && decide ((b.toNat : Int) ≤ 57)
theorem strI_at {s : ByteArray} {n : Nat} (h : n < s.size) : strI s (n : Int) = some ⟨((s[n]'h).toNat : Int)⟩ := by
  unfold strI
  rw [if_pos (by omega)]
  have : s[((n : Nat) : Int).toNat]? = some s[n] := by simp [h]
  rw [this]; rfl
theorem letter_at (b : UInt8) : lex_letter ⟨(b.toNat : Int)⟩ = some (letB b) := rfl
theorem rletter_at (b : UInt8) : ref14_letter ⟨(b.toNat : Int)⟩ = some (letB b) := rfl
theorem digit_at (b : UInt8) : lex_digit ⟨(b.toNat : Int)⟩ = some (digB b) := rfl
theorem rdigit_at (b : UInt8) : ref14_digit ⟨(b.toNat : Int)⟩ = some (digB b) := rfl
theorem word1_at (b : UInt8) : lex_Word_1 ⟨(b.toNat : Int)⟩ = some (letB b || digB b) := by
  unfold lex_Word_1
  rw [letter_at, Option.bind_some, digit_at]
  cases letB b <;> rfl
def WordP (s : ByteArray) : Prop := 1 ≤ s.size ∧ s.size ≤ 20 ∧ (∃ h : 0 < s.size, letB (s[0]'h) = true) ∧ ∀ i (h : i < s.size), (letB s[i] || digB s[i]) = true
theorem empty_iff (s : ByteArray) : (s.toList == (⟨#[]⟩ : ByteArray).toList) = decide (s.size = 0) := by
  rw [← beq_toListBytes, beqBA, decide_eq_decide]
  constructor
  · rintro rfl; rfl
  · intro h
    cases s with | mk d =>
      have : d.size = 0 := h
      have : d = #[] := Array.eq_empty_of_size_eq_zero this
      rw [this]
theorem span_spec {s : ByteArray} (hs : s.size ≤ 1000000) : ∃ n, lex_span s lex_Word_1 = some n ∧ (n = (s.size : Int) ↔ ∀ i (h : i < s.size), (letB s[i] || digB s[i]) = true) := by
  obtain ⟨f, h1, h2, h3⟩ := loop_up (body := lex_span_L0 s lex_Word_1) (fun i t => t = ((i : Nat) : Int) ∧ ∀ m (h : m < s.size), m < i → (letB s[m] || digB s[m]) = true) s.size
    (fun f => ∃ n, f = .ex 0 n ∧ (n = (s.size : Int) ↔ ∀ i (h : i < s.size), (letB s[i] || digB s[i]) = true)) (fun i t hi ⟨ht, hI⟩ => by
      subst ht
      unfold lex_span_L0
      rw [if_pos (by simpa using hi), strI_at hi, Option.bind_some, word1_at, Option.bind_some, Option.bind_some]
      cases hq : (letB s[i] || digB s[i]) with
      | true =>
        rw [if_pos rfl, addI_one (by omega)]
        refine .inl ⟨_, rfl, rfl, fun m hm hmi => ?_⟩
        by_cases e : m = i
        · subst e; exact hq
        · exact hI m hm (by omega)
      | false =>
        rw [if_neg (by simp)]
        refine .inr ⟨_, rfl, trivial, _, rfl, fun h => by omega, fun h => ?_⟩
        rw [h i hi] at hq; simp at hq) (fun t ⟨ht, hI⟩ => by
      subst ht
      unfold lex_span_L0
      rw [if_neg (by simp), Option.bind_some, if_neg (by simp)]
      exact ⟨_, rfl, trivial, _, rfl, fun _ i h => hI i h h, fun _ => rfl⟩) 0 ⟨rfl, fun m _ h => by omega⟩ (s.size + 1) (by omega)
  obtain ⟨n, rfl, hn⟩ := h3
  unfold lex_span
  rw [h1, Option.bind_some]
  exact ⟨n, rfl, hn⟩
theorem word_spec (s : ByteArray) : ∃ b, lex_Word s = some b ∧ (b = true ↔ WordP s) := by
  unfold lex_Word
  rw [empty_iff]
  by_cases h0 : s.size = 0
  · rw [if_pos (by simpa using h0), Option.bind_some, if_pos (by simp)]
    exact ⟨_, rfl, fun h => by simp at h, fun h => by have := h.1; omega⟩
  · rw [if_neg (by simpa using h0)]
    have hp : 0 < s.size := by omega
    rw [show (0 : Int) = ((0 : Nat) : Int) from rfl, strI_at hp, Option.bind_some, letter_at, Option.bind_some, Option.bind_some]
    by_cases hc : ((!letB (s[0]'hp)) || decide (20 < (s.size : Int))) = true
    · rw [if_pos hc]
      refine ⟨_, rfl, fun h => by simp at h, fun h => ?_⟩
      obtain ⟨_, h20, ⟨_, hl⟩, _⟩ := h
      rw [hl] at hc
      simp at hc
      omega
    · rw [if_neg hc]
      simp at hc
      obtain ⟨n, hn, hns⟩ := span_spec (s := s) (by omega)
      rw [hn, Option.bind_some]
      refine ⟨_, rfl, ?_⟩
      rw [beq_iff_eq, hns]
      exact ⟨fun h => ⟨by omega, by omega, ⟨hp, hc.1⟩, h⟩, fun h => h.2.2.2⟩
theorem rword_spec (s : ByteArray) : ∃ b, ref14_Word s = some b ∧ (b = true ↔ WordP s) := by
  unfold ref14_Word
  by_cases h0 : s.size < 1 ∨ 20 < s.size
  · rw [if_pos (by simp; omega), Option.bind_some, if_pos rfl]
    exact ⟨_, rfl, fun h => by simp at h, fun h => by have := h.1; have := h.2.1; omega⟩
  · rw [if_neg (by simp; omega)]
    have hp : 0 < s.size := by omega
    rw [show (0 : Int) = ((0 : Nat) : Int) from rfl, strI_at hp, Option.bind_some, rletter_at, Option.bind_some, Option.bind_some]
    cases hl : letB (s[0]'hp) with
    | false =>
      rw [if_pos (by simp)]
      refine ⟨_, rfl, fun h => by simp at h, fun h => ?_⟩
      obtain ⟨_, _, ⟨_, h⟩, _⟩ := h
      rw [hl] at h; simp at h
    | true =>
      rw [if_neg (by simp)]
      obtain ⟨f, h1, h2, h3⟩ := loop_up (body := ref14_Word_L0 s) (fun i t => t = ((i + 1 : Nat) : Int) ∧ ∀ m (h : m < s.size), m < i + 1 → (letB s[m] || digB s[m]) = true) (s.size - 1)
        (fun f => match f with | .ex _ _ => ∀ i (h : i < s.size), (letB s[i] || digB s[i]) = true | .ret r => r = false ∧ ∃ i, ∃ h : i < s.size, (letB s[i] || digB s[i]) = false | .go _ => False) (fun i t hi ⟨ht, hI⟩ => by
          subst ht
          have hi' : i + 1 < s.size := by omega
          unfold ref14_Word_L0
          rw [if_pos (by simp; omega), strI_at hi', Option.bind_some, rletter_at, Option.bind_some]
          have e : (if (!letB s[i + 1]) = true then (some (⟨(s[i + 1].toNat : Int)⟩ : IK .u8)).bind fun x => (ref14_digit x).bind fun y => some (!y) else some false) = some (!(letB s[i + 1] || digB s[i + 1])) := by
            cases letB s[i + 1] with
            | true => rfl
            | false => rw [if_pos (by simp), Option.bind_some, rdigit_at]; rfl
          rw [e, Option.bind_some]
          cases hq : (letB s[i + 1] || digB s[i + 1]) with
          | true =>
            rw [if_neg (by simp), addI_one (by omega)]
            refine .inl ⟨_, rfl, by push_cast; rfl, fun m hm hmi => ?_⟩
            by_cases e : m = i + 1
            · subst e; exact hq
            · exact hI m hm (by omega)
          | false =>
            rw [if_pos (by simp)]
            exact .inr ⟨_, rfl, trivial, rfl, i + 1, hi', hq⟩) (fun t ⟨ht, hI⟩ => by
          subst ht
          unfold ref14_Word_L0
          rw [if_neg (by simp; omega)]
          exact ⟨_, rfl, trivial, fun i h => hI i h (by omega)⟩) 1 ⟨by simp, fun m h hm => by
            obtain rfl : m = 0 := by omega
            rw [hl]; rfl⟩ (s.size + 1) (by omega)
      rw [h1, Option.bind_some]
      cases f with
      | go _ => exact h3.elim
      | ex _ _ => exact ⟨_, rfl, fun _ => ⟨by omega, by omega, ⟨hp, hl⟩, h3⟩, fun _ => rfl⟩
      | ret r =>
        obtain ⟨rfl, i, hi, hq⟩ := h3
        refine ⟨_, rfl, fun h => by simp at h, fun h => ?_⟩
        rw [h.2.2.2 i hi] at hq; simp at hq

/-! a word in a text of words -/
theorem contains_nil {sub : List UInt8} (h : sub ≠ []) : Lib.contains [] sub = false := by
  unfold Lib.contains Lib.index
  cases sub with
  | nil => exact absurd rfl h
  | cons a l => rfl
theorem contains_cons (b : UInt8) (l sub : List UInt8) : Lib.contains (b :: l) sub = (sub.isPrefixOf (b :: l) || Lib.contains l sub) := by
  unfold Lib.contains
  rw [show Lib.index (b :: l) sub = if sub.isPrefixOf (b :: l) then 0 else (if Lib.index l sub == -1 then -1 else Lib.index l sub + 1) from rfl]
  have hge := Lib.index_ge l sub
  cases hp : sub.isPrefixOf (b :: l) with
  | true => simp
  | false =>
    simp only [Bool.false_eq_true, if_false, Bool.false_or]
    by_cases h : Lib.index l sub = -1
    · rw [if_pos (by simpa using h), h]
    · rw [if_neg (by simpa using h), decide_eq_decide]; omega
theorem prefix_word : ∀ (s w r : List UInt8), (32 : UInt8) ∉ s → (32 : UInt8) ∉ w → (s ++ [32]).isPrefixOf (w ++ 32 :: r) = decide (s = w)
  | [], [], r, _, _ => by simp [List.isPrefixOf]
  | [], c :: w, r, _, hw => by
    have : ¬ ((32 : UInt8) = c) := fun e => hw (by rw [e]; exact List.mem_cons_self)
    simp [List.isPrefixOf, this]
  | a :: s, [], r, hs, _ => by
    have : ¬ (a = (32 : UInt8)) := fun e => hs (by rw [e]; exact List.mem_cons_self)
    simp [List.isPrefixOf, this]
  | a :: s, c :: w, r, hs, hw => by
    have ih := prefix_word s w r (fun h => hs (List.mem_cons_of_mem _ h)) (fun h => hw (List.mem_cons_of_mem _ h))
    simp only [List.cons_append, List.isPrefixOf, ih, List.cons.injEq]
    by_cases e : a = c <;> simp [e]
theorem skip_word (sub : List UInt8) : ∀ (w r : List UInt8), (32 : UInt8) ∉ w → Lib.contains (w ++ r) (32 :: sub) = Lib.contains r (32 :: sub)
  | [], r, _ => rfl
  | c :: w, r, hw => by
    have : ¬ ((32 : UInt8) = c) := fun e => hw (by rw [e]; exact List.mem_cons_self)
    rw [List.cons_append, contains_cons, skip_word sub w r fun h => hw (List.mem_cons_of_mem _ h)]
    simp [List.isPrefixOf, this]
def textOf (ws : List (List UInt8)) : List UInt8 := 32 :: ws.flatMap fun w => w ++ [32]
theorem text_cons (w : List UInt8) (ws : List (List UInt8)) : textOf (w :: ws) = 32 :: (w ++ textOf ws) := by
  simp [textOf]
theorem contains_word {s : List UInt8} (hs : (32 : UInt8) ∉ s) : ∀ {ws : List (List UInt8)}, (∀ w ∈ ws, (32 : UInt8) ∉ w) → Lib.contains (textOf ws) (32 :: (s ++ [32])) = decide (s ∈ ws)
  | [], _ => by
    show Lib.contains [32] _ = _
    rw [contains_cons, contains_nil (by simp)]
    cases s <;> simp [List.isPrefixOf]
  | w :: ws, h => by
    have hw := h w List.mem_cons_self
    rw [text_cons, contains_cons, skip_word _ _ _ hw, contains_word hs fun x hx => h x (List.mem_cons_of_mem _ hx)]
    have e : (32 :: (s ++ [32]) : List UInt8).isPrefixOf (32 :: (w ++ textOf ws)) = decide (s = w) := by
      have := prefix_word s w (ws.flatMap fun w => w ++ [32]) hs hw
      simpa [List.isPrefixOf, textOf] using this
    rw [e]
    by_cases e1 : s = w <;> simp [e1]
def reserved : List ByteArray := [(⟨#[97, 110, 100]⟩ : ByteArray), (⟨#[97, 112, 97, 114, 116]⟩ : ByteArray), (⟨#[98, 97, 115, 101]⟩ : ByteArray), (⟨#[99, 97, 112]⟩ : ByteArray), (⟨#[100, 101, 102, 105, 110, 101]⟩ : ByteArray), (⟨#[101, 108, 115, 101]⟩ : ByteArray), (⟨#[101, 120, 99, 101, 112, 116]⟩ : ByteArray), (⟨#[102, 114, 111, 109]⟩ : ByteArray), (⟨#[103, 114, 97, 99, 101]⟩ : ByteArray), (⟨#[104, 111, 117, 114, 115]⟩ : ByteArray), (⟨#[105, 102]⟩ : ByteArray), (⟨#[105, 110]⟩ : ByteArray), (⟨#[108, 101, 97, 115, 116]⟩ : ByteArray), (⟨#[110, 111, 116]⟩ : ByteArray), (⟨#[111, 114]⟩ : ByteArray), (⟨#[111, 118, 101, 114, 108, 97, 121]⟩ : ByteArray), (⟨#[112, 108, 97, 110, 101]⟩ : ByteArray), (⟨#[114, 117, 108, 101]⟩ : ByteArray), (⟨#[115, 108, 111, 112, 101]⟩ : ByteArray), (⟨#[115, 117, 110]⟩ : ByteArray), (⟨#[116, 97, 98, 108, 101]⟩ : ByteArray), (⟨#[116, 104, 101, 110]⟩ : ByteArray), (⟨#[117, 110, 116, 105, 108]⟩ : ByteArray), (⟨#[117, 115, 101, 115]⟩ : ByteArray), (⟨#[118, 97, 114, 121]⟩ : ByteArray), (⟨#[118, 105, 101, 119]⟩ : ByteArray), (⟨#[122, 111, 110, 101]⟩ : ByteArray)]
theorem reserved_eq : ref15_Reserved = some reserved := rfl
theorem ba_ext {a b : ByteArray} (h : a.data.toList = b.data.toList) : a = b := by
  cases a with | mk x => cases b with | mk y =>
    have : x = y := Array.toList_inj.1 h
    rw [this]
theorem word_no32 {s : ByteArray} (h : WordP s) : (32 : UInt8) ∉ s.data.toList := by
  intro hm
  obtain ⟨i, hi, he⟩ := List.getElem_of_mem hm
  have hi' : i < s.size := by simpa using hi
  have h1 := h.2.2.2 i hi'
  have h2 : s[i] = (32 : UInt8) := by
    rw [← he]; simp [ByteArray.getElem_eq_getElem_data]
  rw [h2] at h1
  simp [letB, digB] at h1
theorem find_spec {l : List ByteArray} {s : ByteArray} (hl : l.length ≤ 1000) : ∃ n, ref15_find l s = some n ∧ (n < 0 ↔ s ∉ l) := by
  obtain ⟨f, h1, h2, h3⟩ := loop_up (body := ref15_find_L0 l s) (fun i t => t = ((i : Nat) : Int) ∧ ∀ m (h : m < l.length), m < i → l[m] ≠ s) l.length
    (fun f => match f with | .ex _ _ => s ∉ l | .ret r => 0 ≤ r ∧ s ∈ l | .go _ => False) (fun i t hi ⟨ht, hI⟩ => by
      subst ht
      unfold ref15_find_L0
      rw [if_pos (by simpa using hi), getI_nat hi, Option.bind_some, ← beq_toListBytes, beqBA]
      by_cases e : l[i] = s
      · rw [if_pos (by simpa using e)]
        exact .inr ⟨_, rfl, trivial, by show (0 : Int) ≤ i; omega, e ▸ List.getElem_mem hi⟩
      · rw [if_neg (by simpa using e), addI_one (by omega)]
        refine .inl ⟨_, rfl, rfl, fun m hm hmi => ?_⟩
        by_cases e' : m = i
        · subst e'; exact e
        · exact hI m hm (by omega)) (fun t ⟨ht, hI⟩ => by
      subst ht
      unfold ref15_find_L0
      rw [if_neg (by simp)]
      refine ⟨_, rfl, trivial, fun hm => ?_⟩
      obtain ⟨i, hi, he⟩ := List.getElem_of_mem hm
      exact hI i hi hi he) 0 ⟨rfl, fun m _ h => by omega⟩ (l.length + 1) (by omega)
  unfold ref15_find
  rw [h1, Option.bind_some]
  cases f with
  | go _ => exact h3.elim
  | ex _ _ => exact ⟨_, rfl, fun _ => h3, fun _ => by decide⟩
  | ret r => exact ⟨_, rfl, fun h => by have := h3.1; omega, fun h => absurd h3.2 h⟩
theorem name_auxE (res s : ByteArray) (hr : res.size ≤ 4000) (ht : res.data.toList = textOf (reserved.map fun w => w.data.toList)) (hw : WordP s) : ∃ b, ((catI (⟨#[32]⟩ : ByteArray) s).bind fun y => (catI y (⟨#[32]⟩ : ByteArray)).bind fun z => (strings_Contains res z).bind fun b => some (!b)) = some b ∧ ((ref15_find reserved s).bind fun n => some (decide (n < 0))) = some b := by
  have h20 := hw.2.1
  obtain ⟨n, hn, hns⟩ := find_spec (l := reserved) (s := s) (by decide)
  rw [hn, Option.bind_some]
  have hsz : (⟨#[32]⟩ : ByteArray).size = 1 := rfl
  rw [catI_some (by omega), Option.bind_some, catI_some (by rw [ByteArray.size_append]; omega), Option.bind_some]
  unfold strings_Contains
  rw [if_pos (by omega), Option.bind_some]
  refine ⟨_, rfl, ?_⟩
  congr 1
  have hk := contains_word (s := s.data.toList) (word_no32 hw) (ws := reserved.map fun w => w.data.toList) (by
    intro w hw'
    obtain ⟨x, hx, rfl⟩ := List.mem_map.1 hw'
    revert x
    decide)
  have hd : ((⟨#[32]⟩ : ByteArray) ++ s ++ (⟨#[32]⟩ : ByteArray)).data.toList = 32 :: (s.data.toList ++ [32]) := by
    simp [ByteArray.data_append]
  rw [hd, ht, hk]
  have hmem : s.data.toList ∈ (reserved.map fun w => w.data.toList) ↔ s ∈ reserved := by
    constructor
    · intro h
      obtain ⟨x, hx, he⟩ := List.mem_map.1 h
      rw [← ba_ext he]; exact hx
    · intro h; exact List.mem_map.2 ⟨s, h, rfl⟩
  by_cases hr : s ∈ reserved
  · rw [decide_eq_true (hmem.2 hr), decide_eq_false fun h => absurd hr (hns.1 h)]; rfl
  · rw [decide_eq_false fun h => hr (hmem.1 h), decide_eq_true (hns.2 hr)]; rfl
theorem name_eq (s : ByteArray) : ∃ b, syntax_Name s = some b ∧ ref15_Name s = some b := by
  obtain ⟨b, hb, hbs⟩ := word_spec s
  obtain ⟨c, hc, hcs⟩ := rword_spec s
  have e : b = c := by
    cases b <;> cases c
    · rfl
    · exact absurd (hbs.2 (hcs.1 rfl)) (by simp)
    · exact absurd (hcs.2 (hbs.1 rfl)) (by simp)
    · rfl
  subst e
  unfold syntax_Name ref15_Name
  rw [hb, hc, Option.bind_some, Option.bind_some]
  cases b with
  | false => exact ⟨_, rfl, rfl⟩
  | true =>
    rw [if_pos rfl, if_pos rfl, reserved_eq, Option.bind_some]
    obtain ⟨b, h1, h2⟩ := name_auxE _ s (Nat.le_of_ble_eq_true (by kernel_rfl)) (by kernel_rfl) (hbs.1 rfl)
    rw [h1, h2]
    exact ⟨b, rfl, rfl⟩
end Go.Proofs.YtachpkjjlebadaaGreat

namespace Go.Proofs.YtachpkjjlebadaaGreat
open Go.Gb
set_option linter.unusedVariables false
set_option linter.unusedSimpArgs false
set_option linter.unusedSectionVars false
set_option linter.unusedVariables false
set_option linter.unusedSimpArgs false

def RV (v : Volume) : Prop := VR v.Box.Base ∧ 0 ≤ v.Box.Z0 ∧ v.Box.Z0 < v.Box.Z1 ∧ v.Box.Z1 ≤ 4096 ∧ 0 ≤ v.Use ∧ v.Use ≤ 5 ∧ 0 ≤ v.Units ∧ v.Units ≤ 1048576 ∧ (v.Units = 0 ∨ v.Use = 0)
instance (v : Volume) : Decidable (RV v) := inferInstanceAs (Decidable (_ ∧ _))
theorem RV.VB {v : Volume} (h : RV v) : VB v.Box := ⟨h.1, h.2.1, h.2.2.1, h.2.2.2.1⟩
theorem rv_eq (v : Volume) : drawing_RightVolume v = some (decide (RV v)) := by
  unfold drawing_RightVolume
  rw [rect_Right_eq, Option.bind_some]
  split
  · rename_i h
    congr 1; symm; rw [decide_eq_false_iff_not]; intro hr; unfold RV at hr
    simp [hr.1] at h; omega
  · rename_i h
    simp at h
    split
    · rename_i g
      congr 1; symm; rw [decide_eq_false_iff_not]; intro hr; unfold RV at hr
      simp at g; omega
    · rename_i g
      congr 1
      rw [Bool.eq_iff_iff]
      simp at g
      simp only [Bool.and_eq_true, decide_eq_true_eq]
      unfold RV
      constructor
      · intro hh
        exact ⟨h.1.1.1, by omega, by omega, by omega, by omega, by omega, by omega, by omega, by omega⟩
      · intro hh; omega
theorem ite_and {b c : Bool} : (if b = true then some c else some false) = some (b && c) := by cases b <;> rfl
theorem rrv_eq (v : Volume) : ref19_RightVolume v = some (decide (RV v)) := by
  unfold ref19_RightVolume ref09_RightBox ref19_within
  rw [show ref06_RightRect v.Box.Base = some (decide (VR v.Box.Base)) from rect_Right_eq _]
  simp only [Option.bind_some, ite_and]
  congr 1
  rw [Bool.eq_iff_iff]
  simp only [Bool.and_eq_true, Bool.or_eq_true, beq_iff_eq, decide_eq_true_eq]
  unfold RV
  constructor
  · rintro ⟨⟨⟨⟨⟨⟨h1, h2⟩, h3⟩, h4⟩, h5, h6⟩, h7, h8⟩, h9⟩
    exact ⟨h1, h2, h3, h4, h5, h6, h7, h8, h9⟩
  · rintro ⟨h1, h2, h3, h4, h5, h6, h7, h8, h9⟩
    exact ⟨⟨⟨⟨⟨⟨h1, h2⟩, h3⟩, h4⟩, h5, h6⟩, h7, h8⟩, h9⟩
def mt (a b : Box) : Bool := decide (max a.Base.X0 b.Base.X0 < min a.Base.X1 b.Base.X1) && decide (max a.Base.Y0 b.Base.Y0 < min a.Base.Y1 b.Base.Y1) && decide (max a.Z0 b.Z0 < min a.Z1 b.Z1)
theorem rmeet_eq (a b : Box) : ref19_meet a b = some (mt a b) := rfl
theorem mt_comm (a b : Box) : mt a b = mt b a := by
  unfold mt
  simp only [Int.max_comm, Int.min_comm]
theorem meet_eq {a b : Box} (ha : VB a) (hb : VB b) : drawing_meet a b = some (mt a b) := by
  unfold drawing_meet rect_Intersect rect_checked
  simp only [rect_Right_eq, decide_eq_true ha.1, decide_eq_true hb.1, Option.bind_some, Bool.not_true, Bool.false_eq_true, if_false]
  obtain ⟨h1, h2, h3, h4⟩ := ha
  obtain ⟨g1, g2, g3, g4⟩ := hb
  unfold VR at h1 g1
  by_cases hv : VR ⟨max a.Base.X0 b.Base.X0, max a.Base.Y0 b.Base.Y0, min a.Base.X1 b.Base.X1, min a.Base.Y1 b.Base.Y1⟩
  · rw [if_pos (decide_eq_true hv)]
    simp only [Option.bind_some]
    congr 1
    unfold VR at hv; dsimp only at hv
    unfold mt
    rw [Bool.eq_iff_iff]
    simp only [Bool.and_eq_true, decide_eq_true_eq, true_and]
    omega
  · rw [if_neg (by simpa using hv)]
    simp only [Option.bind_some]
    congr 1
    unfold VR at hv; dsimp only at hv
    unfold mt
    rw [Bool.eq_iff_iff]
    simp only [Bool.and_eq_true, decide_eq_true_eq, Bool.false_eq_true, false_and, false_iff]
    omega
theorem containsV_any {s : List Volume} {f : Volume → Option Bool} {g : Volume → Bool} (hl : s.length ≤ 1000000) (hf : ∀ x ∈ s, f x = some (g x)) : slices_ContainsFunc_Volume s f = some (s.any g) := by
  obtain ⟨fl, h1, h2, h3⟩ := loop_up (body := slices_IndexFunc_Volume_L0 s f) (fun i t => t = ((i : Nat) : Int) ∧ ∀ m (h : m < s.length), m < i → g s[m] = false) s.length
    (fun fl => match fl with | .ex _ _ => s.any g = false | .ret r => 0 ≤ r ∧ s.any g = true | .go _ => False) (fun i t hi ⟨ht, hI⟩ => by
      subst ht
      unfold slices_IndexFunc_Volume_L0
      rw [if_pos (by simpa using hi), getI_nat hi, Option.bind_some, hf s[i] (List.getElem_mem hi), Option.bind_some]
      cases hb : g s[i] with
      | true => exact .inr ⟨_, rfl, trivial, by show (0 : Int) ≤ i; omega, List.any_eq_true.2 ⟨_, List.getElem_mem hi, hb⟩⟩
      | false =>
        rw [if_neg (by simp), addI_one (by omega)]
        refine .inl ⟨_, rfl, rfl, fun m hm hmi => ?_⟩
        by_cases e : m = i
        · subst e; exact hb
        · exact hI m hm (by omega)) (fun t ⟨ht, hI⟩ => by
      subst ht
      unfold slices_IndexFunc_Volume_L0
      rw [if_neg (by simp)]
      refine ⟨_, rfl, trivial, ?_⟩
      rw [List.any_eq_false]
      intro x hx
      obtain ⟨m, hm, rfl⟩ := List.getElem_of_mem hx
      rw [hI m hm hm]; simp) 0 ⟨rfl, fun m _ h => by omega⟩ (s.length + 1) (by omega)
  unfold slices_ContainsFunc_Volume slices_IndexFunc_Volume
  rw [h1, Option.bind_some]
  cases fl with
  | go _ => exact h3.elim
  | ex _ _ => dsimp only at h3; rw [h3]; rfl
  | ret r =>
    obtain ⟨h3, h4⟩ := h3
    rw [h4, Option.bind_some, decide_eq_true h3]
def VolQ (l : List Volume) (i : Nat) : Prop := ∀ h : i < l.length, RV l[i] ∧ ∀ j (hj : j < i), mt l[j].Box l[i].Box = false
theorem form0_Q {l : List Volume} (hl : l.length ≤ 1000000) :
    ((∀ m, m < l.length → VolQ l m) ∧ iterL (drawing_Form_L0 l) (l.length + 1) 0 = some (.ex 0 (l.length : Int))) ∨ ((∃ m, m < l.length ∧ ¬ VolQ l m) ∧ iterL (drawing_Form_L0 l) (l.length + 1) 0 = some (.ret false)) := by
  refine loop_all l.length (VolQ l) (by omega) (fun i hi hI => ?_) (by unfold drawing_Form_L0; rw [if_neg (by simp)]) (by omega)
  unfold drawing_Form_L0
  rw [if_pos (by simpa using hi), getI_nat hi, Option.bind_some, rv_eq, Option.bind_some]
  by_cases hv : RV l[i]
  · rw [decide_eq_true hv, if_neg (by simp), sliceI_some (by omega) (by omega) (by omega), Option.bind_some]
    rw [containsV_any (g := fun y => mt l[i].Box y.Box) (by simp; omega) (fun y hy => by
      have hy : y ∈ l.take i := by simpa using hy
      obtain ⟨m, hm, rfl⟩ := List.getElem_of_mem hy
      have hm : m < i ∧ m < l.length := by simp at hm; omega
      rw [List.getElem_take]
      unfold drawing_Form_1
      rw [meet_eq hv.VB (hI m hm.1 hm.2).1.VB]; rfl), Option.bind_some, Option.bind_some]
    rw [show (l.take (i : Int).toNat).drop (0 : Int).toNat = l.take i by simp]
    cases ha : (l.take i).any (fun y => mt l[i].Box y.Box) with
    | true =>
      refine .inr ⟨fun h => ?_, by rw [if_pos rfl]⟩
      rw [List.any_eq_true] at ha
      obtain ⟨y, hy, ht⟩ := ha
      obtain ⟨m, hm, rfl⟩ := List.getElem_of_mem hy
      have hm : m < i ∧ m < l.length := by simp at hm; omega
      rw [List.getElem_take] at ht
      have := (h hi).2 m hm.1
      rw [mt_comm, ht] at this; simp at this
    | false =>
      refine .inl ⟨fun _ => ⟨hv, fun j hj => ?_⟩, by rw [if_neg (by simp)]⟩
      rw [List.any_eq_false] at ha
      have := ha l[j] (List.mem_take_iff_getElem.2 ⟨j, by omega, rfl⟩)
      rw [mt_comm]; simpa using this
  · rw [decide_eq_false hv, if_pos (by simp), Option.bind_some, if_pos rfl]
    exact .inr ⟨fun h => hv (h hi).1, rfl⟩
theorem rform0_Q {l : List Volume} (hl : l.length ≤ 1000000) :
    ((∀ m, m < l.length → VolQ l m) ∧ iterL (ref19_Form_L0 l) (l.length + 1) 0 = some (.ex 0 (l.length : Int))) ∨ ((∃ m, m < l.length ∧ ¬ VolQ l m) ∧ iterL (ref19_Form_L0 l) (l.length + 1) 0 = some (.ret false)) := by
  refine loop_all l.length (VolQ l) (by omega) (fun i hi hI => ?_) (by unfold ref19_Form_L0; rw [if_neg (by simp)]) (by omega)
  unfold ref19_Form_L0
  rw [if_pos (by simpa using hi), getI_nat hi, Option.bind_some, rrv_eq, Option.bind_some]
  by_cases hv : RV l[i]
  · rw [decide_eq_true hv, if_neg (by simp)]
    rcases loop_all (body := ref19_Form_L1 l (i : Int)) (id := 2) i (fun j => ∀ h : j < l.length, mt l[j].Box l[i].Box = false) (by omega) (fun j hj _ => by
        unfold ref19_Form_L1
        rw [if_pos (by simpa using hj), getI_nat (by omega), Option.bind_some, getI_nat hi, Option.bind_some, rmeet_eq, Option.bind_some]
        cases ht : mt (l[j]'(by omega)).Box l[i].Box with
        | true => exact .inr ⟨fun h => by rw [h (by omega)] at ht; simp at ht, by rw [if_pos rfl]⟩
        | false => exact .inl ⟨fun _ => ht, by rw [if_neg (by simp)]⟩) (by unfold ref19_Form_L1; rw [if_neg (by simp)]) (fuel := (i : Int).toNat + 1) (by omega) with ⟨h1, h2⟩ | ⟨⟨m, hm, h1⟩, h2⟩
    · rw [h2, Option.bind_some]
      exact .inl ⟨fun _ => ⟨hv, fun j hj => h1 j hj (by omega)⟩, rfl⟩
    · rw [h2, Option.bind_some]
      exact .inr ⟨fun h => h1 fun _ => (h hi).2 m hm, rfl⟩
  · rw [decide_eq_false hv, if_pos (by simp)]
    exact .inr ⟨fun h => hv (h hi).1, rfl⟩
theorem getK_setK' {κ β : Type} [DecidableEq κ] : ∀ (l : List (κ × β)) (n m : κ) (v : β), getK (setK l n v) m = if m = n then some v else getK l m
  | [], n, m, v => rfl
  | (a, u) :: l, n, m, v => by
    unfold setK
    by_cases h : n = a
    · subst h
      rw [if_pos rfl]
      show (if m = n then _ else _) = _
      by_cases e : m = n
      · rw [if_pos e, if_pos e]
      · rw [if_neg e, if_neg e]
        show _ = if m = n then _ else _
        rw [if_neg e]
    · rw [if_neg h]
      show (if m = a then _ else getK (setK l n v) m) = _
      rw [getK_setK']
      by_cases e : m = a
      · subst e
        rw [if_pos rfl, if_neg (fun e => h e.symm)]
        show _ = if m = m then _ else _
        rw [if_pos rfl]
      · rw [if_neg e]
        by_cases e' : m = n
        · rw [if_pos e', if_pos e']
        · rw [if_neg e', if_neg e']
          show _ = if m = a then _ else _
          rw [if_neg e]
def NameP (s : ByteArray) : Prop := syntax_Name s = some true
def GivQ (l : List Entry) (i : Nat) : Prop := ∀ h : i < l.length, NameP l[i].Name ∧ (0 ≤ l[i].N ∧ l[i].N ≤ 1073741824) ∧ ∀ j (hj : j < i), l[j].Name ≠ l[i].Name
theorem giv_Q {p : Phase} (hl : p.Gives.length ≤ 1000000) :
    ∃ f, iterL (drawing_Form_L2 p) (p.Gives.length + 1) ((⟨[]⟩ : (GMap ByteArray Bool)), 0) = some f ∧ f.ends ∧ (match f with | .ex _ _ => ∀ m, m < p.Gives.length → GivQ p.Gives m | .ret r => r = false ∧ ∃ m, m < p.Gives.length ∧ ¬ GivQ p.Gives m | .go _ => False) := by
  refine loop_up (fun i s => s.2 = ((i : Nat) : Int) ∧ (∀ m, m < i → GivQ p.Gives m) ∧ ∀ n, (getK (s.1).l n).getD false = true ↔ ∃ m, m < i ∧ ∃ h : m < p.Gives.length, p.Gives[m].Name = n) p.Gives.length _ ?_ ?_ _ ⟨rfl, fun m h => by omega, fun n => ⟨fun h => by simp [getK] at h, fun ⟨m, h, _⟩ => by omega⟩⟩ _ (by omega)
  · intro i s hi ⟨hs, hI, hm⟩
    unfold drawing_Form_L2
    rw [hs, if_pos (by simpa using hi), getI_nat hi, Option.bind_some]
    cases hk : (getK (s.1).l p.Gives[i].Name).getD false with
    | true =>
      rw [if_pos rfl, Option.bind_some, if_pos (by simp)]
      refine .inr ⟨_, rfl, trivial, rfl, i, hi, fun h => ?_⟩
      obtain ⟨m, h1, h2, h3⟩ := (hm _).1 hk
      exact (h hi).2.2 m h1 h3
    | false =>
      rw [if_neg (by simp)]
      obtain ⟨b, hb, _⟩ := name_eq p.Gives[i].Name
      rw [hb, Option.bind_some, Option.bind_some]
      by_cases hc : (((!b) || decide (p.Gives[i].N < 0)) || decide (1073741824 < p.Gives[i].N)) = true
      · rw [if_pos hc]
        refine .inr ⟨_, rfl, trivial, rfl, i, hi, fun h => ?_⟩
        obtain ⟨h1, h2, _⟩ := h hi
        unfold NameP at h1
        rw [h1] at hb
        rw [← Option.some.inj hb] at hc
        simp at hc
        omega
      · rw [if_neg hc, addI_one (by omega)]
        simp at hc
        refine .inl ⟨_, rfl, rfl, fun m hmi => ?_, fun n => ?_⟩
        · by_cases e : m = i
          · subst e
            refine fun _ => ⟨by unfold NameP; rw [hb, hc.1.1], ⟨hc.1.2, hc.2⟩, fun j hj he => ?_⟩
            rw [(hm _).2 ⟨j, hj, by omega, he⟩] at hk; simp at hk
          · exact hI m (by omega)
        · show (getK (setK (s.1).l p.Gives[i].Name true) n).getD false = true ↔ _
          rw [getK_setK']
          by_cases e : n = p.Gives[i].Name
          · rw [if_pos e]
            exact ⟨fun _ => ⟨i, by omega, hi, e.symm⟩, fun _ => rfl⟩
          · rw [if_neg e, hm]
            refine ⟨fun ⟨m, h1, h2⟩ => ⟨m, by omega, h2⟩, fun ⟨m, h1, h2, h3⟩ => ⟨m, ?_, h2, h3⟩⟩
            by_cases e' : m = i
            · subst e'; exact absurd h3.symm e
            · omega
  · intro s ⟨hs, hI, _⟩
    unfold drawing_Form_L2
    rw [hs, if_neg (by simp)]
    exact ⟨_, rfl, trivial, hI⟩
theorem rgiv_Q {l : List Entry} (hl : l.length ≤ 30) : ∃ c, ref19_rightGives l = some c ∧ (c = true ↔ ∀ m, m < l.length → GivQ l m) := by
  unfold ref19_rightGives
  rcases loop_all (body := ref19_rightGives_L0 l) (id := 0) l.length (GivQ l) (by omega) (fun i hi hI => by
    unfold ref19_rightGives_L0
    rw [if_pos (by simpa using hi), getI_nat hi, Option.bind_some]
    obtain ⟨b, hb, hr⟩ := name_eq l[i].Name
    rw [hr, Option.bind_some]
    cases b with
    | false =>
      rw [if_pos (by simp), Option.bind_some, if_pos rfl]
      refine .inr ⟨fun h => ?_, rfl⟩
      have := (h hi).1
      unfold NameP at this
      rw [hb] at this; simp at this
    | true =>
      rw [if_neg (by simp), Option.bind_some]
      unfold ref19_within
      rw [Option.bind_some, Option.bind_some]
      by_cases hn : 0 ≤ l[i].N ∧ l[i].N ≤ 1073741824
      · rw [if_neg (by simp; omega)]
        rcases loop_all (body := ref19_rightGives_L1 l (i : Int)) (id := 2) i (fun j => ∀ h : j < l.length, l[j].Name ≠ l[i].Name) (by omega) (fun j hj _ => by
            unfold ref19_rightGives_L1
            rw [if_pos (by simpa using hj), getI_nat (by omega), Option.bind_some, getI_nat hi, Option.bind_some, ← beq_toListBytes, beqBA]
            by_cases e : (l[j]'(by omega)).Name = l[i].Name
            · exact .inr ⟨fun h => h (by omega) e, by rw [if_pos (by simpa using e)]⟩
            · exact .inl ⟨fun _ => e, by rw [if_neg (by simpa using e)]⟩) (by unfold ref19_rightGives_L1; rw [if_neg (by simp)]) (fuel := (i : Int).toNat + 1) (by omega) with ⟨h1, h2⟩ | ⟨⟨m, hm, h1⟩, h2⟩
        · rw [h2, Option.bind_some]
          exact .inl ⟨fun _ => ⟨hb, hn, fun j hj => h1 j hj (by omega)⟩, rfl⟩
        · rw [h2, Option.bind_some]
          exact .inr ⟨fun h => h1 fun _ => (h hi).2.2 m hm, rfl⟩
      · rw [if_pos (by simp; omega)]
        exact .inr ⟨fun h => hn (h hi).2.1, rfl⟩) (by unfold ref19_rightGives_L0; rw [if_neg (by simp)]) (fuel := l.length + 1) (by omega) with ⟨h1, h2⟩ | ⟨⟨m, hm, h1⟩, h2⟩
  · rw [h2, Option.bind_some]
    exact ⟨_, rfl, fun _ => h1, fun _ => by simp; omega⟩
  · rw [h2, Option.bind_some]
    exact ⟨_, rfl, fun h => by simp at h, fun h => absurd (h m hm) h1⟩
theorem rvolumes_eq {d : Drawing} (h : SmD d) {n : Int} (hn : (d.Phases.length : Int) ≤ n) : ref19_Volumes d 0 n = some (allV d) := by
  obtain ⟨f, h1, h2, h3⟩ := loop_up (body := ref19_Volumes_L0 d 0 n) (fun i s => s.2 = ((i : Nat) : Int) ∧ s.1 = (d.Phases.take i).flatMap (·.Volumes) ∧ s.1.length ≤ 12 * i) d.Phases.length
    (fun f => match f with | .ex _ s => s.1 = allV d | _ => False) (fun i s hi ⟨hs, hI, hl⟩ => by
      have h9 := h.1
      have hv := (h.2 _ (List.getElem_mem hi)).1
      unfold ref19_Volumes_L0
      rw [hs, if_pos (by simpa using hi), if_pos (by simp; omega), getI_nat hi, Option.bind_some, appI_some (by omega), Option.bind_some, Option.bind_some, addI_one (by omega), Option.bind_some]
      refine .inl ⟨_, rfl, rfl, ?_, by simp; omega⟩
      rw [List.take_succ_eq_append_getElem hi, List.flatMap_append, hI]
      simp) (fun s ⟨hs, hI, _⟩ => by
      unfold ref19_Volumes_L0
      rw [hs, if_neg (by simp)]
      rw [List.take_length] at hI
      exact ⟨_, rfl, trivial, hI⟩) ([], 0) ⟨rfl, by simp, by simp⟩ (d.Phases.length + 1) (by omega)
  unfold ref19_Volumes
  rw [h1, Option.bind_some]
  cases f with
  | go _ => exact h2.elim
  | ret r => exact h3.elim
  | ex _ s => dsimp only at h3 ⊢; rw [h3]
def PhQ (d : Drawing) (i : Nat) : Prop := ∀ h : i < d.Phases.length, ∀ m, m < d.Phases[i].Gives.length → GivQ d.Phases[i].Gives m
def FormP (d : Drawing) : Prop := (0 ≤ d.Lot ∧ d.Lot ≤ 1073741824) ∧ (1 ≤ d.Phases.length ∧ d.Phases.length ≤ 8) ∧ (1 ≤ (allV d).length ∧ (allV d).length ≤ 40) ∧ (∀ m, m < (allV d).length → VolQ (allV d) m) ∧ ∀ m, m < d.Phases.length → PhQ d m
theorem form_P {d : Drawing} (h : SmD d) : ∃ c, drawing_Form d = some c ∧ (c = true ↔ FormP d) := by
  unfold drawing_Form
  rw [all_eq h, Option.bind_some]
  have h9 := h.1
  by_cases hc : ((((((decide (d.Lot < 0)) || (decide (1073741824 < d.Lot))) || (decide ((d.Phases.length : Int) < 1))) || (decide (8 < (d.Phases.length : Int)))) || (decide (((allV d).length : Int) < 1))) || (decide (40 < ((allV d).length : Int)))) = true
  · rw [if_pos hc]
    refine ⟨_, rfl, fun h => by simp at h, fun ⟨h1, h2, h3, _⟩ => ?_⟩
    simp at hc; omega
  · rw [if_neg hc]
    simp at hc
    rcases form0_Q (l := allV d) (by omega) with ⟨h1, h2⟩ | ⟨⟨m, hm, h1⟩, h2⟩
    · rw [h2, Option.bind_some]
      dsimp only
      rcases loop_all (body := drawing_Form_L1 d) (id := 2) d.Phases.length (PhQ d) (by omega) (fun i hi _ => by
        have hg := (h.2 _ (List.getElem_mem hi)).2
        unfold drawing_Form_L1
        rw [if_pos (by simpa using hi), getI_nat hi, Option.bind_some]
        obtain ⟨f, g1, g2, g3⟩ := giv_Q (p := d.Phases[i]) (by omega)
        rw [g1, Option.bind_some]
        cases f with
        | go _ => exact g3.elim
        | ret r =>
          obtain ⟨rfl, m, hm, g3⟩ := g3
          exact .inr ⟨fun h => g3 (h hi m hm), rfl⟩
        | ex _ _ =>
          dsimp only
          rw [if_neg (by simp; omega)]
          exact .inl ⟨fun _ => g3, rfl⟩) (by unfold drawing_Form_L1; rw [if_neg (by simp)]) (fuel := d.Phases.length + 1) (by omega) with ⟨k1, k2⟩ | ⟨⟨m, hm, k1⟩, k2⟩
      · rw [k2, Option.bind_some]
        exact ⟨_, rfl, fun _ => ⟨by omega, by omega, by omega, h1, k1⟩, fun _ => rfl⟩
      · rw [k2, Option.bind_some]
        exact ⟨_, rfl, fun h => by simp at h, fun h => absurd (h.2.2.2.2 m hm) k1⟩
    · rw [h2, Option.bind_some]
      exact ⟨_, rfl, fun h => by simp at h, fun h => absurd (h.2.2.2.1 m hm) h1⟩
theorem rform_P {d : Drawing} (h : SmD d) : ∃ c, ref19_Form d = some c ∧ (c = true ↔ FormP d) := by
  have h9 := h.1
  unfold ref19_Form
  rw [rvolumes_eq h (Int.le_refl _), Option.bind_some]
  unfold ref19_within
  simp only [Option.bind_some]
  have e : ∀ b c : Bool, (if b = true then some true else some c) = some (b || c) := by intro b c; cases b <;> rfl
  rw [e, Option.bind_some, e, Option.bind_some]
  by_cases hc : (((!(decide (0 ≤ d.Lot) && decide (d.Lot ≤ 1073741824))) || (!(decide (1 ≤ (d.Phases.length : Int)) && decide ((d.Phases.length : Int) ≤ 8)))) || (!(decide (1 ≤ ((allV d).length : Int)) && decide (((allV d).length : Int) ≤ 40)))) = true
  · rw [if_pos hc]
    refine ⟨_, rfl, fun h => by simp at h, fun ⟨h1, h2, h3, _⟩ => ?_⟩
    simp at hc; omega
  · rw [if_neg hc]
    simp at hc
    rcases rform0_Q (l := allV d) (by omega) with ⟨h1, h2⟩ | ⟨⟨m, hm, h1⟩, h2⟩
    · rw [h2, Option.bind_some]
      dsimp only
      rcases loop_all (body := ref19_Form_L2 d) (id := 4) d.Phases.length (PhQ d) (by omega) (fun i hi _ => by
        have hg := (h.2 _ (List.getElem_mem hi)).2
        unfold ref19_Form_L2
        rw [if_pos (by simpa using hi), getI_nat hi, Option.bind_some]
        obtain ⟨c, g1, g2⟩ := rgiv_Q (l := d.Phases[i].Gives) (by omega)
        rw [g1, Option.bind_some]
        cases c with
        | false => exact .inr ⟨fun h => by simpa using g2.2 (h hi), rfl⟩
        | true => exact .inl ⟨fun _ => g2.1 rfl, rfl⟩) (by unfold ref19_Form_L2; rw [if_neg (by simp)]) (fuel := d.Phases.length + 1) (by omega) with ⟨k1, k2⟩ | ⟨⟨m, hm, k1⟩, k2⟩
      · rw [k2, Option.bind_some]
        exact ⟨_, rfl, fun _ => ⟨by omega, by omega, by omega, h1, k1⟩, fun _ => rfl⟩
      · rw [k2, Option.bind_some]
        exact ⟨_, rfl, fun h => by simp at h, fun h => absurd (h.2.2.2.2 m hm) k1⟩
    · rw [h2, Option.bind_some]
      exact ⟨_, rfl, fun h => by simp at h, fun h => absurd (h.2.2.2.1 m hm) h1⟩
theorem rform_FB {d : Drawing} (h : SmD d) : ref19_Form d = some (FB d) := by
  obtain ⟨c, h1, h2⟩ := rform_P h
  obtain ⟨e, g1, g2⟩ := form_P h
  rw [FB_eq h] at g1
  rw [h1, Option.some.inj g1]
  congr 1
  rw [Bool.eq_iff_iff, h2, g2]
end Go.Proofs.YtachpkjjlebadaaGreat

namespace Go.Proofs.YtachpkjjlebadaaGreat
open Go.Gb
set_option linter.unusedVariables false
set_option linter.unusedSimpArgs false
set_option linter.unusedSectionVars false
set_option linter.unusedVariables false
set_option linter.unusedSimpArgs false

theorem rforms_eq {l : List Drawing} (hl : SmL l) : ref30_forms l = some (fmd l) := by
  have h9 := hl.1
  unfold ref30_forms fmd
  rcases loop_all (body := ref30_forms_L0 l) (id := 0) l.length (fun i => ∀ h : i < l.length, FB l[i] = true) (by omega) (fun i hi _ => by
    unfold ref30_forms_L0
    rw [if_pos (by simpa using hi), getI_nat hi, Option.bind_some, rform_FB (hl.2 _ (List.getElem_mem hi)), Option.bind_some]
    cases hf : FB l[i] with
    | false => exact .inr ⟨fun h => by have := h hi; rw [hf] at this; simp at this, rfl⟩
    | true => exact .inl ⟨fun _ => hf, rfl⟩) (by unfold ref30_forms_L0; rw [if_neg (by simp)]) (fuel := l.length + 1) (by omega) with ⟨h1, h2⟩ | ⟨⟨m, hm, h1⟩, h2⟩
  · rw [h2, Option.bind_some]
    have : l.all FB = true := by
      rw [List.all_eq_true]
      intro x hx
      obtain ⟨m, hm, rfl⟩ := List.getElem_of_mem hx
      exact h1 m hm hm
    rw [this, Bool.and_true]
    dsimp only
    congr 1
    rw [Bool.eq_iff_iff]
    simp only [Bool.and_eq_true, decide_eq_true_eq]
    omega
  · rw [h2, Option.bind_some]
    have : l.all FB = false := by
      rw [List.all_eq_false]
      refine ⟨l[m], List.getElem_mem hm, fun h => h1 fun _ => h⟩
    rw [this, Bool.and_false]
theorem or_chain {α : Type} (b1 b2 b3 b4 b5 b6 b7 : Bool) (x y : Option α) :
    ((if b1 = true then some b1 else (if b2 = true then some b2 else (if b3 = true then some b3 else (if b4 = true then some b4 else (if b5 = true then some b5 else (if b6 = true then some b6 else some b7).bind fun s => some s).bind fun s => some s).bind fun s => some s).bind fun s => some s).bind fun s => some s).bind fun s => if s = true then x else y)
      = if ((((((b1 || b2) || b3) || b4) || b5) || b6) || b7) = true then x else y := by
  cases b1 <;> cases b2 <;> cases b3 <;> cases b4 <;> cases b5 <;> cases b6 <;> cases b7 <;> rfl
theorem rright_eq {d : Dossier} (h : SmL d.Drawings) : ref30_Right d = dossier_Right d := by
  unfold ref30_Right dossier_Right
  rw [or_chain, formed_eq h, rforms_eq h]
theorem rmay_eq (s k : Int) : ref30_may s k = some (decide (k ∈ actsOf s)) := by
  have hk : k = 0 ∨ k = 1 ∨ k = 2 ∨ k = 3 ∨ k = 4 ∨ k = 5 ∨ k = 6 ∨ k = 7 ∨ k = 8 ∨ k = 9 ∨ k = 10 ∨ (k < 0 ∨ 10 < k) := by omega
  have hs : s = 0 ∨ s = 1 ∨ s = 2 ∨ s = 3 ∨ s = 4 ∨ s = 5 ∨ (s < 0 ∨ 5 < s) := by omega
  have h11 : ∀ n : Int, (k < 0 ∨ 10 < k) → 0 ≤ n → n ≤ 10 → k ≠ n := fun n h h1 h2 => by omega
  have h12 : ∀ n : Int, (s < 0 ∨ 5 < s) → 0 ≤ n → n ≤ 5 → s ≠ n := fun n h h1 h2 => by omega
  rcases hs with rfl | rfl | rfl | rfl | rfl | rfl | hs
  · rcases hk with rfl | rfl | rfl | rfl | rfl | rfl | rfl | rfl | rfl | rfl | rfl | hk
    all_goals first | rfl | (unfold ref30_may actsOf; simp [h11 _ hk])
  · rcases hk with rfl | rfl | rfl | rfl | rfl | rfl | rfl | rfl | rfl | rfl | rfl | hk
    all_goals first | rfl | (unfold ref30_may actsOf; simp [h11 _ hk])
  · rcases hk with rfl | rfl | rfl | rfl | rfl | rfl | rfl | rfl | rfl | rfl | rfl | hk
    all_goals first | rfl | (unfold ref30_may actsOf; simp [h11 _ hk])
  · rcases hk with rfl | rfl | rfl | rfl | rfl | rfl | rfl | rfl | rfl | rfl | rfl | hk
    all_goals first | rfl | (unfold ref30_may actsOf; simp [h11 _ hk])
  · rcases hk with rfl | rfl | rfl | rfl | rfl | rfl | rfl | rfl | rfl | rfl | rfl | hk
    all_goals first | rfl | (unfold ref30_may actsOf; simp [h11 _ hk])
  · rcases hk with rfl | rfl | rfl | rfl | rfl | rfl | rfl | rfl | rfl | rfl | rfl | hk
    all_goals first | rfl | (unfold ref30_may actsOf; simp [h11 _ hk])
  · have e0 := h12 0 hs (by omega) (by omega)
    have e1 := h12 1 hs (by omega) (by omega)
    have e2 := h12 2 hs (by omega) (by omega)
    have e3 := h12 3 hs (by omega) (by omega)
    have e4 := h12 4 hs (by omega) (by omega)
    have e5 := h12 5 hs (by omega) (by omega)
    have ea : actsOf s = [] := by unfold actsOf; rw [if_neg e0, if_neg e1, if_neg e2, if_neg e3, if_neg e4, if_neg e5]
    rw [ea]
    unfold ref30_may
    have f0 : (s == 0) = false := by simpa using e0
    have f1 : (s == 1) = false := by simpa using e1
    have f2 : (s == 2) = false := by simpa using e2
    have f3 : (s == 3) = false := by simpa using e3
    have f4 : (s == 4) = false := by simpa using e4
    have f5 : (s == 5) = false := by simpa using e5
    rw [f0, f1, f2, f3, f4, f5]
    simp only [List.not_mem_nil, decide_false, Bool.or_false, Bool.false_and]
    cases (k == 0) <;> cases (k == 1) <;> cases (k == 8) <;> cases (k == 2) <;> cases (k == 3) <;> cases (k == 4) <;> cases (k == 5) <;> cases (k == 6) <;> cases (k == 7) <;> cases (k == 9) <;> cases (k == 10) <;> rfl
theorem racts_eq (s : Int) : ref30_Acts s = some (actsOf s) := by
  obtain ⟨f, h1, h2, h3⟩ := loop_up (body := ref30_Acts_L0 s) (fun i t => t.2 = ((i : Nat) : Int) ∧ t.1 = ((List.range i).map fun m : Nat => (m : Int)).filter (fun m => decide (m ∈ actsOf s)) ∧ t.1.length ≤ i) 11
    (fun f => match f with | .ex _ t => t.1 = ((List.range 11).map fun m : Nat => (m : Int)).filter (fun m => decide (m ∈ actsOf s)) | _ => False) (fun i t hi ⟨hs, hI, hl⟩ => by
      unfold ref30_Acts_L0
      rw [hs, if_pos (by simp; omega), rmay_eq, Option.bind_some]
      by_cases hm : (i : Int) ∈ actsOf s
      · rw [if_pos (by simpa using hm), appI_some (by simp; omega), Option.bind_some, Option.bind_some, addI_one (by omega), Option.bind_some]
        refine .inl ⟨_, rfl, rfl, ?_, by simp; omega⟩
        rw [List.range_succ, List.map_append, List.filter_append, ← hI]
        simp [hm]
      · rw [if_neg (by simpa using hm), Option.bind_some, addI_one (by omega), Option.bind_some]
        refine .inl ⟨_, rfl, rfl, ?_, by show t.1.length ≤ _; omega⟩
        rw [List.range_succ, List.map_append, List.filter_append, ← hI]
        simp [hm]) (fun t ⟨hs, hI, _⟩ => by
      unfold ref30_Acts_L0
      rw [hs, if_neg (by decide)]
      exact ⟨_, rfl, trivial, hI⟩) ([], 0) ⟨rfl, rfl, by simp⟩ 12 (by omega)
  unfold ref30_Acts
  rw [h1, Option.bind_some]
  cases f with
  | go _ => exact h2.elim
  | ret r => exact h3.elim
  | ex _ t =>
    dsimp only at h3 ⊢
    rw [h3]
    have hs : s = 0 ∨ s = 1 ∨ s = 2 ∨ s = 3 ∨ s = 4 ∨ s = 5 ∨ (s < 0 ∨ 5 < s) := by omega
    rcases hs with rfl | rfl | rfl | rfl | rfl | rfl | hs
    · rfl
    · rfl
    · rfl
    · rfl
    · rfl
    · rfl
    · have ea : actsOf s = [] := by
        unfold actsOf
        rw [if_neg (by omega), if_neg (by omega), if_neg (by omega), if_neg (by omega), if_neg (by omega), if_neg (by omega)]
      rw [ea]; rfl
theorem rlower_eq (a b : Volume) : ref30_lower a b = some (lowB a b) := by
  unfold ref30_lower lowB
  congr 1
  rw [Bool.eq_iff_iff]
  simp only [Bool.and_eq_true, decide_eq_true_eq, beq_iff_eq]
  exact ⟨fun h => ⟨h.1.2, h.2, h.1.1.1.1.1, h.1.1.1.1.2, h.1.1.1.2, h.1.1.2⟩, fun h => ⟨⟨⟨⟨⟨h.2.2.1, h.2.2.2.1⟩, h.2.2.2.2.1⟩, h.2.2.2.2.2⟩, h.1⟩, h.2.1⟩⟩
theorem rvols_spec {a b : List Volume} (ha : a.length ≤ 1000000) (hb : b.length ≤ 1000000) : ∃ c, ref30_volumes a b = some c ∧ (c = true ↔ Emb a b) := by
  obtain ⟨f, h1, h2, h3⟩ := loop_up (body := ref30_volumes_L0 a b) (fun i t => t.2 = ((i : Nat) : Int) ∧ ∃ n : Nat, t.1 = (n : Int) ∧ n ≤ a.length ∧ a.drop n = (b.take i).foldl stepG a) b.length
    (fun f => match f with | .ex _ t => (t.1 = (a.length : Int) ↔ Emb a b) | _ => False) (fun i t hi ⟨hs, n, hn, hna, hI⟩ => by
      obtain ⟨t1, t2⟩ := t
      dsimp only at hs hn; subst hs; subst hn
      unfold ref30_volumes_L0
      dsimp only
      by_cases hlt : n < a.length
      · rw [if_pos (by simp; omega), getI_nat hlt, Option.bind_some, getI_nat hi, Option.bind_some, rlower_eq, Option.bind_some]
        have hst : (b.take (i + 1)).foldl stepG a = stepG (a.drop n) b[i] := by
          rw [List.take_succ_eq_append_getElem hi, List.foldl_append, ← hI]; rfl
        have hd : a.drop n = a[n] :: a.drop (n + 1) := List.drop_eq_getElem_cons hlt
        by_cases hc : lowB a[n] b[i] = true
        · rw [if_pos hc, addI_one (by omega), Option.bind_some, Option.bind_some, addI_one (by omega)]
          refine .inl ⟨_, rfl, rfl, n + 1, rfl, by omega, ?_⟩
          rw [hst, hd, show stepG (a[n] :: a.drop (n + 1)) b[i] = a.drop (n + 1) from if_pos hc]
        · rw [if_neg hc, Option.bind_some, addI_one (by omega)]
          refine .inl ⟨_, rfl, rfl, n, rfl, hna, ?_⟩
          rw [hst, hd, show stepG (a[n] :: a.drop (n + 1)) b[i] = a[n] :: a.drop (n + 1) from if_neg hc]
      · rw [if_neg (by simp; omega)]
        obtain rfl : n = a.length := by omega
        refine .inr ⟨_, rfl, trivial, fun _ => ?_, fun _ => rfl⟩
        rw [List.drop_length] at hI
        refine (foldG b a).1 ?_
        rw [← List.take_append_drop i b, List.foldl_append, ← hI, foldG_nil]) (fun t ⟨hs, n, hn, hna, hI⟩ => by
      obtain ⟨t1, t2⟩ := t
      dsimp only at hs hn; subst hs; subst hn
      unfold ref30_volumes_L0
      rw [if_neg (by simp)]
      rw [List.take_length] at hI
      refine ⟨_, rfl, trivial, fun h => ?_, fun h => ?_⟩
      · have h : n = a.length := by dsimp only at h; omega
        rw [h, List.drop_length] at hI
        exact (foldG b a).1 hI.symm
      · have := (foldG b a).2 h
        rw [this] at hI
        have := congrArg List.length hI
        simp at this
        dsimp only; omega) (0, 0) ⟨rfl, 0, rfl, by omega, by simp⟩ (a.length + b.length + 1) (by omega)
  unfold ref30_volumes
  rw [h1, Option.bind_some]
  cases f with
  | go _ => exact h2.elim
  | ret r => exact h3.elim
  | ex _ t =>
    dsimp only at h3 ⊢
    exact ⟨_, rfl, by rw [beq_iff_eq]; exact h3⟩
theorem flatG_le {l : List Phase} {p : Phase} (h : p ∈ l) : p.Gives.length ≤ (l.flatMap fun p => p.Gives).length := by
  obtain ⟨s, t, rfl⟩ := List.append_of_mem h
  simp only [List.flatMap_append, List.flatMap_cons, List.length_append]
  omega
theorem rlessD_spec {x y : Drawing} (hx : SmD x) (hy : SmD y) : ∃ c, ref30_takes x y = some c ∧ (c = true ↔ LessD x y) := by
  have h9 := hx.1
  unfold ref30_takes
  by_cases hc : ((x.Lot != y.Lot) || ((x.Phases.length : Int) != (y.Phases.length : Int))) = true
  · rw [if_pos hc]
    refine ⟨_, rfl, fun h => by simp at h, fun h => ?_⟩
    simp at hc
    rcases hc with hc | hc
    · exact absurd h.1 hc
    · exact absurd h.2.1 (by omega)
  · rw [if_neg hc]
    simp at hc
    have hlen : x.Phases.length = y.Phases.length := by omega
    rcases loop_all (body := ref30_takes_L0 x y) (id := 0) x.Phases.length (fun j => ∀ (h1 : j < x.Phases.length) (h2 : j < y.Phases.length), Emb x.Phases[j].Volumes y.Phases[j].Volumes ∧ x.Phases[j].Gives = y.Phases[j].Gives) (by omega) (fun j hj _ => by
      have hj2 : j < y.Phases.length := by omega
      have sx := hx.2 _ (List.getElem_mem hj)
      have sy := hy.2 _ (List.getElem_mem hj2)
      have sx1 := sx.1; have sx2 := sx.2; have sy1 := sy.1; have sy2 := sy.2
      unfold ref30_takes_L0
      rw [if_pos (by simpa using hj), getI_nat hj, Option.bind_some, getI_nat hj2, Option.bind_some]
      by_cases hg : x.Phases[j].Gives.length = y.Phases[j].Gives.length
      · rw [if_neg (by simp; omega)]
        obtain ⟨c, h1, h2⟩ := rvols_spec (a := x.Phases[j].Volumes) (b := y.Phases[j].Volumes) (by omega) (by omega)
        rw [h1, Option.bind_some, Option.bind_some]
        cases c with
        | false => exact .inr ⟨fun h => by simpa using h2.2 (h hj hj2).1, rfl⟩
        | true =>
          have hE := h2.1 rfl
          rw [if_neg (by simp)]
          rcases loop_all (body := ref30_takes_L1 x.Phases[j] y.Phases[j]) (id := 2) x.Phases[j].Gives.length (fun m => ∀ (h1 : m < x.Phases[j].Gives.length) (h2 : m < y.Phases[j].Gives.length), x.Phases[j].Gives[m] = y.Phases[j].Gives[m]) (by omega) (fun m hm _ => by
              have hm2 : m < y.Phases[j].Gives.length := by omega
              unfold ref30_takes_L1
              rw [if_pos (by simpa using hm), getI_nat hm, Option.bind_some, getI_nat hm2, Option.bind_some]
              by_cases e : x.Phases[j].Gives[m] = y.Phases[j].Gives[m]
              · exact .inl ⟨fun _ _ => e, by rw [if_neg (by simpa using e)]⟩
              · exact .inr ⟨fun h => e (h hm hm2), by rw [if_pos (by simpa using e)]⟩) (by unfold ref30_takes_L1; rw [if_neg (by simp)]) (fuel := (x.Phases.flatMap fun p => p.Gives).length + 1) (by have := flatG_le (List.getElem_mem hj); omega) with ⟨k1, k2⟩ | ⟨⟨m, hm, k1⟩, k2⟩
          · rw [k2, Option.bind_some]
            exact .inl ⟨fun _ _ => ⟨hE, List.ext_getElem hg fun m g1 g2 => k1 m g1 g1 g2⟩, rfl⟩
          · rw [k2, Option.bind_some]
            refine .inr ⟨fun h => k1 fun g1 g2 => ?_, rfl⟩
            have := (h hj hj2).2
            simp only [this]
      · rw [if_pos (by simp; omega), Option.bind_some, if_pos rfl]
        exact .inr ⟨fun h => hg (by rw [(h hj hj2).2]), rfl⟩) (by unfold ref30_takes_L0; rw [if_neg (by simp)]) (fuel := x.Phases.length + 1) (by omega) with ⟨h1, h2⟩ | ⟨⟨m, hm, h1⟩, h2⟩
    · rw [h2, Option.bind_some]
      exact ⟨_, rfl, fun _ => ⟨hc.1, hlen, fun j g1 g2 => h1 j g1 g1 g2⟩, fun _ => rfl⟩
    · rw [h2, Option.bind_some]
      exact ⟨_, rfl, fun h => by simp at h, fun h => absurd (h.2.2 m) h1⟩
theorem rless_spec {a b : List Drawing} (ha : SmL a) (hb : SmL b) : ∃ c, ref30_Less a b = some c ∧ (c = true ↔ LessP a b) := by
  have h9 := ha.1; have h9b := hb.1
  unfold ref30_Less
  by_cases hg : a.length = b.length
  · rw [if_neg (by simp; omega)]
    rcases loop_all (body := ref30_Less_L0 a b) (id := 0) a.length (fun j => ∀ (h1 : j < a.length) (h2 : j < b.length), LessD a[j] b[j]) (by omega) (fun j hj _ => by
      have hj2 : j < b.length := by omega
      unfold ref30_Less_L0
      obtain ⟨c, h1, h2⟩ := rlessD_spec (ha.2 _ (List.getElem_mem hj)) (hb.2 _ (List.getElem_mem hj2))
      rw [if_pos (by simpa using hj), getI_nat hj, Option.bind_some, getI_nat hj2, Option.bind_some, h1, Option.bind_some]
      cases c with
      | false => exact .inr ⟨fun h => by simpa using h2.2 (h hj hj2), rfl⟩
      | true => exact .inl ⟨fun _ _ => h2.1 rfl, rfl⟩) (by unfold ref30_Less_L0; rw [if_neg (by simp)]) (fuel := a.length + b.length + 1) (by omega) with ⟨k1, k2⟩ | ⟨⟨m, hm, k1⟩, k2⟩
    · rw [k2, Option.bind_some]
      exact ⟨_, rfl, fun _ => ⟨hg, fun i g1 g2 => k1 i g1 g1 g2⟩, fun _ => rfl⟩
    · rw [k2, Option.bind_some]
      exact ⟨_, rfl, fun h => by simp at h, fun h => absurd (h.2 m) k1⟩
  · rw [if_pos (by simp; omega)]
    exact ⟨_, rfl, fun h => by simp at h, fun h => absurd h.1 hg⟩
theorem rless_eq {a b : List Drawing} (ha : SmL a) (hb : SmL b) : ref30_Less a b = dossier_Less a b := by
  obtain ⟨c, h1, h2⟩ := rless_spec ha hb
  obtain ⟨e, g1, g2⟩ := less_spec ha hb
  rw [h1, g1]
  congr 1
  rw [Bool.eq_iff_iff, h2, g2]
def NewP (p : Plan) (day n : Int) : Prop := ∃ r ∈ p.Rules, (1 ≤ r.From ∧ r.From ≤ day ∧ day - r.From < r.Grace) ∧ r.From - 1 = n
theorem days_spec {p : Plan} {day : Int} (hp : p.Rules.length ≤ 20) (hd : 0 ≤ day ∧ day ≤ 1073741824) : ∃ l, clause_Days p day = some l ∧ l.length ≤ 21 ∧ ∀ n, n ∈ l ↔ n = day ∨ NewP p day n := by
  obtain ⟨f, h1, h2, h3⟩ := loop_up (body := clause_Days_L0 p day) (fun i s => s.2 = ((i : Nat) : Int) ∧ s.1.length ≤ i + 1 ∧ ∀ n, n ∈ s.1 ↔ n = day ∨ ∃ m, ∃ h : m < p.Rules.length, m < i ∧ (1 ≤ p.Rules[m].From ∧ p.Rules[m].From ≤ day ∧ day - p.Rules[m].From < p.Rules[m].Grace) ∧ p.Rules[m].From - 1 = n) p.Rules.length
    (fun f => match f with | .ex _ s => s.1.length ≤ 21 ∧ ∀ n, n ∈ s.1 ↔ n = day ∨ NewP p day n | _ => False) (fun i s hi ⟨hs, hl, hI⟩ => by
      unfold clause_Days_L0
      rw [hs, if_pos (by simpa using hi), getI_nat hi, Option.bind_some]
      have e : (if (decide (1 ≤ p.Rules[i].From) && decide (p.Rules[i].From ≤ day)) = true then (subI day p.Rules[i].From).bind fun y => some (decide (y < p.Rules[i].Grace)) else some false) = some (decide (1 ≤ p.Rules[i].From ∧ p.Rules[i].From ≤ day ∧ day - p.Rules[i].From < p.Rules[i].Grace)) := by
        by_cases hc : 1 ≤ p.Rules[i].From ∧ p.Rules[i].From ≤ day
        · rw [if_pos (by simp; omega), subI_some (by constructor <;> omega), Option.bind_some]
          congr 1; rw [Bool.eq_iff_iff]; simp; omega
        · rw [if_neg (by simp; omega), decide_eq_false (by omega)]
      rw [e, Option.bind_some]
      have step : ∀ n, (∃ m, ∃ h : m < p.Rules.length, m < i + 1 ∧ (1 ≤ p.Rules[m].From ∧ p.Rules[m].From ≤ day ∧ day - p.Rules[m].From < p.Rules[m].Grace) ∧ p.Rules[m].From - 1 = n) ↔ (∃ m, ∃ h : m < p.Rules.length, m < i ∧ (1 ≤ p.Rules[m].From ∧ p.Rules[m].From ≤ day ∧ day - p.Rules[m].From < p.Rules[m].Grace) ∧ p.Rules[m].From - 1 = n) ∨ ((1 ≤ p.Rules[i].From ∧ p.Rules[i].From ≤ day ∧ day - p.Rules[i].From < p.Rules[i].Grace) ∧ p.Rules[i].From - 1 = n) := by
        intro n
        constructor
        · rintro ⟨m, h, hm, hq⟩
          by_cases e : m = i
          · subst e; exact .inr hq
          · exact .inl ⟨m, h, by omega, hq⟩
        · rintro (⟨m, h, hm, hq⟩ | hq)
          · exact ⟨m, h, by omega, hq⟩
          · exact ⟨i, hi, by omega, hq⟩
      by_cases hq : 1 ≤ p.Rules[i].From ∧ p.Rules[i].From ≤ day ∧ day - p.Rules[i].From < p.Rules[i].Grace
      · rw [if_pos (by simpa using hq), subI_some (by constructor <;> omega), Option.bind_some, appI_some (by simp; omega), Option.bind_some, Option.bind_some, addI_one (by omega), Option.bind_some]
        refine .inl ⟨_, rfl, rfl, by simp; omega, fun n => ?_⟩
        rw [List.mem_append, hI, step, List.mem_singleton, or_assoc]
        refine or_congr Iff.rfl (or_congr Iff.rfl ⟨fun h => ⟨hq, h.symm⟩, fun h => h.2.symm⟩)
      · rw [if_neg (by simpa using hq), Option.bind_some, addI_one (by omega), Option.bind_some]
        refine .inl ⟨_, rfl, rfl, by show s.1.length ≤ _; omega, fun n => ?_⟩
        rw [hI, step]
        exact or_congr Iff.rfl ⟨fun h => .inl h, fun h => h.elim id fun h => absurd h.1 hq⟩) (fun s ⟨hs, hl, hI⟩ => by
      unfold clause_Days_L0
      rw [hs, if_neg (by simp)]
      refine ⟨_, rfl, trivial, by show s.1.length ≤ 21; omega, fun n => ?_⟩
      rw [show ((s.1, ((p.Rules.length : Nat) : Int)) : List Int × Int).1 = s.1 from rfl, hI]
      refine or_congr Iff.rfl ⟨fun ⟨m, h, _, hq⟩ => ⟨_, List.getElem_mem h, hq⟩, fun ⟨r, hr, hq⟩ => ?_⟩
      obtain ⟨m, h, rfl⟩ := List.getElem_of_mem hr
      exact ⟨m, h, h, hq⟩) ([day], 0) ⟨rfl, by simp, fun n => by
        rw [List.mem_singleton]
        exact ⟨.inl, fun h => h.elim id fun ⟨m, _, h, _⟩ => by omega⟩⟩ (p.Rules.length + 1) (by omega)
  unfold clause_Days
  rw [h1, Option.bind_some]
  cases f with
  | go _ => exact h2.elim
  | ret _ => exact h3.elim
  | ex _ s =>
    obtain ⟨hl, hI⟩ := h3
    dsimp only
    obtain ⟨r, hr, hp, hs⟩ := sortInts_spec (l := s.1) (by omega)
    have hrl := hp.length_eq
    obtain ⟨c, hc, _, hm, hcl⟩ := compactInts_spec (l := r) (by omega) hs
    rw [hr, Option.bind_some, hc, Option.bind_some]
    unfold reverseInts
    rw [if_pos (by omega)]
    refine ⟨_, rfl, by simp; omega, fun n => ?_⟩
    rw [List.mem_reverse, hm, hp.mem_iff, hI]
theorem rdays_eq {p : Plan} {day n : Int} (hp : p.Rules.length ≤ 20) (hd : 0 ≤ day ∧ day ≤ 1073741824) : ref21_May p day n = clause_May p day n := by
  obtain ⟨l, h1, h2, h3⟩ := days_spec hp hd
  unfold clause_May
  rw [h1, Option.bind_some, contains_int (by omega), Option.bind_some]
  obtain ⟨f, k1, k2, k3⟩ := loop_up (body := ref21_May_L0 p day n) (fun i s => s = ((i : Nat) : Int) ∧ ∀ m (h : m < p.Rules.length), m < i → ¬ ((1 ≤ p.Rules[m].From ∧ p.Rules[m].From ≤ day ∧ day - p.Rules[m].From < p.Rules[m].Grace) ∧ p.Rules[m].From - 1 = n)) p.Rules.length
    (fun f => match f with | .ex _ _ => ¬ NewP p day n | .ret r => r = true ∧ NewP p day n | .go _ => False) (fun i s hi ⟨hs, hI⟩ => by
      subst hs
      unfold ref21_May_L0
      rw [if_pos (by simpa using hi), getI_nat hi, Option.bind_some]
      have e : ref21_New p.Rules[i] day = some (decide (1 ≤ p.Rules[i].From ∧ p.Rules[i].From ≤ day ∧ day - p.Rules[i].From < p.Rules[i].Grace)) := by
        unfold ref21_New
        by_cases hc : 1 ≤ p.Rules[i].From ∧ p.Rules[i].From ≤ day
        · rw [if_pos (by simp; omega), subI_some (by constructor <;> omega), Option.bind_some, Option.bind_some]
          congr 1; rw [Bool.eq_iff_iff]; simp; omega
        · rw [if_neg (by simp; omega), Option.bind_some, decide_eq_false (by omega)]
      rw [e, Option.bind_some]
      by_cases hq : 1 ≤ p.Rules[i].From ∧ p.Rules[i].From ≤ day ∧ day - p.Rules[i].From < p.Rules[i].Grace
      · rw [if_pos (by simpa using hq), Option.bind_some, subI_some (by constructor <;> omega), Option.bind_some, Option.bind_some]
        by_cases hn : p.Rules[i].From - 1 = n
        · rw [if_pos (by simpa using hn)]
          exact .inr ⟨_, rfl, trivial, rfl, _, List.getElem_mem hi, hq, hn⟩
        · rw [if_neg (by simpa using hn), addI_one (by omega)]
          refine .inl ⟨_, rfl, rfl, fun m h hm => ?_⟩
          by_cases e' : m = i
          · subst e'; exact fun h => hn h.2
          · exact hI m h (by omega)
      · rw [if_neg (by simpa using hq), Option.bind_some, if_neg (by simp), addI_one (by omega)]
        refine .inl ⟨_, rfl, rfl, fun m h hm => ?_⟩
        by_cases e' : m = i
        · subst e'; exact fun h => hq h.1
        · exact hI m h (by omega)) (fun s ⟨hs, hI⟩ => by
      subst hs
      unfold ref21_May_L0
      rw [if_neg (by simp)]
      refine ⟨_, rfl, trivial, fun ⟨r, hr, hq⟩ => ?_⟩
      obtain ⟨m, h, rfl⟩ := List.getElem_of_mem hr
      exact hI m h h hq) 0 ⟨rfl, fun m _ h => by omega⟩ (p.Rules.length + 1) (by omega)
  unfold ref21_May
  rw [k1, Option.bind_some]
  cases f with
  | go _ => exact k3.elim
  | ex _ _ =>
    dsimp only at k3 ⊢
    congr 1
    rw [Bool.eq_iff_iff, beq_iff_eq, decide_eq_true_eq, h3]
    exact ⟨.inl, fun h => h.elim id fun h => absurd h k3⟩
  | ret r =>
    obtain ⟨rfl, k3⟩ := k3
    dsimp only
    congr 1
    rw [eq_comm, decide_eq_true_eq, h3]
    exact .inr k3
end Go.Proofs.YtachpkjjlebadaaGreat

namespace Go.Proofs.YtachpkjjlebadaaGreat
open Go.Gb
set_option linter.unusedVariables false
set_option linter.unusedSimpArgs false
set_option linter.unusedSectionVars false
set_option linter.unusedVariables false
set_option linter.unusedSimpArgs false

theorem acts2 {s : Int} (h : (2 : Int) ∈ actsOf s) : s = 0 ∨ s = 1 ∨ s = 2 ∨ s = 3 := by
  unfold actsOf at h
  by_cases h0 : s = 0
  · exact .inl h0
  · by_cases h1 : s = 1
    · exact .inr (.inl h1)
    · by_cases h2 : s = 2
      · exact .inr (.inr (.inl h2))
      · by_cases h3 : s = 3
        · exact .inr (.inr (.inr h3))
        · rw [if_neg h0, if_neg h1, if_neg h2, if_neg h3] at h
          split at h
          · simp at h
          · split at h <;> simp at h
theorem rstep_eq {p : Plan} {d : Dossier} {a : Act} (hp : p.Rules.length ≤ 20) (hd : SmL d.Drawings) (hl : SmL a.Drawings) : ref30_Step p d a = dossier_Step p d a := by
  obtain ⟨b, hb, hbs⟩ := right_spec hd
  rw [step_eq hb hd]
  unfold ref30_Step
  rw [rright_eq hd, hb, Option.bind_some]
  have e1 : ((((!b) || (decide (a.Kind < 0))) || (decide (11 ≤ a.Kind))) || ((decide (0 < (a.Drawings.length : Int))) && (a.Kind != 2))) = (!b || (decide (a.Kind < 0) || (decide (11 ≤ a.Kind) || ((decide (0 < (a.Drawings.length : Int))) && (a.Kind != 2))))) := by
    simp only [Bool.or_assoc]
  rw [e1]
  by_cases hw : (!b || (decide (a.Kind < 0) || (decide (11 ≤ a.Kind) || ((decide (0 < (a.Drawings.length : Int))) && (a.Kind != 2))))) = true
  · rw [if_pos hw, if_pos hw]; rfl
  · rw [if_neg hw, if_neg hw]
    by_cases ht : (decide (a.Day < d.Day) || decide (1073741824 < a.Day)) = true
    · rw [if_pos ht, if_pos ht]; rfl
    · rw [if_neg ht, if_neg ht, rmay_eq, Option.bind_some]
      by_cases hk : a.Kind ∈ actsOf d.State
      · rw [decide_eq_true hk, if_neg (by simp), if_pos rfl]
        have hbt : b = true := by simp at hw; exact hw.1
        obtain ⟨_, _, _, h0, h1⟩ := hbs hbt
        simp at ht
        have hday : 0 ≤ a.Day ∧ a.Day ≤ 1073741824 := by omega
        obtain ⟨m, hm⟩ := may_tot (n := a.N) hp hday
        have hm' : ref21_May p a.Day a.N = some m := (rdays_eq hp hday).trans hm
        have hsub : subI a.Day d.Day = some (a.Day - d.Day) := subI_some (by constructor <;> omega)
        have hF := rforms_eq hl
        obtain ⟨c, hc⟩ := less_tot hl hd
        have hc' : ref30_Less a.Drawings ({ d with Day := a.Day } : Dossier).Drawings = some c := (rless_eq hl hd).trans hc
        have hA : dossier_amend { d with Day := a.Day } a.Drawings = if fmd a.Drawings = true then some (if (decide (2 ≤ d.State) && !c) = true then { d with Day := a.Day, State := 1, Rule := 0, Drawings := a.Drawings, Choice := 0 } else { d with Day := a.Day, Drawings := a.Drawings, Choice := 0 }, 0) else some (noD, 1) := by
          unfold dossier_amend
          rw [formed_eq hl, Option.bind_some]
          cases fmd a.Drawings with
          | false => rfl
          | true =>
            rw [if_neg (by simp), if_pos rfl]
            dsimp only
            by_cases h2 : 2 ≤ d.State
            · rw [if_pos (by simpa using h2), hc, Option.bind_some, Option.bind_some, clone_eq hl, decide_eq_true h2]
              cases c <;> rfl
            · rw [if_neg (by simpa using h2), Option.bind_some, clone_eq hl, decide_eq_false h2]
              rfl
        have hr := acts_range hk
        unfold dossier_change ref30_fails
        rw [hm, hm', hsub, hA, hF, hc']
        have : a.Kind = 0 ∨ a.Kind = 1 ∨ a.Kind = 2 ∨ a.Kind = 3 ∨ a.Kind = 4 ∨ a.Kind = 5 ∨ a.Kind = 6 ∨ a.Kind = 7 ∨ a.Kind = 8 ∨ a.Kind = 9 ∨ a.Kind = 10 := by omega
        rcases this with h | h | h | h | h | h | h | h | h | h | h
        · rw [h]; rfl
        · rw [h]; cases m <;> rfl
        · rw [h] at hk
          rw [h]
          cases fmd a.Drawings with
          | false => rfl
          | true =>
            obtain ⟨_, _, st, _, _, _, _, _⟩ := d
            dsimp only at hk ⊢
            rcases acts2 hk with rfl | rfl | rfl | rfl
            · rfl
            · rfl
            · cases c <;> rfl
            · cases c <;> rfl
        · rw [h]; rfl
        · rw [h]; rfl
        · rw [h]
          dsimp only
          generalize (decide (a.N < 0) || decide ((d.Drawings.length : Int) ≤ a.N)) = q
          cases q <;> rfl
        · rw [h]; rfl
        · rw [h]; rfl
        · rw [h]
          simp only [Option.bind_some]
          generalize decide (a.Day - d.Day < 365) = q
          cases q <;> rfl
        · rw [h]
          dsimp only
          generalize (decide (a.N < 0) || (a.N == d.Holder)) = q
          cases q <;> rfl
        · rw [h]
          dsimp only
          generalize (decide (a.N < 1) || (a.N == d.Id)) = q
          cases q <;> rfl
      · rw [decide_eq_false hk, if_pos (by simp), if_neg (by simp)]; rfl
theorem rrun_loop (p : Plan) (hp : p.Rules.length ≤ 20) (L : List Act) (hL : L.length ≤ 1000000) (hs : ∀ a ∈ L, SmL a.Drawings) : ∀ (l : List Act) (i : Nat) (d z : Dossier) (fuel : Nat), SmL d.Drawings → L.drop i = l → l.length < fuel → i + l.length = L.length →
    (iterL (ref30_Run_L0 p L) fuel ((i : Int), d, z)).bind (fun f => match f with | .go _ => none | .ex _ s => some (s.2.1, (L.length : Int), (0 : Int)) | .ret r => some r) = runL p i d l
  | [], i, d, z, fuel, hd, h, hf, hi => by
    obtain ⟨fuel, rfl⟩ : ∃ n, fuel = n + 1 := ⟨fuel - 1, by simp at hf; omega⟩
    have hi : i = L.length := by simpa using hi
    subst hi
    have e : ref30_Run_L0 p L ((L.length : Int), d, z) = some (.ex 0 ((L.length : Int), d, z)) := by
      unfold ref30_Run_L0
      dsimp only
      rw [if_neg (by simp)]
    simp only [iterL, e, Option.bind_some, runL]
  | a :: l, i, d, z, fuel, hd, h, hf, hi => by
    obtain ⟨fuel, rfl⟩ : ∃ n, fuel = n + 1 := ⟨fuel - 1, by simp at hf; omega⟩
    have hlt : i < L.length := by simp at hi; omega
    have ha : L[i] = a := by
      have := List.drop_eq_getElem_cons hlt
      rw [h] at this
      exact (List.cons.inj this).1.symm
    have hl : L.drop (i + 1) = l := by
      have := List.drop_eq_getElem_cons hlt
      rw [h] at this
      exact (List.cons.inj this).2.symm
    have hsa : SmL a.Drawings := ha ▸ hs _ (List.getElem_mem hlt)
    obtain ⟨x, hst, hx⟩ := step_sm (a := a) hp hd hsa
    have hst' := (rstep_eq hp hd hsa).trans hst
    by_cases hx0 : (x.2 != 0) = true
    · have e : ref30_Run_L0 p L ((i : Int), d, z) = some (.ret (d, (i : Int), x.2)) := by
        unfold ref30_Run_L0
        dsimp only
        rw [if_pos (by simpa using hlt), getI_nat hlt, Option.bind_some, ha, hst', Option.bind_some, if_pos hx0]
      simp only [iterL, e, runL, hst, Option.bind_some, if_pos hx0]
    · have e : ref30_Run_L0 p L ((i : Int), d, z) = some (.go (((i + 1 : Nat) : Int), x.1, z)) := by
        unfold ref30_Run_L0
        dsimp only
        rw [if_pos (by simpa using hlt), getI_nat hlt, Option.bind_some, ha, hst', Option.bind_some, if_neg hx0, addI_one (by omega)]
        rfl
      have ih := rrun_loop p hp L hL hs l (i + 1) x.1 z fuel hx hl (by simp at hf; omega) (by simp at hi; omega)
      simp only [iterL, e, runL, hst, Option.bind_some, if_neg hx0]
      exact ih
theorem runL_sm {p : Plan} (hp : p.Rules.length ≤ 20) : ∀ (l : List Act) (i : Nat) (d : Dossier), SmL d.Drawings → (∀ a ∈ l, SmL a.Drawings) → ∃ r, runL p i d l = some r ∧ SmL r.1.Drawings
  | [], i, d, hd, _ => ⟨_, rfl, hd⟩
  | a :: l, i, d, hd, hl => by
    obtain ⟨x, hx, hs⟩ := step_sm (a := a) hp hd (hl a (by simp))
    simp only [runL, hx, Option.bind_some]
    split
    · exact ⟨_, rfl, hd⟩
    · exact runL_sm hp l (i + 1) x.1 hs fun b hb => hl b (by simp [hb])
theorem sameI_refl {l : List Int} (h : l.length ≤ 1000000) : ref01_SameNums l l = some true := by
  unfold ref01_SameNums
  rw [if_neg (by simp)]
  rcases loop_all (body := ref01_SameNums_L0 l l) (id := 0) l.length (fun _ => True) (by omega) (fun i hi _ => by
    unfold ref01_SameNums_L0
    rw [if_pos (by simpa using hi), getI_nat hi, Option.bind_some, Option.bind_some, if_neg (by simp)]
    exact .inl ⟨trivial, rfl⟩) (by unfold ref01_SameNums_L0; rw [if_neg (by simp)]) (fuel := l.length + l.length + 1) (by omega) with ⟨h1, h2⟩ | ⟨⟨m, hm, h1⟩, h2⟩
  · rw [h2]; rfl
  · exact absurd trivial h1
theorem law_DossierTells (p : Plan) (d : Dossier) (l : List Act) (state : Int) (hd : Lens d.Drawings) (hll : l.length ≤ maxLen) (ha : ∀ a ∈ l, Lens a.Drawings) : law30_DossierTells p d l state = some true := by
  obtain ⟨b, hb, hbs⟩ := few_all (p := p) (d := d) (l := l) hd hll ha
  unfold law30_DossierTells
  rw [small_true, Option.bind_some, hb, Option.bind_some]
  cases b with
  | false => rw [if_pos (by simp)]
  | true =>
    obtain ⟨hp, h14, hsd, hsa⟩ := hbs rfl
    rw [if_neg (by simp)]
    obtain ⟨r, hr, hrs⟩ := runL_sm (p := p) hp l 0 d hsd hsa
    have hrun : dossier_Run p d l = some r := (run_eq (by omega) hsd).trans hr
    have hrun' : ref30_Run p d l = some r := by
      unfold ref30_Run
      exact (rrun_loop p hp l (by omega) hsa l 0 d _ (l.length + 1) hsd rfl (by omega) (by omega)).trans hr
    rw [hrun, Option.bind_some, hrun', Option.bind_some, if_neg (by simp), same_refl hrs, Option.bind_some, Option.bind_some, if_neg (by simp)]
    obtain ⟨c, hc, _⟩ := right_spec hsd
    rw [rright_eq hsd, hc, Option.bind_some, Option.bind_some, Option.bind_some, if_neg (by simp), acts_eq, Option.bind_some, racts_eq, Option.bind_some, sameI_refl (by have := acts_len state; omega), Option.bind_some, Option.bind_some, if_neg (by simp)]
    rcases loop_all (body := law30_DossierTells_L0 p d l) (id := 0) l.length (fun _ => True) (by omega) (fun i hi _ => by
      have hsi := hsa _ (List.getElem_mem hi)
      obtain ⟨x, hx, hxs⟩ := step_sm (a := l[i]) hp hsd hsi
      obtain ⟨c, hc⟩ := less_tot hsi hsd
      unfold law30_DossierTells_L0
      rw [if_pos (by simpa using hi), getI_nat hi, Option.bind_some, hx, Option.bind_some, Option.bind_some, rstep_eq hp hsd hsi, hx, Option.bind_some, if_neg (by simp), same_refl hxs, Option.bind_some, Option.bind_some, if_neg (by simp), Option.bind_some, hc, Option.bind_some, Option.bind_some, rless_eq hsi hsd, hc, Option.bind_some, Option.bind_some, if_neg (by simp)]
      exact .inl ⟨trivial, rfl⟩) (by unfold law30_DossierTells_L0; rw [if_neg (by simp)]) (fuel := l.length + 1) (by omega) with ⟨h1, h2⟩ | ⟨⟨m, hm, h1⟩, h2⟩
    · rw [h2]; rfl
    · exact absurd trivial h1
end Go.Proofs.YtachpkjjlebadaaGreat

