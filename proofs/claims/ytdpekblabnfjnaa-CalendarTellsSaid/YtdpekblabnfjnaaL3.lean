/- The general part of the proofs (no program in sight): worlds with shared blocks, regions, operations, calls, loops, what comes in as data, part 3 -/
import Derived.Test.YtdpekblabnfjnaaL2
set_option linter.unusedVariables false
set_option linter.unusedSimpArgs false
/- General part of the proofs: a slice of the call's own, of numbers with slices of the call's own. -/
namespace Go.Gb
set_option linter.unusedSectionVars false
section
variable {α : Type} [Enc α] {P : Program} {o : Oper} {a : Act} {k k' k0 : K} {F G : FP} {E e : TypeId} {v : Value}

def rawP (t : Int × Value × List α) : Int × RawV := (t.1, ⟨t.2.1⟩)
def cntP (t : Int × Value × List α) : Int × List α := (t.1, t.2.2)
structure PartsOk (e : TypeId) (T : List (Int × Value × List α)) (k : K) : Prop where
  own : ∀ (i : Nat) t, T[i]? = some t → IsOwn 0 e t.2.2 t.2.1 k
  ap : ∀ (i j : Nat) s t, T[i]? = some s → T[j]? = some t → i ≠ j → Apart (obF s.2.1) (obF t.2.1)
def partsF (T : List (Int × Value × List α)) : FP := fun c => ∃ (i : Nat) (t : _), T[i]? = some t ∧ obF t.2.1 c
theorem PartsOk.keep {T : List (Int × Value × List α)} (h : PartsOk e T k) (g : Chg G k k') (hs : Apart (partsF T) G) (hn : ∀ b, G b → ¬ k.sh b) : PartsOk e T k' :=
  ⟨fun i t ht => (h.own i t ht).keep g (fun c hc => hs c ⟨i, t, ht, hc⟩) hn, h.ap⟩
theorem PartsOk.handed {T : List (Int × Value × List α)} (h : PartsOk e T k) (g : Handed k k' G) (hs : Apart (partsF T) G) : PartsOk e T k' :=
  ⟨fun i t ht => (h.own i t ht).handed g (fun c hc => hs c ⟨i, t, ht, hc⟩), h.ap⟩
/-- A slice of the call's own, of numbers with slices of the call's own. -/
def PilR (E e : TypeId) (m : List (Int × List α)) : FP → Pred := fun F v k =>
  E ≠ e ∧ ∃ T : List (Int × Value × List α), m = T.map cntP ∧ IsOwn 0 E (T.map rawP) v k ∧ PartsOk e T k ∧ F = fun c => obF v c ∨ partsF T c
instance (m : List (Int × List α)) : Rsc (PilR E e m) where
  keep := fun ⟨hne, T, e1, ho, hp, eF⟩ g hs hn => ⟨hne, T, e1, ho.keep g (fun c hc => hs c (by rw [eF]; exact .inl hc)) hn, hp.keep g (fun c hc => hs c (by rw [eF]; exact .inr hc)) hn, eF⟩
  handed := fun ⟨hne, T, e1, ho, hp, eF⟩ g hs => ⟨hne, T, e1, ho.handed g (fun c hc => hs c (by rw [eF]; exact .inl hc)), hp.handed g (fun c hc => hs c (by rw [eF]; exact .inr hc)), eF⟩
  lt := fun ⟨hne, T, e1, ho, hp, eF⟩ c hc => by
    rw [eF] at hc
    rcases hc with hc | ⟨i, t, ht, hc⟩
    · exact ho.ltF c hc
    · exact (hp.own i t ht).ltF c hc
  nsh := fun ⟨hne, T, e1, ho, hp, eF⟩ c hc => by
    rw [eF] at hc
    rcases hc with hc | ⟨i, t, ht, hc⟩
    · exact ho.nshF c hc
    · exact (hp.own i t ht).nshF c hc
theorem PilR.nil (hne : E ≠ e) : PilR (α := α) E e [] noF (.slice none 0 0) k := by
  refine ⟨hne, [], rfl, .inl ⟨rfl, rfl⟩, ⟨fun i t h => by simp at h, fun i j s t h => by simp at h⟩, ?_⟩
  funext c
  refine propext ⟨False.elim, ?_⟩
  rintro (h | ⟨i, t, h, _⟩)
  · simp [obF, ob] at h
  · simp at h
/-- One slice is another one now. -/
theorem PilR.set {T : List (Int × Value × List α)} {i : Nat} {t : Int × Value × List α} {u : Value} {xs : List α} (hne : E ≠ e) (hi : T[i]? = some t) (ho : IsOwn 0 E ((T.map rawP).set i (t.1, ⟨u⟩)) v k)
    (hp : ∀ (j : Nat) s, T[j]? = some s → j ≠ i → IsOwn 0 e s.2.2 s.2.1 k) (hpa : ∀ (i j : Nat) s t, T[i]? = some s → T[j]? = some t → i ≠ j → Apart (obF s.2.1) (obF t.2.1)) (hu : IsOwn 0 e xs u k) (ha : ∀ (j : Nat) s, T[j]? = some s → j ≠ i → Apart (obF s.2.1) (obF u)) :
    PilR E e ((T.map cntP).set i (t.1, xs)) (fun c => obF v c ∨ partsF (T.set i (t.1, u, xs)) c) v k := by
  have hlt : i < T.length := (List.getElem?_eq_some_iff.1 hi).1
  have get : ∀ (j : Nat) s, (T.set i (t.1, u, xs))[j]? = some s → (j = i ∧ s = (t.1, u, xs)) ∨ (j ≠ i ∧ T[j]? = some s) := by
    intro j s h
    by_cases hj : j = i
    · subst hj; rw [List.getElem?_set_self hlt] at h; exact .inl ⟨rfl, (Option.some.inj h).symm⟩
    · rw [List.getElem?_set_ne (fun e => hj e.symm)] at h; exact .inr ⟨hj, h⟩
  refine ⟨hne, T.set i (t.1, u, xs), by rw [List.map_set]; rfl, by rw [List.map_set]; exact ho, ⟨fun j s h => ?_, fun j l s s' h h' hjl => ?_⟩, rfl⟩
  · rcases get j s h with ⟨_, rfl⟩ | ⟨hj, h⟩
    · exact hu
    · exact hp j s h hj
  · rcases get j s h with ⟨rfl, rfl⟩ | ⟨hj, h1⟩
    · rcases get l s' h' with ⟨rfl, rfl⟩ | ⟨hl, h2⟩
      · exact absurd rfl hjl
      · exact (ha l s' h2 hl).symm
    · rcases get l s' h' with ⟨rfl, rfl⟩ | ⟨hl, h2⟩
      · exact ha j s h1 hj
      · exact hpa j l s s' h1 h2 hjl
/-- The slice u, whose parts are told by T. -/
def PilAt (u : Value) (E e : TypeId) (T : List (Int × Value × List α)) : Pred := fun v k => v = u ∧ IsOwn 0 E (T.map rawP) u k ∧ PartsOk e T k
theorem PartsOk.grow {T : List (Int × Value × List α)} (h : PartsOk e T k) (g : Grow k k') : PartsOk e T k' := h.keep (Chg.of (F := noF) g) (fun _ _ f => f) (fun _ f => f.elim)
instance {u : Value} {T : List (Int × Value × List α)} : Mono (PilAt u E e T) := ⟨fun g ⟨h, h1, h2⟩ => ⟨h, Mono.mono g h1, h2.grow g⟩⟩
theorem PilR.open {m : List (Int × List α)} (h : PilR E e m F v k) : E ≠ e ∧ ∃ T : List (Int × Value × List α), m = T.map cntP ∧ PilAt v E e T v k ∧ F = fun c => obF v c ∨ partsF T c :=
  let ⟨hne, T, e1, ho, hp, eF⟩ := h; ⟨hne, T, e1, ⟨rfl, ho, hp⟩, eF⟩
section
variable {u : Value} {T : List (Int × Value × List α)} {i : Int} {s : Int × Value × List α} {t st : TypeId} {x y : Operand}
theorem PilAt.own (h : PilAt u E e T v k) (hi : getI T i = some s) : IsOwn 0 e s.2.2 s.2.1 k := h.2.2.own _ _ (getI_spec hi).2.1
end
end
end Go.Gb

/- General part of the proofs: maps that are ranged over, keys that are structs, boxes whose cells are looked at one by one. -/
namespace Go.Gb
open Go.ChangeMaps (setBlock)

/-- Block b is a map of the call's own with these entries, which can be ranged over. -/
structure MapC {κ : Type} (kv : κ → Value) (b : Nat) (l : List (κ × Value)) (k : K) : Prop where
  own : ¬ k.sh b
  is : ∃ es clk, k.w.heap[b]? = some (.map es clk) ∧ es.toList.map (fun e => (e.key, e.val)) = l.map (fun p => (kv p.1, p.2)) ∧ (∀ e ∈ es.toList, e.born < clk) ∧ (es.toList.map (·.born)).Nodup
section
variable {P : Program} {o : Oper} {a a0 : Act} {k k' k0 : K} {R S T : Pred} {κ : Type} {kv : κ → Value} {F G : FP} {b : Nat} {l : List (κ × Value)}
theorem MapC.m (h : MapC kv b l k) : MapB kv b l k := let ⟨es, clk, h1, h2, _⟩ := h.is; ⟨h.own, es, clk, h1, h2⟩
theorem MapC.lt (h : MapC kv b l k) : b < k.w.heap.size := h.m.lt
theorem MapC.keep (h : MapC kv b l k) (g : Chg G k k') (hG : ¬ G b) : MapC kv b l k' := by
  have hlt := h.lt
  obtain ⟨ho, es, clk, h, r⟩ := h
  exact ⟨fun hs => ho (g.new' b hlt hG hs), es, clk, by rw [g.blk b hlt hG]; exact h, r⟩
theorem MapC.handed (h : MapC kv b l k) (g : Handed k k' G) (hG : ¬ G b) : MapC kv b l k' := by
  obtain ⟨ho, es, clk, h, r⟩ := h
  exact ⟨fun hs => (g.sh b hs).elim ho hG, es, clk, by rw [g.w]; exact h, r⟩
theorem MapC.grow (h : MapC kv b l k) (g : Grow k k') : MapC kv b l k' := h.keep (Chg.of (F := noF) g) fun f => f

instance {b0 : Nat} : Mono (fun v k => ∃ b, v = Value.map (some b) ∧ b0 ≤ b ∧ MapC kv b [] k) := ⟨fun g ⟨b, e, h, m⟩ => ⟨b, e, h, m.grow g⟩⟩

/-- The iterator in block r. -/
structure ItAt (r bm since : Nat) (seen : Array Nat) (last : Nat) (k : K) : Prop where
  own : ¬ k.sh r
  is : k.w.heap[r]? = some (.mapIter (some bm) since seen last)
theorem ItAt.lt {r bm since : Nat} {seen : Array Nat} {last : Nat} (h : ItAt r bm since seen last k) : r < k.w.heap.size := (Array.getElem?_eq_some_iff.1 h.is).1
theorem ItAt.keep {r bm since : Nat} {seen : Array Nat} {last : Nat} (h : ItAt r bm since seen last k) (g : Chg G k k') (hG : ¬ G r) : ItAt r bm since seen last k' :=
  ⟨fun hs => h.own (g.new' r h.lt hG hs), by rw [g.blk r h.lt hG]; exact h.is⟩
theorem ItAt.grow {r bm since : Nat} {seen : Array Nat} {last : Nat} (h : ItAt r bm since seen last k) (g : Grow k k') : ItAt r bm since seen last k' := h.keep (Chg.of (F := noF) g) fun f => f
theorem ItAt.handed {r bm since : Nat} {seen : Array Nat} {last : Nat} (h : ItAt r bm since seen last k) (g : Handed k k' G) (hG : ¬ G r) : ItAt r bm since seen last k' :=
  ⟨fun hs => (g.sh r hs).elim h.own hG, by rw [g.w]; exact h.is⟩
end
end Go.Gb

/- Sizes: no part of a sort changes how many elements there are, whatever the comparison is. -/
namespace Go.Gb
open Go.Proofs Go.RowKit Go.Lib Go.Sort Go.Shelf
variable {α : Type} [Inhabited α] (lt : α → α → Bool)

theorem siftDown_size (hi first : Nat) : ∀ (m root : Nat) (d : Array α), hi - root ≤ m → (siftDown lt hi first root d).size = d.size
  | 0, root, d, hm => by rw [siftDown, dif_pos (by omega)]
  | m + 1, root, d, hm => by
    rw [siftDown]
    split
    · rfl
    · split
      · split
        · rfl
        · split
          · rw [siftDown_size hi first m _ _ (by omega), swp_size]
          · rfl
      · split
        · rfl
        · rw [siftDown_size hi first m _ _ (by omega), swp_size]
theorem heapBuild_size (hi first : Nat) : ∀ (n : Nat) (d : Array α), (heapBuild lt hi first n d).size = d.size
  | 0, _ => rfl
  | n + 1, d => by rw [heapBuild, heapBuild_size hi first n, siftDown_size lt hi first _ _ _ (Nat.le_refl _)]
theorem heapPop_size (first : Nat) : ∀ (n : Nat) (d : Array α), (heapPop lt first n d).size = d.size
  | 0, _ => rfl
  | n + 1, d => by rw [heapPop, heapPop_size first n, siftDown_size lt _ first _ _ _ (Nat.le_refl _), swp_size]
theorem heapSort_size (d : Array α) (a b : Nat) : (heapSort lt d a b).size = d.size := by rw [heapSort, heapPop_size, heapBuild_size]
theorem shiftDown_size : ∀ (n : Nat) (d : Array α), (shiftDown lt n d).size = d.size
  | 0, _ => rfl
  | n + 1, d => by
    rw [shiftDown]
    split
    · rfl
    · rw [shiftDown_size n, swp_size]
theorem shiftUp_size (b : Nat) : ∀ (m j : Nat) (d : Array α), b - j ≤ m → (shiftUp lt b j d).size = d.size
  | 0, j, d, hm => by rw [shiftUp, if_neg (by omega)]
  | m + 1, j, d, hm => by
    rw [shiftUp]
    split
    · split
      · rfl
      · rw [shiftUp_size b m _ _ (by omega), swp_size]
    · rfl
theorem partialIns_size (a b : Nat) : ∀ (s i : Nat) (d : Array α), (partialIns lt a b s i d).1.size = d.size
  | 0, _, _ => rfl
  | s + 1, i, d => by
    simp only [partialIns]
    split
    · rfl
    · split
      · rfl
      · rw [partialIns_size a b s]
        split <;> split <;> simp only [shiftUp_size lt b _ _ _ (Nat.le_refl _), shiftDown_size, swp_size]
theorem partialInsertionSort_size (d : Array α) (a b : Nat) : (partialInsertionSort lt d a b).1.size = d.size := partialIns_size lt a b 5 _ d
theorem partition_any (d : Array α) {a b pivot : Nat} (h1 : a ≤ pivot) (h2 : pivot < b) (hb : b ≤ d.size) :
    a ≤ (partition lt d a b pivot).1 ∧ (partition lt d a b pivot).1 < b ∧ (partition lt d a b pivot).2.2.size = d.size := by
  rw [partition_fst, partition_arr, swp_size]
  obtain ⟨r1, r2, r3, -, -⟩ := partLoop_spec lt a b _ (a + 1) (b - 1) (swp d a pivot) (Nat.le_refl _) (Nat.lt_succ_self a) (by omega) (by omega) (by rw [swp_size]; exact hb) (fun t h1 h2 => by omega) (fun t h1 h2 => by omega)
  exact ⟨r1, r2, r3.1.trans (swp_size _ _ _)⟩
theorem partitionEqual_any (d : Array α) {a b pivot : Nat} (h1 : a ≤ pivot) (h2 : pivot < b) (hb : b ≤ d.size) :
    a < (partitionEqual lt d a b pivot).1 ∧ (partitionEqual lt d a b pivot).1 ≤ b ∧ (partitionEqual lt d a b pivot).2.size = d.size := by
  unfold partitionEqual
  obtain ⟨r1, r2, r3, -, -⟩ := partEqLoop_spec lt a b _ (a + 1) (b - 1) (swp d a pivot) (Nat.le_refl _) (Nat.lt_succ_self a) (by omega) (by omega) (by rw [swp_size]; exact hb) (fun t h1 h2 => by omega) (fun t h1 h2 => by omega)
  exact ⟨r1, r2, r3.1.trans (swp_size _ _ _)⟩
end Go.Gb

/- slices.SortFunc with any comparison that answers, even one that is no order: it comes back, and the row holds some elements, as many as before. -/
namespace Go.Gb
open Go.Proofs Go.RowKit Go.Lib Go.Sort Go.Shelf
variable {P : Program} {ρ : Ren} {α : Type} [Inhabited α]

/-- A world of the sort's, with whatever n elements in the row. -/
def SomeRow (enc : α → List Value) (k : Nat) (w0 : World) (blk off n : Nat) (w : World) : Prop := ∃ d : Array α, d.size = n ∧ SWK enc k w0 blk off d w

theorem SomeRow.drew {enc : α → List Value} {k : Nat} {w0 : World} {blk off n : Nat} {w : World} (h : SomeRow enc k w0 blk off n w) : SomeRow enc k w0 blk off n w.drew := let ⟨d, hd, S⟩ := h; ⟨d, hd, S.drew⟩

/-- What is asked of a sort. -/
structure Asked (P : Program) (ρ : Ren) (enc : α → List Value) (k : Nat) (cf : α → α → Int) (g : Nat) (cb : Array Value) (w0 : World) (blk off : Nat) (d0 : Array α) : Prop where
  aE : ∀ w, (isAgg (ρ.t 24)).run P w = .ok true w
  zE : ∀ w, (Go.sizeOf (ρ.t 24)).run P w = .ok k w
  eg : ∀ args w, (callFunc g args).run P w = .ok (.enter g args) w
  cmp : CmpLays P g cb enc k cf blk off d0.size w0
  row : RowK enc k w0 blk off d0
  small : d0.size < 4611686018427387904

section
variable {enc : α → List Value} {k : Nat} {cf : α → α → Int} {g : Nat} {cb : Array Value} {w0 : World} {blk off : Nat} {d0 : Array α} {w : World} {a b : Nat}

theorem any_insertion (L : SlLaysF0.n14 P ρ) (A : Asked P ρ enc k cf g cb w0 blk off d0) (cap : Nat) (S : SomeRow enc k w0 blk off d0.size w) (hab : a ≤ b) (hb : b ≤ d0.size) :
    Calls P (ρ.f 20) #[.slice (some ⟨blk, off, none⟩) d0.size cap, .int .i64 a, .int .i64 b, .func (.func g) #[] cb] w fun e w' => e = .returned (.tuple #[]) ∧ SomeRow enc k w0 blk off d0.size w' := by
  obtain ⟨d, hs, S⟩ := S
  have hC : CmpLays P g cb enc k cf blk off d.size w := fun m os dk hdk x y => by
    obtain ⟨n, os', rfl⟩ := S
    rw [sortWorldK_on enc k w0 blk off n m d dk os' os A.row.hblk hdk]
    exact A.cmp _ _ dk (hdk.trans hs) x y
  rw [← hs]
  refine (AnyQ.insertionSortCmpFunc { L with } k A.aE A.zE enc A.row.hk A.row.h1 cf g cb blk off cap a b d w A.eg hC (S.holds A.row.hblk A.row.hH hs) (S.lt A.row.hblk) hab (hs ▸ hb) (hs ▸ A.small)).mono ?_
  rintro e w' ⟨rfl, n, os, rfl⟩
  exact ⟨rfl, _, insertionSort_size _ _ _ _, S.on A.row.hblk n _ os (insertionSort_size _ _ _ _)⟩
theorem any_heap (L : SlLaysF0.n14 P ρ) (A : Asked P ρ enc k cf g cb w0 blk off d0) (cap : Nat) (S : SomeRow enc k w0 blk off d0.size w) (hab : a ≤ b) (hb : b ≤ d0.size) :
    Calls P (ρ.f 21) #[.slice (some ⟨blk, off, none⟩) d0.size cap, .int .i64 a, .int .i64 b, .func (.func g) #[] cb] w fun e w' => e = .returned (.tuple #[]) ∧ SomeRow enc k w0 blk off d0.size w' := by
  obtain ⟨d, hs, S⟩ := S
  have h := AnyQ.heapSortCmpFunc { L with } k A.aE A.zE enc cf g cb blk off cap a b d0 d w0 w A.eg A.cmp A.row hs.symm S hab (hs ▸ hb) (hs ▸ A.small)
  rw [hs] at h
  exact h.mono fun _ _ ⟨he, hw⟩ => ⟨he, _, (heapSort_size _ _ _ _).trans hs, hw⟩
theorem any_break (L : SlLaysF0.n14 P ρ) (A : Asked P ρ enc k cf g cb w0 blk off d0) (cap : Nat) (S : SomeRow enc k w0 blk off d0.size w) (hab : a ≤ b) (hb : b ≤ d0.size) :
    Calls P (ρ.f 22) #[.slice (some ⟨blk, off, none⟩) d0.size cap, .int .i64 a, .int .i64 b, .func (.func g) #[] cb] w fun e w' => e = .returned (.tuple #[]) ∧ SomeRow enc k w0 blk off d0.size w' := by
  obtain ⟨d, hs, S⟩ := S
  have h := AnyQ.breakPatternsCmpFunc { L with } k A.aE A.zE enc g cb blk off cap a b d0 d w0 w A.row hs.symm S hab (hs ▸ hb) (hs ▸ A.small)
  rw [hs] at h
  exact h.mono fun _ _ ⟨he, hw⟩ => ⟨he, _, (breakPatterns_holds d a b hab (hs ▸ hb)).1.trans hs, hw⟩
theorem any_pivot (L : SlLaysF0.n14 P ρ) (A : Asked P ρ enc k cf g cb w0 blk off d0) (cap : Nat) (S : SomeRow enc k w0 blk off d0.size w) (hab : a < b) (hb : b ≤ d0.size) :
    Calls P (ρ.f 23) #[.slice (some ⟨blk, off, none⟩) d0.size cap, .int .i64 a, .int .i64 b, .func (.func g) #[] cb] w fun e w' => ∃ p h : Nat, e = .returned (.tuple #[.int .i64 p, .int .i64 h]) ∧ a ≤ p ∧ p < b ∧ SomeRow enc k w0 blk off d0.size w' := by
  obtain ⟨d, hs, S⟩ := S
  have h := AnyQ.choosePivotCmpFunc { L with } k A.aE A.zE enc cf g cb blk off cap a b d0 d w0 w A.eg A.cmp A.row hs.symm S hab (hs ▸ hb) (hs ▸ A.small)
  rw [hs] at h
  have hp := choosePivot_holds (ltOf cf) d a b hab
  refine h.mono fun _ _ ⟨he, hw⟩ => ⟨_, (hintCode (choosePivot (ltOf cf) d a b).2).toNat, he.trans ?_, hp.1, hp.2, d, hs, hw⟩
  rw [Int.toNat_of_nonneg]
  cases (choosePivot (ltOf cf) d a b).2 <;> decide
theorem any_reverse (L : SlLaysF0.n14 P ρ) (A : Asked P ρ enc k cf g cb w0 blk off d0) (cap : Nat) (S : SomeRow enc k w0 blk off d0.size w) (hab : a ≤ b) (hb : b ≤ d0.size) :
    Calls P (ρ.f 24) #[.slice (some ⟨blk, off, none⟩) d0.size cap, .int .i64 a, .int .i64 b, .func (.func g) #[] cb] w fun e w' => e = .returned (.tuple #[]) ∧ SomeRow enc k w0 blk off d0.size w' := by
  obtain ⟨d, hs, S⟩ := S
  have h := AnyQ.reverseRangeCmpFunc { L with } k A.aE A.zE enc g cb blk off cap a b d0 d w0 w A.row hs.symm S hab (hs ▸ hb) (hs ▸ A.small)
  rw [hs] at h
  exact h.mono fun _ _ ⟨he, hw⟩ => ⟨he, _, (reverseRange_holds d a b hab (hs ▸ hb)).1.trans hs, hw⟩
theorem any_partial (L : SlLaysF0.n14 P ρ) (A : Asked P ρ enc k cf g cb w0 blk off d0) (cap : Nat) (S : SomeRow enc k w0 blk off d0.size w) (hab : a < b) (hb : b ≤ d0.size) :
    Calls P (ρ.f 25) #[.slice (some ⟨blk, off, none⟩) d0.size cap, .int .i64 a, .int .i64 b, .func (.func g) #[] cb] w fun e w' => ∃ q : Bool, e = .returned (.bool q) ∧ SomeRow enc k w0 blk off d0.size w' := by
  obtain ⟨d, hs, S⟩ := S
  have h := AnyQ.partialInsertionSortCmpFunc { L with } k A.aE A.zE enc cf g cb blk off cap a b d0 d w0 w A.eg A.cmp A.row hs.symm S hab (hs ▸ hb) (hs ▸ A.small)
  rw [hs] at h
  exact h.mono fun _ _ ⟨he, hw⟩ => ⟨_, he, _, (partialInsertionSort_size _ _ _ _).trans hs, hw⟩
theorem any_equal (L : SlLaysF0.n14 P ρ) (A : Asked P ρ enc k cf g cb w0 blk off d0) (cap p : Nat) (S : SomeRow enc k w0 blk off d0.size w) (hap : a ≤ p) (hpb : p < b) (hb : b ≤ d0.size) :
    Calls P (ρ.f 26) #[.slice (some ⟨blk, off, none⟩) d0.size cap, .int .i64 a, .int .i64 b, .int .i64 p, .func (.func g) #[] cb] w fun e w' => ∃ m : Nat, e = .returned (.int .i64 m) ∧ a < m ∧ m ≤ b ∧ SomeRow enc k w0 blk off d0.size w' := by
  obtain ⟨d, hs, S⟩ := S
  have h := AnyQ.partitionEqualCmpFunc { L with } k A.aE A.zE enc cf g cb blk off cap a b p d0 d w0 w A.eg A.cmp A.row hs.symm S hap hpb (hs ▸ hb) (hs ▸ A.small)
  rw [hs] at h
  have hp := partitionEqual_any (ltOf cf) d hap hpb (hs ▸ hb)
  exact h.mono fun _ _ ⟨he, hw⟩ => ⟨_, he, hp.1, hp.2.1, _, hp.2.2.trans hs, hw⟩
theorem any_partition (L : SlLaysF0.n14 P ρ) (A : Asked P ρ enc k cf g cb w0 blk off d0) (cap p : Nat) (S : SomeRow enc k w0 blk off d0.size w) (hap : a ≤ p) (hpb : p < b) (hb : b ≤ d0.size) :
    Calls P (ρ.f 27) #[.slice (some ⟨blk, off, none⟩) d0.size cap, .int .i64 a, .int .i64 b, .int .i64 p, .func (.func g) #[] cb] w fun e w' => ∃ (m : Nat) (q : Bool), e = .returned (.tuple #[.int .i64 m, .bool q]) ∧ a ≤ m ∧ m < b ∧ SomeRow enc k w0 blk off d0.size w' := by
  obtain ⟨d, hs, S⟩ := S
  have h := AnyQ.partitionCmpFunc { L with } k A.aE A.zE enc cf g cb blk off cap a b p d0 d w0 w A.eg A.cmp A.row hs.symm S hap hpb (hs ▸ hb) (hs ▸ A.small)
  rw [hs] at h
  have hp := partition_any (ltOf cf) d hap hpb (hs ▸ hb)
  exact h.mono fun _ _ ⟨he, hw⟩ => ⟨_, _, he, hp.1, hp.2.1, _, hp.2.2.trans hs, hw⟩
end
end Go.Gb

/- The walk of pdqsortCmpFunc with any comparison that answers. -/
namespace Go.Gb
open Go.Proofs Go.RowKit Go.Lib Go.Sort Go.Shelf
variable {P : Program} {ρ : Ren} {α : Type} [Inhabited α]

set_option maxHeartbeats 25600000 in
set_option maxRecDepth 1000000 in
theorem any_pdq (L : SlLaysF0.n14 P ρ) {enc : α → List Value} {k : Nat} {cf : α → α → Int} {g : Nat} {cb : Array Value} {w0 : World} {blk off : Nat} {d0 : Array α}
    (A : Asked P ρ enc k cf g cb w0 blk off d0) (cap : Nat) :
    ∀ (N a b limit : Nat) (w : World), b - a < N → SomeRow enc k w0 blk off d0.size w → a ≤ b → b ≤ d0.size → limit < 4611686018427387904 →
    Calls P (ρ.f 14) #[.slice (some ⟨blk, off, none⟩) d0.size cap, .int .i64 a, .int .i64 b, .int .i64 limit, .func (.func g) #[] cb] w fun e w' => e = .returned (.tuple #[]) ∧ SomeRow enc k w0 blk off d0.size w' := by
  have mixed := L.mixed; have t0 := L.t0; have a0 := L.a0; have z0 := L.z0; have v0 := L.v0; have t3 := L.t3; have a3 := L.a3; have z3 := L.z3; have v3 := L.v3; have t4 := L.t4; have a4 := L.a4; have z4 := L.z4; have v4 := L.v4; have t5 := L.t5; have a5 := L.a5; have z5 := L.z5; have v5 := L.v5; have t9 := L.t9; have a9 := L.a9; have z9 := L.z9; have v9 := L.v9; have t22 := L.t22; have a22 := L.a22; have z22 := L.z22; have v22 := L.v22; have t25 := L.t25; have a25 := L.a25; have z25 := L.z25; have v25 := L.v25; have t45 := L.t45; have a45 := L.a45; have z45 := L.z45; have v45 := L.v45; have t46 := L.t46; have a46 := L.a46; have z46 := L.z46; have v46 := L.v46
  obtain ⟨_, _, body⟩ := L.f14
  have e20 : ∀ args w, (callFunc (ρ.f 20) args).run P w = .ok (.enter (ρ.f 20) args) w := L.f20.enters rfl
  have e21 : ∀ args w, (callFunc (ρ.f 21) args).run P w = .ok (.enter (ρ.f 21) args) w := L.f21.enters rfl
  have e22 : ∀ args w, (callFunc (ρ.f 22) args).run P w = .ok (.enter (ρ.f 22) args) w := L.f22.enters rfl
  have e23 : ∀ args w, (callFunc (ρ.f 23) args).run P w = .ok (.enter (ρ.f 23) args) w := L.f23.enters rfl
  have e24 : ∀ args w, (callFunc (ρ.f 24) args).run P w = .ok (.enter (ρ.f 24) args) w := L.f24.enters rfl
  have e25 : ∀ args w, (callFunc (ρ.f 25) args).run P w = .ok (.enter (ρ.f 25) args) w := L.f25.enters rfl
  have e26 : ∀ args w, (callFunc (ρ.f 26) args).run P w = .ok (.enter (ρ.f 26) args) w := L.f26.enters rfl
  have e27 : ∀ args w, (callFunc (ρ.f 27) args).run P w = .ok (.enter (ρ.f 27) args) w := L.f27.enters rfl
  have e14 : ∀ args w, (callFunc (ρ.f 14) args).run P w = .ok (.enter (ρ.f 14) args) w := L.f14.enters rfl
  have eg := A.eg; have aE := A.aE; have zE := A.zE; have hn := A.small
  have insW := fun a b w (S : SomeRow enc k w0 blk off d0.size w) => any_insertion L A cap (a := a) (b := b) S
  have heapW := fun a b w (S : SomeRow enc k w0 blk off d0.size w) => any_heap L A cap (a := a) (b := b) S
  have breakW := fun a b w (S : SomeRow enc k w0 blk off d0.size w) => any_break L A cap (a := a) (b := b) S
  have pivotW := fun a b w (S : SomeRow enc k w0 blk off d0.size w) => any_pivot L A cap (a := a) (b := b) S
  have revW := fun a b w (S : SomeRow enc k w0 blk off d0.size w) => any_reverse L A cap (a := a) (b := b) S
  have partW := fun a b w (S : SomeRow enc k w0 blk off d0.size w) => any_partial L A cap (a := a) (b := b) S
  have eqW := fun a b p w (S : SomeRow enc k w0 blk off d0.size w) => any_equal L A cap p (a := a) (b := b) S
  have splitW := fun a b p w (S : SomeRow enc k w0 blk off d0.size w) => any_partition L A cap p (a := a) (b := b) S
  have cmpW : ∀ (w : World) (d : Array α), d.size = d0.size → SWK enc k w0 blk off d w → ∀ x y n os, Calls P g (#[.agg (enc x).toArray, .agg (enc y).toArray] ++ cb) (grow (w.drewN n) os) fun e w' => e = .returned (.int .i64 (cf x y)) ∧ ∃ q os', w' = grow ((grow (w.drewN n) os).drewN q) os' :=
    fun w d hd S x y n os => S.cmp A.cmp hd x y n os
  have row := A.row
  clear A
  intro N
  induction N with
  | zero => intro _ _ _ _ h; exact absurd h (Nat.not_lt_zero _)
  | succ N ih =>
    intro a b limit w hN S hab hb hlimit
    generalize hnn : d0.size = n at *
    go_enter body, SlBodyF.n14_ntmps ρ
    go_wp2
    go_loopg [1, 2, 3, 10, 11] (b - a) (fun m s1 s2 s3 s10 s11 wr => ∃ (x y l : Nat) (wb wp : Bool), s1 = .int .i64 x ∧ s2 = .int .i64 y ∧ s3 = .int .i64 l ∧ s10 = .bool wb ∧ s11 = .bool wp ∧
      x ≤ y ∧ y ≤ n ∧ y - x ≤ m ∧ m ≤ b - a ∧ l ≤ limit ∧ SomeRow enc k w0 blk off n wr)
    case atStart => exact ⟨a, b, limit, true, true, rfl, rfl, rfl, rfl, rfl, hab, hb, Nat.le_refl _, Nat.le_refl _, Nat.le_refl _, S⟩
    case round =>
      obtain ⟨x, y, l, wb, wp, rfl, rfl, rfl, rfl, rfl, hxy, hy, hm, hmN, hl, S1⟩ := hrel
      clear S
      by_cases h12 : (y : Int) - (x : Int) ≤ 12
      · have hc := insW x y wr S1 hxy hy
        go_wp2_with (go_at_fn (ρ.f 20); refine hc.mono ?_; rintro e w1 ⟨rfl, hw1⟩)
        (try simp only [Exit.inBlock, Exit.then]); refine bodyPost_ret (results_none rfl _ _ _) rfl ?_
        exact ⟨rfl, hw1⟩
      · by_cases hl0 : (l : Int) = 0
        · have hc := heapW x y wr S1 hxy hy
          go_wp2_with (go_at_fn (ρ.f 21); refine hc.mono ?_; rintro e w1 ⟨rfl, hw1⟩)
          (try simp only [Exit.inBlock, Exit.then]); refine bodyPost_ret (results_none rfl _ _ _) rfl ?_
          exact ⟨rfl, hw1⟩
        · go_upto_if 39 with fail
          go_cut [3] from 21 (fun s3 wc => (∃ l' : Nat, s3 = .int .i64 l' ∧ l' ≤ l) ∧ SomeRow enc k w0 blk off n wc)
          case first =>
            cases wb
            · have hc := breakW x y wr S1 hxy hy
              go_wp2_with (go_at_fn (ρ.f 22); refine hc.mono ?_; rintro e w1 ⟨rfl, hw1⟩)
              go_meet
              case rel => exact ⟨⟨l - 1, by congr 1; omega, by omega⟩, hw1⟩
            · go_wp2_with fail
              go_meet
              case rel => exact ⟨⟨l, rfl, Nat.le_refl _⟩, S1⟩
          case rest =>
            obtain ⟨⟨l', rfl, hl'⟩, S2⟩ := hcut
            clear S1
            have hc := pivotW x y wc S2 (by omega) hy
            go_upto_if 56 with (go_at_fn (ρ.f 23); refine hc.mono ?_; rintro e w2 ⟨p, h, rfl, hp1, hp2, S3⟩)
            clear hc S2
            go_cut [13, 14] from 21 (fun s13 s14 wc => (∃ p' h' : Nat, s13 = .int .i64 p' ∧ s14 = .int .i64 h' ∧ x ≤ p' ∧ p' < y) ∧ SomeRow enc k w0 blk off n wc)
            case first =>
              by_cases hh : (h : Int) = 2
              · have hc := revW x y w2 S3 hxy hy
                go_wp2_with (go_at_fn (ρ.f 24); refine hc.mono ?_; rintro e w3 ⟨rfl, hw3⟩)
                go_meet
                case rel => exact ⟨⟨y - 1 - (p - x), 1, by congr 1; omega, rfl, by omega, by omega⟩, hw3⟩
              · go_wp2_with fail
                go_meet
                case rel => exact ⟨⟨p, h, rfl, rfl, hp1, hp2⟩, S3⟩
            case rest =>
              obtain ⟨⟨p', h', rfl, rfl, hp1', hp2'⟩, S4⟩ := hcut
              clear S3 hp1 hp2
              go_upto_region 15 with fail
              go_cut [14, 75] from 21 (fun _ s75 wx => (∃ q : Bool, s75 = .bool q) ∧ wx = wc)
              case first =>
                cases wb <;> cases wp <;> by_cases h1 : (h' : Int) = 1 <;>
                  (go_wp2_with fail
                   go_meet
                   exact ⟨⟨_, rfl⟩, rfl⟩)
              case rest =>
                obtain ⟨⟨q, rfl⟩, rfl⟩ := hcut
                go_upto_if 75 with fail
                go_cut [] from 21 (fun wx => SomeRow enc k w0 blk off n wx)
                case first =>
                  cases q
                  · go_wp2_with fail
                    go_meet
                    case rel => exact S4
                  · have hc := partW x y wc S4 (by omega) hy
                    go_wp2_with (go_at_fn (ρ.f 25); refine hc.mono ?_; rintro e w4 ⟨q', rfl, hw4⟩)
                    all_goals first
                      | (go_meet
                         exact hw4)
                      | ((try simp only [Exit.inBlock, Exit.then]); refine bodyPost_ret (results_none rfl _ _ _) rfl ?_
                         exact ⟨rfl, hw4⟩)
                case rest =>
                  have S5 := hcut
                  clear S4
                  go_upto_region 17 with fail
                  go_cut [97] from 21 (fun s97 wx => (∃ q : Bool, s97 = .bool q) ∧ SomeRow enc k w0 blk off n wx)
                  case first =>
                    by_cases hx0 : x = 0
                    · subst hx0
                      go_wp2_with fail
                      go_big_region_o
                      go_wp2_with fail
                      go_meet
                      exact ⟨⟨_, rfl⟩, S5.drew⟩
                    · obtain ⟨d, hd, S6⟩ := S5
                      obtain ⟨u, rfl⟩ : ∃ u, x = u + 1 := ⟨x - 1, by omega⟩
                      have zu : ((u + 1 : Nat) : Int) - 1 = (u : Int) := by omega
                      have gu : ((u + 1 : Nat) : Int) > 0 := by omega
                      have eu : ((u : Int)).toNat = u := by omega
                      have bu : (u : Int) < (n : Int) := by omega
                      have pu : (0 : Int) ≤ (u : Int) := by omega
                      have wu : IntKind.i64.wrap (u : Int) = (u : Int) := by rw [IntKind.wrap_i64]; omega
                      have ep : ((p' : Int)).toNat = p' := by omega
                      have bp : (p' : Int) < (n : Int) := by omega
                      have pp : (0 : Int) ≤ (p' : Int) := by omega
                      have wp' : IntKind.i64.wrap (p' : Int) = (p' : Int) := by rw [IntKind.wrap_i64]; omega
                      have lu := S6.ld row (by omega) P u (by omega)
                      have lp := S6.ld row (by omega) P p' (by omega)
                      have hc := cmpW wc d (by omega) S6 d[u]! d[p']!
                      go_wp2_with fail
                      go_quiet_grown (first | (go_at_fn g; refine Calls.grown_of (hc _ _)))
                      simp only [show (u : Int) + 1 = ((u + 1 : Nat) : Int) from rfl]
                      go_wp2_with fail
                      go_meet
                      exact ⟨⟨_, rfl⟩, d, hd, S6.grown nq osq⟩
                  case rest =>
                    obtain ⟨⟨q, rfl⟩, S6⟩ := hcut
                    clear S5
                    cases q
                    · have hc := splitW x y p' wc S6 hp1' hp2' hy
                      go_upto_if 125 with (go_at_fn (ρ.f 27); refine hc.mono ?_; rintro e w7 ⟨m, q', rfl, hm1, hm2, S7⟩)
                      clear hc S6
                      by_cases h4 : (m : Int) - (x : Int) < (y : Int) - (m : Int)
                      · have hc := ih x m l' w7 (by omega) S7 hm1 (by omega) (by omega)
                        go_wp2_with (go_at_fn (ρ.f 14); refine hc.mono ?_; rintro e w8 ⟨rfl, S8⟩)
                        go_roundg (y - (m + 1))
                        case measure => omega
                        case rel => exact ⟨m + 1, y, l', _, q', rfl, rfl, rfl, rfl, rfl, by omega, hy, Nat.le_refl _, by omega, by omega, S8⟩
                      · have hc := ih (m + 1) y l' w7 (by omega) S7 (by omega) hy (by omega)
                        rw [show ((m + 1 : Nat) : Int) = (m : Int) + 1 from rfl] at hc
                        go_wp2_with (go_at_fn (ρ.f 14); refine hc.mono ?_; rintro e w8 ⟨rfl, S8⟩)
                        go_roundg (m - x)
                        case measure => omega
                        case rel => exact ⟨x, m, l', _, q', rfl, rfl, rfl, rfl, rfl, hm1, by omega, Nat.le_refl _, by omega, by omega, S8⟩
                    · have hc := eqW x y p' wc S6 hp1' hp2' hy
                      go_wp2_with (go_at_fn (ρ.f 26); refine hc.mono ?_; rintro e w7 ⟨m, rfl, hm1, hm2, S7⟩)
                      go_roundg (y - m)
                      case measure => omega
                      case rel => exact ⟨m, y, l', wb, wp, rfl, rfl, rfl, rfl, rfl, hm2, hy, Nat.le_refl _, by omega, by omega, S7⟩
end Go.Gb

/- slices.SortFunc with any comparison that answers. -/
namespace Go.Gb
open Go.Proofs Go.RowKit Go.Lib Go.Sort Go.Shelf
variable {P : Program} {ρ : Ren} {α : Type} [Inhabited α]

set_option maxHeartbeats 2000000 in
set_option maxRecDepth 100000 in
theorem any_SortFunc (L : SlLaysF0.n6 P ρ) (k : Nat) (aE : ∀ w, (isAgg (ρ.t 24)).run P w = .ok true w) (zE : ∀ w, (Go.sizeOf (ρ.t 24)).run P w = .ok k w) (enc : α → List Value) (hk : ∀ x, (enc x).length = k) (h1 : ∀ x, ∀ v ∈ enc x, v.oneCell' = true)
    (cf : α → α → Int) (g : Nat) (cb : Array Value) (blk off cap : Nat) (d : Array α) (w : World)
    (eg : ∀ args w, (callFunc g args).run P w = .ok (.enter g args) w) (hcmp : CmpLays P g cb enc k cf blk off d.size w) (hH : HoldsK enc k w blk off d) (hblk : blk < w.heap.size) (hsz : d.size < 4611686018427387904) :
    Calls P (ρ.f 6) #[.slice (some ⟨blk, off, none⟩) d.size cap, .func (.func g) #[] cb] w fun e w' =>
      e = .returned (.tuple #[]) ∧ ∃ d' : Array α, d'.size = d.size ∧ ∃ n os, w' = sortWorldK enc k w blk off n d' os := by
  have mixed := L.mixed; have t0 := L.t0; have a0 := L.a0; have z0 := L.z0; have v0 := L.v0; have t3 := L.t3; have a3 := L.a3; have z3 := L.z3; have v3 := L.v3; have t4 := L.t4; have a4 := L.a4; have z4 := L.z4; have v4 := L.v4; have t5 := L.t5; have a5 := L.a5; have z5 := L.z5; have v5 := L.v5; have t9 := L.t9; have a9 := L.a9; have z9 := L.z9; have v9 := L.v9; have t22 := L.t22; have a22 := L.a22; have z22 := L.z22; have v22 := L.v22; have t25 := L.t25; have a25 := L.a25; have z25 := L.z25; have v25 := L.v25; have t45 := L.t45; have a45 := L.a45; have z45 := L.z45; have v45 := L.v45; have t46 := L.t46; have a46 := L.a46; have z46 := L.z46; have v46 := L.v46; have t39 := L.t39; have a39 := L.a39; have z39 := L.z39; have v39 := L.v39
  have e14 : ∀ args w, (callFunc (ρ.f 14) args).run P w = .ok (.enter (ρ.f 14) args) w := L.f14.enters rfl
  have e15 : ∀ args w, (callFunc (ρ.f 15) args).run P w = .ok (.enter (ρ.f 15) args) w := enters_of L.f15 (by kernel_rfl) rfl
  have hlim : Lib.bitLen d.size < 4611686018427387904 := Nat.lt_of_le_of_lt (Lib.bitLen_le d.size 62 (by omega) (by omega)) (by omega)
  have sorts := any_pdq (P := P) (ρ := ρ) { L with } (cf := cf) ⟨aE, zE, eg, hcmp, ⟨hk, h1, hH, hblk⟩, hsz⟩ cap (d.size + 1) 0 d.size (Lib.bitLen d.size) w (by omega) ⟨d, rfl, SWK.start hH⟩ (Nat.zero_le _) (Nat.le_refl _) hlim
  have len : Calls P (ρ.f 15) #[.int .u64 (d.size : Int)] w fun e w' => e = .returned (.int .i64 (Lib.bitLen d.size : Nat)) ∧ w' = w := by
    have h := Any.bits_Len (SlLaysF0.n15.bits (P := P) (ρ := ρ) { L with }) (d.size : Int) w (by omega) (by omega)
    rwa [Int.toNat_natCast] at h
  have wr : IntKind.u64.wrap (d.size : Int) = d.size := by simp [IntKind.wrap, IntKind.bits, IntKind.signed]; omega
  clear hH hcmp hk h1
  obtain ⟨_, _, body⟩ := L.f6
  go_enter body, SlBodyF.n6_ntmps ρ
  go_wp2_with (first | (go_at_fn (ρ.f 15); refine len.mono ?_; rintro e w' ⟨rfl, rfl⟩) | (go_at_fn (ρ.f 14); refine sorts.mono ?_; rintro e w' ⟨rfl, d', hd', n, os, rfl⟩))
  go_end0
  exact ⟨rfl, d', hd', n, os, rfl⟩
end Go.Gb

/- Own slices that are turned in place: some list of the same length. -/
namespace Go.Gb
open Go.Proofs Go.RowKit Go.Lib Go.Sort Go.Shelf
/-- An own slice, turned in place into some list of the same length. -/
theorem sort_rel {P : Program} {α : Type} [Inhabited α] [Enc α] [FlatE α] {f : FuncId} {FV : Value} {R : Array α → Prop} {e : TypeId} {xs : List α} {v0 : Value} {k0 : K} (hR : ∀ d, R d → d.size = xs.length) (hR0 : xs = [] → R #[])
    (hnone : ∀ p cap w, Calls P f #[.slice p 0 cap, FV] w fun e w' => e = .returned (.tuple #[]) ∧ w' = w)
    (hc : ∀ blk off cap (w : World), HoldsK FlatE.enc (Enc.sz α) w blk off xs.toArray → blk < w.heap.size →
      Calls P f #[.slice (some ⟨blk, off, none⟩) xs.toArray.size cap, FV] w fun e w' => e = .returned (.tuple #[]) ∧ ∃ d, R d ∧ ∃ n os, w' = sortWorldK FlatE.enc (Enc.sz α) w blk off n d os)
    (i0 : IsOwn 0 e xs v0 k0) : Calls P f #[v0, FV] k0.w (RetC (obF v0) k0 fun _ k' => ∃ d, R d ∧ IsOwn 0 e d.toList v0 k') := by
  have hz : ∀ p cap, v0 = .slice p 0 cap → xs = [] → Calls P f #[v0, FV] k0.w (RetC (obF v0) k0 fun _ k' => ∃ d, R d ∧ IsOwn 0 e d.toList v0 k') := by
    intro p cap hv hx
    subst hv
    refine (hnone p cap k0.w).mono ?_
    rintro e' w' ⟨rfl, rfl⟩
    refine ⟨k0, rfl, Chg.refl _ k0, _, hR0 hx, ?_⟩
    rw [hx] at i0
    exact i0
  rcases i0 with ⟨hv, hx⟩ | ⟨a, hv, hx⟩ | ⟨b, off, cap, cur, cs, rfl, hB, ho, hh, hc1, hc0, hcm, hfit, hcs, hrep⟩
  · exact hz _ _ hv hx
  · exact hz _ _ hv hx
  · have hlt : b < k0.w.heap.size := (Array.getElem?_eq_some_iff.1 hh).1
    have hn := flat_len (α := α) k0
    have hroom : off + xs.length * Enc.sz α ≤ cur.size := Nat.le_trans (Nat.add_le_add_left (Nat.mul_le_mul_right _ hc1) _) hfit
    have hcl : cs = (flatK FlatE.enc (Enc.sz α) xs.toArray).toList := by rw [flatK_toList hn]; exact repL_flat.1 hrep
    have hH : HoldsK FlatE.enc (Enc.sz α) k0.w b off xs.toArray := by
      intro j hj
      rw [size_flatK] at hj
      simp only [List.size_toArray] at hj
      refine ⟨?_, by simp [World.frozen?, hh]⟩
      have h1 : cs[j]? = cur[off + j]? := by rw [← hcs, List.getElem?_take, if_pos hj, List.getElem?_drop, Array.getElem?_toList]
      rw [hcl, Array.getElem?_toList] at h1
      simp only [World.cell?, hh, ← h1]
      rw [getElem!_pos _ j (by simpa using hj), Array.getElem?_eq_getElem (by simpa using hj)]
      rfl
    have hcall := hc b off cap k0.w hH hlt
    rw [show xs.toArray.size = xs.length from List.size_toArray] at hcall
    refine hcall.mono ?_
    rintro e' w' ⟨rfl, d, hd, n, os, hw⟩
    have hds := hR d hd
    have hsz : k0.w.heap.size ≤ w'.heap.size := by rw [hw]; unfold sortWorldK putRowK; simp
    have hblk : ∀ x, x < k0.w.heap.size → x ≠ b → w'.heap[x]? = k0.w.heap[x]? := by
      intro x hx hxb
      rw [hw]
      unfold sortWorldK putRowK putRow mapBlock
      rw [heap_grow_old _ _ (by simpa using hx)]
      simp [Array.getElem?_modify, hxb.symm]
    have hrow : w'.heap[b]? = some (.cells (putCells id off (flatK FlatE.enc (Enc.sz α) d) cur) e (0, 0)) := by
      rw [hw]
      unfold sortWorldK putRowK putRow mapBlock
      rw [heap_grow_old _ _ (by simpa using hlt)]
      simp [Array.getElem?_modify, hh, onCells]
    have hSl : d.toList.length = xs.length := by simp [hds]
    let k' : K := ⟨w', k0.sh, fun x hx => Nat.lt_of_lt_of_le (k0.lt x hx) hsz⟩
    refine ⟨k', rfl, ⟨by rw [show k'.w = w' from rfl, hw]; rfl, by rw [show k'.w = w' from rfl, hw]; rfl, by rw [show k'.w = w' from rfl, hw]; rfl, hsz, fun x hx hF => hblk x hx fun e' => hF (by simp [obF, ob, e', Nat.ne_of_gt hc0]), fun _ h => h, fun _ _ h => .inl h, by rw [show k'.w = w' from rfl, hw]; exact Nat.le_add_right _ _⟩,
      d, hd, .inr (.inr ⟨b, off, cap, _, _, by rw [hSl], hB, ho, hrow, by rw [hSl]; exact hc1, hc0, hcm, by simpa [putCells] using hfit, rfl, ?_⟩)⟩
    rw [repL_flat, ← flatK_toList hn, hSl]
    have hsz2 : (flatK FlatE.enc (Enc.sz α) d).size = xs.length * Enc.sz α := by rw [size_flatK, hds]
    rw [← hsz2]
    exact putCells_toList off _ cur (by rw [hsz2]; exact hroom)


theorem flatK_map {α β : Type} [Inhabited α] [Inhabited β] {enc : α → List Value} {n : Nat} (hn : ∀ x, (enc x).length = n) (f : β → α) (d : Array β) : flatK enc n (d.map f) = flatK (fun x => enc (f x)) n d := by
  apply Array.toList_inj.1
  rw [flatK_toList hn, flatK_toList fun x => hn (f x), Array.toList_map, List.map_map]
  rfl
theorem holdsK_map {α β : Type} [Inhabited α] [Inhabited β] {enc : α → List Value} {n : Nat} (hn : ∀ x, (enc x).length = n) (f : β → α) (d : Array β) {w : World} {blk off : Nat} : HoldsK enc n w blk off (d.map f) ↔ HoldsK (fun x => enc (f x)) n w blk off d := by
  unfold HoldsK; rw [flatK_map hn]
theorem sortWorldK_map {α β : Type} [Inhabited α] [Inhabited β] {enc : α → List Value} {k : Nat} (hn : ∀ x, (enc x).length = k) (f : β → α) (d : Array β) (w : World) (blk off n : Nat) (os : Array Obj) : sortWorldK enc k w blk off n (d.map f) os = sortWorldK (fun x => enc (f x)) k w blk off n d os := by
  unfold sortWorldK putRowK; rw [flatK_map hn]
end Go.Gb

/- General part of the proofs: an evaluator of the code of functions over typed values (no program in sight). -/
namespace Go.Gb

/-- The types of the values that the evaluator knows. -/
inductive Tp where
  | int | bool | str
  | ik (κ : IntKind)
  | list (t : Tp)
  | st (n : Nat)
  | op
  | rf (t : Tp)
  | f0 (b : Tp)
  | f1 (a b : Tp)
  | f2 (a b c : Tp)

@[reducible] def Tp.den (S : Nat → Type) : Tp → Type
  | int => Int | bool => Bool | str => ByteArray | ik κ => IK κ | list t => List (t.den S) | st n => S n | op => Opq
  | rf t => t.den S | f0 b => Unit → Option (b.den S) | f1 a b => a.den S → Option (b.den S) | f2 a b c => a.den S → b.den S → Option (c.den S)

def IntKind.same : (a b : IntKind) → Option (PLift (a = b))
  | .i8, .i8 => some ⟨rfl⟩ | .i16, .i16 => some ⟨rfl⟩ | .i32, .i32 => some ⟨rfl⟩ | .i64, .i64 => some ⟨rfl⟩
  | .u8, .u8 => some ⟨rfl⟩ | .u16, .u16 => some ⟨rfl⟩ | .u32, .u32 => some ⟨rfl⟩ | .u64, .u64 => some ⟨rfl⟩
  | _, _ => none

def natSame (a b : Nat) : Option (PLift (a = b)) := if h : a = b then some ⟨h⟩ else none

def Tp.same : (a b : Tp) → Option (PLift (a = b))
  | int, int => some ⟨rfl⟩
  | bool, bool => some ⟨rfl⟩
  | str, str => some ⟨rfl⟩
  | ik a, ik b => (IntKind.same a b).map fun h => ⟨congrArg ik h.down⟩
  | list a, list b => (Tp.same a b).map fun h => ⟨congrArg list h.down⟩
  | st a, st b => (natSame a b).map fun h => ⟨congrArg st h.down⟩
  | op, op => some ⟨rfl⟩
  | rf a, rf b => (Tp.same a b).map fun h => ⟨congrArg rf h.down⟩
  | f0 a, f0 b => (Tp.same a b).map fun h => ⟨congrArg f0 h.down⟩
  | f1 a b, f1 a' b' => match Tp.same a a', Tp.same b b' with
    | some h, some i => some ⟨by rw [h.down, i.down]⟩
    | _, _ => none
  | f2 a b c, f2 a' b' c' => match Tp.same a a', Tp.same b b', Tp.same c c' with
    | some h, some i, some j => some ⟨by rw [h.down, i.down, j.down]⟩
    | _, _, _ => none
  | _, _ => none

/-- Some values, one after the other. -/
@[reducible] def HL (S : Nat → Type) : List Tp → Type
  | [] => Unit
  | [a] => a.den S
  | a :: b :: l => a.den S × HL S (b :: l)

section
variable {S : Nat → Type}
@[reducible] def encT (P : Program) (E : ∀ n, Enc (S n)) : (t : Tp) → Enc (t.den S)
  | .int => inferInstanceAs (Enc Int)
  | .bool => inferInstanceAs (Enc Bool)
  | .str => inferInstanceAs (Enc ByteArray)
  | .ik κ => inferInstanceAs (Enc (IK κ))
  | .list t => letI := encT P E t; inferInstanceAs (Enc (List (t.den S)))
  | .st n => E n
  | .op => inferInstanceAs (Enc Opq)
  | .rf t => @rfEnc (t.den S) (encT P E t)
  | .f0 b => @f0Enc P (b.den S) (encT P E b)
  | .f1 a b => @f1Enc P (a.den S) (b.den S) (encT P E a) (encT P E b)
  | .f2 a b c => @f2Enc P (a.den S) (b.den S) (c.den S) (encT P E a) (encT P E b) (encT P E c)
instance : Enc Unit where
  sz := 0
  agg := true
  rep _ cs _ := cs = []
  len h := by simp [h]
  mono _ h := h
  one h := by subst h; simp
  agg1 h := by simp at h
@[reducible] def encH (P : Program) (E : ∀ n, Enc (S n)) : (l : List Tp) → Enc (HL S l)
  | [] => inferInstanceAs (Enc Unit)
  | [a] => encT P E a
  | a :: b :: l => letI := encT P E a; letI := encH P E (b :: l); inferInstanceAs (Enc (a.den S × HL S (b :: l)))
end

def dfltT {S : Nat → Type} (z : ∀ n, S n) : (t : Tp) → t.den S
  | .int => (0 : Int) | .bool => false | .str => (⟨#[]⟩ : ByteArray) | .ik _ => ⟨0⟩ | .list _ => [] | .st n => z n | .op => (⟨⟩ : Opq)
  | .rf t => dfltT z t | .f0 _ => fun _ => none | .f1 _ _ => fun _ => none | .f2 _ _ _ => fun _ _ => none
def dfltH {S : Nat → Type} (z : ∀ n, S n) : (l : List Tp) → HL S l
  | [] => ()
  | [a] => dfltT z a
  | a :: b :: l => (dfltT z a, dfltH z (b :: l))
/-- The structs of a program. -/
structure Tb where
  P : Program
  S : Nat → Type
  fs : Nat → List Tp
  to : ∀ n, S n → HL S (fs n)
  of : ∀ n, HL S (fs n) → S n
  zero : ∀ n, S n
  deq : ∀ n, DecidableEq (S n)
  enc : ∀ n, Enc (S n)
  to_of : ∀ n y, to n (of n y) = y
  zero_eq : ∀ n, to n (zero n) = dfltH zero (fs n)
  enc_eq : ∀ n, enc n = (letI := encH P enc (fs n); Enc.ofMap (to n))
  /-- kinds of things that are a call's own, of any shape -/
  RD : Nat → Type := fun _ => Unit
  RP : ∀ n, RD n → FP → Pred := fun _ _ _ _ _ => False
  RPok : ∀ n x, Rsc (RP n x) := by exact fun _ _ => ⟨fun h => h.elim, fun h => h.elim, fun h => h.elim, fun h => h.elim⟩
  RPone : ∀ n x y F G v k, RP n x F v k → RP n y G v k → F = G := by exact fun _ _ _ _ _ _ _ h => h.elim
  RZ : ∀ n, RD n := by exact fun _ => ()
  RProot : ∀ n x F v k b, RP n x F v k → (v = .pointer (some ⟨b, 0, none⟩) ∨ obF v b) → F b := by exact fun _ _ _ _ _ _ h => h.elim
  /-- is it nil? -/
  RN : ∀ n, RD n → Option Bool := fun _ _ => none
  RNok : ∀ n x F v k b, RP n x F v k → RN n x = some b → ∃ p, v = .pointer p ∧ p.isNone = b := by exact fun _ _ _ _ _ _ h => h.elim
  /-- what the package-level variables hold -/
  gl : Nat → Option (Σ t : Tp, t.den S) := fun _ => none
  /-- a variable of the library that holds some int -/
  gi : Option Nat := none

variable {T : Tb}
abbrev Tb.D (T : Tb) (t : Tp) : Type := t.den T.S
@[reducible] def Tb.e (T : Tb) (t : Tp) : Enc (T.D t) := encT T.P T.enc t
attribute [instance] Tb.e
@[reducible] def Tb.ei (T : Tb) (n : Nat) : Enc (T.S n) := T.enc n
attribute [instance] Tb.ei
@[reducible] def Tb.h (T : Tb) (l : List Tp) : Enc (HL T.S l) := encH T.P T.enc l
attribute [instance] Tb.h

def Tb.dflt (T : Tb) (t : Tp) : T.D t := dfltT T.zero t

/-- A part of a value. -/
structure Lens (T : Tb) (t u : Tp) where
  off : Nat
  get : T.D t → T.D u
  set : T.D t → T.D u → T.D t

/-- Kinds of things that are a call's own. -/
inductive Rk where
  | n | o (e : TypeId) (t : Tp) | b (t : Tp) | c (m : Nat)
@[reducible] def Rk.D (T : Tb) : Rk → Type
  | .n => Unit | .o _ t => List (T.D t) | .b t => T.D t | .c m => T.RD m
/-- What is known of a slot. -/
inductive AV (T : Tb) where
  | top | any | nil
  | v (t : Tp) (x : T.D t)
  | fl (t : Tp) (xs : List (T.D t))
  | e0
  | tup (l : List (Σ t, T.D t))
  | ref (t : Tp) (x : T.D t)
  | own (lk : Bool) (e : TypeId) (t : Tp) (xs : List (T.D t))
  | box (lk : Bool) (t : Tp) (x : T.D t)
  | al (s : Nat)
  | ab (s : Nat) (t : Tp) (x : T.D t) (u : Tp) (L : Lens T t u)
  | ao (s : Nat) (e : TypeId) (t : Tp) (xs : List (T.D t)) (i : Nat) (x : T.D t) (u : Tp) (L : Lens T t u)
  | rs (lk : Bool) (n : Nat) (x : T.RD n)
  | tr (lk : Bool) (κ : Rk) (x : κ.D T) (l : List (Σ t, T.D t))
  | tq (l : List (Σ t, T.D t))
  | mv (f : Nat) (s : Nat)

abbrev Env (T : Tb) := List (Nat × AV T)

def lk : Env T → Nat → AV T
  | [], _ => .top
  | (s, a) :: e, t => bif Nat.beq s t then a else lk e t

def cast? {S : Nat → Type} (a b : Tp) (x : a.den S) : Option (b.den S) :=
  match Tp.same a b with
  | some h => some (h.down ▸ x)
  | none => none

/-- what is known of a slot with this value -/
def mkv : (t : Tp) → T.D t → AV T
  | .rf t, x => .ref t x
  | t, x => .v t x
/-- a slice without room to spare, as a value -/
def nrm : AV T → AV T
  | .fl t xs => .v (.list t) xs
  | a => a
/-- the value of an operand -/
def opv (e : Env T) : Operand → AV T
  | .tmp t => nrm (lk e t)
  | .const (.int .i64 n) => .v .int n
  | .const (.int κ n) => .v (.ik κ) (⟨n⟩ : IK κ)
  | .const (.bool b) => .v .bool b
  | .const (.string s) => .v .str s
  | .const (.slice none 0 0) => .e0
  | .const (.pointer none) => .nil
  | .global g => match T.gl g with | some ⟨t, x⟩ => .ref t x | none => .top
  | _ => .top
def res (e : Env T) : AV T → AV T
  | .al s => lk e s
  | a => a
def slotOf (e : Env T) (s : Nat) : Nat := match lk e s with | .al s' => s' | _ => s
/-- .. for a move: a resource stays where it is -/
def mvv (e : Env T) (x : Operand) : AV T :=
  match x with
  | .tmp t => match lk e t with
    | .own _ _ _ _ => .al t
    | .box _ _ _ => .al t
    | .rs _ _ _ => .al t
    | .tr _ _ _ _ => .al t
    | a => a
  | x => opv e x
def asT (t : Tp) : AV T → Option (T.D t)
  | .v u x => cast? u t x
  | .e0 => match t with | .list _ => some [] | _ => none
  | .ref u x => match t with | .rf t => cast? u t x | _ => none
  | _ => none
/-- a slice without room to spare -/
def asF (e : Env T) : Operand → Option (Σ t, List (T.D t))
  | .tmp t => match lk e t with
    | .fl t xs => some ⟨t, xs⟩
    | _ => none
  | _ => none
def asI : AV T → Option Int
  | .v .int n => some n
  | _ => none
def asB : AV T → Option Bool
  | .v .bool n => some n
  | _ => none
/-- a list that can be read -/
def asL (e : Env T) (a : AV T) : Option (Σ t, List (T.D t)) :=
  match res e a with
  | .v (.list t) xs => some ⟨t, xs⟩
  | .own _ _ t xs => some ⟨t, xs⟩
  | _ => none

def szT (T : Tb) (t : Tp) : Nat := (T.e t).sz
def Lens.id (t : Tp) : Lens T t t := ⟨0, fun x => x, fun _ y => y⟩
/-- a part of a list of parts -/
structure HLens (T : Tb) (l : List Tp) (u : Tp) where
  off : Nat
  get : HL T.S l → T.D u
  set : HL T.S l → T.D u → HL T.S l
def hlens : (l : List Tp) → Nat → Option (Σ u, HLens T l u)
  | [], _ => none
  | [a], 0 => some ⟨a, 0, fun x => x, fun _ y => y⟩
  | [_], _ + 1 => none
  | a :: _ :: _, 0 => some ⟨a, 0, fun x => x.1, fun x y => (y, x.2)⟩
  | a :: b :: l, i + 1 => match hlens (b :: l) i with
    | some ⟨u, L⟩ => some ⟨u, szT T a + L.off, fun x => L.get x.2, fun x y => (x.1, L.set x.2 y)⟩
    | none => none
def flens (n i : Nat) : Option (Σ u, Lens T (.st n) u) :=
  match hlens (T := T) (T.fs n) i with
  | some ⟨u, L⟩ => some ⟨u, L.off, fun x => L.get (T.to n x), fun x y => T.of n (L.set (T.to n x) y)⟩
  | none => none
def Lens.comp {t u w : Tp} (L : Lens T t u) (M : Lens T u w) : Lens T t w :=
  ⟨L.off + M.off, fun x => M.get (L.get x), fun x y => L.set x (M.set (L.get x) y)⟩

/-- the offset of a field, if the program has it so -/
def fldOff (P : Program) (s f : Nat) : Option Nat :=
  match P.underlying s with
  | some (.struct fs) => match fs[f]? with
    | some d => match P.info? d.type with
      | some i => match i.size with
        | 0 => none
        | _ + 1 => some d.offset
      | none => none
    | none => none
  | _ => none
def tyB (P : Program) (T : Tb) (t : TypeId) (u : Tp) : Bool :=
  (match P.underlying t with | some d => aggOf d == (T.e u).agg | none => false) &&
  (match P.info? t with | some i => i.size == (T.e u).sz | none => false)
def elB (P : Program) (T : Tb) (e : TypeId) (u : Tp) : Bool :=
  match P.info? e with
  | some i => (match i.zero with | some z => z.cells.size == szT T u | none => false) && i.size == szT T u && Nat.ble 1 (szT T u) && Nat.ble i.bytes 65536
  | none => false
def slOf (P : Program) (t : TypeId) : Option TypeId :=
  match P.underlying t with | some (.slice e) => some e | _ => none

def joinO : List (Option (List Value)) → Option (List Value)
  | [] => some []
  | a :: l => match a, joinO l with
    | some x, some y => some (x ++ y)
    | _, _ => none
def zc (T : Tb) : Nat → Tp → Option (List Value)
  | 0, _ => none
  | _ + 1, .int => some [.int .i64 0]
  | _ + 1, .bool => some [.bool false]
  | _ + 1, .str => some [.string ⟨#[]⟩]
  | _ + 1, .ik κ => some [.int κ 0]
  | _ + 1, .list _ => some [.slice none 0 0]
  | _ + 1, .op => some [.slice none 0 0]
  | _ + 1, .rf _ => none
  | _ + 1, .f0 _ => none
  | _ + 1, .f1 _ _ => none
  | _ + 1, .f2 _ _ _ => none
  | f + 1, .st n => joinO ((T.fs n).map (zc T f))
def vEq : Value → Value → Bool
  | .int κ n, .int κ' n' => κ == κ' && n == n'
  | .bool a, .bool b => a == b
  | .string a, .string b => a.data.size == 0 && b.data.size == 0
  | .slice none 0 0, .slice none 0 0 => true
  | _, _ => false
def vsEq : List Value → List Value → Bool
  | [], [] => true
  | a :: l, b :: m => vEq a b && vsEq l m
  | _, _ => false
def zeroB (P : Program) (T : Tb) (ty : TypeId) (t : Tp) : Bool :=
  match P.info? ty with
  | some i => match i.zero, zc T 9 t with
    | some z, some cs => (match z with | .agg a => (T.e t).agg && vsEq a.toList cs | z => !(T.e t).agg && vsEq [z] cs)
    | _, _ => false
  | none => false
/-- A function, as it is known to those that call it. -/
structure FnE (T : Tb) where
  dom : List Tp
  cod : List Tp
  run : HL T.S dom → Option (HL T.S cod)
def args : (l : List Tp) → List (AV T) → Option (HL T.S l)
  | [], [] => some ()
  | [a], [x] => asT a x
  | a :: b :: l, x :: xs => match asT a x, args (b :: l) xs with
    | some y, some ys => some (y, ys)
    | _, _ => none
  | _, _ => none
def unH : (l : List Tp) → HL T.S l → List (Σ t, T.D t)
  | [], _ => []
  | [a], x => [⟨a, x⟩]
  | a :: b :: l, x => ⟨a, x.1⟩ :: unH (b :: l) x.2
def resV (l : List Tp) (x : HL T.S l) : AV T :=
  match l, x with
  | [], _ => .any
  | [a], x => mkv a x
  | a :: b :: l, x => .tup (unH (a :: b :: l) x)
/-- Parameters: values, and what is turned, or taken over. -/
inductive Pm where
  | v (t : Tp) | tu | tk | fn (g : Nat)
def valsP : List Pm → List Tp
  | [] => []
  | .v t :: l => t :: valsP l
  | _ :: l => valsP l
def hdH {S : Nat → Type} : {t : Tp} → {l : List Tp} → HL S (t :: l) → t.den S
  | _, [], x => x
  | _, _ :: _, x => x.1
def tlH {S : Nat → Type} : {t : Tp} → {l : List Tp} → HL S (t :: l) → HL S l
  | _, [], _ => ()
  | _, _ :: _, x => x.2
def consH {S : Nat → Type} : {t : Tp} → {l : List Tp} → t.den S → HL S l → HL S (t :: l)
  | _, [], x, _ => x
  | _, _ :: _, x, y => (x, y)
/-- A function that turns, takes over or makes things that are a call's own. -/
structure FnR (T : Tb) where
  pm : List Pm
  tu : Rk
  tk : Rk
  ro : Rk
  cod : List Tp
  ρ : Type
  inj : ρ → tu.D T × ro.D T × HL T.S cod
  run : HL T.S (valsP pm) → tu.D T → tk.D T → Option ρ
def Rk.av : (κ : Rk) → κ.D T → AV T
  | .n, _ => .any
  | .o e t, xs => .own false e t xs
  | .b t, x => .box false t x
  | .c m, x => .rs false m x
def isN : Rk → Bool
  | .n => true
  | _ => false
/-- what is known of the results of such a function -/
def resR (ro : Rk) (cod : List Tp) (w : ro.D T) (r : HL T.S cod) : AV T :=
  bif isN ro then resV cod r else match cod, r with
    | [], _ => ro.av w
    | c :: l, r => .tr false ro w (unH (c :: l) r)
abbrev Deps (T : Tb) := List (FuncId × FnE T)
abbrev RDeps (T : Tb) := List (FuncId × FnR T)
def rdep : RDeps T → FuncId → Option (FnR T)
  | [], _ => none
  | (g, d) :: l, f => bif Nat.beq g f then some d else rdep l f
def dep : Deps T → FuncId → Option (FnE T)
  | [], _ => none
  | (g, d) :: l, f => bif Nat.beq g f then some d else dep l f

section
variable {R : Type}
def binII (wr : Bool) (op : BinOp) (n m : Int) (k : AV T → Option R) : Option R :=
  match op with
  | .add => (bif wr then addW n m else addI n m).bind fun r => k (.v .int r)
  | .sub => (bif wr then subW n m else subI n m).bind fun r => k (.v .int r)
  | .mul => (mulI n m).bind fun r => k (.v .int r)
  | .quo => (quoI n m).bind fun r => k (.v .int r)
  | .rem => (remI n m).bind fun r => k (.v .int r)
  | .lss => k (.v .bool (decide (n < m)))
  | .leq => k (.v .bool (decide (n ≤ m)))
  | .gtr => k (.v .bool (decide (m < n)))
  | .geq => k (.v .bool (decide (m ≤ n)))
  | .eql => k (.v .bool (n == m))
  | .neq => k (.v .bool (n != m))
  | .and => k (.v .int (andI n m))
  | .andNot => k (.v .int (andnI n m))
  | .or => k (.v .int (orI n m))
  | _ => none
def isSh (op : BinOp) : Bool := match op with | .shl => true | .shr => true | _ => false
def shAmt : AV T → Option Int
  | .v .int n => some n
  | .v (.ik _) q => some q.n
  | _ => none
def shiftV (op : BinOp) (x : AV T) (m : Int) (k : AV T → Option R) : Option R :=
  match x with
  | .v .int n => match op with
    | .shl => (shlI n m).bind fun r => k (.v .int r)
    | .shr => (shrI n m).bind fun r => k (.v .int r)
    | _ => none
  | .v (.ik a) p => bif decide (0 ≤ m) && Nat.ble m.toNat a.bits then (match op with
    | .shr => k (.v (.ik a) (p.shr m))
    | .shl => k (.v (.ik a) (p.shl m))
    | _ => none) else none
  | _ => none
def binV (wr : Bool) (op : BinOp) (isB : Bool) (eqn : Nat → Bool) (x y : AV T) (k : AV T → Option R) : Option R :=
  match x, y with
  | .v .int n, .v .int m => binII wr op n m k
  | .v .bool n, .v .bool m => bif isB then (match op with
    | .eql => k (.v .bool (n == m))
    | .neq => k (.v .bool (n != m))
    | _ => none) else none
  | .v .str n, .v .str m => match op with
    | .eql => k (.v .bool (n.toList == m.toList))
    | .neq => k (.v .bool (!(n.toList == m.toList)))
    | .geq => k (.v .bool (!(Op.bytesLess n.toList m.toList)))
    | _ => none
  | .v (.st n) p, .v (.st m) q => match natSame m n with
    | some h => letI := T.deq n; bif eqn n then (match op with
      | .eql => k (.v .bool (decide (p = h.down ▸ q)))
      | .neq => k (.v .bool (!decide (p = h.down ▸ q)))
      | _ => none) else none
    | none => none
  | .v (.ik a) p, .v (.ik b) q => match IntKind.same b a with
    | some h => match op with
      | .add => k (.v (.ik a) (p.add (h.down ▸ q)))
      | .sub => k (.v (.ik a) (p.sub (h.down ▸ q)))
      | .mul => k (.v (.ik a) (p.mul (h.down ▸ q)))
      | .and => k (.v (.ik a) (p.and (h.down ▸ q)))
      | _ => none
    | none => none
  | _, _ => none
def wrI (κ : IntKind) (n : Int) : AV T := match κ with
  | .i64 => .v .int (IntKind.i64.wrap n)
  | κ => .v (.ik κ) ⟨κ.wrap n⟩
def extF (f off : Nat) (u : Tp) (g : (w : Tp) → Lens T u w → AV T) : Option (AV T) :=
  match u, g with
  | .st n, g => match flens (T := T) n f with
    | some ⟨w, L⟩ => bif Nat.beq L.off off then some (g w L) else none
    | none => none
  | _, _ => none
def fieldO (f off : Nat) (a : AV T) (own : Nat → AV T) : Option (AV T) :=
  match a with
  | .ref t x => extF f off t fun w L => .ref w (L.get x)
  | .al s => match own s with
    | .box _ t x => extF f off t fun w L => .ab s t x w L
    | _ => none
  | .ab s t x u M => extF f off u fun w L => .ab s t x w (M.comp L)
  | .ao s e t xs i x u M => extF f off u fun w L => .ao s e t xs i x w (M.comp L)
  | _ => none
def fieldV (P : Program) (s f : Nat) (a : AV T) (own : Nat → AV T) (k : AV T → Option R) : Option R :=
  match fldOff P s f with
  | none => none
  | some off => match fieldO f off a own with
    | some r => k r
    | none => none
def loadV (P : Program) (T : Tb) (ty : TypeId) (a : AV T) (own : Nat → AV T) : Option (AV T) :=
  let g := fun (u : Tp) (x : T.D u) => bif tyB P T ty u then some (mkv u x) else none
  match a with
  | .ref t x => g t x
  | .al s => match own s with | .box _ t x => g t x | _ => none
  | .ab _ _ x u L => g u (L.get x)
  | .ao _ _ _ _ _ x u L => g u (L.get x)
  | _ => none
/-- the values of the parts of a slice -/
def partsL (t : Tp) (e : Env T) : Nat → List (Nat × Operand) → Option (List (T.D t))
  | _, [] => some []
  | i, (j, x) :: l => bif Nat.beq i j then (match asT t (opv e x), partsL t e (i + 1) l with
    | some y, some ys => some (y :: ys)
    | _, _ => none) else none
/-- offset and size of a field -/
def fldPl (P : Program) (s f : Nat) : Option (Nat × Nat) :=
  match P.underlying s with
  | some (.struct fs) => match fs[f]? with
    | some d => match P.info? d.type with
      | some i => some (d.offset, i.size)
      | none => none
    | none => none
  | _ => none
def allFld (P : Program) (s : Nat) : Bool :=
  match P.underlying s with
  | some (.struct fs) => fs.toList.all fun f => (P.info? f.type).isSome
  | _ => false
def buildF (P : Program) (ty n : Nat) (e : Env T) : List (Nat × Operand) → T.S n → Option (T.S n)
  | [], x => some x
  | (j, y) :: l, x => match flens (T := T) n j, fldPl P ty j with
    | some ⟨u, L⟩, some (off, sz) => match asT u (opv e y) with
      | some z => bif Nat.beq off L.off && Nat.beq sz (szT T u) then buildF P ty n e l (L.set x z) else none
      | none => none
    | _, _ => none

/-- offset and size of a part -/
def plc (P : Program) (ty j : Nat) : Option (Nat × Nat) :=
  match P.underlying ty with
  | some (.struct _) => fldPl P ty j
  | some (.array _ el) => match P.info? el with
    | some i => some (j * i.size, i.size)
    | none => none
  | _ => none
def allPl (P : Program) (ty : Nat) : Bool :=
  match P.underlying ty with
  | some (.struct _) => allFld P ty
  | some (.array _ el) => (P.info? el).isSome
  | _ => false
/-- all parts, one after the other -/
def buildAll (P : Program) (ty : Nat) (ov : Operand → AV T) : (l : List Tp) → (i off : Nat) → List (Nat × Operand) → Option (HL T.S l)
  | [], _, _, [] => some ()
  | [a], i, off, [(j, y)] => match plc P ty i with
    | some (o, s) => bif Nat.beq j i && (Nat.beq o off && Nat.beq s (szT T a)) then asT a (ov y) else none
    | none => none
  | a :: b :: l, i, off, (j, y) :: ps => match plc P ty i with
    | some (o, s) => bif Nat.beq j i && (Nat.beq o off && Nat.beq s (szT T a)) then (match asT a (ov y), buildAll P ty ov (b :: l) (i + 1) (off + szT T a) ps with
      | some z, some r => some (z, r)
      | _, _ => none) else none
    | none => none
  | _, _, _, _ => none
def zeroN (P : Program) (T : Tb) (ty n : Nat) : Bool :=
  match P.info? ty with
  | some i => match i.zero with
    | some (.agg z) => Nat.beq z.size (szT T (.st n))
    | _ => false
  | none => false

/-- What the evaluator is told of the program: the types of the numbers of types, and which boxes are written to. -/
structure Cx (T : Tb) where
  P : Program
  tid : TypeId → Option Tp
  eqs : List (TypeId × Nat)
  deps : Deps T
  rdeps : RDeps T
  wr : Bool
  own : List Nat
  rs : List ResultVar
  n : Nat
  /-- pieces of code of which it is told from elsewhere what they do; and the pieces that there are -/
  hk : Nat → Code → Env T → (R : Type) → (Env T → Option R) → Option R
  rg : Code → Prop

/-- a function value of a function and what it holds -/
def mkFn : (dom cod : List Tp) → (HL T.S dom → Option (HL T.S cod)) → List (AV T) → Option (AV T)
  | dom, [b], run, cs => match Nat.sub dom.length cs.length with
    | 0 => match args dom cs with
      | some z => some (.v (.f0 b) fun _ => run z)
      | none => none
    | 1 => match dom, run with
      | [a], run => some (.v (.f1 a b) fun x => run x)
      | a :: c :: l, run => match args (c :: l) cs with
        | some z => some (.v (.f1 a b) fun x => run (x, z))
        | none => none
      | [], _ => none
    | 2 => match dom, run with
      | [a, a'], run => some (.v (.f2 a a' b) fun x y => run (x, y))
      | a :: a' :: c :: l, run => match args (c :: l) cs with
        | some z => some (.v (.f2 a a' b) fun x y => run (x, y, z))
        | none => none
      | _, _ => none
    | _ => none
  | _, _, _, _ => none
/-- the value of an operand, functions too -/
def opvF (C : Cx T) (e : Env T) : Operand → AV T
  | .func f => match dep C.deps f with
    | some d => match mkFn d.dom d.cod d.run [] with
      | some a => a
      | none => .top
    | none => .top
  | x => opv e x
def bslice (C : Cx T) (e : Env T) (ty : TypeId) (n : Nat) (ps : Array (Nat × Operand)) : Option (Σ t, TypeId × List (T.D t)) :=
  match slOf C.P ty with
  | some el => match C.tid el with
    | some t => match partsL t e 0 ps.toList with
      | some xs => bif Nat.beq xs.length n && elB C.P T el t && Nat.ble (n * szT T t) 16777216 then some ⟨t, (el, xs)⟩ else none
      | none => none
    | none => none
  | none => none
/-- the parts of an array -/
def partsH {S : Nat → Type} (t : Tp) : (l : List Tp) → HL S l → Option (List (t.den S))
  | [], _ => some []
  | [a], x => match cast? a t x with
    | some y => some [y]
    | none => none
  | a :: b :: l, x => match cast? a t x.1, partsH t (b :: l) x.2 with
    | some y, some r => some (y :: r)
    | _, _ => none
def partsN {S : Nat → Type} : (l : List Tp) → HL S l → Option (Σ t : Tp, List (t.den S))
  | [], _ => none
  | [t], x => match partsH t [t] x with
    | some r => some ⟨t, r⟩
    | none => none
  | t :: b :: l, x => match partsH t (t :: b :: l) x with
    | some r => some ⟨t, r⟩
    | none => none
/-- a test whether something that is a call's own is nil -/
def nilT (P : Program) (ty : TypeId) (e : Env T) (op : BinOp) (x y : Operand) : Option Bool :=
  match y, mvv e x, P.underlying ty with
  | .const (.pointer none), .al s, some (.pointer _) => match lk e s with
    | .rs _ n z => match op, T.RN n z with
      | .eql, some b => some b
      | .neq, some b => some (!b)
      | _, _ => none
    | _ => none
  | _, _, _ => none
/-- One operation that writes to nothing that was there. -/
def step1 (C : Cx T) (e : Env T) (o : Oper) (k : AV T → Option R) : Option R :=
  match o.op with
  | .move x => k (mvv e x)
  | .assign x => k (mvv e x)
  | .binOp op ty x y _ => bif isSh op then (match shAmt (opv e y) with | some m => shiftV op (opv e x) m k | none => none) else match nilT C.P ty e op x y with | some b => k (.v .bool b) | none => binV C.wr op (match C.P.underlying ty with | some .bool => true | _ => false) (fun n => C.eqs.contains (ty, n)) (opv e x) (opv e y) k
  | .unOp .not _ x => match asB (opv e x) with
    | some b => k (.v .bool (!b))
    | none => none
  | .unOp .neg _ x => match asI (opv e x) with
    | some n => (subI 0 n).bind fun r => k (.v .int r)
    | none => none
  | .convert s d x => match C.P.underlying s, C.P.underlying d, opv e x with
    | some _, some (.int κ), .v .int n => k (wrI κ n)
    | some _, some (.int κ), .v (.ik _) n => k (wrI κ n.n)
    | _, _, _ => none
  | .load ty x => match loadV C.P T ty (mvv e x) (lk e) with
    | some a => k a
    | none => none
  | .fieldAddr s x f => fieldV C.P s f (mvv e x) (lk e) k
  | .indexAddr ty x y => match asI (opv e y), slOf C.P ty with
    | some i, some el => match x with
      | .tmp s => match res e (nrm (lk e s)) with
        | .v (.list t) xs => bif tyB C.P T el t then (getI xs i).bind fun z => k (.ref t z) else none
        | .own _ e' t xs => bif tyB C.P T el t && Nat.beq el e' then (getI xs i).bind fun z => k (.ao (slotOf e s) e' t xs i.toNat z t (Lens.id t)) else none
        | _ => none
      | _ => none
    | some i, none => match C.P.underlying ty, opv e x with
      | some (.array m el), .ref (.st n) z => match partsN (T.fs n) (T.to n z) with
        | some ⟨t, xs⟩ => bif Nat.beq m xs.length && tyB C.P T el t then (getI xs i).bind fun r => k (.ref t r) else none
        | none => none
      | _, _ => none
    | _, _ => none
  | .index ty x y => match opv e x, asI (opv e y), C.P.underlying ty with
    | .v (.st n) z, some i, some (.array m el) => match partsN (T.fs n) (T.to n z) with
      | some ⟨t, xs⟩ => bif Nat.beq m xs.length && tyB C.P T el t then (getI xs i).bind fun r => k (mkv t r) else none
      | none => none
    | _, _, _ => none
  | .extract x i => match opv e x with
    | .tup l => match l[i]? with
      | some ⟨t, y⟩ => k (mkv t y)
      | none => none
    | .tq l => match i with
      | 0 => none
      | i + 1 => match l[i]? with
        | some ⟨t, y⟩ => k (mkv t y)
        | none => none
    | .tr _ _ _ l => match i with
      | 0 => none
      | i + 1 => match l[i]? with
        | some ⟨t, y⟩ => k (mkv t y)
        | none => none
    | .al s => match lk e s with
      | .tr _ _ _ l => match i with
        | 0 => none
        | i + 1 => match l[i]? with
          | some ⟨t, y⟩ => k (mkv t y)
          | none => none
      | _ => none
    | _ => none
  | .box ty x => match opv e x with
    | .v t y => bif tyB C.P T ty t then k (.ref t y) else none
    | .ref t y => bif tyB C.P T ty (.rf t) then k (.ref (.rf t) y) else none
    | _ => none
  | .nilCheck x => match mvv e x with
    | .ref t y => k (.ref t y)
    | .al s => match lk e s with | .box _ _ _ => k (.al s) | _ => none
    | _ => none
  | .makeFunc (.func f) first caps => match first.toList with
    | [x] => match caps.toList, mvv e x with
      | [], .al s => k (.mv f s)
      | _, _ => none
    | [] => match dep C.deps f with
     | some d => match mkFn d.dom d.cod d.run (caps.toList.map (opv e)) with
      | some a => k a
      | none => none
     | none => none
    | _ => none
  | .slice ty x lo hi mx => match slOf C.P ty with
    | none => none
    | some el => match mx with
      | some (.const (.int .i64 0)) => match hi, (match lo with | none => true | some (.const (.int .i64 0)) => true | _ => false), asL e (opv e x) with
        | some (.const (.int .i64 0)), true, some ⟨t, _⟩ => bif tyB C.P T el t then k .e0 else none
        | _, _, _ => none
      | none => match opv e x with
        | .v (.list t) xs => bif tyB C.P T el t then
            (match lo, hi with
            | some l, some h => match asI (opv e l), asI (opv e h) with
              | some l, some h => (sliceI xs l h).bind fun r => k (.v (.list t) r)
              | _, _ => none
            | some l, none => match asI (opv e l) with
              | some l => (sliceI xs l (xs.length : Int)).bind fun r => k (.v (.list t) r)
              | none => none
            | none, some h => match asI (opv e h) with
              | some h => (sliceI xs 0 h).bind fun r => k (.v (.list t) r)
              | none => none
            | none, none => none) else none
        | _ => none
      | _ => none
  | .build ty ps => match C.tid ty with
    | some (.st n) => bif zeroB C.P T ty (.st n) && allFld C.P ty then (match buildF C.P ty n e ps.toList (T.zero n) with
      | some x => k (.v (.st n) x)
      | none => none) else bif zeroN C.P T ty n && allPl C.P ty then (match buildAll C.P ty (opvF C e) (T.fs n) 0 0 ps.toList with
      | some y => k (.v (.st n) (T.of n y))
      | none => none) else none
    | _ => none
  | .buildSlice ty n ps => match n with
    | 0 => match ps.toList, slOf C.P ty with
      | [], some el => match C.tid el with
        | some t => bif elB C.P T el t then k .e0 else none
        | none => none
      | _, _ => none
    | _ => match bslice C e ty n ps with
      | some ⟨t, (_, xs)⟩ => k (.fl t xs)
      | none => none
  | .call c => match c.callee with
    | .builtin .len => match c.args.toList, c.argTypes[0]? with
      | [x], some ty => match slOf C.P ty with
        | some _ => match res e (opv e x) with
          | .v (.list _) xs => k (.v .int (xs.length : Int))
          | .own _ _ _ xs => k (.v .int (xs.length : Int))
          | .e0 => k (.v .int ((0 : Nat) : Int))
          | _ => none
        | none => none
      | _, _ => none
    | .builtin .max => match c.args.toList with
      | [x, y] => match asI (opv e x), asI (opv e y) with
        | some a, some b => k (.v .int (max a b))
        | _, _ => none
      | [x, y, z] => match asI (opv e x), asI (opv e y), asI (opv e z) with
        | some a, some b, some c => k (.v .int (max (max a b) c))
        | _, _, _ => none
      | [x, y, z, u, w] => match asI (opv e x), asI (opv e y), asI (opv e z), asI (opv e u), asI (opv e w) with
        | some a, some b, some c, some d, some f => k (.v .int (max (max (max (max a b) c) d) f))
        | _, _, _, _, _ => none
      | _ => none
    | .builtin .min => match c.args.toList with
      | [x, y] => match asI (opv e x), asI (opv e y) with
        | some a, some b => k (.v .int (min a b))
        | _, _ => none
      | [x, y, z] => match asI (opv e x), asI (opv e y), asI (opv e z) with
        | some a, some b, some c => k (.v .int (min (min a b) c))
        | _, _, _ => none
      | [x, y, z, u] => match asI (opv e x), asI (opv e y), asI (opv e z), asI (opv e u) with
        | some a, some b, some c, some d => k (.v .int (min (min (min a b) c) d))
        | _, _, _, _ => none
      | _ => none
    | .builtin .append => match c.args.toList, c.argTypes.toList with
      | [x, y], [ty, ty'] => match slOf C.P ty with
        | some el => match asF e x with
          | some ⟨t, xs⟩ => match asL e (opv e y) with
            | some ⟨u, ys⟩ => match cast? (.list u) (.list t) ys with
              | some ys => bif Nat.beq ty ty' && elB C.P T el t then (appI xs ys).bind fun r => k (.v (.list t) r) else none
              | none => none
            | none => none
          | none => match res e (opv e x), asL e (opv e y) with
            | .e0, some ⟨t, ys⟩ => bif Nat.beq ty ty' && elB C.P T el t then (appI [] ys).bind fun r => k (.v (.list t) r) else none
            | _, _ => none
        | none => none
      | _, _ => none
    | .value (.func f) => match dep C.deps f with
      | some d => match args d.dom (c.args.toList.map (opvF C e)) with
        | some a => (d.run a).bind fun r => k (resV d.cod r)
        | none => none
      | none => none
    | .value (.tmp s) => match lk e s with
      | .v (.f0 b) g => match c.args.toList with
        | [] => (g ()).bind fun r => k (mkv b r)
        | _ => none
      | .v (.f1 a b) g => match c.args.toList with
        | [x] => match asT a (opv e x) with
          | some x => (g x).bind fun r => k (mkv b r)
          | none => none
        | _ => none
      | .v (.f2 a a' b) g => match c.args.toList with
        | [x, y] => match asT a (opv e x), asT a' (opv e y) with
          | some x, some y => (g x y).bind fun r => k (mkv b r)
          | _, _ => none
        | _ => none
      | _ => none
    | _ => none
  | _ => none
end
end Go.Gb

/- General part of the proofs: the evaluator: regions and control. -/
namespace Go.Gb
variable {T : Tb} {R : Type}

abbrev OpL := List (Nat × Oper)
/-- the operations up to the next one with this guard -/
def spanG (g : Option (Nat × Bool)) : OpL → OpL × OpL
  | [] => ([], [])
  | x :: l => if x.2.guard = g then ([], x :: l) else ((x :: (spanG g l).1), (spanG g l).2)
/-- never without a value -/
def isTot (o : Oper) : Bool := match o.op with
  | .move _ | .assign _ | .load _ _ | .fieldAddr _ _ _ | .nilCheck _ | .pick _ _ _ | .extract _ _ | .unOp .not _ _ | .convert _ _ _ | .build _ _ | .buildSlice _ _ _ => true
  | .binOp .lss _ _ _ _ | .binOp .leq _ _ _ _ | .binOp .gtr _ _ _ _ | .binOp .geq _ _ _ _ | .binOp .eql _ _ _ _ | .binOp .neq _ _ _ _ | .binOp .and _ _ _ _ => true
  | .call c => match c.callee with
    | .builtin .len | .builtin .max | .builtin .min => true
    | _ => false
  | _ => false
def isRes : AV T → Bool
  | .own _ _ _ _ => true
  | .box _ _ _ => true
  | .rs _ _ _ => true
  | .tr _ _ _ _ => true
  | _ => false
/-- .. if it is wanted here -/
def rdepU (C : Cx T) (f : FuncId) (dst : Option Nat) : Option (FnR T) :=
  match rdep C.rdeps f with
  | some q => bif (dep C.deps f).isSome && (match dst with | some d => !(C.own.contains d) | none => true) then none else some q
  | none => none
/-- an operation that writes, or makes what is written to -/
def isMut (C : Cx T) (e : Env T) (o : Oper) : Bool :=
  match o.dst with
  | none => true
  | some d => isRes (lk e d) || match o.op with
    | .store _ _ _ => true
    | .alloc _ => true
    | .makeSlice _ _ _ => true
    | .box _ _ => C.own.contains d
    | .assign x => C.own.contains d && (match x with | .tmp t => (match lk e t with | .al _ => true | a => isRes a) | _ => false)
    | .buildSlice _ _ _ => C.own.contains d
    | .call c => match c.callee with
      | .builtin .append => C.own.contains d || (match c.args.toList with | x :: _ => isRes (res e (opv e x)) | _ => false)
      | .value (.func f) => (rdepU C f (some d)).isSome
      | .value (.tmp s) => (match lk e s with | .mv _ _ => true | _ => false)
      | _ => false
    | .extract x 0 => (match mvv e x with | .al _ => true | _ => false)
    | _ => false
def dstOf (ops : List Oper) (j : Nat) : Option Nat := (nth ops j).bind (·.dst)
def lastIdx (t : Nat) : List Oper → Nat → Option Nat → Option Nat
  | [], _, r => r
  | o :: l, i, r => lastIdx t l (i + 1) (bif (match o.dst with | some d => Nat.beq d t | none => false) then some i else r)
def lastIs (t : Nat) (l : List Oper) (j : Nat) : Bool := match lastIdx t l 0 none with | some j' => Nat.beq j' j | none => false
def tmpsOf (o : Oper) : List Nat := o.op.operands.toList.filterMap fun | .tmp t => some t | _ => none
def needOf (pre : List Oper) (o : Oper) : List (Nat × Option Nat) := (tmpsOf o).map fun t => (t, lastIdx t pre 0 none)
def needs (pre : List Oper) : List Oper → List (List (Nat × Option Nat))
  | [] => []
  | o :: l => needOf pre o :: needs (pre ++ [o]) l
def esOf (ops : List Oper) : List Ent := (needs [] ops).map fun nd => ⟨none, nd⟩
def ixs : Nat → List Oper → OpL
  | _, [] => []
  | i, o :: l => (i, o) :: ixs (i + 1) l

def grpOk (e : Env T) (c j : Nat) (w : Bool) (gr : OpL) : Bool :=
  gr.all fun x => (match x.2.guard with
    | some (j', w') => (Nat.beq j' j && w' == w) || gr.any fun y => Nat.beq y.1 j'
    | none => false) && match x.2.dst with
    | some d => !(isRes (lk e d)) && !(Nat.beq d c)
    | none => false
def tops : OpL → Env T → Env T
  | [], e => e
  | (_, o) :: l, e => match o.dst with
    | some d => (d, .top) :: tops l e
    | none => tops l e
/-- a value that is picked: a part of it may be without a value only where it is asked for -/
def pickC (tot w m : Bool) (run oth : Option Bool) (k : Bool → Option R) : Option R :=
  bif tot then match run, oth with
    | some b, some true => bif w then none else k (m || b)
    | some b, some false => bif w then k (m && b) else none
    | _, _ => none
  else match w with
    | true => (if m then run else oth).bind k
    | false => (if m then oth else run).bind k
/-- A box of which nothing is told while operations run in any order: one that was there, or one that they make. -/
inductive Hd where
  | no
  | old (s : Nat)
  | new (s : Nat) (t : Tp)
inductive Hv where
  | adr (off : Nat)
  | box (t : Tp)
/-- a pointer into such a box -/
def hidO (C : Cx T) (hid : Hd) (o : Oper) : Option Hv :=
  match hid, o.op with
  | .old s, .fieldAddr st (.tmp s') f => bif Nat.beq s s' then (match fldOff C.P st f with | some off => some (.adr off) | none => none) else none
  | .new s t, .alloc ty => match o.dst with
    | some d => bif Nat.beq s d && zeroB C.P T ty t then some (.box t) else none
    | none => none
  | _, _ => none
/-- The operations of a region that may run in any order. -/
def ev1 (C : Cx T) (hid : Hd) (ops : List Oper) : Nat → (R : Type) → Option (Nat × Bool) → OpL → Env T → (OpL → Env T → Option R) → Option R
  | 0, _, _, _, _, _ => none
  | _ + 1, _, _, [], e, k => k [] e
  | f + 1, R, g, (i, o) :: l, e, k =>
    if o.guard = g then
      match hidO C hid o, o.dst with
      | some _, some d => bif isRes (lk e d) then none else ev1 C hid ops f R g l ((d, .top) :: e) k
      | _, _ =>
        bif isMut C e o then (match g with | none => k ((i, o) :: l) e | some _ => none) else
        match o.dst with
        | some d => step1 C e o fun a => ev1 C hid ops f R g l ((d, a) :: e) k
        | none => none
    else match o.guard with
      | none => none
      | some (j, w) => match spanG g ((i, o) :: l) with
        | (gr, (_, p) :: l') => match p.op, p.dst, dstOf ops j with
          | .pick (.tmp c) x y, some d, some tj => match asB (lk e c) with
            | some m =>
              bif Nat.beq tj c && lastIs c (ops.take i) j && grpOk e c j w gr && !(isRes (lk e d)) then
                pickC (gr.all fun x => isTot x.2) w m (ev1 C hid ops f Bool (some (j, w)) gr e fun _ e' => asB (opv e' (if w then x else y))) (asB (opv (tops gr e) (if w then y else x)))
                  fun b => ev1 C hid ops f R g l' ((d, .v .bool b) :: tops gr e) k
              else none
            | none => none
          | _, _, _ => none
        | _ => none

/-- what mentions a slot -/
def kl (s : Nat) : AV T → AV T
  | .ab s' t x u L => bif Nat.beq s' s then .top else .ab s' t x u L
  | .ao s' e t xs i x u L => bif Nat.beq s' s then .top else .ao s' e t xs i x u L
  | a => a
def klA (s : Nat) : AV T → AV T
  | .al s' => bif Nat.beq s' s then .top else .al s'
  | .mv f s' => bif Nat.beq s' s then .top else .mv f s'
  | a => kl s a
def mapK (f : AV T → AV T) : Env T → (Env T → Option R) → Option R
  | [], k => k []
  | (t, a) :: e, k => mapK f e fun e' => k ((t, f a) :: e')
def AV.ment : AV T → Nat → Bool
  | .al s, t => Nat.beq s t
  | .ab s _ _ _ _, t => Nat.beq s t
  | .ao s _ _ _ _ _ _ _, t => Nat.beq s t
  | .mv _ s, t => Nat.beq s t
  | _, _ => false
def put (e : Env T) (d : Nat) (a : AV T) (k : Env T → Option R) : Option R :=
  bif a.ment d then none else bif isRes (lk e d) then mapK (klA d) e fun e' => k ((d, a) :: e') else k ((d, a) :: e)
/-- the slot of a resource -/
def resSlot (e : Env T) : Operand → Option Nat
  | .tmp t => match lk e t with
    | .al s => some s
    | .own _ _ _ _ => some t
    | .box _ _ _ => some t
    | .rs _ _ _ => some t
    | .tr _ _ _ _ => some t
    | _ => none
  | _ => none
/-- what is taken of a slot -/
def takeR : (κ : Rk) → AV T → Option (κ.D T)
  | .n, _ => some ()
  | .o el t, .own false el' u xs => bif Nat.beq el el' then cast? (.list u) (.list t) xs else none
  | .o _ _, .e0 => some []
  | .b t, .box false u x => cast? u t x
  | .c m, .rs false m' x => match natSame m' m with
    | some h => some (h.down ▸ x)
    | none => none
  | _, _ => none
/-- the arguments of a call that are values -/
def argP (ov : Operand → AV T) : (p : Pm) → Operand → (l : List Pm) → Option (HL T.S (valsP l)) → Option (HL T.S (valsP (p :: l)))
  | .v t, x, _, r => match asT t (ov x), r with
    | some y, some ys => some (consH y ys)
    | _, _ => none
  | .tu, _, _, r => r
  | .tk, _, _, r => r
  | .fn g, x, _, r => match x with
    | .func g' => bif Nat.beq g g' then r else none
    | _ => none
def argsP (ov : Operand → AV T) : (l : List Pm) → List Operand → Option (HL T.S (valsP l))
  | [], [] => some ()
  | p :: l, x :: xs => argP ov p x l (argsP ov l xs)
  | [], _ :: _ => none
  | _ :: _, [] => none
/-- the argument that is turned (tk = false) or taken over -/
def resArg (tk : Bool) : List Pm → List Operand → Option Operand
  | .v _ :: l, _ :: xs => resArg tk l xs
  | .tu :: l, x :: xs => bif tk then resArg tk l xs else some x
  | .tk :: l, x :: xs => bif tk then some x else resArg tk l xs
  | .fn _ :: l, _ :: xs => resArg tk l xs
  | _, _ => none
/-- .. and its slot -/
def locR (e : Env T) (κ : Rk) (x : Option Operand) : Option (Option Nat × κ.D T) :=
  match κ, x with
  | .n, none => some (none, ())
  | .n, some _ => none
  | κ, some x => match resSlot e x with
    | some s => match takeR κ (lk e s) with
      | some y => bif isRes (lk e s) then some (some s, y) else none
      | none => none
    | none => none
  | _, none => none
def neO : Option Nat → Option Nat → Bool
  | some a, some b => !(Nat.beq a b)
  | _, _ => true
def klO (f : Nat → AV T → AV T) : Option Nat → AV T → AV T
  | some s, a => f s a
  | none, a => a
def addO (s : Option Nat) (a : AV T) (e : Env T) : Env T := match s with
  | some s => (s, a) :: e
  | none => e
/-- no such parameter -/
def noP (tk : Bool) : List Pm → Bool
  | [] => true
  | .v _ :: l => noP tk l
  | .tu :: l => tk && noP tk l
  | .tk :: l => !tk && noP tk l
  | .fn _ :: l => noP tk l
def uniqP : List Pm → Bool
  | [] => true
  | .v _ :: l => uniqP l
  | .tu :: l => noP false l && uniqP l
  | .tk :: l => noP true l && uniqP l
  | .fn _ :: l => uniqP l
def callR (C : Cx T) (e : Env T) (d : FnR T) (as_ : List Operand) (dst : Option Nat) (k : Env T → Option R) : Option R :=
  match argsP (opvF C e) d.pm as_, locR e d.tu (resArg false d.pm as_), locR e d.tk (resArg true d.pm as_) with
  | some x, some (s1, y), some (s2, z) => bif uniqP d.pm && neO s1 s2 && neO dst s1 && neO dst s2 && (match dst with | some _ => true | none => isN d.ro && d.cod.isEmpty) then
      (d.run x y z).bind fun q => mapK (fun a => klO kl s1 (klO klA s2 (klO klA dst a))) e fun e' => k (addO dst (resR d.ro d.cod (d.inj q).2.1 (d.inj q).2.2) (addO s1 (d.tu.av (d.inj q).1) (addO s2 .top e')))
    else none
  | _, _, _ => none
def frz1 (e : Env T) (x : Operand) (k : Env T → Option R) : Option R :=
  match x with
  | .tmp t => match lk e t with
    | .own false _ u xs => mapK (klA t) e fun e' => k ((t, .v (.list u) xs) :: e')
    | .box false u x => mapK (klA t) e fun e' => k ((t, .ref u x) :: e')
    | .al s => match lk e s with
      | .own false _ u xs => mapK (klA s) e fun e' => bif isRes (lk e' t) then none else k ((t, .v (.list u) xs) :: (s, .v (.list u) xs) :: e')
      | .box false u x => mapK (klA s) e fun e' => bif isRes (lk e' t) then none else k ((t, .ref u x) :: (s, .ref u x) :: e')
      | _ => k e
    | _ => k e
  | _ => k e
def frz (e : Env T) : List Operand → (Env T → Option R) → Option R
  | [], k => k e
  | x :: l, k => frz1 e x fun e' => frz e' l k
/-- the arguments that are values -/
def valArgs : List Pm → List Operand → List Operand
  | .v _ :: l, x :: xs => x :: valArgs l xs
  | _ :: l, _ :: xs => valArgs l xs
  | _, _ => []
def frzOps (C : Cx T) (e : Env T) (o : Oper) : List Operand := match o.op with
  | .build _ ps => ps.toList.map (·.2)
  | .buildSlice _ _ ps => ps.toList.map (·.2)
  | .box _ x => [x]
  | .slice _ x _ _ _ => [x]
  | .store _ _ y => [y]
  | .call c => match c.callee with
    | .value (.func f) => match rdepU C f o.dst with
      | some d => valArgs d.pm c.args.toList
      | none => c.args.toList
    | .value (.tmp s) => match lk e s with
      | .mv f _ => match rdep C.rdeps f with
        | some d => valArgs d.pm.tail c.args.toList
        | none => []
      | _ => c.args.toList
    | .value _ => c.args.toList
    | _ => []
  | _ => []
def sameTmp : Operand → Operand → Bool
  | .tmp a, .tmp b => Nat.beq a b
  | _, _ => false
/-- .. one after the other -/
def step2 (C : Cx T) (e : Env T) (o : Oper) (k : Env T → Option R) : Option R :=
  match o.op, o.dst with
  | .store ty p y, none => match p with
    | .tmp pt => match (match lk e pt with
        | .al s => match lk e s with | .box _ t x => AV.ab s t x t (Lens.id t) | _ => .top
        | .box _ t x => AV.ab pt t x t (Lens.id t)
        | a => a) with
      | .ab s t x u L => match lk e s with
        | .box false _ _ => match asT u (opv e y) with
          | some z => bif tyB C.P T ty u then mapK (kl s) e fun e' => k ((s, .box false t (L.set x z)) :: e') else none
          | none => none
        | _ => none
      | .ao s el t xs i x u L => match lk e s with
        | .own false _ _ _ => match asT u (opv e y) with
          | some z => bif tyB C.P T ty u then mapK (kl s) e fun e' => k ((s, .own false el t (xs.set i (L.set x z))) :: e') else none
          | none => none
        | _ => none
      | _ => none
    | _ => none
  | .alloc ty, some d => match C.tid ty with
    | some t => bif zeroB C.P T ty t then put e d (.box false t (T.dflt t)) k else none
    | none => none
  | .box ty x, some d => match opv e x with
    | .v t y => bif tyB C.P T ty t then put e d (.box false t y) k else none
    | _ => none
  | .assign x, some d => match resSlot e x with
    | some s => match lk e s with
      | .own false el t xs => mapK (klA s) e fun e' => put ((s, .top) :: e') d (.own false el t xs) fun e'' => bif isRes (lk e'' s) then none else k ((s, .al d) :: e'')
      | .rs false m z => bif Nat.beq s d then none else mapK (fun a => klA s (klA d a)) e fun e' => k ((d, .rs false m z) :: (s, .top) :: e')
      | _ => none
    | none => step1 C e o fun a => put e d a k
  | .extract x i, some d => match i, resSlot e x with
    | 0, some s => match lk e s with
      | .tr false κ w l => bif Nat.beq s d || isN κ then none else mapK (fun a => klA s (klA d a)) e fun e' => k ((d, κ.av w) :: (s, .tq l) :: e')
      | _ => step1 C e o fun a => put e d a k
    | _, _ => step1 C e o fun a => put e d a k
  | .buildSlice ty m ps, some d => match m with
    | 0 => step1 C e o fun a => put e d a k
    | _ => match bslice C e ty m ps with
      | some ⟨t, (el, xs)⟩ => put e d (.own false el t xs) k
      | none => none
  | .makeSlice ty lx cx, some d => match asI (opv e lx), slOf C.P ty with
    | some n, some el => match C.tid el with
      | some t => bif sameTmp lx cx && elB C.P T el t && zeroB C.P T el t then (makeI n (T.dflt t)).bind fun r => put e d (.own false el t r) k else none
      | none => none
    | _, _ => none
  | .call c, some d => match c.callee with
    | .builtin .append => match c.args.toList, c.argTypes.toList with
      | [x, y], [ty, ty'] => bif Nat.beq ty ty' then match slOf C.P ty, asL e (opv e y) with
        | some el, some ⟨t, ys⟩ => bif elB C.P T el t then (match resSlot e x with
          | some s => match lk e s with
            | .own false el' t' xs => match cast? (.list t') (.list t) xs with
              | some xs => bif Nat.beq el el' then (appI xs ys).bind fun r => mapK (klA s) e fun e' => put ((s, .top) :: e') d (.own false el t r) k else none
              | none => none
            | _ => none
          | none => match res e (opv e x) with
            | .e0 => (appI [] ys).bind fun r => put e d (.own false el t r) k
            | _ => none) else none
        | _, _ => none
        else none
      | _, _ => none
    | .value (.func f) => match rdepU C f (some d) with
      | some q => callR C e q c.args.toList (some d) k
      | none => step1 C e o fun a => put e d a k
    | .value (.tmp s) => match lk e s with
      | .mv f s' => match rdep C.rdeps f with
        | some q => callR C e q (.tmp s' :: c.args.toList) (some d) k
        | none => none
      | _ => step1 C e o fun a => put e d a k
    | _ => step1 C e o fun a => put e d a k
  | .call c, none => match c.callee with
    | .value (.func f) => match rdepU C f none with
      | some q => callR C e q c.args.toList none k
      | none => none
    | .value (.tmp s) => match lk e s with
      | .mv f s' => match rdep C.rdeps f with
        | some q => callR C e q (.tmp s' :: c.args.toList) none k
        | none => none
      | _ => none
    | _ => none
  | _, some d => step1 C e o fun a => put e d a k
  | _, none => none

def ev2 (C : Cx T) : OpL → Env T → (Env T → Option R) → Option R
  | [], e, k => k e
  | (_, o) :: l, e, k => match o.guard, (match o.dst with | some d => Nat.blt d C.n | none => true) with
    | none, true => frz e (frzOps C e o) fun e' => step2 C e' o fun e'' => ev2 C l e'' k
    | _, _ => none

/-- the boxes that a region has made and that nothing writes to behind it -/
def shareK (C : Cx T) : List Oper → Env T → (Env T → Option R) → Option R
  | [], e, k => k e
  | o :: l, e, k => match o.op, o.dst with
    | .alloc _, some d => bif C.own.contains d then shareK C l e k else match lk e d with
      | .box false t x => mapK (klA d) e fun e' => shareK C l ((d, .ref t x) :: e') k
      | _ => shareK C l e k
    | _, _ => shareK C l e k

/-- the first store -/
def stAt : List Oper → Nat → Option (Nat × Oper)
  | [], _ => none
  | o :: l, i => match o.op with
    | .store _ _ _ => some (i, o)
    | _ => stAt l (i + 1)
/-- operations that only look may come behind the first store -/
def lateSt (ops : List Oper) : Bool := match stAt ops 0 with
  | some (m, _) => !(allI (fun j _ => Nat.blt j m || (List.range j).all fun i => hasBit (masks ops []) j i) 0 ops)
  | none => false
def notDst (s : Nat) (ops : List Oper) : Bool := ops.all fun o => match o.dst with | some d => !(Nat.beq d s) | none => true
/-- what is stored is there -/
def needSt (m : Nat) (ops : List Oper) : Operand → Bool
  | .tmp t => match lastIdx t (ops.take m) 0 none with
    | some j => hasBit (masks ops []) m j
    | none => notDst t ops
  | .const _ => true
  | _ => false
/-- the slot of the box that is stored to -/
def stSlot (ops : List Oper) (m pt : Nat) : Nat := match lastIdx pt (ops.take m) 0 none with
  | some j => match nth ops j with
    | some o => match o.op with | .fieldAddr _ (.tmp s) _ => s | _ => pt
    | none => pt
  | none => pt
/-- .. and where -/
def fldL (P : Program) (st f : Nat) : (t : Tp) → Option (Σ u, Lens T t u)
  | .st n => match fldOff P st f, flens (T := T) n f with
    | some off, some ⟨w, L⟩ => bif Nat.beq L.off off then some ⟨w, L⟩ else none
    | _, _ => none
  | _ => none
def stPtr (C : Cx T) (ops : List Oper) (m s pt : Nat) (t : Tp) : Option (Σ u, Lens T t u) :=
  bif Nat.beq pt s then (bif notDst pt ops then some ⟨t, Lens.id t⟩ else none) else match lastIdx pt (ops.take m) 0 none with
    | some j => match nth ops j with
      | some o => match o.op, o.guard with
        | .fieldAddr st (.tmp s') f, none => bif Nat.beq s s' && hasBit (masks ops []) m j then fldL C.P st f t else none
        | _, _ => none
      | none => none
    | none => none
def evX (C : Cx T) (ops : List Oper) (e : Env T) (k : Env T → Option R) : Option R :=
  match stAt ops 0 with
  | some (m, o) => match o.op, o.dst, o.guard with
    | .store ty (.tmp pt) y, none, none => match lk e (stSlot ops m pt) with
      | .box false t x0 => match stPtr C ops m (stSlot ops m pt) pt t with
        | some ⟨u, L⟩ => bif !(notDst (stSlot ops m pt) ops) then none else mapK (klA (stSlot ops m pt)) e fun e0 => ev1 C (.old (stSlot ops m pt)) ops (ops.length + 1) R none (ixs 0 ops) ((stSlot ops m pt, .top) :: e0) fun l e1 =>
          match l with
          | [] => none
          | _ :: l' => bif Nat.beq (ops.length - l.length) m && chkS C.n m ops (esOf (ops.take m)) && chkB m ops && needSt m ops y && tyB C.P T ty u then
              match asT u (opv e1 y) with
              | some z => ev2 C l' ((stSlot ops m pt, .box false t (L.set x0 z)) :: e1) fun e'' => shareK C ops e'' k
              | none => none
            else none
        | none => none
      | _ => none
    | _, _, _ => none
  | none => none
/-- nothing else is put into a slot -/
def onlyDst (s j : Nat) (ops : List Oper) : Bool := allI (fun i o => Nat.beq i j || (match o.dst with | some d => !(Nat.beq d s) | none => true)) 0 ops
def isTop : AV T → Bool
  | .top => true
  | _ => false
/-- the moves and extracts that may come behind the store -/
def lateL (m : Nat) (ops : List Oper) : List Nat := (List.range m).filter fun l => !(hasBit (masks ops []) m l) && isPure ops.toArray l
/-- .. where the first store goes into a box that the region makes -/
def evN (C : Cx T) (ops : List Oper) (e : Env T) (k : Env T → Option R) : Option R :=
  match stAt ops 0 with
  | some (m, o) => match o.op, o.dst, o.guard with
    | .store ty (.tmp pt) y, none, none => match lastIdx pt (ops.take m) 0 none with
      | some ja => match nth ops ja with
        | some oa => match oa.op, oa.guard with
          | .alloc tya, none => match C.tid tya with
            | some t => ev1 C (.new pt t) ops (ops.length + 1) R none (ixs 0 ops) e fun l e1 =>
              match l with
              | [] => none
              | _ :: l' => bif Nat.beq (ops.length - l.length) m && chkS C.n m ops (esOf (ops.take m)) && chkC m (lateL m ops) ops && lateOk m (lateL m ops) ops.toArray && hasBit (masks ops []) m ja && onlyDst pt ja ops && needSt m ops y && tyB C.P T ty t && zeroB C.P T tya t && isTop (lk e1 pt) && !(isRes (lk e pt)) then
                  match asT t (opv e1 y) with
                  | some z => ev2 C l' ((pt, .box false t z) :: e1) fun e'' => shareK C ops e'' k
                  | none => none
                else none
            | none => none
          | _, _ => none
        | none => none
      | none => none
    | _, _, _ => none
  | none => none
def newSt (ops : List Oper) : Bool := match stAt ops 0 with
  | some (m, o) => match o.op with
    | .store _ (.tmp pt) _ => match lastIdx pt (ops.take m) 0 none with
      | some ja => match nth ops ja with
        | some oa => match oa.op with
          | .alloc _ => true
          | _ => false
        | none => false
      | none => false
    | _ => false
  | none => false
/-- the box that the first store goes into may be made before other operations -/
def lateA (ops : List Oper) : Bool := match stAt ops 0 with
  | some (m, o) => match o.op with
    | .store _ (.tmp pt) _ => match lastIdx pt (ops.take m) 0 none with
      | some ja => !((List.range ja).all fun i => hasBit (masks ops []) ja i)
      | none => false
    | _ => false
  | none => false
/-- a type without a zero value that is told of: the block is filled by the next operation -/
def rawB (P : Program) (T : Tb) (ty : TypeId) (t : Tp) : Bool :=
  match P.info? ty with
  | some i => match i.zero with
    | some (.agg z) => (T.e t).agg && Nat.beq z.size (szT T t) && z.toList.all fun v => v.oneCell'
    | _ => false
  | none => false
def rawAS (C : Cx T) (e : Env T) (oa os : Oper) : Option (Nat × Σ t, T.D t) :=
  match oa.op, oa.dst, oa.guard, os.op, os.dst, os.guard with
  | .alloc ty, some d, none, .store ty' (.tmp d') y, none, none => bif Nat.beq d' d && Nat.blt d C.n && !(sameTmp (.tmp d) y) then (match C.tid ty with
      | some t => bif !(zeroB C.P T ty t) && rawB C.P T ty t && tyB C.P T ty' t then (match asT t (opv e y) with | some z => some (d, ⟨t, z⟩) | none => none) else none
      | none => none) else none
  | _, _, _, _, _, _ => none
def evT (C : Cx T) (ops : List Oper) (l : OpL) (e : Env T) (k : Env T → Option R) : Option R :=
  match l with
  | [(_, oa), (_, os)] => match rawAS C e oa os with
    | some (d, ⟨t, z⟩) => put e d (.box false t z) k
    | none => ev2 C l e fun e'' => shareK C ops e'' k
  | l => ev2 C l e fun e'' => shareK C ops e'' k
def evR (C : Cx T) (ops : List Oper) (draw : Bool) (e : Env T) (k : Env T → Option R) : Option R :=
  bif draw && (lateSt ops || (newSt ops && lateA ops)) then (bif newSt ops then evN C ops e k else evX C ops e k) else
  ev1 C .no ops (ops.length + 1) R none (ixs 0 ops) e fun l e' =>
    bif (bif draw then chk else chkS) C.n (ops.length - l.length) ops (esOf (ops.take (ops.length - l.length))) then
      evT C ops l e' k
    else none

/-! Control -/
inductive Kd where
  | v (t : Tp) | o (e : TypeId) (t : Tp) | b (t : Tp) | c (m : Nat)
@[reducible] def Kd.D (T : Tb) : Kd → Type
  | .v t => T.D t | .o _ t => List (T.D t) | .b t => T.D t | .c m => T.RD m
abbrev Sp := List (Nat × Kd)
@[reducible] def SpD (T : Tb) : Sp → Type
  | [] => Unit
  | [a] => a.2.D T
  | a :: b :: l => a.2.D T × SpD T (b :: l)
def Kd.dflt : (κ : Kd) → κ.D T
  | .v t => T.dflt t | .o _ _ => [] | .b t => T.dflt t | .c m => T.RZ m
def takeS (e : Env T) (s : Nat) : (κ : Kd) → Option (κ.D T)
  | .v t => asT t (nrm (lk e s))
  | .o el t => match lk e s with
    | .own false el' u xs => bif Nat.beq el el' then cast? (.list u) (.list t) xs else none
    | .e0 => some []
    | _ => none
  | .b t => match lk e s with
    | .box false u x => cast? u t x
    | _ => none
  | .c m => match lk e s with
    | .rs false m' x => match natSame m' m with
      | some h => some (h.down ▸ x)
      | none => none
    | _ => none
/-- the values of the slots of a state; those in ds are not known -/
def take (ds : List Nat) (e : Env T) : (sp : Sp) → Option (SpD T sp)
  | [] => some ()
  | [a] => bif ds.contains a.1 then some a.2.dflt else takeS e a.1 a.2
  | a :: b :: l => match (bif ds.contains a.1 then some a.2.dflt else takeS e a.1 a.2), take ds e (b :: l) with
    | some x, some y => some (x, y)
    | _, _ => none
def vSlots (ds : List Nat) : Sp → List Operand
  | [] => []
  | (s, .v _) :: l => bif ds.contains s then vSlots ds l else .tmp s :: vSlots ds l
  | _ :: l => vSlots ds l
/-- .. and what need not be written to any more is handed over first -/
def takeF (ds : List Nat) (e : Env T) (sp : Sp) (k : SpD T sp → Option R) : Option R :=
  frz e (vSlots ds sp) fun e' => match take ds e' sp with
    | some s => k s
    | none => none
def avK : (κ : Kd) → κ.D T → AV T
  | .v t, x => mkv t x
  | .o e t, x => .own false e t x
  | .b t, x => .box false t x
  | .c m, x => .rs false m x
def give (xs : List Nat) : (sp : Sp) → SpD T sp → Env T → Env T
  | [], _, e => e
  | [a], x, e => (a.1, bif xs.contains a.1 then .top else avK a.2 x) :: e
  | a :: b :: l, x, e => (a.1, bif xs.contains a.1 then .top else avK a.2 x.1) :: give xs (b :: l) x.2 e

def wrs : Code → List Nat
  | .region _ A _ => A.toList.filterMap (·.dst)
  | .seq a b => wrs a ++ wrs b
  | .cond _ a b => wrs a ++ wrs b
  | .block _ a => wrs a
  | .loop a => wrs a
  | _ => []
/-- what stays of an environment over a piece of code -/
def keepA (lock : Bool) (W : List Nat) : AV T → AV T
  | .v t x => .v t x
  | .fl t xs => .fl t xs
  | .ref t x => .ref t x
  | .e0 => .e0
  | .nil => .nil
  | .own b e t xs => .own (lock || b) e t xs
  | .box b t x => .box (lock || b) t x
  | .rs b m x => .rs (lock || b) m x
  | .tq l => .tq l
  | .tr b κ x l => .tr (lock || b) κ x l
  | .al s => bif W.contains s then .top else .al s
  | .mv f s => bif W.contains s then .top else .mv f s
  | _ => .top
def keepK (lock : Bool) (W : List Nat) (Wd : List Nat) : Env T → (Env T → Option R) → Option R
  | [], k => k []
  | (t, a) :: e, k => keepK lock W Wd e fun e' => k (bif W.contains t then e' else (t, bif Wd.contains t then a else keepA lock (W ++ Wd) a) :: e')

def lkA : AV T → AV T
  | .own _ el t xs => .own true el t xs
  | .box _ t x => .box true t x
  | .rs _ m x => .rs true m x
  | .tr _ κ x l => .tr true κ x l
  | a => a
def lockK (W : List Nat) : Env T → (Env T → Option R) → Option R
  | [], k => k []
  | (t, a) :: e, k => lockK W e fun e' => k ((t, bif W.contains t then a else lkA a) :: e')

/-- Of a state: the slots that nothing reads any more, and those of them that are not known. -/
abbrev Ls := List Nat × List Nat
/-- How a function's code is to be taken. -/
inductive Hn (T : Tb) where
  | n
  | h (i : Nat)
  | s (a b : Hn T)
  | f (l : List Nat) (a : Hn T)
  | j (fz : List Nat) (sp : Sp) (xs : Ls) (a : Hn T)
  | jf (fz : List Nat) (sp : Sp) (xs : Ls) (exs : List (Nat × Ls)) (a : Hn T)
  | l (fz : List Nat) (sp : Sp) (exs : List (Nat × Ls)) (fuel : Env T → Nat) (a : Hn T)
structure Kt (T : Tb) (ρ R : Type) where
  go : Env T → Option R
  ex : Nat → Env T → Option R
  rv : ρ → Option R
def exAt : List (Nat × Ls) → Nat → Option Ls
  | [], _ => none
  | (i, x) :: l, j => bif Nat.beq i j then some x else exAt l j
def exF {ρ : Type} (exs : List (Nat × Ls)) (sp : Sp) (i : Nat) (e : Env T) : Option (Flow (SpD T sp) ρ) :=
  match exAt exs i with
  | some x => takeF x.2 e sp fun s => some (.ex i s)
  | none => none
def exK {ρ : Type} {sp : Sp} (base : Env T) (K : Kt T ρ R) : List (Nat × Ls) → Nat → SpD T sp → Option R
  | [], _, _ => none
  | [(i, x)], _, s => K.ex i (give (x.1 ++ x.2) sp s base)
  | (i, x) :: y :: l, j, s => if j = i then K.ex i (give (x.1 ++ x.2) sp s base) else exK base K (y :: l) j s
def resH (C : Cx T) (e : Env T) : (l : List Tp) → List ResultVar → Option (HL T.S l)
  | [], [] => some ()
  | [a], [r] => resH1 e a r
  | a :: b :: l, r :: rs => match resH1 e a r, resH C e (b :: l) rs with
    | some x, some y => some (x, y)
    | _, _ => none
  | _, _ => none
where resH1 (e : Env T) (t : Tp) : ResultVar → Option (T.D t)
  | .tmp s => asT t (nrm (lk e s))
  | .cell s ty => match lk e s with
    | .box _ u x => bif tyB C.P T ty u then cast? u t x else none
    | _ => none
def spW (sp : Sp) : List Nat := sp.map (·.1)
/-- What a function gives: what is turned (in a slot), a result that is its own, and the other results. -/
structure Rv (T : Tb) where
  sl : Nat
  tu : Rk
  ro : Rk
  cod : List Tp
  ρ : Type
  pr : tu.D T × ro.D T × HL T.S cod → ρ
  inj : ρ → tu.D T × ro.D T × HL T.S cod
  hpr : ∀ r, inj (pr r) = r
abbrev Rv.D (T : Tb) (rv : Rv T) : Type := rv.ρ
/-- the results that are values -/
def valRs (ro : Rk) (rs : List ResultVar) : List ResultVar := bif isN ro then rs else rs.tail
def ro1 (e : Env T) (κ : Rk) : List ResultVar → Option (κ.D T)
  | .tmp s :: _ => takeR κ (lk e s)
  | _ => none
def roR (C : Cx T) (e : Env T) : (κ : Rk) → Option (κ.D T)
  | .n => some ()
  | .o el t => ro1 e (.o el t) C.rs
  | .b t => ro1 e (.b t) C.rs
  | .c m => ro1 e (.c m) C.rs
def slotEq (rs : List ResultVar) (sl : Nat) : Bool := match rs with | .tmp s :: _ => Nat.beq s sl | _ => true
def retV (C : Cx T) (e : Env T) (rv : Rv T) : Option (rv.D T) :=
  bif !(isN rv.tu) && !(isN rv.ro) && slotEq C.rs rv.sl then none else
  match takeR rv.tu (lk e rv.sl), roR C e rv.ro, resH C e rv.cod (valRs rv.ro C.rs) with
  | some y, some w, some r => some (rv.pr (y, w, r))
  | _, _, _ => none

def ev (C : Cx T) (cod : Rv T) : Code → Hn T → (R : Type) → Env T → Kt T (cod.D T) R → Option R
  | .skip, _, _, e, K => K.go e
  | .region id A d, h, R, e, K => match h with
    | .f l _ => frz e (l.map .tmp) fun e' => evR C A.toList d e' K.go
    | .h i => C.hk i (.region id A d) e R K.go
    | _ => evR C A.toList d e K.go
  | .seq a b, h, R, e, K => match h with
    | .s x y => ev C cod a x R e { K with go := fun e' => ev C cod b y R e' K }
    | _ => ev C cod a .n R e { K with go := fun e' => ev C cod b .n R e' K }
  | .cond c a b, h, R, e, K => match h with
    | .j fz sp xs (.s x y) => frz e (fz.map .tmp) fun e0 => lockK (wrs a ++ wrs b ++ spW sp) e0 fun e => keepK false (wrs a ++ wrs b) (spW sp) e0 fun e1 => match asB (opv e c) with
      | some m => (if m then ev C cod a x (SpD T sp) e ⟨fun e' => takeF xs.2 e' sp some, fun _ _ => none, fun _ => none⟩
          else ev C cod b y (SpD T sp) e ⟨fun e' => takeF xs.2 e' sp some, fun _ _ => none, fun _ => none⟩).bind fun s => K.go (give (xs.1 ++ xs.2) sp s e1)
      | none => none
    | .jf fz sp xs exs (.s x y) => frz e (fz.map .tmp) fun e0 => lockK (wrs a ++ wrs b ++ spW sp) e0 fun e => keepK false (wrs a ++ wrs b) (spW sp) e0 fun e1 => match asB (opv e c) with
      | some m =>
        let K' : Kt T (cod.D T) (Flow (SpD T sp) (cod.D T)) := ⟨fun e' => takeF xs.2 e' sp fun s => some (.go s), exF exs sp, fun r => some (.ret r)⟩
        (if m then ev C cod a x _ e K' else ev C cod b y _ e K').bind fun f => match f with
          | .go s => K.go (give (xs.1 ++ xs.2) sp s e1)
          | .ex i s => exK e1 K exs i s
          | .ret r => K.rv r
      | none => none
    | .s x y => match asB (opv e c) with
      | some m => if m then ev C cod a x R e K else ev C cod b y R e K
      | none => none
    | _ => match asB (opv e c) with
      | some m => if m then ev C cod a .n R e K else ev C cod b .n R e K
      | none => none
  | .block id a, h, R, e, K => match h with
    | .j fz sp xs x => frz e (fz.map .tmp) fun e0 => lockK (wrs a ++ spW sp) e0 fun e => keepK false (wrs a) (spW sp) e0 fun e1 =>
      (ev C cod a x (SpD T sp) e ⟨fun e' => takeF xs.2 e' sp some, fun i e' => bif Nat.beq i id then takeF xs.2 e' sp some else none, fun _ => none⟩).bind fun s => K.go (give (xs.1 ++ xs.2) sp s e1)
    | .jf fz sp xs exs x => frz e (fz.map .tmp) fun e0 => lockK (wrs a ++ spW sp) e0 fun e => keepK false (wrs a) (spW sp) e0 fun e1 =>
      (ev C cod a x (Flow (SpD T sp) (cod.D T)) e ⟨fun e' => takeF xs.2 e' sp fun s => some (.go s), fun i e' => bif Nat.beq i id then takeF xs.2 e' sp fun s => some (.go s) else exF exs sp i e', fun r => some (.ret r)⟩).bind fun f => match f with
          | .go s => K.go (give (xs.1 ++ xs.2) sp s e1)
          | .ex i s => exK e1 K exs i s
          | .ret r => K.rv r
    | .h i => C.hk i (.block id a) e R K.go
    | x => ev C cod a x R e { K with ex := fun i e' => bif Nat.beq i id then K.go e' else K.ex i e' }
  | .loop a, h, _, e, K => match h with
    | .l fz sp exs fuel x => frz e (fz.map .tmp) fun e => keepK true (wrs a) (spW sp) e fun ei => keepK false (wrs a) (spW sp) e fun e1 => match take [] e sp with
      | some s0 => (iterL (fun s => ev C cod a x (Flow (SpD T sp) (cod.D T)) (give [] sp s ei) ⟨fun e' => takeF [] e' sp fun s => some (.go s), exF exs sp, fun r => some (.ret r)⟩) (fuel e) s0).bind fun f => match f with
          | .go _ => none
          | .ex i s => exK e1 K exs i s
          | .ret r => K.rv r
      | none => none
    | _ => none
  | .exit i, _, _, e, K => K.ex i e
  | .ret, _, _, e, K => frz e ((valRs cod.ro C.rs).filterMap fun | .tmp s => some (.tmp s) | _ => none) fun e' => match retV C e' cod with
    | some r => K.rv r
    | none => none
  | _, _, _, _, _ => none

end Go.Gb


set_option linter.unusedVariables false
set_option linter.unusedSimpArgs false
/- General part of the proofs: what the evaluator's environments say of slots. -/
namespace Go.Gb
variable {T : Tb} {R : Type}

def Lens.ok {t u : Tp} (L : Lens T t u) : Prop :=
  (∀ (x : T.D t) (ad : Addr) (k : K), At x ad k → At (L.get x) (ad.add L.off) k) ∧ Upd L.off L.set ∧ L.off + (T.e u).sz ≤ (T.e t).sz

def Fa2 : List (Σ t, T.D t) → List Value → K → Prop
  | [], [], _ => True
  | p :: l, v :: vs, k => IsV p.2 v k ∧ Fa2 l vs k
  | _, _, _ => False
theorem Fa2.le {k k' : K} (h : Le k k') : ∀ {l : List (Σ t, T.D t)} {vs : List Value}, Fa2 l vs k → Fa2 l vs k'
  | [], [], _ => trivial
  | _ :: _, _ :: _, g => ⟨Pers.pers h g.1, Fa2.le h g.2⟩
theorem Fa2.get {k : K} : ∀ {l : List (Σ t, T.D t)} {vs : List Value} {i : Nat} {p : Σ t, T.D t}, Fa2 l vs k → l[i]? = some p → ∃ v, vs[i]? = some v ∧ IsV p.2 v k
  | p :: l, v :: vs, 0, q, g, h => by simp at h; subst h; exact ⟨v, rfl, g.1⟩
  | p :: l, v :: vs, i + 1, q, g, h => by
    obtain ⟨u, hu, hv⟩ := Fa2.get g.2 (by simpa using h)
    exact ⟨u, by simpa using hu, hv⟩

/-- What is said of something that is a call's own, and which blocks it is. -/
def Rk.is : (κ : Rk) → κ.D T → Value → K → Prop
  | .n, _, _, _ => True
  | .o e _, xs, v, k => IsOwn 0 e xs v k
  | .b _, x, v, k => ∃ b, v = .pointer (some ⟨b, 0, none⟩) ∧ Box b x k
  | .c m, x, v, k => ∃ F, T.RP m x F v k
def Rk.fp (T : Tb) : Rk → Value → K → FP
  | .n, _, _ => noF
  | .o _ _, v, _ => obF v
  | .b _, v, _ => fun b => v = .pointer (some ⟨b, 0, none⟩)
  | .c m, v, k => fun b => ∃ (y : T.RD m) (F : FP), T.RP m y F v k ∧ F b
theorem rp_fp {m : Nat} {x : T.RD m} {F : FP} {v : Value} {k : K} (h : T.RP m x F v k) : Rk.fp T (.c m) v k = F := by
  funext b
  refine propext ⟨fun ⟨y, G, h1, h2⟩ => ?_, fun h1 => ⟨x, F, h, h1⟩⟩
  rw [T.RPone m x y F G v k h h1]; exact h2
theorem Rk.lt {κ : Rk} {x : κ.D T} {v : Value} {k : K} (h : κ.is x v k) : ∀ b, κ.fp T v k b → b < k.w.heap.size ∧ ¬ k.sh b := by
  intro b hb
  cases κ with
  | n => exact hb.elim
  | o e t => exact ⟨(IsOwn.lt h b hb).2.1, (IsOwn.lt h b hb).2.2⟩
  | b t =>
    obtain ⟨c, e, h⟩ := h
    rw [show v = _ from hb] at e
    simp only [Value.pointer.injEq, Option.some.injEq, Addr.mk.injEq, and_true] at e
    subst e
    exact ⟨h.lt, h.own⟩
  | c m =>
    obtain ⟨F, h⟩ := h
    rw [rp_fp h] at hb
    have := T.RPok m x
    exact ⟨Rsc.lt h b hb, Rsc.nsh h b hb⟩
/-- under a change of other blocks -/
theorem Rk.keep {κ : Rk} {x : κ.D T} {v : Value} {k k' : K} {G : FP} (h : κ.is x v k) (c : Chg G k k') (hn : ∀ b, G b → ¬ k.sh b) (hf : Apart (κ.fp T v k) G) : κ.is x v k' ∧ κ.fp T v k' = κ.fp T v k := by
  cases κ with
  | n => exact ⟨trivial, rfl⟩
  | o e t => exact ⟨IsOwn.keep h c hf hn, rfl⟩
  | b t => obtain ⟨b, e, h⟩ := h; exact ⟨⟨b, e, h.keep c (hf b e) hn⟩, rfl⟩
  | c m =>
    obtain ⟨F, h⟩ := h
    have hi := T.RPok m x
    rw [rp_fp h] at hf ⊢
    have h' := Rsc.keep h c hf hn
    exact ⟨⟨F, h'⟩, rp_fp h'⟩
/-- under a handing over of other blocks -/
theorem Rk.handed {κ : Rk} {x : κ.D T} {v : Value} {k k' : K} {G : FP} (h : κ.is x v k) (c : Handed k k' G) (hf : Apart (κ.fp T v k) G) : κ.is x v k' ∧ κ.fp T v k' = κ.fp T v k := by
  cases κ with
  | n => exact ⟨trivial, rfl⟩
  | o e t => exact ⟨IsOwn.handed h c hf, rfl⟩
  | b t => obtain ⟨b, e, h⟩ := h; exact ⟨⟨b, e, h.handed c (hf b e)⟩, rfl⟩
  | c m =>
    obtain ⟨F, h⟩ := h
    have hi := T.RPok m x
    rw [rp_fp h] at hf ⊢
    have h' := Rsc.handed h c hf
    exact ⟨⟨F, h'⟩, rp_fp h'⟩
theorem Rk.grow {κ : Rk} {x : κ.D T} {v : Value} {k k' : K} (h : κ.is x v k) (g : Grow k k') : κ.is x v k' ∧ κ.fp T v k' = κ.fp T v k :=
  Rk.keep h (Chg.of (F := noF) g) (fun _ f => f.elim) (fun _ _ f => f.elim)
/-- the first part of a tuple -/
def fst0 : Value → Value
  | .tuple us => us[0]?.getD undef
  | v => v
/-- What is said of a slot's value. -/
def AV.is (a : Act) : AV T → Value → K → Prop
  | .top, _, _ => True
  | .any, _, _ => True
  | .nil, y, _ => y = .pointer none
  | .v _ x, y, k => IsV x y k
  | .e0, y, k => IsE0 y k
  | .tup l, y, k => ∃ vs : List Value, y = .tuple vs.toArray ∧ Fa2 l vs k
  | .ref _ x, y, k => IsRef x y k
  | .fl _ xs, y, k => IsFull xs y k
  | .own _ e _ xs, y, k => IsOwn 0 e xs y k
  | .box _ _ x, y, k => ∃ b, y = .pointer (some ⟨b, 0, none⟩) ∧ Box b x k
  | .al s, y, _ => y = a.get s
  | .ab s _ x _ L, y, k => L.ok ∧ ∃ b, a.get s = .pointer (some ⟨b, 0, none⟩) ∧ y = .pointer (some ⟨b, L.off, none⟩) ∧ Box b x k
  | .ao s e t xs i x _ L, y, k => L.ok ∧ IsAdrO (a.get s) (i * (T.e t).sz + L.off) y k ∧ IsOwn 0 e xs (a.get s) k ∧ xs[i]? = some x
  | .rs _ m x, y, k => (Rk.c m).is x y k
  | .tr _ κ x l, y, k => ∃ (u : Value) (vs : List Value), y = .tuple (u :: vs).toArray ∧ κ.is x u k ∧ Fa2 l vs k
  | .tq l, y, k => ∃ (u : Value) (vs : List Value), y = .tuple (u :: vs).toArray ∧ Fa2 l vs k
  | .mv f s, y, _ => y = .func (.func f) #[a.get s] #[]
/-- mentions the blocks behind a slot -/
def AV.ment2 : AV T → Nat → Bool
  | .ab s _ _ _ _, t => Nat.beq s t
  | .ao s _ _ _ _ _ _ _, t => Nat.beq s t
  | _, _ => false
theorem AV.ment2_ment {av : AV T} {s : Nat} (h : av.ment2 s = true) : av.ment s = true := by
  cases av <;> first | exact h | simp [AV.ment2] at h
/-- the blocks that are a slot's own -/
def AV.fp : AV T → Value → K → FP
  | .own _ _ _ _, y, _ => obF y
  | .box _ _ _, y, _ => fun b => y = .pointer (some ⟨b, 0, none⟩)
  | .rs _ m _, y, k => Rk.fp T (.c m) y k
  | .tr _ κ _ _, y, k => Rk.fp T κ (fst0 y) k
  | _, _, _ => noF
def unl : AV T → Bool
  | .own false _ _ _ => true
  | .box false _ _ => true
  | .rs false _ _ => true
  | .tr false _ _ _ => true
  | _ => false

theorem AV.mono {a : Act} (av : AV T) {v : Value} {k k' : K} (g : Grow k k') (h : av.is a v k) : av.is a v k' := by
  cases av with
  | top => trivial
  | any => trivial
  | nil => exact h
  | v t x => exact Mono.mono (R := IsV x) g h
  | fl t xs => exact Mono.mono (R := IsFull xs) g h
  | e0 => exact h
  | tup l => obtain ⟨vs, e, h⟩ := h; exact ⟨vs, e, h.le g.le⟩
  | ref t x => exact Mono.mono (R := IsRef x) g h
  | own b e t xs => exact Mono.mono (R := IsOwn 0 e xs) g h
  | box b t x => obtain ⟨b, e, h⟩ := h; exact ⟨b, e, h.grow g⟩
  | al s => exact h
  | ab s t x u L => obtain ⟨h0, b, e1, e2, h⟩ := h; exact ⟨h0, b, e1, e2, h.grow g⟩
  | ao s e t xs i x u L => exact ⟨h.1, h.2.1, Mono.mono (R := IsOwn 0 e xs) g h.2.2.1, h.2.2.2⟩
  | rs b m x => exact (Rk.grow (κ := .c m) h g).1
  | tr lf κ x l => obtain ⟨u, vs, e, h1, h2⟩ := h; exact ⟨u, vs, e, (Rk.grow h1 g).1, h2.le g.le⟩
  | tq l => obtain ⟨u, vs, e, h2⟩ := h; exact ⟨u, vs, e, h2.le g.le⟩
  | mv f s => exact h
instance {a : Act} {av : AV T} : Mono (av.is a) := ⟨fun g h => av.mono g h⟩

theorem AV.congr {a a' : Act} (av : AV T) {v : Value} {k : K} (e : ∀ s, av.ment s = true → a'.get s = a.get s) (h : av.is a v k) : av.is a' v k := by
  cases av with
  | al s => exact (show v = a.get s from h).trans (e s (Nat.beq_refl s)).symm
  | ab s t x u L => obtain ⟨h0, b, e1, r⟩ := h; exact ⟨h0, b, (e s (Nat.beq_refl s)).trans e1, r⟩
  | ao s el t xs i x u L =>
    have e := e s (Nat.beq_refl s)
    obtain ⟨h0, h1, h2, h3⟩ := h
    exact ⟨h0, by rw [e]; exact h1, by rw [e]; exact h2, h3⟩
  | mv f s => have e := e s (Nat.beq_refl s); show v = _; rw [e]; exact h
  | _ => exact h

theorem AV.lt {a : Act} (av : AV T) {v : Value} {k : K} (h : av.is a v k) : ∀ b, av.fp v k b → b < k.w.heap.size ∧ ¬ k.sh b := by
  intro b hb
  cases av with
  | own l e t xs => exact ⟨(IsOwn.lt h b hb).2.1, (IsOwn.lt h b hb).2.2⟩
  | box l t x =>
    obtain ⟨c, e, h⟩ := h
    rw [show v = _ from hb] at e
    simp only [Value.pointer.injEq, Option.some.injEq, Addr.mk.injEq, and_true] at e
    subst e
    exact ⟨h.lt, h.own⟩
  | rs l m x => exact Rk.lt (κ := .c m) h b hb
  | tr lf κ x l =>
    obtain ⟨u, vs, rfl, h1, h2⟩ := h
    exact Rk.lt h1 b hb
  | _ => exact hb.elim
theorem fp_nonres {av : AV T} (h : isRes av = false) (v : Value) (k : K) (b : Nat) : ¬ av.fp v k b := by
  intro hb
  cases av with
  | own l e t xs => simp [isRes] at h
  | box l t x => simp [isRes] at h
  | rs l m x => simp [isRes] at h
  | tr lf κ x l => simp [isRes] at h
  | _ => exact hb.elim
theorem unl_res {av : AV T} (h : unl av = true) : isRes av = true := by
  cases av with
  | own l e t xs => rfl
  | box l t x => rfl
  | rs l m x => rfl
  | tr lf κ x l => rfl
  | _ => simp [unl] at h

def isOB : AV T → Bool
  | .own _ _ _ _ => true
  | .box _ _ _ => true
  | _ => false
/-- under a change of blocks that are not its own -/
theorem AV.keep {a : Act} (av : AV T) {v : Value} {k k' : K} {G : FP} (c : Chg G k k') (hn : ∀ b, G b → ¬ k.sh b) (hf : Apart (av.fp v k) G)
    (hm : ∀ s, av.ment2 s = true → ∀ u : AV T, isOB u = true → u.is a (a.get s) k → Apart (u.fp (a.get s) k) G) (h : av.is a v k) : av.is a v k' := by
  have hle := c.le hn
  cases av with
  | top => trivial
  | any => trivial
  | nil => exact h
  | v t x => exact Pers.pers (R := IsV x) hle h
  | fl t xs => exact Pers.pers (R := IsFull xs) hle h
  | e0 => exact h
  | tup l => obtain ⟨vs, e, h⟩ := h; exact ⟨vs, e, h.le hle⟩
  | ref t x => exact Pers.pers (R := IsRef x) hle h
  | own b e t xs => exact IsOwn.keep h c hf hn
  | box b t x => obtain ⟨b, e, h⟩ := h; exact ⟨b, e, h.keep c (hf b e) hn⟩
  | al s => exact h
  | ab s t x u L =>
    obtain ⟨h0, b, e1, e2, h⟩ := h
    exact ⟨h0, b, e1, e2, h.keep c (hm s (Nat.beq_refl s) (.box false t x) rfl ⟨b, e1, h⟩ b e1) hn⟩
  | ao s e t xs i x u L =>
    exact ⟨h.1, h.2.1, IsOwn.keep h.2.2.1 c (hm s (Nat.beq_refl s) (.own false e t xs) rfl h.2.2.1) hn, h.2.2.2⟩
  | rs b m x => exact (Rk.keep (κ := .c m) h c hn hf).1
  | tr lf κ x l => obtain ⟨u, vs, rfl, h1, h2⟩ := h; exact ⟨u, vs, rfl, (Rk.keep h1 c hn hf).1, h2.le hle⟩
  | tq l => obtain ⟨u, vs, e, h2⟩ := h; exact ⟨u, vs, e, h2.le hle⟩
  | mv f s => exact h
theorem AV.fp_keep {a : Act} (av : AV T) {v : Value} {k k' : K} {G : FP} (c : Chg G k k') (hn : ∀ b, G b → ¬ k.sh b) (hf : Apart (av.fp v k) G) (h : av.is a v k) : av.fp v k' = av.fp v k := by
  cases av with
  | rs b m x => exact (Rk.keep (κ := .c m) h c hn hf).2
  | tr lf κ x l => obtain ⟨u, vs, rfl, h1, h2⟩ := h; exact (Rk.keep h1 c hn hf).2
  | _ => rfl
theorem AV.fp_grow {a : Act} (av : AV T) {v : Value} {k k' : K} (g : Grow k k') (h : av.is a v k) : av.fp v k' = av.fp v k :=
  av.fp_keep (Chg.of (F := noF) g) (fun _ f => f.elim) (fun _ _ f => f.elim) h
/-- under a handing over of blocks that are not its own -/
theorem AV.handed {a : Act} (av : AV T) {v : Value} {k k' : K} {G : FP} (c : Handed k k' G) (hf : Apart (av.fp v k) G)
    (hm : ∀ s, av.ment2 s = true → ∀ u : AV T, isOB u = true → u.is a (a.get s) k → Apart (u.fp (a.get s) k) G) (h : av.is a v k) : av.is a v k' := by
  have hle := c.le
  cases av with
  | top => trivial
  | any => trivial
  | nil => exact h
  | v t x => exact Pers.pers (R := IsV x) hle h
  | fl t xs => exact Pers.pers (R := IsFull xs) hle h
  | e0 => exact h
  | tup l => obtain ⟨vs, e, h⟩ := h; exact ⟨vs, e, h.le hle⟩
  | ref t x => exact Pers.pers (R := IsRef x) hle h
  | own b e t xs => exact IsOwn.handed h c hf
  | box b t x => obtain ⟨b, e, h⟩ := h; exact ⟨b, e, h.handed c (hf b e)⟩
  | al s => exact h
  | ab s t x u L =>
    obtain ⟨h0, b, e1, e2, h⟩ := h
    exact ⟨h0, b, e1, e2, h.handed c (hm s (Nat.beq_refl s) (.box false t x) rfl ⟨b, e1, h⟩ b e1)⟩
  | ao s e t xs i x u L =>
    exact ⟨h.1, h.2.1, IsOwn.handed h.2.2.1 c (hm s (Nat.beq_refl s) (.own false e t xs) rfl h.2.2.1), h.2.2.2⟩
  | rs b m x => exact (Rk.handed (κ := .c m) h c hf).1
  | tr lf κ x l => obtain ⟨u, vs, rfl, h1, h2⟩ := h; exact ⟨u, vs, rfl, (Rk.handed h1 c hf).1, h2.le hle⟩
  | tq l => obtain ⟨u, vs, e, h2⟩ := h; exact ⟨u, vs, e, h2.le hle⟩
  | mv f s => exact h
theorem AV.fp_handed {a : Act} (av : AV T) {v : Value} {k k' : K} {G : FP} (c : Handed k k' G) (hf : Apart (av.fp v k) G) (h : av.is a v k) : av.fp v k' = av.fp v k := by
  cases av with
  | rs b m x => exact (Rk.handed (κ := .c m) h c hf).2
  | tr lf κ x l => obtain ⟨u, vs, rfl, h1, h2⟩ := h; exact (Rk.handed h1 c hf).2
  | _ => rfl

theorem beq_ne {s t : Nat} (h : s ≠ t) : Nat.beq s t = false := by
  cases hb : Nat.beq s t with
  | true => exact absurd (Nat.eq_of_beq_eq_true hb) h
  | false => rfl
theorem kl_or (d : Nat) (x : AV T) : kl d x = x ∨ kl d x = .top := by
  unfold kl
  split
  · cases Nat.beq _ d <;> simp
  · cases Nat.beq _ d <;> simp
  · exact .inl rfl
theorem klA_or (d : Nat) (x : AV T) : klA d x = x ∨ klA d x = .top := by
  unfold klA
  split
  · cases Nat.beq _ d <;> simp
  · cases Nat.beq _ d <;> simp
  · exact kl_or d _
theorem klA_ment {d s : Nat} {x : AV T} (h : (klA d x).ment s = true) : x.ment s = true ∧ s ≠ d := by
  have ne : ∀ s' : Nat, Nat.beq s' d = false → Nat.beq s' s = true → s ≠ d := fun s' h1 h2 e => by
    rw [← e, h2] at h1; simp at h1
  cases x with
  | al s' =>
    simp only [klA] at h
    cases hb : Nat.beq s' d with
    | true => rw [hb] at h; simp [AV.ment] at h
    | false => rw [hb] at h; exact ⟨h, ne _ hb h⟩
  | mv f s' =>
    simp only [klA] at h
    cases hb : Nat.beq s' d with
    | true => rw [hb] at h; simp [AV.ment] at h
    | false => rw [hb] at h; exact ⟨h, ne _ hb h⟩
  | ab s' t x u L =>
    simp only [klA, kl] at h
    cases hb : Nat.beq s' d with
    | true => rw [hb] at h; simp [AV.ment] at h
    | false => rw [hb] at h; exact ⟨h, ne _ hb h⟩
  | ao s' e t xs i x u L =>
    simp only [klA, kl] at h
    cases hb : Nat.beq s' d with
    | true => rw [hb] at h; simp [AV.ment] at h
    | false => rw [hb] at h; exact ⟨h, ne _ hb h⟩
  | _ => simp [klA, kl, AV.ment] at h
theorem klA_res {d : Nat} {x : AV T} (h : isRes x = true) : klA d x = x := by
  cases x <;> first | rfl | simp [isRes] at h
theorem lk_cons (s : Nat) (x : AV T) (e : Env T) (t : Nat) : lk ((s, x) :: e) t = if s = t then x else lk e t := by
  simp only [lk]
  by_cases h : s = t
  · subst h; simp [Nat.beq_refl]
  · rw [beq_ne h]; simp [h]
def mapE (f : AV T → AV T) (e : Env T) : Env T := e.map fun p => (p.1, f p.2)
theorem mapK_eq (f : AV T → AV T) : ∀ (e : Env T) (k : Env T → Option R), mapK f e k = k (mapE f e)
  | [], _ => rfl
  | (t, a) :: e, k => by rw [mapK, mapK_eq f e]; rfl
theorem lk_mapE {f : AV T → AV T} (hf : f .top = .top) : ∀ (e : Env T) (t : Nat), lk (mapE f e) t = f (lk e t)
  | [], t => hf.symm
  | (s, x) :: e, t => by
    show lk ((s, f x) :: mapE f e) t = _
    rw [lk_cons, lk_cons, lk_mapE hf e]
    split <;> rfl

/-- The package-level variables hold what the table says. -/
def GOk (T : Tb) (k : K) : Prop := (∀ g t x, T.gl g = some ⟨t, x⟩ → IsRef (α := T.D t) x (.pointer (some ⟨g, 0, none⟩)) k) ∧ ∀ g, T.gi = some g → ∃ m : Int, IsRef m (.pointer (some ⟨g, 0, none⟩)) k
theorem GOk.le {k k' : K} (h : Le k k') (g : GOk T k) : GOk T k' := ⟨fun i t x e => Pers.pers h (g.1 i t x e), fun i e => (g.2 i e).imp fun _ r => Pers.pers h r⟩
/-- What an environment says. -/
structure Hl (n : Nat) (F : FP) (k0 : K) (W : List Nat) (a0 : Act) (e : Env T) (a : Act) (k : K) : Prop where
  g : Chg F k0 k
  s : a.tmps.size = n
  d : a.defers = []
  old : ∀ t, t ∉ W → a.get t = a0.get t
  sl : ∀ t, (lk e t).is a (a.get t) k
  inv : ∀ t s, (lk e t).ment s = true → isRes (lk e s) = true
  wr : ∀ t, unl (lk e t) = true → Wr F k0 ((lk e t).fp (a.get t) k)
  ap : ∀ t t', t ≠ t' → Apart ((lk e t).fp (a.get t) k) ((lk e t').fp (a.get t') k)
  gl : GOk T k

section
variable {n : Nat} {F : FP} {k0 : K} {W : List Nat} {a0 : Act} {e : Env T} {a a' : Act} {k k' : K}

theorem Hl.lt (h : Hl n F k0 W a0 e a k) (t : Nat) : ∀ b, (lk e t).fp (a.get t) k b → b < k.w.heap.size ∧ ¬ k.sh b := (lk e t).lt (h.sl t)

/-- what a slot that is mentioned is like -/
theorem Hl.apm (h : Hl n F k0 W a0 e a k) {s s0 : Nat} (hs : isRes (lk e s) = true) (hne : s ≠ s0) {u : AV T} (hu : isOB u = true) (hi : u.is a (a.get s) k) :
    Apart (u.fp (a.get s) k) ((lk e s0).fp (a.get s0) k) := by
  have hap := h.ap s s0 hne
  have hsl := h.sl s
  have key : ∀ b, u.fp (a.get s) k b → (lk e s).fp (a.get s) k b := by
    intro b hb
    generalize lk e s = x at hs hsl
    generalize a.get s = v at *
    cases u with
    | own l e' t xs => cases x with
      | own l' e'' t' xs' => exact hb
      | box l' t' x' => obtain ⟨c, rfl, _⟩ := hsl; simp [AV.fp, obF, ob] at hb
      | rs l' m z =>
        obtain ⟨F, h1⟩ := hsl
        show Rk.fp T (.c m) v k b
        rw [rp_fp h1]
        exact T.RProot _ _ _ _ _ _ h1 (.inr hb)
      | tr lf κ z l' =>
        obtain ⟨u, vs, rfl, _⟩ := hsl
        simp [AV.fp, obF, ob] at hb
      | _ => simp [isRes] at hs
    | box l t y => cases x with
      | own l' e'' t' xs' =>
        obtain ⟨c, rfl, _⟩ := hi
        rcases (show IsOwn 0 e'' xs' _ k from hsl) with ⟨e1, _⟩ | ⟨_, e1, _⟩ | ⟨_, _, _, _, _, e1, _⟩ <;> simp at e1
      | box l' t' x' => exact hb
      | rs l' m z =>
        obtain ⟨F, h1⟩ := hsl
        show Rk.fp T (.c m) v k b
        rw [rp_fp h1]
        exact T.RProot _ _ _ _ _ _ h1 (.inl hb)
      | tr lf κ z l' =>
        obtain ⟨u, vs, rfl, _⟩ := hsl
        obtain ⟨c, e, _⟩ := hi
        simp at e
      | _ => simp [isRes] at hs
    | _ => simp [isOB] at hu
  exact fun b hb => hap b (key b hb)

/-- A new value in a slot. -/
theorem Hl.put (h : Hl n F k0 W a0 e a k) {d : Nat} {av : AV T} (hd : d ∈ W) (hg : Grow k k') (hs : a'.tmps.size = a.tmps.size) (hdf : a'.defers = a.defers)
    (ho : ∀ t, t ≠ d → a'.get t = a.get t) (hv : av.is a' (a'.get d) k') (hm : ∀ s, av.ment s = true → isRes (lk e s) = true)
    (hw : unl av = true → Wr F k0 (av.fp (a'.get d) k')) (ha : ∀ t, t ≠ d → Apart (av.fp (a'.get d) k') ((lk e t).fp (a.get t) k)) {r : R} {K : Env T → Option R} (hk : Gb.put e d av K = some r) :
    ∃ e', K e' = some r ∧ Hl n F k0 W a0 e' a' k' ∧ lk e' d = av ∧ ∀ t, t ≠ d → lk e' t = lk e t ∨ lk e' t = .top := by
  have fin : (av.ment d = false) → ∀ e1 : Env T, (∀ t, t ≠ d → lk e1 t = lk e t ∨ lk e1 t = .top) → (∀ t s, t ≠ d → (lk e1 t).ment s = true → s ≠ d) → (∀ s, isRes (lk e s) = true → s ≠ d → lk e1 s = lk e s) → Hl n F k0 W a0 ((d, av) :: e1) a' k' ∧ lk ((d, av) :: e1) d = av ∧ ∀ t, t ≠ d → lk ((d, av) :: e1) t = lk e t ∨ lk ((d, av) :: e1) t = .top := by
    intro hmd e1 h1 h2 h3
    have lkt : ∀ t, t ≠ d → lk ((d, av) :: e1) t = lk e1 t := fun t ht => by rw [lk_cons, if_neg (Ne.symm ht)]
    have lkd : lk ((d, av) :: e1) d = av := by rw [lk_cons, if_pos rfl]
    refine ⟨?_, lkd, fun t ht => by rw [lkt t ht]; exact h1 t ht⟩
    refine ⟨h.g.then hg, hs.trans h.s, hdf.trans h.d, fun t ht => ?_, fun t => ?_, fun t s hms => ?_, fun t hu => ?_, fun t t' hne => ?_, h.gl.le hg.le⟩
    · rw [ho t (fun e => ht (e ▸ hd))]; exact h.old t ht
    · by_cases ht : t = d
      · subst ht; rw [lkd]; exact hv
      · rw [lkt t ht, ho t ht]
        rcases h1 t ht with e1' | e1'
        · rw [e1']
          refine (lk e t).congr (fun s hs' => ho s (h2 t s ht (by rw [e1']; exact hs'))) ((lk e t).mono hg (h.sl t))
        · rw [e1']; trivial
    · by_cases ht : t = d
      · subst ht; rw [lkd] at hms
        have h5 := hm s hms
        have h4 : s ≠ t := fun e => by rw [e, hmd] at hms; simp at hms
        rw [lkt s h4, h3 s h5 h4]; exact h5
      · rw [lkt t ht] at hms
        have h4 := h2 t s ht hms
        rcases h1 t ht with e1' | e1'
        · rw [e1'] at hms
          have h5 := h.inv t s hms
          rw [lkt s h4, h3 s h5 h4]; exact h5
        · rw [e1'] at hms; simp [AV.ment] at hms
    · by_cases ht : t = d
      · subst ht; rw [lkd] at hu ⊢; exact hw hu
      · rw [lkt t ht] at hu ⊢
        rw [ho t ht]
        rcases h1 t ht with e1' | e1'
        · rw [e1'] at hu ⊢; rw [AV.fp_grow _ hg (h.sl t)]; exact h.wr t hu
        · rw [e1'] at hu; simp [unl] at hu
    · have sub : ∀ t, t ≠ d → ∀ b, (lk ((d, av) :: e1) t).fp (a'.get t) k' b → (lk e t).fp (a.get t) k b := by
        intro t ht b hb
        rw [lkt t ht, ho t ht] at hb
        rcases h1 t ht with e1' | e1'
        · rw [e1', AV.fp_grow _ hg (h.sl t)] at hb; exact hb
        · rw [e1'] at hb; exact hb.elim
      by_cases ht : t = d
      · subst ht
        rw [lkd]
        exact fun b hb hb' => ha t' (Ne.symm hne) b hb (sub t' (Ne.symm hne) b hb')
      · by_cases ht' : t' = d
        · subst ht'
          rw [lkd]
          exact fun b hb hb' => ha t ht b hb' (sub t ht b hb)
        · exact fun b hb hb' => h.ap t t' hne b (sub t ht b hb) (sub t' ht' b hb')
  unfold Gb.put at hk
  cases hmd : av.ment d with
  | true => rw [hmd] at hk; simp at hk
  | false =>
  rw [hmd] at hk
  simp only [cond_false] at hk
  cases hr : isRes (lk e d) with
  | true =>
    rw [hr] at hk
    simp only [cond_true] at hk
    rw [mapK_eq] at hk
    have hl : ∀ t, lk (mapE (klA d) e) t = klA d (lk e t) := fun t => lk_mapE rfl e t
    refine ⟨_, hk, fin hmd _ (fun t _ => ?_) (fun t s _ hms => ?_) (fun s hsr _ => ?_)⟩
    · rw [hl]; exact klA_or d _
    · rw [hl] at hms
      exact (klA_ment hms).2
    · rw [hl]; exact klA_res hsr
  | false =>
    rw [hr] at hk
    simp only [cond_false] at hk
    refine ⟨_, hk, fin hmd e (fun t _ => .inl rfl) (fun t s _ hms => ?_) (fun s _ _ => rfl)⟩
    intro e'; subst e'
    have := h.inv t s hms
    rw [hr] at this; simp at this
end
end Go.Gb

/- General part of the proofs: each operation that writes to nothing does what the evaluator says. -/
namespace Go.Gb
variable {T : Tb} {R : Type}

/-! types and parts -/
theorem Upd.comp {α β γ : Type} [Enc α] [Enc β] [Enc γ] {o p : Nat} {g : α → β} {s : α → β → α} {r : β → γ → β} (h : Upd o s) (hg : ∀ (k : K) (cs : List Value) (x : α), Enc.rep k cs x → Enc.rep k ((cs.drop o).take (Enc.sz β)) (g x))
    (h' : Upd p r) : Upd (α := α) (β := γ) (o + p) (fun x y => s x (r (g x) y)) := by
  intro k cs cy x y hx hy
  have hg := hg k cs x hx
  obtain ⟨h1, h2⟩ := h' k _ cy _ y hg hy
  obtain ⟨h3, h4⟩ := h k cs _ x _ hx h2
  have l1 := Enc.len hx
  have l2 := Enc.len hy
  have l3 := Enc.len h2
  refine ⟨by omega, ?_⟩
  have e : cs.take (o + p) ++ cy ++ cs.drop (o + p + cy.length) = cs.take o ++ (((cs.drop o).take (Enc.sz β)).take p ++ cy ++ ((cs.drop o).take (Enc.sz β)).drop (p + cy.length)) ++ cs.drop (o + (((cs.drop o).take (Enc.sz β)).take p ++ cy ++ ((cs.drop o).take (Enc.sz β)).drop (p + cy.length)).length) := by
    rw [l3, List.take_take, Nat.min_eq_left (by omega), List.take_add]
    simp only [List.append_assoc]
    congr 3
    rw [List.drop_take, List.drop_drop]
    have e2 : cs.drop (o + Enc.sz β) = (cs.drop (o + p + cy.length)).drop (Enc.sz β - (p + cy.length)) := by
      rw [List.drop_drop]; congr 1; omega
    rw [e2, show o + (p + cy.length) = o + p + cy.length by omega, List.take_append_drop]
  rw [e]; exact h4
end Go.Gb

/- General part of the proofs: each operation that writes to nothing does what the evaluator says. -/
namespace Go.Gb
variable {T : Tb} {R : Type}

end Go.Gb

/- General part of the proofs: each operation that writes to nothing does what the evaluator says, continued. -/
namespace Go.Gb
variable {T : Tb} {R : Type}
section
variable {e : Env T} {a0 a : Act} {k : K} {P : Program} {o : Oper}

/-! zero values -/
end
end Go.Gb

/- General part of the proofs: each operation that writes to nothing does what the evaluator says: structs, slices, calls; all of them. -/
namespace Go.Gb
variable {T : Tb} {R : Type}

def HIs : (l : List Tp) → HL T.S l → List Value → K → Prop
  | [], _, [], _ => True
  | [_], x, [u], k => IsV x u k
  | _ :: b :: l, x, u :: us, k => IsV x.1 u k ∧ HIs (b :: l) x.2 us k
  | _, _, _, _ => False
/-- The arguments: values, and what is turned (u1) and taken over (u2). -/
def PIs : (l : List Pm) → HL T.S (valsP l) → (u1 u2 : Value) → List Value → K → Prop
  | [], _, _, _, [], _ => True
  | .v t :: l, x, u1, u2, v :: vs, k => IsV (α := T.D t) (hdH x) v k ∧ PIs l (tlH x) u1 u2 vs k
  | .tu :: l, x, u1, u2, v :: vs, k => v = u1 ∧ PIs l x u1 u2 vs k
  | .tk :: l, x, u1, u2, v :: vs, k => v = u2 ∧ PIs l x u1 u2 vs k
  | .fn g :: l, x, u1, u2, v :: vs, k => v = .func (.func g) #[] #[] ∧ PIs l x u1 u2 vs k
  | _, _, _, _, _, _ => False
section
variable {e : Env T} {a0 a : Act} {k : K} {P : Program} {o : Oper}
theorem HIs.le {k k' : K} (hl : Le k k') : ∀ {l : List Tp} {x : HL T.S l} {vs : List Value}, HIs l x vs k → HIs l x vs k'
  | [], _, [], _ => trivial
  | [t], x, [_], h => Pers.pers (R := IsV (α := T.D t) x) hl h
  | t :: _ :: _, x, _ :: _, h => ⟨Pers.pers (R := IsV (α := T.D t) x.1) hl h.1, HIs.le hl h.2⟩
  | [], _, _ :: _, h => h.elim
  | [_], _, [], h => h.elim
  | [_], _, _ :: _ :: _, h => h.elim
  | _ :: _ :: _, _, [], h => h.elim
end
end Go.Gb

/- General part of the proofs: each operation that writes to nothing does what the evaluator says: all of them. -/
namespace Go.Gb
variable {T : Tb} {R : Type}
end Go.Gb

/- General part of the proofs: the operations of a region that may run in any order. -/
namespace Go.Gb
variable {T : Tb} {R : Type}

theorem lastIdx_none {t : Nat} : ∀ {l : List Oper} {i : Nat} {r : Option Nat}, lastIdx t l i r = none → r = none ∧ ∀ o ∈ l, o.dst ≠ some t
  | [], _, _, h => ⟨h, by simp⟩
  | o :: l, i, r, h => by
    simp only [lastIdx] at h
    obtain ⟨h1, h2⟩ := lastIdx_none h
    cases hd : o.dst with
    | none => rw [hd] at h1; exact ⟨h1, by simpa [hd] using h2⟩
    | some d =>
      rw [hd] at h1
      cases hb : Nat.beq d t with
      | true => simp only [hb] at h1; simp at h1
      | false =>
        simp only [hb] at h1
        refine ⟨h1, ?_⟩
        simp only [List.mem_cons, forall_eq_or_imp]
        exact ⟨by rw [hd]; intro e; rw [Option.some.inj e, Nat.beq_refl] at hb; simp at hb, h2⟩
theorem lastIdx_spec {t : Nat} : ∀ {l : List Oper} {i : Nat} {r : Option Nat} {j : Nat}, lastIdx t l i r = some j → r = some j ∨ ∃ o, i ≤ j ∧ nth l (j - i) = some o ∧ o.dst = some t
  | [], _, _, _, h => .inl h
  | o :: l, i, r, j, h => by
    simp only [lastIdx] at h
    rcases lastIdx_spec h with h1 | ⟨o', h1, h2, h3⟩
    · cases hd : o.dst with
      | none => rw [hd] at h1; exact .inl h1
      | some d =>
        rw [hd] at h1
        cases hb : Nat.beq d t with
        | true =>
          simp only [hb, cond_true, Option.some.injEq] at h1
          subst h1
          exact .inr ⟨o, Nat.le_refl _, by simp [nth], by rw [hd, Nat.eq_of_beq_eq_true hb]⟩
        | false => simp only [hb] at h1; exact .inl h1
    · exact .inr ⟨o', by omega, by rw [show j - i = (j - (i + 1)) + 1 by omega]; exact h2, h3⟩

theorem nth_app {α : Type} : ∀ {l m : List α} {i : Nat} {x : α}, nth l i = some x → nth (l ++ m) i = some x
  | _ :: _, _, 0, _, h => h
  | _ :: l, m, i + 1, x, h => nth_app (l := l) h
  | [], _, _, _, h => by simp [nth] at h
section
variable {C : Cx T} {n : Nat} {F : FP} {kk : K} {W : List Nat} {aa : Act} {e0 : Env T} {a0 : Act} {k0 : K}

/-- What is known when some operations of a region have run. -/
structure P1 (e0 : Env T) (a0 : Act) (pre : List Oper) (es : List Ent) (e : Env T) : Prop where
  len : es.length = pre.length
  slot : ∀ t, (match lastIdx t pre 0 none with
    | some j => ∃ R nd, nth es j = some ⟨R, nd⟩ ∧ (lk e t = .top ∨ ∃ R', R = some R' ∧ ∀ v k, R' v k → (lk e t).is a0 v k)
    | none => lk e t = lk e0 t)
  res : ∀ t, isRes (lk e t) = true → lastIdx t pre 0 none = none
  inv : ∀ t s, (lk e t).ment s = true → isRes (lk e s) = true

theorem tops_lk {e : Env T} : ∀ {gr : OpL} {t : Nat}, (lk (tops gr e) t = .top ∧ ∃ x ∈ gr, x.2.dst = some t) ∨ (lk (tops gr e) t = lk e t ∧ ∀ x ∈ gr, x.2.dst ≠ some t)
  | [], t => .inr ⟨rfl, by simp⟩
  | (i, o) :: l, t => by
    simp only [tops]
    cases hd : o.dst with
    | none =>
      rcases tops_lk (gr := l) (t := t) with ⟨h1, x, hx, h2⟩ | ⟨h1, h2⟩
      · exact .inl ⟨h1, x, by simp [hx], h2⟩
      · exact .inr ⟨h1, by simpa [hd] using h2⟩
    | some d =>
      dsimp only
      rw [lk_cons]
      by_cases e1 : d = t
      · subst e1
        rw [if_pos rfl]
        exact .inl ⟨rfl, (i, o), by simp, hd⟩
      · rw [if_neg e1]
        rcases tops_lk (gr := l) (t := t) with ⟨h1, x, hx, h2⟩ | ⟨h1, h2⟩
        · exact .inl ⟨h1, x, by simp [hx], h2⟩
        · exact .inr ⟨h1, by simp only [List.mem_cons, forall_eq_or_imp]; exact ⟨by rw [hd]; intro e; exact e1 (Option.some.inj e), h2⟩⟩

theorem lastIdx_skip {t : Nat} : ∀ {m : List Oper} {i : Nat} {r : Option Nat}, (∀ o ∈ m, o.dst ≠ some t) → lastIdx t m i r = r
  | [], _, _, _ => rfl
  | o :: m, i, r, h => by
    simp only [lastIdx]
    rw [lastIdx_skip fun o' ho' => h o' (by simp [ho'])]
    have := h o (by simp)
    cases hd : o.dst with
    | none => rfl
    | some d =>
      rw [hd] at this
      have hne : d ≠ t := fun e => this (congrArg some e)
      simp only [beq_ne hne, cond_false]
theorem lastIdx_app {t : Nat} : ∀ {l m : List Oper} {i : Nat} {r : Option Nat}, (∀ o ∈ m, o.dst ≠ some t) → lastIdx t (l ++ m) i r = lastIdx t l i r
  | [], m, i, r, h => lastIdx_skip h
  | x :: l, m, i, r, h => by simp only [List.cons_append, lastIdx]; exact lastIdx_app h

/-- operations that do not count any more -/
theorem P1.tops {pre cs : List Oper} {es es1 : List Ent} {e e' : Env T} {gr : OpL} (p : P1 e0 a0 pre es e) (hg : gr.map (·.2) = cs) (q : P1 e0 a0 (pre ++ cs) (es ++ es1) e' ∨ es1.length = cs.length)
    (hr : ∀ x ∈ gr, ∀ d, x.2.dst = some d → isRes (lk e d) = false) : P1 e0 a0 (pre ++ cs) (es ++ es1) (tops gr e) := by
  have hlen : es1.length = cs.length := by
    rcases q with q | q
    · have := q.len; have := p.len; simp at *; omega
    · exact q
  have hin : ∀ t, (∃ x ∈ gr, x.2.dst = some t) ↔ ∃ o ∈ cs, o.dst = some t := fun t => by
    rw [← hg]
    constructor
    · rintro ⟨x, hx, hd⟩; exact ⟨x.2, List.mem_map.2 ⟨x, hx, rfl⟩, hd⟩
    · rintro ⟨o, ho, hd⟩
      obtain ⟨x, hx, rfl⟩ := List.mem_map.1 ho
      exact ⟨x, hx, hd⟩
  refine ⟨by simp [p.len, hlen], fun t => ?_, fun t ht => ?_, fun t s hms => ?_⟩
  · rcases tops_lk (e := e) (gr := gr) (t := t) with ⟨h1, h2⟩ | ⟨h1, h2⟩
    · rw [h1]
      obtain ⟨o, ho, hd⟩ := (hin t).1 h2
      cases hl : lastIdx t (pre ++ cs) 0 none with
      | none => exact absurd hd ((lastIdx_none hl).2 o (by simp [ho]))
      | some j =>
        rcases lastIdx_spec hl with h3 | ⟨o', _, h3, _⟩
        · simp at h3
        · have hj := nth_lt h3
          have : j < (es ++ es1).length := by simp [p.len, hlen] at *; omega
          refine ⟨((es ++ es1)[j]).R, ((es ++ es1)[j]).need, ?_, .inl rfl⟩
          rw [nth_eq, List.getElem?_eq_getElem this]
    · rw [h1]
      have h3 : ∀ o ∈ cs, o.dst ≠ some t := fun o ho hd => by
        obtain ⟨x, hx, hd'⟩ := (hin t).2 ⟨o, ho, hd⟩
        exact h2 x hx hd'
      rw [lastIdx_app h3]
      have := p.slot t
      split
      · rename_i j hj
        rw [hj] at this
        obtain ⟨R, nd, h4, h5⟩ := this
        exact ⟨R, nd, nth_app h4, h5⟩
      · rename_i hj
        rw [hj] at this
        exact this
  · rcases tops_lk (e := e) (gr := gr) (t := t) with ⟨h1, h2⟩ | ⟨h1, h2⟩
    · rw [h1] at ht; simp [isRes] at ht
    · rw [h1] at ht
      rw [lastIdx_app fun o ho hd => by
        obtain ⟨x, hx, hd'⟩ := (hin t).2 ⟨o, ho, hd⟩
        exact h2 x hx hd']
      exact p.res t ht
  · have h3 : isRes (lk e s) = true := by
      rcases tops_lk (e := e) (gr := gr) (t := t) with ⟨h1, h2⟩ | ⟨h1, h2⟩
      · rw [h1] at hms; simp [AV.ment] at hms
      · rw [h1] at hms; exact p.inv t s hms
    rcases tops_lk (e := e) (gr := gr) (t := s) with ⟨h1, x, hx, hd⟩ | ⟨h1, h2⟩
    · rw [hr x hx s hd] at h3; simp at h3
    · rw [h1]; exact h3

end
end Go.Gb


