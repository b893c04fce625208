/- The general part of the proofs (no program in sight): worlds with shared blocks, regions, operations, calls, loops, what comes in as data, part 2 -/
import Derived.Test.YtachpkjjlebadaaGreatL1
set_option linter.unusedVariables false
set_option linter.unusedSimpArgs false
/- General part of the proofs: separation, handing over, arrays, comparisons. -/
namespace Go.Gb
section
variable {P : Program} {o : Oper} {a a0 : Act} {k k' k0 : K} {R S : Pred} {α β : Type} [Enc α] [Enc β]

/-- Behind the handing over of a slice. -/
structure Shared (k k' : K) (r : Option Nat) : Prop where
  w : k'.w = k.w
  le : Le k k'
  sh : ∀ b, k'.sh b → k.sh b ∨ r = some b
theorem IsOwn.hand {B : Nat} {e : TypeId} {xs : List α} {v : Value} (h : IsOwn B e xs v k) (hg : Grow k0 k) (hB : k0.w.heap.size ≤ B) :
    ∃ k' : K, Shared k k' (ob v) ∧ Grow k0 k' ∧ IsV xs v k' := by
  obtain ⟨k', hw, hle, hg', hv, hs⟩ := h.share hg hB
  exact ⟨k', ⟨hw, hle, hs⟩, hg', hv⟩
theorem Box.hand {b : Nat} {x : α} (h : Box b x k) (hb : b < k.w.heap.size) (hg : Grow k0 k) (hn : k0.w.heap.size ≤ b) :
    ∃ k' : K, Shared k k' (some b) ∧ Grow k0 k' ∧ IsRef x (.pointer (some ⟨b, 0, none⟩)) k' :=
  ⟨k.share b hb, ⟨rfl, K.share_le k b hb, fun i hi => hi.imp id (fun e => by rw [e])⟩, hg.share hb hn, h.share⟩
theorem IsOwn.nsh {B : Nat} {e : TypeId} {xs : List α} {v : Value} (h : IsOwn B e xs v k) : ∀ b, ob v = some b → ¬ k.sh b := fun b hb => (h.lt b hb).2.2
theorem IsOwn.lo {B : Nat} {e : TypeId} {xs : List α} {v : Value} (h : IsOwn B e xs v k) : ∀ b, ob v = some b → B ≤ b := fun b hb => (h.lt b hb).1

/-- Two resources are apart. -/
def Sep (r s : Option Nat) : Prop := ∀ b, r = some b → s ≠ some b
theorem Sep.symm {r s : Option Nat} (h : Sep r s) : Sep s r := fun b e f => h b f e
theorem Sep.box {r : Option Nat} {b : Nat} (h : Sep r (some b)) : r ≠ some b := fun e => h b e rfl
theorem ok_moveOA {x : Operand} {u : Value} {B : Nat} {e : TypeId} {xs : List α} (ho : o.op = .move x ∨ o.op = .assign x) (h : OwnAt u B e xs (a.eval x) k) : Does P o a k (OwnAt u B e xs) := by
  rcases ho with ho | ho
  · exact ok_move ho h
  · exact ok_assign ho h

theorem cells_agg (cs : Array Value) : (Value.agg cs).cells = cs := rfl
theorem hd1 {x y : Value} (h : [x] = [y]) : x = y := by simpa using h

/-! arrays as pairs -/
theorem ok_slice00 {t e : TypeId} {x : Operand} {xs : List α} {lo : Option Operand} (ho : o.op = .slice t x lo (some (.const (.int .i64 0))) (some (.const (.int .i64 0))))
    (hlo : lo = none ∨ lo = some (.const (.int .i64 0))) (hu : P.underlying t = some (.slice e)) (ht : (P.info? e).map (·.size) = some (Enc.sz α)) (hx : Readable xs (a.eval x) k) : Does P o a k IsE0 := by
  have hsz : ∀ w, (sizeOf e).run P w = .ok (Enc.sz α) w := fun w => run_sizeOf ht
  have b1 : ∀ (c : BoundsCode) (y : Nat) (w : World), (Instr.sliceBound (.int .i64 0) y c).run P w = .ok 0 w := fun c y w => by
    simpa using run_sliceBound (P := P) (i := 0) (y := y) (c := c) (w := w) (by omega) (by omega)
  have ev : ∀ v : Value, a.eval (.const v) = v := fun v => rfl
  rcases hx with ⟨e1, rfl⟩ | ⟨ad, cap, cs, e1, _⟩
  · refine does_pure (v := .slice none 0 0) ?_ (.inl rfl)
    rcases hlo with rfl | rfl <;>
    · simp only [execOp, ho, e1]
      simp [Instr.sliceAt, Instr.slice, run_underlying hu, Instr.sliceBounds, b1, hsz, ev]
  · refine does_pure (v := .slice (some ad) 0 0) ?_ (.inr ⟨ad, rfl⟩)
    rcases hlo with rfl | rfl <;>
    · simp only [execOp, ho, e1]
      simp [Instr.sliceAt, Instr.slice, run_underlying hu, Instr.sliceBounds, b1, hsz, ev]

/-! comparisons -/
theorem ok_eqS {t u : TypeId} {x y : Operand} {b c : ByteArray} (ho : o.op = .binOp .eql t x y u) (hx : IsV b (a.eval x) k) (hy : IsV c (a.eval y) k) : Does P o a k (IsV (b.toList == c.toList)) := by
  have hx := isV_str.1 hx; have hy := isV_str.1 hy
  refine does_pure (v := .bool (b.toList == c.toList)) ?_ (isV_bool.2 rfl)
  simp only [execOp, ho, hx, hy]
  simp [eqGuard, binOp, Op.stringOp]
theorem ok_neS {t u : TypeId} {x y : Operand} {b c : ByteArray} (ho : o.op = .binOp .neq t x y u) (hx : IsV b (a.eval x) k) (hy : IsV c (a.eval y) k) : Does P o a k (IsV (!(b.toList == c.toList))) := by
  have hx := isV_str.1 hx; have hy := isV_str.1 hy
  refine does_pure (v := .bool (!(b.toList == c.toList))) ?_ (isV_bool.2 rfl)
  simp only [execOp, ho, hx, hy]
  simp [eqGuard, binOp, Op.stringOp]

/-- Values of this type are compared part by part. -/
def EqOk (P : Program) (t : TypeId) (α : Type) [Enc α] [DecidableEq α] : Prop :=
  P.eqGuardType P.depth t = false ∧ ∀ (k : K) (x y : α) (u v : Value), IsV x u k → IsV y v k → (∃ cs, u = .agg cs) ∧ (∃ cs, v = .agg cs) ∧ ∀ w, (Op.equal t u v).run P w = .ok (decide (x = y)) w
theorem ok_eqA [DecidableEq α] {t u : TypeId} {x y : Operand} {p q : α} (ho : o.op = .binOp .eql t x y u) (he : EqOk P t α) (hx : IsV p (a.eval x) k) (hy : IsV q (a.eval y) k) :
    Does P o a k (IsV (decide (p = q))) := by
  obtain ⟨hgd, he⟩ := he
  obtain ⟨⟨cs, e1⟩, ⟨ds, e2⟩, hr⟩ := he k p q _ _ hx hy
  refine does_pure (v := .bool (decide (p = q))) ?_ (isV_bool.2 rfl)
  rw [e1, e2] at hr
  simp only [execOp, ho, e1, e2]
  simp [eqGuard, binOp, hr, hgd]
theorem ok_neA [DecidableEq α] {t u : TypeId} {x y : Operand} {p q : α} (ho : o.op = .binOp .neq t x y u) (he : EqOk P t α) (hx : IsV p (a.eval x) k) (hy : IsV q (a.eval y) k) :
    Does P o a k (IsV (!decide (p = q))) := by
  obtain ⟨hgd, he⟩ := he
  obtain ⟨⟨cs, e1⟩, ⟨ds, e2⟩, hr⟩ := he k p q _ _ hx hy
  refine does_pure (v := .bool (!decide (p = q))) ?_ (isV_bool.2 rfl)
  rw [e1, e2] at hr
  simp only [execOp, ho, e1, e2]
  simp [eqGuard, binOp, hr, hgd]
end
end Go.Gb

/- General part of the proofs: what is written, told by the blocks that may be written to. -/
namespace Go.Gb

/-- A set of blocks. -/
abbrev FP := Nat → Prop
def noF : FP := fun _ => False
/-- The block of a slice's array. -/
def obF (v : Value) : FP := fun b => ob v = some b

/-- At most these blocks have been written to, or handed over; there may be new ones. -/
structure Chg (F : FP) (k k' : K) : Prop where
  tape : k'.w.tape = k.w.tape
  os : k'.w.os = k.w.os
  out : k'.w.output = k.w.output
  size : k.w.heap.size ≤ k'.w.heap.size
  blk : ∀ b, b < k.w.heap.size → ¬ F b → k'.w.heap[b]? = k.w.heap[b]?
  up : ∀ b, k.sh b → k'.sh b
  new : ∀ b, b < k.w.heap.size → k'.sh b → k.sh b ∨ F b
  drawn : k.w.drawn ≤ k'.w.drawn

theorem Chg.refl (F : FP) (k : K) : Chg F k k := ⟨rfl, rfl, rfl, Nat.le_refl _, fun _ _ _ => rfl, fun _ h => h, fun _ _ h => .inl h, Nat.le_refl _⟩
theorem Chg.of {F : FP} {k k' : K} (h : Grow k k') : Chg F k k' := ⟨h.tape, h.os, h.out, h.size, fun b hb _ => h.blk b hb, h.up, fun b hb hs => .inl (h.new b hb hs), h.drawn⟩
theorem Chg.grow {k k' : K} (h : Chg noF k k') : Grow k k' := ⟨h.tape, h.os, h.out, h.size, fun b hb => h.blk b hb (fun f => f), h.up, fun b hb hs => (h.new b hb hs).elim id False.elim, h.drawn⟩
theorem Chg.new' {F : FP} {k k' : K} (h : Chg F k k') (b : Nat) (hb : b < k.w.heap.size) (hF : ¬ F b) (hs : k'.sh b) : k.sh b := (h.new b hb hs).elim id (fun f => (hF f).elim)
/-- The blocks may be written to: they are in F, or newer than k. -/
def Wr (F : FP) (k : K) (G : FP) : Prop := ∀ b, G b → F b ∨ k.w.heap.size ≤ b
theorem Chg.step {F G : FP} {a b c : K} (h : Chg F a b) (g : Chg G b c) (hw : Wr F a G) : Chg F a c :=
  ⟨g.tape.trans h.tape, g.os.trans h.os, g.out.trans h.out, Nat.le_trans h.size g.size,
    fun i hi hF => (g.blk i (Nat.lt_of_lt_of_le hi h.size) (fun hG => (hw i hG).elim hF (by omega))).trans (h.blk i hi hF),
    fun i hi => g.up i (h.up i hi), fun i hi hs => (g.new i (Nat.lt_of_lt_of_le hi h.size) hs).elim (h.new i hi) (fun hG => .inr ((hw i hG).elim id (by omega))), Nat.le_trans h.drawn g.drawn⟩
theorem Chg.then {F : FP} {a b c : K} (h : Chg F a b) (g : Grow b c) : Chg F a c := h.step (Chg.of (F := noF) g) (fun _ f => f.elim)
theorem Chg.le {F : FP} {k k' : K} (h : Chg F k k') (hF : ∀ b, F b → ¬ k.sh b) : Le k k' :=
  ⟨fun b hb => h.blk b (k.lt b hb) (fun f => hF b f hb), h.up⟩
theorem Wr.none {F : FP} {k : K} : Wr F k noF := fun _ f => f.elim
theorem Wr.up {F G : FP} {k k' : K} (h : Wr F k G) (hs : k'.w.heap.size ≤ k.w.heap.size) : Wr F k' G := fun b hb => (h b hb).imp id (fun h => by omega)
/-- What is newer than a later world, is newer. -/
theorem Wr.new {F F' G : FP} {k k' : K} (hc : Chg F' k k') (h : ∀ b, G b → k'.w.heap.size ≤ b) : Wr F k G := fun b hb => .inr (Nat.le_trans hc.size (h b hb))

/-- Two sets of blocks are apart. -/
def Apart (F G : FP) : Prop := ∀ b, F b → ¬ G b
theorem Apart.symm {F G : FP} (h : Apart F G) : Apart G F := fun b g f => h b f g
theorem Apart.new {F G : FP} {n : Nat} (hF : ∀ b, F b → b < n) (hG : ∀ b, G b → n ≤ b) : Apart F G := fun b f g => by have := hF b f; have := hG b g; omega
theorem Apart.app {F G G' : FP} {n : Nat} (h : Apart F G) (hF : ∀ b, F b → b < n) (hG : ∀ b, G' b → G b ∨ n ≤ b) : Apart F G' := fun b f g => by
  rcases hG b g with g | g
  · exact h b f g
  · have := hF b f; omega

/-- Behind the handing over of some blocks. -/
structure Handed (k k' : K) (F : FP) : Prop where
  w : k'.w = k.w
  le : Le k k'
  sh : ∀ b, k'.sh b → k.sh b ∨ F b
theorem Chg.hand {F G : FP} {k0 k k' : K} (h : Chg F k0 k) (g : Handed k k' G) (hn : Wr F k0 G) : Chg F k0 k' :=
  ⟨by rw [g.w]; exact h.tape, by rw [g.w]; exact h.os, by rw [g.w]; exact h.out, by rw [g.w]; exact h.size, by rw [g.w]; exact h.blk, fun b hb => g.le.up b (h.up b hb),
    fun b hb hs => (g.sh b hs).elim (h.new b hb) (fun f => (hn b f).elim .inr (fun h => by omega)), by rw [g.w]; exact h.drawn⟩

section
variable {P : Program} {o : Oper} {a a0 : Act} {k k' k0 : K} {R S : Pred} {α β : Type} [Enc α] [Enc β] {F G : FP}

/-- What belongs to the call alone: a value and the blocks behind it. -/
class Rsc (R : FP → Pred) : Prop where
  keep : ∀ {F G v k k'}, R F v k → Chg G k k' → Apart F G → (∀ b, G b → ¬ k.sh b) → R F v k'
  handed : ∀ {F G v k k'}, R F v k → Handed k k' G → Apart F G → R F v k'
  lt : ∀ {F v k}, R F v k → ∀ b, F b → b < k.w.heap.size
  nsh : ∀ {F v k}, R F v k → ∀ b, F b → ¬ k.sh b
theorem Rsc.grow {R : FP → Pred} [Rsc R] {v : Value} (h : R F v k) (g : Grow k k') : R F v k' := Rsc.keep h (Chg.of (F := noF) g) (fun _ _ f => f) (fun _ f => f.elim)
instance {R : FP → Pred} [Rsc R] : Mono (R F) := ⟨fun g h => Rsc.grow h g⟩

/-- A box of the call's own. -/
def BoxR (x : α) : FP → Pred := fun F v k => ∃ b, v = .pointer (some ⟨b, 0, none⟩) ∧ F = Eq b ∧ Box b x k
theorem Box.keep {b : Nat} {x : α} (h : Box b x k) (g : Chg G k k') (hG : ¬ G b) (hn : ∀ b, G b → ¬ k.sh b) : Box b x k' := by
  have hle := g.le hn
  have hlt := h.lt
  obtain ⟨ho, arr, t, h, r⟩ := h
  exact ⟨fun hs => ho (g.new' b hlt hG hs), arr, t, by rw [g.blk b hlt hG]; exact h, Enc.mono hle r⟩
theorem Box.handed {b : Nat} {x : α} (h : Box b x k) (g : Handed k k' G) (hG : ¬ G b) : Box b x k' := by
  have hle := g.le
  obtain ⟨ho, arr, t, h, r⟩ := h
  exact ⟨fun hs => (g.sh b hs).elim ho hG, arr, t, by rw [g.w]; exact h, Enc.mono hle r⟩
instance (x : α) : Rsc (BoxR x) where
  keep := fun ⟨b, e, eF, h⟩ g hs hn => ⟨b, e, eF, h.keep g (hs b (by rw [eF])) hn⟩
  handed := fun ⟨b, e, eF, h⟩ g hs => ⟨b, e, eF, h.handed g (hs b (by rw [eF]))⟩
  lt := fun ⟨b, e, eF, h⟩ c hc => by rw [eF] at hc; rw [← hc]; exact h.lt
  nsh := fun ⟨b, e, eF, h⟩ c hc => by rw [eF] at hc; rw [← hc]; exact h.own

/-- A slice of the call's own. -/
def OwnR (e : TypeId) (xs : List α) : FP → Pred := fun F v k => F = obF v ∧ IsOwn 0 e xs v k
theorem IsOwn.keep {B : Nat} {e : TypeId} {xs : List α} {v : Value} (h : IsOwn B e xs v k) (g : Chg G k k') (hs : Apart (obF v) G) (hn : ∀ b, G b → ¬ k.sh b) : IsOwn B e xs v k' := by
  have hle := g.le hn
  rcases h with r | r | ⟨b', off, cap, cur, cs, rfl, hB, ho, hh, hc, h0, r⟩
  · exact .inl r
  · exact .inr (.inl r)
  · have hlt : b' < k.w.heap.size := (Array.getElem?_eq_some_iff.1 hh).1
    have hne := hs b' (by simp [obF, ob, Nat.ne_of_gt h0])
    exact .inr (.inr ⟨b', off, cap, cur, cs, rfl, hB, fun hs' => ho (g.new' b' hlt hne hs'), by rw [g.blk b' hlt hne]; exact hh, hc, h0, r.1, r.2.1, r.2.2.1, r.2.2.2.mono hle⟩)
theorem IsOwn.handed {B : Nat} {e : TypeId} {xs : List α} {v : Value} (h : IsOwn B e xs v k) (g : Handed k k' G) (hs : Apart (obF v) G) : IsOwn B e xs v k' := by
  have hle := g.le
  rcases h with r | r | ⟨b', off, cap, cur, cs, rfl, hB, ho, hh, hc, h0, r⟩
  · exact .inl r
  · exact .inr (.inl r)
  · have hne := hs b' (by simp [obF, ob, Nat.ne_of_gt h0])
    exact .inr (.inr ⟨b', off, cap, cur, cs, rfl, hB, fun hs' => (g.sh b' hs').elim ho hne, by rw [g.w]; exact hh, hc, h0, r.1, r.2.1, r.2.2.1, r.2.2.2.mono hle⟩)
instance (e : TypeId) (xs : List α) : Rsc (OwnR e xs) where
  keep := fun ⟨eF, h⟩ g hs hn => ⟨eF, h.keep g (eF ▸ hs) hn⟩
  handed := fun ⟨eF, h⟩ g hs => ⟨eF, h.handed g (eF ▸ hs)⟩
  lt := fun ⟨eF, h⟩ b hb => (h.lt b (by rw [eF] at hb; exact hb)).2.1
  nsh := fun ⟨eF, h⟩ b hb => (h.lt b (by rw [eF] at hb; exact hb)).2.2

theorem hand_box {x : α} {v : Value} (h : BoxR x F v k) : ∃ k' : K, Handed k k' F ∧ IsRef x v k' := by
  obtain ⟨b, rfl, rfl, h⟩ := h
  exact ⟨k.share b h.lt, ⟨rfl, K.share_le k b h.lt, fun i hi => hi.imp id Eq.symm⟩, h.share⟩
theorem hand_own {e : TypeId} {xs : List α} {v : Value} (h : OwnR e xs F v k) : ∃ k' : K, Handed k k' F ∧ IsV xs v k' := by
  obtain ⟨rfl, h⟩ := h
  obtain ⟨k', hs, _, hv⟩ := h.hand (k0 := ⟨⟨#[], k.w.tape, 0, k.w.os, k.w.output⟩, fun _ => False, fun _ f => f.elim⟩)
    ⟨rfl, rfl, rfl, Nat.zero_le _, fun b hb => absurd hb (Nat.not_lt_zero b), fun _ f => f.elim, fun b hb => absurd hb (Nat.not_lt_zero b), Nat.zero_le _⟩ (Nat.le_refl _)
  exact ⟨k', ⟨hs.w, hs.le, hs.sh⟩, hv⟩

/-! the operations behind the others -/
theorem tail_storeB {A : Array Oper} {i off b : Nat} {rest : List Nat} {Q : Exit → Act → World → Prop} {t : TypeId} {p y : Operand} {x : α} {z : β} {set : α → β → α}
    (ho : nth A.toList i = some o) (hg : o.guard = none) (hop : o.op = .store t p y) (hd : o.dst = none) (hs : (P.info? t).map (·.size) = some (Enc.sz β)) (hu : Upd off set)
    (hp : IsAdr b off (a.eval p) k) (hb : Box b x k) (hv : IsV z (a.eval y) k)
    (h : ∀ k', Chg (Eq b) k k' → Box b (set x z) k' → wpOps P A Q rest a k'.w) : wpOps P A Q (i :: rest) a k.w :=
  tail_store ho hg hop hd hs hu hp hb hv fun k' hon hz => h k' ⟨hon.tape, hon.os, hon.out, Nat.le_of_eq hon.size.symm, fun c _ hc => hon.blk c (fun e => hc e.symm), fun c hc => by rw [hon.sh]; exact hc, fun c _ hc => by rw [hon.sh] at hc; exact .inl hc, hon.drawn⟩ hz

theorem tail_storeS {A : Array Oper} {i m off : Nat} {e : TypeId} {rest : List Nat} {Q : Exit → Act → World → Prop} {t : TypeId} {p y : Operand} {u : Value} {xs : List α} {x : α} {z : β} {set : α → β → α}
    (ho : nth A.toList i = some o) (hg : o.guard = none) (hop : o.op = .store t p y) (hd : o.dst = none) (hs : (P.info? t).map (·.size) = some (Enc.sz β)) (hu : Upd off set)
    (hp : IsAdrO u (m * Enc.sz α + off) (a.eval p) k) (hb : IsOwn 0 e xs u k) (hm : xs[m]? = some x) (hv : IsV z (a.eval y) k)
    (h : ∀ k' : K, Chg (obF u) k k' → IsOwn 0 e (xs.set m (set x z)) u k' → wpOps P A Q rest a k'.w) : wpOps P A Q (i :: rest) a k.w :=
  tail_storeO ho hg hop hd hs hu hp hb hm hv fun b k' hob hon hz => h k' ⟨hon.tape, hon.os, hon.out, Nat.le_of_eq hon.size.symm, fun c _ hc => hon.blk c (fun e => hc (by rw [obF, hob, e])), fun c hc => by rw [hon.sh]; exact hc, fun c _ hc => by rw [hon.sh] at hc; exact .inl hc, hon.drawn⟩ hz

theorem Grown.chg {r : Option Nat} (h : Grown k k' r) : Chg (fun b => r = some b) k k' :=
  ⟨h.tape, h.os, h.out, h.size, fun b hb hr => h.blk b hb (fun e => hr e.symm), fun b hb => by rw [h.sh]; exact hb, fun b _ hb => by rw [h.sh] at hb; exact .inl hb, h.drawn⟩

theorem tail_appendS {A : Array Oper} {i d : Nat} {rest : List Nat} {Q : Exit → Act → World → Prop} {t e : TypeId} {x y : Operand} {xs ys zs : List α}
    (ho : nth A.toList i = some o) (hgd : o.guard = none) (hop : o.op = .call { callee := .builtin .append, args := #[x, y], argTypes := #[t, t] }) (hd : o.dst = some d) (hda : d < a.tmps.size)
    (hu : P.underlying t = some (.slice e)) (he : ElemOk P e α) (hv : IsOwn 0 e xs (a.eval x) k) (hy : Readable ys (a.eval y) k) (hz : appI xs ys = some zs)
    (h : ∀ (a' : Act) (k' : K), a'.tmps.size = a.tmps.size → a'.defers = a.defers → (∀ t, t ≠ d → a'.get t = a.get t) → Chg (obF (a.eval x)) k k' → IsOwn 0 e zs (a'.get d) k' →
      (∀ b, obF (a'.get d) b → obF (a.eval x) b ∨ k.w.heap.size ≤ b) → wpOps P A Q rest a' k'.w) : wpOps P A Q (i :: rest) a k.w :=
  tail_append ho hgd hop hd hda hu he (Nat.zero_le _) hv hy hz fun a' k' h1 h2 h3 h4 h5 h6 => h a' k' h1 h2 h3 h4.chg h5 h6

/-- What a call does that may write to the blocks in F. -/
def RetC (F : FP) (k : K) (R : Pred) : Ending → World → Prop
  | .returned v, w' => ∃ k' : K, k'.w = w' ∧ Chg F k k' ∧ R v k'
  | .outgrown, _ => False
  | .panicked _, _ => False

theorem tail_call {A : Array Oper} {i d : Nat} {rest : List Nat} {Q : Exit → Act → World → Prop} {f : FuncId} {as_ : List Operand} {ts : Array TypeId}
    (ho : nth A.toList i = some o) (hgd : o.guard = none) (hop : o.op = .call { callee := .value (.func f), args := as_.toArray, argTypes := ts }) (hd : o.dst = some d) (hda : d < a.tmps.size)
    (hc : ∀ args w, (callFunc f args).run P w = .ok (.enter f args) w) (_hQ : LetsOut Q) (hcall : Calls P f (as_.map a.eval).toArray k.w (RetC F k R))
    (h : ∀ (a' : Act) (k' : K), a'.tmps.size = a.tmps.size → a'.defers = a.defers → (∀ t, t ≠ d → a'.get t = a.get t) → Chg F k k' → R (a'.get d) k' → wpOps P A Q rest a' k'.w) : wpOps P A Q (i :: rest) a k.w := by
  rw [wpOps_cons]
  rw [nth_toList] at ho
  unfold wpOp
  simp only [ho, Region.wanted, hgd, if_true]
  refine .inl ?_
  unfold Oper.wp
  have hr : (execOp a.eval o).run P k.w = .ok (.enter f (as_.map a.eval).toArray) k.w := by
    simp [execOp, hop, resolve, invoke, Deferred.ofValue, Act.eval, hc]
  rw [hr]
  refine Calls.mono hcall fun e w' he => ?_
  cases e with
  | returned v =>
    obtain ⟨k', rfl, hg, hv⟩ := he
    simp only [hd]
    have hgd' : (a.put (some d) v).get d = v := by rw [get_put _ _ _ _ hda]; simp
    refine h _ k' (put_size _ _ _) (put_defers' _ _ _) ?_ hg (by rw [hgd']; exact hv)
    intro t ht
    rw [get_put _ _ _ _ hda, if_neg (Ne.symm ht)]
  | panicked c => exact he.elim
  | outgrown => exact he.elim
theorem Ret.ofC {f : FuncId} {as_ : Array Value} {w : World} (h : Calls P f as_ w (RetC noF k R)) : Calls P f as_ w (Ret k R) := h.mono fun e w' he => by
  cases e with
  | returned v => obtain ⟨k', e1, hg, hv⟩ := he; exact ⟨k', e1, hg.grow, hv⟩
  | panicked c => exact he
  | outgrown => exact he
end
end Go.Gb

/- General part of the proofs: the way in and out of functions that write to what they are handed; slots of the call's own. -/
namespace Go.Gb
section
variable {P : Program} {o : Oper} {a a0 : Act} {k k' k0 : K} {R S T : Pred} {α β : Type} [Enc α] [Enc β] {F G : FP}

theorem bodyPost_ret' {fn : Func} {v : Value} (hd : a.defers = []) (hv : (results fn a.tmps).run P k'.w = .ok v k'.w) (hg : Chg F k k') (hR : R v k') : bodyPost P fn (RetC F k R) .ret a k'.w :=
  ⟨hd, v, hv, k', rfl, hg, hR⟩
theorem letsOutC {fn : Func} : LetsOut (bodyPost P fn (RetC F k R)) := trivial
theorem enterC {f : FuncId} {fn : Func} {c : Code} {args : Array Value} {n : Nat} (hf : P.funcs[f]? = some fn) (hb : fn.body = some c) (hn : fn.ntmps = n) (hl : args.size ≤ n)
    (h : ∀ a : Act, a.tmps.size = n → a.defers = [] → ArgsAre a 0 args.toList → c.wp P (bodyPost P fn (RetC F k R)) a k.w) : Calls P f args k.w (RetC F k R) := by
  refine calls_of_wp hf hb (h _ ?_ rfl ?_)
  · simp [hn]; omega
  · have key : ∀ (vs : List Value) (i : Nat), args.toList.drop i = vs → ArgsAre { tmps := args ++ Array.replicate (fn.ntmps - args.size) undef, defers := [] } i vs := by
      intro vs
      induction vs with
      | nil => intro i _; trivial
      | cons v vs ih =>
        intro i hi
        have hlt : i < args.size := by
          rcases Nat.lt_or_ge i args.size with h | h
          · exact h
          · rw [List.drop_eq_nil_of_le (by simpa using h)] at hi; simp at hi
        refine ⟨?_, ih (i + 1) (by rw [← List.drop_drop, hi]; rfl)⟩
        rw [List.drop_eq_getElem_cons (by simpa using hlt)] at hi
        simp only [List.cons.injEq] at hi
        simp only [Act.get, Array.getD_eq_getD_getElem?]
        rw [Array.getElem?_append_left hlt]
        simp [hlt, ← hi.1]
    exact key _ 0 rfl
theorem retC1 {fn : Func} {r : ResultVar} (hr : fn.results = #[r]) (hd : a.defers = []) (hg : Chg F k k') (h : ResOk P a k' r R) : bodyPost P fn (RetC F k R) .ret a k'.w := by
  obtain ⟨v, hv, hR⟩ := resOk_run h
  refine ⟨hd, v, ?_, k', rfl, hg, hR⟩
  simp only [results_eq, hr]
  simp [hv]
/-- The blocks are newer than the world k. -/
def Lo (k : K) (G : FP) : Prop := ∀ b, G b → k.w.heap.size ≤ b
theorem Lo.wr (h : Lo k G) : Wr F k G := fun b hb => .inr (h b hb)
theorem Lo.chg (h : Lo k' G) (g : Chg F k k') : Lo k G := fun b hb => Nat.le_trans g.size (h b hb)
theorem Lo.app {G' : FP} (h : Lo k G) (g : Chg F k k') (hG : ∀ b, G' b → G b ∨ k'.w.heap.size ≤ b) : Lo k G' := fun b hb => (hG b hb).elim (h b) (fun h => Nat.le_trans g.size h)
theorem Wr.app {G' : FP} (h : Wr F k G) (g : Chg F k k') (hG : ∀ b, G' b → G b ∨ k'.w.heap.size ≤ b) : Wr F k G' := fun b hb => (hG b hb).elim (h b) (fun h => .inr (Nat.le_trans g.size h))
theorem Lo.eq {b : Nat} (h : k.w.heap.size ≤ b) : Lo k (Eq b) := fun _ e => e ▸ h
theorem Box.ltF {b : Nat} {x : α} (h : Box b x k) : ∀ c, b = c → c < k.w.heap.size := fun _ e => e ▸ h.lt
theorem Box.nshF {b : Nat} {x : α} (h : Box b x k) : ∀ c, b = c → ¬ k.sh c := fun _ e => e ▸ h.own
theorem IsOwn.ltF {B : Nat} {e : TypeId} {xs : List α} {v : Value} (h : IsOwn B e xs v k) : ∀ b, obF v b → b < k.w.heap.size := fun b hb => (h.lt b hb).2.1
theorem IsOwn.nshF {B : Nat} {e : TypeId} {xs : List α} {v : Value} (h : IsOwn B e xs v k) : ∀ b, obF v b → ¬ k.sh b := fun b hb => (h.lt b hb).2.2
theorem IsOwn.loF {e : TypeId} {xs : List α} {v : Value} (h : IsOwn k0.w.heap.size e xs v k) : Lo k0 (obF v) := fun b hb => (h.lt b hb).1
theorem IsOwn.give {B : Nat} {e : TypeId} {xs : List α} {v : Value} (h : IsOwn B e xs v k) : ∃ k' : K, Handed k k' (obF v) ∧ IsV xs v k' :=
  hand_own ⟨rfl, h.weaken (Nat.zero_le _)⟩
theorem Box.give {b : Nat} {x : α} (h : Box b x k) : ∃ k' : K, Handed k k' (Eq b) ∧ IsRef x (.pointer (some ⟨b, 0, none⟩)) k' :=
  hand_box ⟨b, rfl, rfl, h⟩
theorem IsE0.own0 {e : TypeId} {v : Value} (h : IsE0 v k) : IsOwn (α := α) 0 e [] v k := h.own
theorem IsE0.noOb {v : Value} (h : IsE0 v k) : ∀ b, ¬ obF v b := fun b hb => by rw [obF, h.ob] at hb; simp at hb
theorem IsE0.lo {v : Value} (h : IsE0 v k) : Lo k0 (obF v) := fun b hb => (h.noOb b hb).elim
theorem IsE0.apart {v : Value} (h : IsE0 v k) : Apart (obF v) G := fun b hb => (h.noOb b hb).elim
end

/-- How far a call has come. -/
structure Bs (F : FP) (k0 : K) (n : Nat) (a : Act) (k : K) : Prop where
  g : Chg F k0 k
  s : a.tmps.size = n
  d : a.defers = []
section
variable {P : Program} {F : FP} {a a' : Act} {k k' k0 : K} {n m : Nat} {ops : List Oper} {es : List Ent}
theorem Bs.post (h : Bs F k0 n a k) (p : Post ops es m a k a' k') : Bs F k0 n a' k' := ⟨h.g.then p.grow, p.size.trans h.s, p.defers.trans h.d⟩
theorem cutFe {c : Code} {Q : Exit → Act → World → Prop} {τ ρ : Type} (f : Flow τ ρ) (T : τ → Act → K → Prop) (X : Nat → τ → Act → K → Prop) (Rt : ρ → Act → K → Prop)
    (h1 : ∀ Q' : Exit → Act → World → Prop, LetsOut Q' → (∀ s' a' k', f = .go s' → T s' a' k' → Q' .normal a' k'.w) →
      (∀ i s' a' k', f = .ex i s' → X i s' a' k' → Q' (.exit i) a' k'.w) → (∀ r a' k', f = .ret r → Rt r a' k' → Q' .ret a' k'.w) → c.wp P Q' a k.w)
    (hQ : LetsOut Q) (h4 : ∀ r a' k', f = .ret r → Rt r a' k' → Q .ret a' k'.w) (h2 : ∀ s' a' k', f = .go s' → T s' a' k' → Q .normal a' k'.w)
    (h3 : ∀ i s' a' k', f = .ex i s' → X i s' a' k' → Q (.exit i) a' k'.w) : c.wp P Q a k.w :=
  h1 Q hQ h2 h3 h4
end
end Go.Gb

/- General part of the proofs: function values. -/
namespace Go.Gb
section
variable {P : Program} {o : Oper} {a a0 : Act} {k k' k0 : K} {α β γ δ : Type} [Enc α] [Enc β] [Enc γ] [Enc δ]

/-- A function value that computes g. -/
def IsFn1 (P : Program) (g : α → Option β) : Pred := fun v k =>
  ∃ f first captured, v = .func (.func f) first captured ∧ (∀ args w, (callFunc f args).run P w = .ok (.enter f args) w) ∧
    ∀ k', Le k k' → ∀ x vx y, IsV x vx k' → g x = some y → Calls P f (first ++ #[vx] ++ captured) k'.w (Ret k' (IsV y))
def IsFn2 (P : Program) (g : α → β → Option γ) : Pred := fun v k =>
  ∃ f first captured, v = .func (.func f) first captured ∧ (∀ args w, (callFunc f args).run P w = .ok (.enter f args) w) ∧
    ∀ k', Le k k' → ∀ x vx y vy z, IsV x vx k' → IsV y vy k' → g x y = some z → Calls P f (first ++ #[vx, vy] ++ captured) k'.w (Ret k' (IsV z))
instance (g : α → Option β) : Pers (IsFn1 P g) := ⟨fun h ⟨f, fi, c, e, hc, r⟩ => ⟨f, fi, c, e, hc, fun k' hk => r k' (h.trans hk)⟩⟩
instance (g : α → β → Option γ) : Pers (IsFn2 P g) := ⟨fun h ⟨f, fi, c, e, hc, r⟩ => ⟨f, fi, c, e, hc, fun k' hk => r k' (h.trans hk)⟩⟩
theorem ok_makeFunc {R : Pred} {fn : Fn} {first captured : List Operand} (ho : o.op = .makeFunc fn first.toArray captured.toArray)
    (h : R (.func fn (first.map a.eval).toArray (captured.map a.eval).toArray) k) : Does P o a k R :=
  does_pure (v := .func fn (first.map a.eval).toArray (captured.map a.eval).toArray) (by simp [execOp, ho, Instr.makeFunc]) h

theorem does_enter {R : Pred} {f : FuncId} {args : Array Value} (hr : (execOp a.eval o).run P k.w = .ok (.enter f args) k.w) (h : Calls P f args k.w (Ret k R)) : Does P o a k R := by
  intro next Q hQ hn
  unfold Oper.wp
  rw [hr]
  refine Calls.mono h fun e w' he => ?_
  cases e with
  | returned v =>
    obtain ⟨k', rfl, hg, hv⟩ := he
    exact hn v k' hg hv
  | panicked c => exact he.elim
  | outgrown => exact he.elim

theorem ok_callF1 {g : α → Option β} {fx x : Operand} {ts : Array TypeId} {p : α} {r : β} (ho : o.op = .call { callee := .value fx, args := #[x], argTypes := ts })
    (hf : IsFn1 P g (a.eval fx) k) (hx : IsV p (a.eval x) k) (h : g p = some r) : Does P o a k (IsV r) := by
  obtain ⟨f, fi, c, e, hc, hr⟩ := hf
  refine does_enter (f := f) (args := fi ++ #[a.eval x] ++ c) ?_ (hr k (Le.refl k) _ _ _ hx h)
  simp [execOp, ho, resolve, invoke, Deferred.ofValue, e, hc]
theorem ok_callF2 {g : α → β → Option γ} {fx x y : Operand} {ts : Array TypeId} {p : α} {q : β} {r : γ} (ho : o.op = .call { callee := .value fx, args := #[x, y], argTypes := ts })
    (hf : IsFn2 P g (a.eval fx) k) (hx : IsV p (a.eval x) k) (hy : IsV q (a.eval y) k) (h : g p q = some r) : Does P o a k (IsV r) := by
  obtain ⟨f, fi, c, e, hc, hr⟩ := hf
  refine does_enter (f := f) (args := fi ++ #[a.eval x, a.eval y] ++ c) ?_ (hr k (Le.refl k) _ _ _ _ _ hx hy h)
  simp [execOp, ho, resolve, invoke, Deferred.ofValue, e, hc]
end
end Go.Gb

/- General part of the proofs: other integer types, nil tests, results that belong to the caller. -/
namespace Go.Gb

/-- An integer of another type. -/
structure IK (κ : IntKind) where
  n : Int
  deriving DecidableEq
instance {κ : IntKind} : Inhabited (IK κ) := ⟨⟨0⟩⟩
instance {κ : IntKind} : Enc (IK κ) where
  sz := 1
  agg := false
  rep _ cs x := cs = [.int κ x.n]
  len h := by simp [h]
  mono _ h := h
  one h := by subst h; simp [Value.oneCell']
  agg1 _ := rfl
def IK.shr {κ : IntKind} (x : IK κ) (n : Int) : IK κ := ⟨x.n.fdiv (2 ^ n.toNat)⟩
def IK.add {κ : IntKind} (x y : IK κ) : IK κ := ⟨κ.wrap (x.n + y.n)⟩
def IK.sub {κ : IntKind} (x y : IK κ) : IK κ := ⟨κ.wrap (x.n - y.n)⟩
def IK.mul {κ : IntKind} (x y : IK κ) : IK κ := ⟨κ.wrap (x.n * y.n)⟩

theorem isV_ik {κ : IntKind} {x : IK κ} {v : Value} {k : K} : IsV x v k ↔ v = .int κ x.n :=
  ⟨fun ⟨_, e, r⟩ => by rw [e, r]; rfl, fun e => ⟨[.int κ x.n], e, rfl⟩⟩

section
variable {P : Program} {o : Oper} {a a0 : Act} {k k' k0 : K} {R S : Pred} {α β : Type} [Enc α] [Enc β]

theorem run_convert {t u : TypeId} {κ κ' : IntKind} {n : Int} {w : World} (ht : (P.underlying t).isSome = true) (hu : P.underlying u = some (.int κ')) : (convert t u (.int κ n)).run P w = .ok (.int κ' (κ'.wrap n)) w := by
  obtain ⟨d, hd⟩ := Option.isSome_iff_exists.1 ht
  simp [convert, run_underlying hd, run_underlying hu, Conv.intToInt]
section
variable {t u v : TypeId} {x y : Operand} {κ κ' : IntKind}
theorem ok_conv_ik {n : Int} (ho : o.op = .convert t u x) (ht : (P.underlying t).isSome = true) (hu : P.underlying u = some (.int κ')) (hx : IsV n (a.eval x) k) : Does P o a k (IsV (IK.mk (κ'.wrap n) : IK κ')) := by
  have hx := isV_int.1 hx
  refine does_pure (v := .int κ' (κ'.wrap n)) ?_ (isV_ik.2 rfl)
  simp only [execOp, ho, hx]
  simp [run_convert (P := P) (κ := .i64) (n := n) ht hu]
theorem ok_conv_kk {n : IK κ} (ho : o.op = .convert t u x) (ht : (P.underlying t).isSome = true) (hu : P.underlying u = some (.int κ')) (hx : IsV n (a.eval x) k) : Does P o a k (IsV (IK.mk (κ'.wrap n.n) : IK κ')) := by
  have hx := isV_ik.1 hx
  refine does_pure (v := .int κ' (κ'.wrap n.n)) ?_ (isV_ik.2 rfl)
  simp only [execOp, ho, hx]
  simp [run_convert (P := P) (κ := κ) (n := n.n) ht hu]
end

section
variable {t u : TypeId} {x y : Operand} {κ κ' : IntKind} {n m : IK κ}
theorem ok_addK (ho : o.op = .binOp .add t x y u) (hx : IsV n (a.eval x) k) (hy : IsV m (a.eval y) k) : Does P o a k (IsV (n.add m)) := by
  have hx := isV_ik.1 hx; have hy := isV_ik.1 hy
  refine does_pure (v := .int κ (κ.wrap (n.n + m.n))) ?_ (isV_ik.2 rfl)
  simp only [execOp, ho, hx, hy]
  simp [eqGuard, binOp, Op.intArith]
theorem ok_subK (ho : o.op = .binOp .sub t x y u) (hx : IsV n (a.eval x) k) (hy : IsV m (a.eval y) k) : Does P o a k (IsV (n.sub m)) := by
  have hx := isV_ik.1 hx; have hy := isV_ik.1 hy
  refine does_pure (v := .int κ (κ.wrap (n.n - m.n))) ?_ (isV_ik.2 rfl)
  simp only [execOp, ho, hx, hy]
  simp [eqGuard, binOp, Op.intArith]
theorem ok_mulK (ho : o.op = .binOp .mul t x y u) (hx : IsV n (a.eval x) k) (hy : IsV m (a.eval y) k) : Does P o a k (IsV (n.mul m)) := by
  have hx := isV_ik.1 hx; have hy := isV_ik.1 hy
  refine does_pure (v := .int κ (κ.wrap (n.n * m.n))) ?_ (isV_ik.2 rfl)
  simp only [execOp, ho, hx, hy]
  simp [eqGuard, binOp, Op.intArith]
end

/-- Of a test whether a slice is nil. -/
def IsNT (xs : List α) : Pred := fun v _ => ∃ b, v = .bool b ∧ (b = true → xs = [])
instance (xs : List α) : Pers (IsNT xs) := ⟨fun _ h => h⟩
theorem ok_eqNil {t e u : TypeId} {x : Operand} {xs : List α} (ho : o.op = .binOp .eql t x (.const (.slice none 0 0)) u) (hu : P.underlying t = some (.slice e)) (hx : Readable xs (a.eval x) k) : Does P o a k (IsNT xs) := by
  have ev : a.eval (.const (.slice none 0 0)) = .slice none 0 0 := rfl
  have hr : ∀ (ad : Option Addr) (n c : Nat), (Op.equal t (.slice ad n c) (.slice none 0 0)).run P k.w = .ok ad.isNone k.w := fun ad n c => by
    show (Op.equalIn (9999 + 1) t _ _).run P k.w = _
    rw [Op.equalIn]
    cases ad <;> simp [run_underlying hu]
  rcases hx with ⟨e1, rfl⟩ | ⟨ad, cap, cs, e1, _⟩
  · refine does_pure (v := .bool true) ?_ ⟨true, rfl, fun _ => rfl⟩
    simp only [execOp, ho, e1, ev]
    simp [eqGuard, binOp, hr]
  · refine does_pure (v := .bool false) ?_ ⟨false, rfl, fun h => by simp at h⟩
    simp only [execOp, ho, e1, ev]
    simp [eqGuard, binOp, hr]

theorem IsOwn.raise {B : Nat} {e : TypeId} {xs : List α} {v : Value} (h : IsOwn B e xs v k) (hl : Lo k0 (obF v)) : IsOwn k0.w.heap.size e xs v k := by
  rcases h with r | r | ⟨b', off, cap, cur, cs, rfl, hB, ho, hh, hc, h0, r⟩
  · exact .inl r
  · exact .inr (.inl r)
  · exact .inr (.inr ⟨b', off, cap, cur, cs, rfl, hl b' (by simp [obF, ob, Nat.ne_of_gt h0]), ho, hh, hc, h0, r⟩)
/-- A result that is the caller's own can be handed to all. -/
theorem ret_give {f : FuncId} {args : Array Value} {e : TypeId} {xs : List α} (h : Calls P f args k.w (Ret k (IsOwn k.w.heap.size e xs))) : Calls P f args k.w (Ret k (IsV xs)) := h.mono fun en w' he => by
  cases en with
  | returned v =>
    obtain ⟨k', rfl, hg, hv⟩ := he
    obtain ⟨k2, hs, hg2, hv2⟩ := hv.hand hg (Nat.le_refl _)
    exact ⟨k2, hs.w, hg2, hv2⟩
  | panicked c => exact he
  | outgrown => exact he
theorem ret_weaken {f : FuncId} {args : Array Value} {e : TypeId} {xs : List α} {B : Nat} (hB : B ≤ k.w.heap.size) (h : Calls P f args k.w (Ret k (IsOwn k.w.heap.size e xs))) : Calls P f args k.w (Ret k (IsOwn B e xs)) := h.mono fun en w' he => by
  cases en with
  | returned v =>
    obtain ⟨k', rfl, hg, hv⟩ := he
    exact ⟨k', rfl, hg, hv.weaken hB⟩
  | panicked c => exact he
  | outgrown => exact he
theorem enterK {F : FP} {f : FuncId} {fn : Func} {c : Code} {args : Array Value} {n : Nat} (hf : P.funcs[f]? = some fn) (hb : fn.body = some c) (hn : fn.ntmps = n) (hl : args.size ≤ n)
    (h : ∀ (a : Act) (q : K), q = k → a.tmps.size = n → a.defers = [] → ArgsAre a 0 args.toList → c.wp P (bodyPost P fn (RetC F k R)) a q.w) : Calls P f args k.w (RetC F k R) :=
  enterC hf hb hn hl fun a hs hd ha => h a k rfl hs hd ha
end
end Go.Gb

/- General part of the proofs: operations of any kind behind the others; slices of the call's own that are only read by a call; pointers to elements. -/
namespace Go.Gb
section
variable {P : Program} {o : Oper} {a a0 : Act} {k k' k0 : K} {R S T : Pred} {α β : Type} [Enc α] [Enc β]

instance [Pers R] [Pers S] : Pers (IsTup2 R S) := ⟨fun h ⟨x, y, e, a, b⟩ => ⟨x, y, e, Pers.pers h a, Pers.pers h b⟩⟩
theorem tail_does {A : Array Oper} {i d : Nat} {rest : List Nat} {Q : Exit → Act → World → Prop}
    (ho : nth A.toList i = some o) (hgd : o.guard = none) (hd : o.dst = some d) (hda : d < a.tmps.size) (hQ : LetsOut Q) (hD : Does P o a k R)
    (h : ∀ (a' : Act) (k' : K), a'.tmps.size = a.tmps.size → a'.defers = a.defers → (∀ t, t ≠ d → a'.get t = a.get t) → Grow k k' → R (a'.get d) k' → wpOps P A Q rest a' k'.w) : wpOps P A Q (i :: rest) a k.w := by
  rw [wpOps_cons]
  rw [nth_toList] at ho
  unfold wpOp
  simp only [ho, Region.wanted, hgd, if_true]
  refine .inl (hD _ _ hQ fun v k' hg hv => ?_)
  rw [hd]
  have hgd' : (a.put (some d) v).get d = v := by rw [get_put _ _ _ _ hda]; simp
  refine h _ k' (put_size _ _ _) (put_defers' _ _ _) ?_ hg (by rw [hgd']; exact hv)
  intro t ht
  rw [get_put _ _ _ _ hda, if_neg (Ne.symm ht)]
theorem Rsc.mono {F : FP} {R : FP → Pred} [Rsc R] {v : Value} (g : Grow k k') (h : R F v k) : R F v k' := Rsc.grow h g

end
end Go.Gb

/- General part of the proofs: copying into a slice of the call's own. -/
namespace Go.Gb

end Go.Gb

/- General part of the proofs: maps of the call's own. -/
namespace Go.Gb

theorem beqBytes (a b : ByteArray) : (a == b) = decide (a = b) := by
  cases a with | mk a => cases b with | mk b =>
  show (a == b) = _
  by_cases h : a = b <;> simp [h]

/-- The place and the value of a key in a list of entries. -/
def fnd {κ β : Type} [DecidableEq κ] : List (κ × β) → κ → Nat → Option (Nat × β)
  | [], _, _ => none
  | (a, v) :: l, n, i => if n = a then some (i, v) else fnd l n (i + 1)
def getK {κ β : Type} [DecidableEq κ] : List (κ × β) → κ → Option β
  | [], _ => none
  | (a, v) :: l, n => if n = a then some v else getK l n
def setK {κ β : Type} [DecidableEq κ] : List (κ × β) → κ → β → List (κ × β)
  | [], n, v => [(n, v)]
  | (a, u) :: l, n, v => if n = a then (a, v) :: l else (a, u) :: setK l n v

theorem fnd_get {κ β : Type} [DecidableEq κ] : ∀ (l : List (κ × β)) (n : κ) (i : Nat), (fnd l n i).map (·.2) = getK l n
  | [], _, _ => rfl
  | (a, v) :: l, n, i => by
    simp only [fnd, getK]
    split
    · rfl
    · exact fnd_get l n (i + 1)
theorem fnd_none {κ β : Type} [DecidableEq κ] : ∀ (l : List (κ × β)) (n : κ) (i : Nat) (v : β), fnd l n i = none → setK l n v = l ++ [(n, v)]
  | [], _, _, _, _ => rfl
  | (a, u) :: l, n, i, v, h => by
    simp only [fnd] at h
    split at h
    · simp at h
    · rename_i hne
      simp only [setK, if_neg hne, fnd_none l n (i + 1) v h, List.cons_append]
theorem fnd_some {κ β : Type} [DecidableEq κ] : ∀ (l : List (κ × β)) (n : κ) (i j : Nat) (u v : β), fnd l n i = some (j, u) → i ≤ j ∧ j - i < l.length ∧ l[j - i]? = some (n, u) ∧ setK l n v = l.set (j - i) (n, v)
  | [], _, _, _, _, _, h => by simp [fnd] at h
  | (a, u') :: l, n, i, j, u, v, h => by
    simp only [fnd] at h
    split at h
    · rename_i he
      simp only [Option.some.injEq, Prod.mk.injEq] at h
      obtain ⟨rfl, rfl⟩ := h
      subst he
      simp [setK]
    · rename_i hne
      obtain ⟨h1, h2, h3, h4⟩ := fnd_some l n (i + 1) j u v h
      have e : j - i = (j - (i + 1)) + 1 := by omega
      refine ⟨by omega, by simp; omega, by rw [e]; simpa using h3, ?_⟩
      rw [e, List.set_cons_succ, ← h4]
      simp only [setK, if_neg hne]

/-- How keys of a Go type stand for values of a Lean type. -/
structure KeyOk (P : Program) (kt : TypeId) {κ : Type} [DecidableEq κ] (kv : κ → Value) : Prop where
  find : ∀ (l : List (κ × Value)) (es : List MapEntry) (n : κ) (w : World), es.map (fun e => (e.key, e.val)) = l.map (fun p => (kv p.1, p.2)) → (Instr.findKey kt (kv n) es).run P w = .ok (fnd l n 0) w
  check : ∀ (e : Bool) (n : κ) (w : World), (Instr.checkKey e 10000 kt (kv n)).run P w = .ok () w
  same : ∀ n : κ, Instr.sameBits 10000 (kv n) (kv n) = true

theorem keyStr {P : Program} {kt : TypeId} (hu : P.underlying kt = some .string) : KeyOk P kt Value.string where
  find l es n w h := by
    refine MapKept.run_findKey hu ?_
    have key : ∀ (l : List (ByteArray × Value)) (es : List MapEntry) (i : Nat), es.map (fun e => (e.key, e.val)) = l.map (fun p => (Value.string p.1, p.2)) → Instr.findNow .string (.string n) es i = some (fnd l n i) := by
      intro l
      induction l with
      | nil => intro es i h; simp at h; subst h; rfl
      | cons p l ih =>
        intro es i h
        cases es with
        | nil => simp at h
        | cons e es =>
          simp only [List.map_cons, List.cons.injEq, Prod.mk.injEq] at h
          obtain ⟨⟨h1, h2⟩, h3⟩ := h
          obtain ⟨a, v⟩ := p
          simp only [Instr.findNow, h1, Instr.sameNow, fnd]
          by_cases hna : n = a
          · simp [hna, h2, beqBytes]
          · simp [hna, beqBytes, ih es (i + 1) h3]
    exact key l es 0 h
  check e n w := by
    unfold Instr.checkKey
    simp [run_underlying hu]
  same n := by simp [Instr.sameBits, beqBytes]

/-- Block b is a map of the call's own with these entries. -/
structure MapB {κ : Type} (kv : κ → Value) (b : Nat) (l : List (κ × Value)) (k : K) : Prop where
  own : ¬ k.sh b
  is : ∃ es clk, k.w.heap[b]? = some (.map es clk) ∧ es.toList.map (fun e => (e.key, e.val)) = l.map (fun p => (kv p.1, p.2))

section
variable {P : Program} {o : Oper} {a a0 : Act} {k k' k0 : K} {R S T : Pred} {κ : Type} [DecidableEq κ] {kv : κ → Value} {F G : FP}

omit [DecidableEq κ] in
theorem MapB.lt {b : Nat} {l : List (κ × Value)} (h : MapB kv b l k) : b < k.w.heap.size := by
  obtain ⟨_, es, clk, h, _⟩ := h
  exact (Array.getElem?_eq_some_iff.1 h).1
omit [DecidableEq κ] in
theorem MapB.keep {b : Nat} {l : List (κ × Value)} (h : MapB kv b l k) (g : Chg G k k') (hG : ¬ G b) : MapB kv b l k' := by
  have hlt := h.lt
  obtain ⟨ho, es, clk, h, r⟩ := h
  exact ⟨fun hs => ho (g.new' b hlt hG hs), es, clk, by rw [g.blk b hlt hG]; exact h, r⟩
omit [DecidableEq κ] in
theorem MapB.handed {b : Nat} {l : List (κ × Value)} (h : MapB kv b l k) (g : Handed k k' G) (hG : ¬ G b) : MapB kv b l k' := by
  obtain ⟨ho, es, clk, h, r⟩ := h
  exact ⟨fun hs => (g.sh b hs).elim ho hG, es, clk, by rw [g.w]; exact h, r⟩

/-- Just this value. -/
def Is (u : Value) : Pred := fun v _ => v = u
instance (u : Value) : Pers (Is u) := ⟨fun _ h => h⟩
theorem run_lookupM {t kt et : TypeId} {b : Nat} {l : List (κ × Value)} {n : κ} {z : Value} {c : Bool} (KO : KeyOk P kt kv) (hu : P.underlying t = some (.map kt et)) (hz : ∀ w, (zeroValue et).run P w = .ok z w) (h : MapB kv b l k) :
    (Instr.lookup t (.map (some b)) (kv n) c).run P k.w = .ok (if c then .tuple #[(getK l n).getD z, .bool (getK l n).isSome] else (getK l n).getD z) k.w := by
  obtain ⟨_, es, clk, hh, hr⟩ := h
  have hf := KO.find l es.toList n k.w hr
  have hg := fnd_get l n 0
  rw [← hg]
  have hgo := MapKept.run_getObj_map (P := P) hh
  cases hfd : fnd l n 0 with
  | none => rw [hfd] at hf; cases c <;> simp [Instr.lookup, run_underlying hu, hgo, KO.check, hf, hz]
  | some p => rw [hfd] at hf; cases c <;> simp [Instr.lookup, run_underlying hu, hgo, KO.check, hf]

theorem ok_lookupM {t kt et : TypeId} {x y : Operand} {b : Nat} {l : List (κ × Value)} {n : κ} {z : Value} (ho : o.op = .lookup t x y false) (KO : KeyOk P kt kv) (hu : P.underlying t = some (.map kt et)) (hz : ∀ w, (zeroValue et).run P w = .ok z w)
    (hx : a.eval x = .map (some b)) (hy : a.eval y = kv n) (h : MapB kv b l k) : Does P o a k (Is ((getK l n).getD z)) := by
  refine does_pure (v := (getK l n).getD z) ?_ rfl
  have := run_lookupM (n := n) (c := false) KO hu hz h
  simp only [execOp, ho, hx, hy]
  simp at this
  simp [this]

theorem map_modify {κ : Type} {kv : κ → Value} {es : Array MapEntry} {l : List (κ × Value)} {j : Nat} {n : κ} {v : Value} (hr : es.toList.map (fun e => (e.key, e.val)) = l.map (fun p => (kv p.1, p.2))) :
    (es.modify j fun e => { e with key := kv n, val := v }).toList.map (fun e => (e.key, e.val)) = (l.set j (n, v)).map (fun p => (kv p.1, p.2)) := by
  rw [Array.toList_modify]
  have key : ∀ (es : List MapEntry) (l : List (κ × Value)) (j : Nat), es.map (fun e => (e.key, e.val)) = l.map (fun p => (kv p.1, p.2)) →
      (es.modify j fun e => { e with key := kv n, val := v }).map (fun e => (e.key, e.val)) = (l.set j (n, v)).map (fun p => (kv p.1, p.2)) := by
    intro es
    induction es with
    | nil => intro l j h; cases l with
      | nil => simp
      | cons p l => simp at h
    | cons e es ih =>
      intro l j h
      cases l with
      | nil => simp at h
      | cons p l =>
        simp only [List.map_cons, List.cons.injEq] at h
        cases j with
        | zero => simp [h.2]
        | succ j => simp [h.1, ih l j h.2]
  exact key _ _ _ hr

/-- A store into a map of the call's own, behind all other operations. -/
theorem tail_mapUpdate {A : Array Oper} {i : Nat} {rest : List Nat} {Q : Exit → Act → World → Prop} {t kt et : TypeId} {x y z : Operand} {b : Nat} {l : List (κ × Value)} {n : κ}
    (ho : nth A.toList i = some o) (hg : o.guard = none) (hop : o.op = .mapUpdate t x y z) (hd : o.dst = none) (KO : KeyOk P kt kv) (hu : P.underlying t = some (.map kt et))
    (hx : a.eval x = .map (some b)) (hy : a.eval y = kv n) (h : MapB kv b l k)
    (next : ∀ k', Chg (Eq b) k k' → k'.w.heap.size = k.w.heap.size → MapB kv b (setK l n (a.eval z)) k' → wpOps P A Q rest a k'.w) : wpOps P A Q (i :: rest) a k.w := by
  obtain ⟨hown, es, clk, hh, hr⟩ := h
  have hf := KO.find l es.toList n k.w hr
  have hlt : b < k.w.heap.size := (Array.getElem?_eq_some_iff.1 hh).1
  have fin : ∀ (es' : Array MapEntry) (clk' : Nat), es'.toList.map (fun e => (e.key, e.val)) = (setK l n (a.eval z)).map (fun p => (kv p.1, p.2)) →
      wpOps P A Q rest a { k.w with heap := k.w.heap.setIfInBounds b (.map es' clk') } := by
    intro es' clk' he
    let k' : K := ⟨{ k.w with heap := k.w.heap.setIfInBounds b (.map es' clk') }, k.sh, fun i hi => by have := k.lt i hi; simpa using this⟩
    refine next k' ⟨rfl, rfl, rfl, by simp [k'], fun c _ hc => (MapKept.heap_set hh).2 c (fun e => hc e.symm), fun _ h => h, fun _ _ h => .inl h, Nat.le_refl _⟩ (by simp [k']) ⟨hown, es', clk', (MapKept.heap_set hh).1, he⟩
  rw [wpOps_cons]
  rw [nth_toList] at ho
  unfold wpOp
  simp only [ho, Region.wanted, hg, if_true]
  refine .inl ?_
  unfold Oper.wp
  have hgo := MapKept.run_getObj_map (P := P) hh
  cases hfd : fnd l n 0 with
  | none =>
    rw [hfd] at hf
    have hx' : (execOp a.eval o).run P k.w = .ok .skip { k.w with heap := k.w.heap.setIfInBounds b (.map (es.push { key := kv n, val := a.eval z, born := clk }) (clk + 1)) } := by
      simp only [execOp, hop, hx, hy]
      simp [Instr.mapUpdate, run_underlying hu, hgo, KO.check, hf, MapKept.run_setObj_map (P := P) _ hh]
    rw [hx']
    have := fin (es.push { key := kv n, val := a.eval z, born := clk }) (clk + 1) (by rw [fnd_none _ _ _ _ hfd]; simp [hr])
    simpa [Oper.upon, hd, Act.put] using this
  | some p =>
    obtain ⟨j, u⟩ := p
    rw [hfd] at hf
    obtain ⟨_, h2, h3, h4⟩ := fnd_some l n 0 j u (a.eval z) hfd
    simp only [Nat.sub_zero] at h2 h3 h4
    have hkey : ((es[j]?).map (·.key)).getD (kv n) = kv n := by
      have h5 : (es.toList.map (fun e => (e.key, e.val)))[j]? = some (kv n, u) := by rw [hr]; simp [h3]
      simp only [List.getElem?_map, Array.getElem?_toList, Option.map_eq_some_iff, Prod.mk.injEq] at h5
      obtain ⟨e, he, hk, _⟩ := h5
      simp [he, hk]
    have hx' : (execOp a.eval o).run P k.w = .ok .skip { k.w with heap := k.w.heap.setIfInBounds b (.map (es.modify j fun e => { e with key := kv n, val := a.eval z }) clk) } := by
      simp only [execOp, hop, hx, hy]
      simp [Instr.mapUpdate, run_underlying hu, hgo, KO.check, hf, hkey, Instr.keyThatStays, KO.same, MapKept.run_setObj_map (P := P) _ hh]
    rw [hx']
    have := fin (es.modify j fun e => { e with key := kv n, val := a.eval z }) clk (by rw [h4]; exact map_modify hr)
    simpa [Oper.upon, hd, Act.put] using this

omit [DecidableEq κ] in
theorem ok_makeMap {t : TypeId} {b0 : Nat} (hb0 : b0 ≤ k.w.heap.size) (ho : o.op = .makeMap t none) : Does P o a k (fun v k => ∃ b, v = .map (some b) ∧ b0 ≤ b ∧ MapB kv b [] k) := by
  refine does_run (v := .map (some k.w.heap.size)) (k' := k.alloc (.map #[] 0)) ?_ (K.alloc_grow k _) ⟨_, rfl, hb0, fun hs => Nat.lt_irrefl _ (k.lt _ hs), #[], 0, heap_alloc_new k.w _, rfl⟩
  simp only [execOp, ho]
  simp [Instr.makeMap]
  rfl
end
end Go.Gb
namespace Go.Gb
end Go.Gb
namespace Go.Gb
theorem ok_fieldAdr2 {P : Program} {o : Oper} {a : Act} {k : K} {s f off b m : Nat} {x : Operand} (ho : o.op = .fieldAddr s x f) (hf : FieldOk P s f off) (h : IsAdr b m (a.eval x) k) : Does P o a k (IsAdr b (m + off)) := by
  have h : a.eval x = .pointer (some ⟨b, m, none⟩) := h
  refine does_pure (v := .pointer (some ((⟨b, m, none⟩ : Addr).add off))) ?_ ?_
  · simp only [execOp, ho, h]
    simp [run_fieldAt hf]
  · unfold Addr.add
    split
    · rename_i h; simp [IsAdr, h]
    · simp [IsAdr]
end Go.Gb

/- General part of the proofs: maps of the call's own with slices of the call's own as values. -/
namespace Go.Gb
section
variable {P : Program} {o : Oper} {a a0 : Act} {k k' k0 : K} {κ α : Type} [DecidableEq κ] [Enc α] {kv : κ → Value} {F G : FP}

def keysV (T : List (κ × Value × List α)) : List (κ × Value) := T.map fun t => (t.1, t.2.1)
def keysX (T : List (κ × Value × List α)) : List (κ × List α) := T.map fun t => (t.1, t.2.2)

/-- A map with slices of the call's own. -/
def SlR (kv : κ → Value) (e : TypeId) (m : List (κ × List α)) : FP → Pred := fun F v k =>
  ∃ b, ∃ T : List (κ × Value × List α), v = .map (some b) ∧ m = keysX T ∧ MapB kv b (keysV T) k ∧ (T.map (·.1)).Nodup ∧ (∀ t ∈ T, IsOwn 0 e t.2.2 t.2.1 k) ∧
    (∀ s ∈ T, ∀ t ∈ T, s.1 ≠ t.1 → Apart (obF s.2.1) (obF t.2.1)) ∧ F = fun c => c = b ∨ ∃ t ∈ T, obF t.2.1 c

instance (m : List (κ × List α)) (e : TypeId) : Rsc (SlR kv e m) where
  keep := fun ⟨b, T, e1, e2, hb, hd, ho, ha, eF⟩ g hs hn => ⟨b, T, e1, e2, hb.keep g (hs b (by rw [eF]; exact .inl rfl)), hd,
    fun t ht => (ho t ht).keep g (fun c hc => hs c (by rw [eF]; exact .inr ⟨t, ht, hc⟩)) hn, ha, eF⟩
  handed := fun ⟨b, T, e1, e2, hb, hd, ho, ha, eF⟩ g hs => ⟨b, T, e1, e2, hb.handed g (hs b (by rw [eF]; exact .inl rfl)), hd,
    fun t ht => (ho t ht).handed g (fun c hc => hs c (by rw [eF]; exact .inr ⟨t, ht, hc⟩)), ha, eF⟩
  lt := fun ⟨b, T, e1, e2, hb, hd, ho, ha, eF⟩ c hc => by
    rw [eF] at hc
    rcases hc with rfl | ⟨t, ht, hc⟩
    · exact hb.lt
    · exact (ho t ht).ltF c hc
  nsh := fun ⟨b, T, e1, e2, hb, hd, ho, ha, eF⟩ c hc => by
    rw [eF] at hc
    rcases hc with rfl | ⟨t, ht, hc⟩
    · exact hb.own
    · exact (ho t ht).nshF c hc

end
end Go.Gb

/- General part of the proofs: maps that nothing writes to any more. -/
namespace Go.Gb

/-- A map, as a list of its entries. -/
structure GMap (κ α : Type) where
  l : List (κ × α)
  deriving Inhabited
/-- What the map has at a key. -/
def GMap.get {κ α : Type} [DecidableEq κ] (m : GMap κ α) (n : κ) : Option α := getK m.l n

class KeyV (κ : Type) where
  kv : κ → Value
instance : KeyV Int := ⟨Value.int .i64⟩
instance : KeyV ByteArray := ⟨Value.string⟩

/-- A map that nothing writes to. -/
def MapRep {κ α : Type} [KeyV κ] [Enc α] (k : K) (v : Value) (m : GMap κ α) : Prop :=
  (v = .map none ∧ m.l = []) ∨ ∃ b es clk, ∃ T : List (κ × Value × α), v = .map (some b) ∧ k.sh b ∧ k.w.heap[b]? = some (.map es clk) ∧ m.l = T.map (fun t => (t.1, t.2.2)) ∧
    es.toList.map (fun e => (e.key, e.val)) = (T.map fun t => (t.1, t.2.1)).map (fun p => (KeyV.kv p.1, p.2)) ∧ ∀ t ∈ T, IsV t.2.2 t.2.1 k
instance {κ α : Type} [KeyV κ] [Enc α] : Enc (GMap κ α) where
  sz := 1
  agg := false
  rep k cs m := ∃ v, cs = [v] ∧ MapRep k v m
  len h := by obtain ⟨v, rfl, _⟩ := h; rfl
  mono h r := by
    obtain ⟨v, rfl, r⟩ := r
    refine ⟨v, rfl, ?_⟩
    rcases r with r | ⟨b, es, clk, T, e1, hs, hh, e2, e3, hT⟩
    · exact .inl r
    · exact .inr ⟨b, es, clk, T, e1, h.up _ hs, by rw [h.blk _ hs]; exact hh, e2, e3, fun t ht => Pers.pers h (hT t ht)⟩
  one h := by
    obtain ⟨v, rfl, r⟩ := h
    rcases r with ⟨rfl, _⟩ | ⟨b, es, clk, T, rfl, _⟩ <;> simp [Value.oneCell']
  agg1 _ := rfl

theorem isV_map {κ α : Type} [KeyV κ] [Enc α] {m : GMap κ α} {v : Value} {k : K} : IsV m v k ↔ MapRep k v m :=
  ⟨fun ⟨_, e, u, h, r⟩ => by subst h; subst e; exact r, fun r => ⟨[v], rfl, v, rfl, r⟩⟩

section
variable {P : Program} {o : Oper} {a a0 : Act} {k k' k0 : K} {κ α : Type} [DecidableEq κ] [KeyV κ] [Enc α] {F G : FP}

/-- Many blocks are handed over at once. -/
def K.shareF (k : K) (F : FP) (hF : ∀ b, F b → b < k.w.heap.size) : K := ⟨k.w, fun i => k.sh i ∨ F i, fun i hi => hi.elim (k.lt i) (hF i)⟩
theorem handed_F (k : K) (F : FP) (hF : ∀ b, F b → b < k.w.heap.size) : Handed k (k.shareF F hF) F := ⟨rfl, ⟨fun _ _ => rfl, fun _ h => .inl h⟩, fun _ h => h⟩

theorem IsOwn.shareF {B : Nat} {e : TypeId} {xs : List α} {v : Value} (h : IsOwn B e xs v k) (hh : Handed k k' G) (hG : ∀ b, obF v b → k'.sh b) : IsV xs v k' := by
  rcases h with r | ⟨ad, rfl, rfl⟩ | ⟨b, off, cap, cur, cs, rfl, hBb, ho, hb, hc, h0, hm, hs, ht, hr⟩
  · exact isV_list.2 (.inl r)
  · exact isV_list.2 (.inr (.inl ⟨ad, rfl, rfl⟩))
  · subst ht
    refine isV_list.2 (.inr (.inr ⟨_, cap, _, rfl, hc, hG b (by simp [obF, ob, Nat.ne_of_gt h0]), hr.mono hh.le, ?_⟩))
    rw [hh.w]
    exact cellsAt_row (n := xs.length * Enc.sz α) hb (by have := Nat.mul_le_mul_right (Enc.sz α) hc; omega)

omit [DecidableEq κ] in
theorem SlR.give {m : List (κ × List α)} {e : TypeId} {v : Value} (h : SlR KeyV.kv e m F v k) : ∃ k', Handed k k' F ∧ IsV (GMap.mk m) v k' := by
  have hlt := Rsc.lt h
  obtain ⟨b, T, e1, e2, hb, hd, ho, ha, eF⟩ := h
  have hh := handed_F k F hlt
  obtain ⟨_, es, clk, hm, hr⟩ := hb
  refine ⟨_, hh, isV_map.2 (.inr ⟨b, es, clk, T, e1, .inr (by rw [eF]; exact .inl rfl), hm, e2, hr, fun t ht => (ho t ht).shareF hh fun c hc => .inr (by rw [eF]; exact .inr ⟨t, ht, hc⟩)⟩)⟩
omit [DecidableEq κ] in
theorem SlR.new {e : TypeId} {v : Value} {b0 : Nat} (h : ∃ b, v = .map (some b) ∧ b0 ≤ b ∧ MapB (KeyV.kv (κ := κ)) b [] k) : ∃ F, SlR (α := α) (KeyV.kv (κ := κ)) e [] F v k ∧ ∀ c, F c → b0 ≤ c := by
  obtain ⟨b, e1, hb0, hb⟩ := h
  refine ⟨_, ⟨b, [], e1, rfl, hb, by simp, fun t ht => by simp at ht, fun s hs => by simp at hs, rfl⟩, ?_⟩
  rintro c (rfl | ⟨t, ht, _⟩)
  · exact hb0
  · simp at ht

/-- A new map, empty. -/
def IsNewMap (kv : κ → Value) (b0 : Nat) : Pred := fun v k => ∃ b, v = .map (some b) ∧ b0 ≤ b ∧ MapB kv b [] k
omit [DecidableEq κ] [KeyV κ] in
instance {kv : κ → Value} {b0 : Nat} : Mono (IsNewMap kv b0) := ⟨fun g ⟨b, e, hb, hm⟩ => ⟨b, e, hb, hm.keep (Chg.of (F := noF) g) (fun f => f)⟩⟩

end
end Go.Gb

/- General part of the proofs: parts of slices of the call's own. -/
namespace Go.Gb
section
variable {P : Program} {o : Oper} {a a0 : Act} {k k' k0 : K} {α : Type} [Enc α] {F G : FP}

end
end Go.Gb
namespace Go.Gb
theorem does_imp {P : Program} {o : Oper} {a : Act} {k : K} {R S : Pred} (h : Does P o a k R) (hi : ∀ v k', Grow k k' → R v k' → S v k') : Does P o a k S :=
  fun next Q hQ hn => h next Q hQ fun v k' hg hv => hn v k' hg (hi v k' hg hv)
end Go.Gb

/- General part of the proofs: what comes in as data stands for values of Lean; the row of a law. -/
namespace Go.Gb

/-- The world, all of whose blocks are shared. -/
def kOf (W : World) : K := ⟨W, fun b => b < W.heap.size, fun _ h => h⟩

/-- What integers that come in are. -/
class Rg (α : Type) where
  rg : α → Prop
instance : Rg Int := ⟨inI⟩
instance : Rg Bool := ⟨fun _ => True⟩
instance : Rg ByteArray := ⟨fun b => b.size ≤ maxLen⟩
instance {α : Type} [Rg α] : Rg (List α) := ⟨fun l => l.length ≤ maxLen ∧ ∀ x ∈ l, Rg.rg x⟩
instance {α β : Type} [Rg α] [Rg β] : Rg (α × β) := ⟨fun p => Rg.rg p.1 ∧ Rg.rg p.2⟩
@[reducible] def Rg.ofMap {σ β : Type} [Rg β] (f : σ → β) : Rg σ := ⟨fun x => Rg.rg (f x)⟩

def RdC (P : Program) (t : TypeId) (α : Type) [Enc α] [Rg α] : Prop :=
  ∀ {H : Type} (enc : TypeId × Value → H) (W : World) (fuel : Nat) (cs : List Value) (x : DataW H × List MemPlace),
    DataW.trod enc P W 0 (fun _ => true) true fuel t cs = some x → ∃ y : α, Enc.rep (kOf W) cs y ∧ Rg.rg y
/-- What is read as data at this Go type stands for a value of the Lean type. -/
structure Rd (P : Program) (t : TypeId) (α : Type) [Enc α] [Rg α] : Prop where
  rd : RdC P t α
  sh : ∀ (W : World) (r : Reach) (base : Nat) (v : Value), Value.okWide P W r base t v → v = mkV (Enc.agg α) v.cells.toList

section
variable {P : Program} {t e : TypeId} {α β σ : Type} [Enc α] [Enc β] [Rg α] [Rg β]

theorem rd_int (hu : P.underlying t = some (.int .i64)) : Rd P t Int where
  rd {H} enc W fuel cs x h := by
    obtain ⟨n, rfl, _, hw⟩ := DataW.trod_int hu h
    refine ⟨n, rfl, ?_⟩
    simp [Lit.wf, IntKind.min, IntKind.max, IntKind.bits, IntKind.signed] at hw
    exact hw
  sh W r base v h := by
    obtain ⟨n, rfl⟩ := WideShapes.okWide_int hu h
    rfl
theorem rd_bool (hu : P.underlying t = some .bool) : Rd P t Bool where
  rd {H} enc W fuel cs x h := by
    obtain ⟨n, rfl, _⟩ := DataW.trod_bool hu h
    exact ⟨n, rfl, trivial⟩
  sh W r base v h := by
    obtain ⟨n, rfl⟩ := WideShapes.okWide_bool hu h
    rfl
theorem rd_string (hu : P.underlying t = some .string) : Rd P t ByteArray where
  rd {H} enc W fuel cs x h := by
    obtain ⟨n, rfl, _, hw⟩ := DataW.trod_string hu h
    exact ⟨n, rfl, hw⟩
  sh W r base v h := by
    obtain ⟨n, rfl⟩ := WideShapes.okWide_string hu h
    rfl

theorem cell_at {W : World} {a : Addr} {u : Value} (h : W.cell? a = some u) : a.spot = none ∧ ∃ arr t fr, W.heap[a.block]? = some (.cells arr t fr) ∧ arr[a.off]? = some u := by
  unfold World.cell? at h
  cases hh : W.heap[a.block]? with
  | none => rw [hh] at h; simp at h
  | some o =>
    rw [hh] at h
    cases o with
    | cells arr t fr =>
      simp only at h
      split at h
      · simp at h
      · rename_i hs
        refine ⟨by simpa using hs, arr, t, fr, rfl, h⟩
    | _ => simp at h

theorem add_eq {a : Addr} (ha : a.spot = none) (i : Nat) : a.add i = ⟨a.block, a.off + i, none⟩ := by
  unfold Addr.add
  split
  · rename_i h; subst h; cases a; simp_all
  · rfl

theorem cells_row {W : World} {a : Addr} {n i : Nat} {l : List Value} {arr : Array Value} {t : TypeId} {fr : Nat × Nat} (ha : a.spot = none) (hh : W.heap[a.block]? = some (.cells arr t fr)) (hn : 0 < n) (h : W.cells? 0 (a.add i) n = some l) :
    a.off + i + n ≤ arr.size ∧ l = (arr.toList.drop (a.off + i)).take n := by
  obtain ⟨_, hl, hc⟩ := World.cells?_some h
  rw [add_eq ha] at hc
  have hcell : ∀ j, j < n → arr[a.off + i + j]? = l[j]? := by
    intro j hj
    have hj' := hc j hj
    rw [add_eq rfl, List.getElem?_eq_getElem (by omega)] at hj'
    obtain ⟨_, arr', t', fr', hh', hj2⟩ := cell_at hj'
    simp only at hh'
    rw [hh] at hh'
    simp only [Option.some.injEq, Obj.cells.injEq] at hh'
    obtain ⟨rfl, _⟩ := hh'
    rw [hj2, List.getElem?_eq_getElem (by omega)]
  have hlast := hcell (n - 1) (by omega)
  rw [List.getElem?_eq_getElem (show n - 1 < l.length by omega)] at hlast
  have hlt := (Array.getElem?_eq_some_iff.1 hlast).1
  refine ⟨by omega, List.ext_getElem? fun j => ?_⟩
  by_cases hj : j < n
  · rw [List.getElem?_take, if_pos hj, List.getElem?_drop, ← hcell j hj]
    simp
  · rw [List.getElem?_eq_none (by omega), List.getElem?_eq_none (by simp; omega)]

theorem rd_slice (hu : P.underlying t = some (.slice e)) (hz : P.cellsOf e = Enc.sz α) (h0 : 0 < Enc.sz α) (he : Rd P e α) : Rd P t (List α) where
  rd {H} enc W fuel cs x h := by
    rcases DataW.trod_slice hu h with ⟨rfl, _⟩ | ⟨a, len, cap, elems, rest, n, _, rfl, _, _, hlc, hcm, hel, hE, hR, _⟩
    · exact ⟨[], ⟨_, rfl, .inl ⟨rfl, rfl⟩⟩, ⟨by simp, fun x hx => by simp at hx⟩⟩
    · rw [hz] at hE hR
      obtain ⟨hrl, hR⟩ := hR rfl
      by_cases hc0 : cap = 0
      · obtain rfl : len = 0 := by omega
        exact ⟨[], ⟨_, rfl, .inr (.inl ⟨a, by rw [hc0], rfl⟩)⟩, ⟨by simp, fun x hx => by simp at hx⟩⟩
      · -- the block
        obtain ⟨l0, hl0⟩ : ∃ l0, W.cells? 0 (a.add 0) (Enc.sz α) = some l0 := by
          by_cases hl : 0 < len
          · have := hE 0 hl
            rw [List.getElem?_eq_getElem (by omega), Nat.zero_mul, Option.bind_eq_some_iff] at this
            obtain ⟨l0, h, _⟩ := this
            exact ⟨l0, h⟩
          · have := hR 0 (by omega)
            rw [List.getElem?_eq_getElem (by omega), show (len + 0) * Enc.sz α = 0 by rw [show len = 0 by omega]; simp, Option.bind_eq_some_iff] at this
            obtain ⟨l0, h, _⟩ := this
            exact ⟨l0, h⟩
        have ha0 : a.add 0 = a := by simp [Addr.add]
        obtain ⟨_, hll, hlc0⟩ := World.cells?_some hl0
        have h00 := hlc0 0 h0
        rw [ha0, ha0, List.getElem?_eq_getElem (by omega)] at h00
        obtain ⟨hsp, arr, t', fr, hh, _⟩ := cell_at h00
        have hlt : a.block < W.heap.size := (Array.getElem?_eq_some_iff.1 hh).1
        have key : ∀ m, m ≤ len → ∃ xs : List α, xs.length = m ∧ RepL (kOf W) ((arr.toList.drop a.off).take (m * Enc.sz α)) xs ∧ (∀ x ∈ xs, Rg.rg x) ∧ (m = 0 ∨ a.off + m * Enc.sz α ≤ arr.size) := by
          intro m
          induction m with
          | zero => intro _; exact ⟨[], rfl, by simp [RepL], fun x hx => by simp at hx, .inl rfl⟩
          | succ m ih =>
            intro hm
            obtain ⟨xs, h1, h2, h3, h4⟩ := ih (by omega)
            have := hE m (by omega)
            rw [List.getElem?_eq_getElem (by omega), Option.bind_eq_some_iff] at this
            obtain ⟨l, hl, htr⟩ := this
            obtain ⟨hsz, rfl⟩ := cells_row hsp hh h0 hl
            obtain ⟨y, hy, hyr⟩ := he.rd enc W n _ _ htr
            refine ⟨xs ++ [y], by simp [h1], ?_, ?_, .inr (by rw [Nat.add_mul, Nat.one_mul]; omega)⟩
            · have e1 : (arr.toList.drop a.off).take ((m + 1) * Enc.sz α) = (arr.toList.drop a.off).take (m * Enc.sz α) ++ (arr.toList.drop (a.off + m * Enc.sz α)).take (Enc.sz α) := by
                rw [Nat.add_mul, Nat.one_mul, List.take_add, List.drop_drop]
              rw [e1]
              have hly := Enc.len hy
              refine h2.append ⟨?_, ?_⟩
              · rw [List.take_of_length_le (by omega)]; exact hy
              · simp only [RepL]; rw [List.drop_eq_nil_of_le (by omega)]
            · intro x hx
              rcases List.mem_append.1 hx with hx | hx
              · exact h3 x hx
              · simp at hx; rw [hx]; exact hyr
        obtain ⟨xs, h1, h2, h3, h4⟩ := key len (Nat.le_refl _)
        subst h1
        refine ⟨xs, ⟨_, rfl, .inr (.inr ⟨a, cap, _, rfl, hlc, hlt, h2, hsp, arr, t', fr, hh, ?_, ?_⟩)⟩, ⟨Nat.le_trans hlc hcm, h3⟩⟩
        · have hc1 := (Array.getElem?_eq_some_iff.1 (show arr[a.off]? = some _ from by assumption)).1
          rw [h2.len]
          rcases h4 with h4 | h4
          · rw [h4, Nat.zero_mul]; omega
          · exact h4
        · intro j hj
          rw [List.getElem?_take, if_pos (by rw [h2.len] at hj; exact hj), List.getElem?_drop]
          simp
  sh W r base v h := by
    obtain ⟨a, l, c, rfl⟩ := WideShapes.okWide_slice hu h
    rfl

/-- The fields of a struct, from the offset o on. -/
structure RdF (P : Program) (fs : List Field) (o : Nat) (α : Type) [Enc α] [Rg α] : Prop where
  run : ∀ {H : Type} (enc : TypeId × Value → H) (W : World) (fuel : Nat) (cs : List Value), cs.length = o + Enc.sz α →
    (∀ f ∈ fs, ∃ x : DataW H × List MemPlace, DataW.trod enc P W 0 (fun _ => true) true fuel f.type ((cs.drop f.offset).take (P.cellsOf f.type)) = some x) → ∃ y : α, Enc.rep (kOf W) (cs.drop o) y ∧ Rg.rg y
theorem RdF.one {f : Field} {o : Nat} (ho : f.offset = o) (hz : P.cellsOf f.type = Enc.sz α) (h : Rd P f.type α) : RdF P [f] o α := by
  refine ⟨?_⟩
  intro H enc W fuel cs hl hf
  obtain ⟨x, hx⟩ := hf f (by simp)
  rw [ho, hz, List.take_of_length_le (by simp; omega)] at hx
  exact h.rd enc W fuel _ x hx
theorem RdF.cons {f : Field} {fs : List Field} {o : Nat} (ho : f.offset = o) (hz : P.cellsOf f.type = Enc.sz α) (h : Rd P f.type α) (g : RdF P fs (o + Enc.sz α) β) : RdF P (f :: fs) o (α × β) := by
  refine ⟨?_⟩
  intro H enc W fuel cs hl hf
  obtain ⟨x, hx⟩ := hf f (by simp)
  rw [ho, hz] at hx
  have hl' : cs.length = o + (Enc.sz α + Enc.sz β) := hl
  obtain ⟨y, hy, hyr⟩ := h.rd enc W fuel _ x hx
  obtain ⟨z, hz', hzr⟩ := g.run enc W fuel cs (by omega) (fun f' hf' => hf f' (List.mem_cons_of_mem _ hf'))
  rw [← List.drop_drop] at hz'
  exact ⟨(y, z), ⟨by simp; omega, hy, hz'⟩, hyr, hzr⟩

theorem rd_struct [Enc σ] [Rg σ] {fs : Array Field} {f : σ → β} (g : β → σ) (hu : P.underlying t = some (.struct fs)) (hz : P.cellsOf t = Enc.sz β) (hag : Enc.agg σ = true)
    (hr : ∀ k cs y, Enc.rep (α := β) k cs y → Enc.rep (α := σ) k cs (g y)) (hrg : ∀ y : β, Rg.rg y → Rg.rg (g y)) (h : RdF P fs.toList 0 β) (_hf : ∀ y, f (g y) = y) : Rd P t σ where
  rd {H} enc W fuel cs x hx := by
    obtain ⟨xs, n, _, _, hl, hxl, he⟩ := DataW.trod_struct hu hx
    obtain ⟨y, hy, hyr⟩ := h.run enc W n cs (by omega) (fun f hf => by
      obtain ⟨i, hi, rfl⟩ := List.getElem_of_mem hf
      have hi' : i < fs.size := by simpa using hi
      have := he i fs[i] (by simp [hi'])
      rw [List.getElem?_eq_getElem (by omega)] at this
      exact ⟨_, by simpa using this⟩)
    exact ⟨g y, hr _ _ _ (by simpa using hy), hrg _ hyr⟩
  sh W r base v h := by
    obtain ⟨cs, rfl, _⟩ := WideShapes.okWide_struct hu h
    rw [hag]
    simp [mkV, Value.cells]
end
end Go.Gb

/- General part of the proofs: from a law's contract to its row. -/
namespace Go.Gb
section
variable {H : Type} {enc : TypeId × Value → H} {P : Program} {fn : Func} {s : ChangeSpec} {W : World}

theorem grow_kept {k' : K} {may : MemPlace → Prop} (hg : Grow (kOf W) k') : W.keptBut k'.w may := by
  refine ⟨hg.os, hg.out, fun i hi => ?_⟩
  have := hg.blk i hi
  rw [this]
  show (match W.heap[i]?, W.heap[i]? with
    | some (.cells c t fr), some (.cells c' t' fr') => t' = t ∧ fr' = fr ∧ c'.size = c.size ∧ ∀ j : Nat, ¬ may (.cell i j) → c'[j]? = c[j]?
    | some (.map es clock), some (.map es' clock') => may (.map i) ∨ (es' = es ∧ clock' = clock)
    | o, o' => o' = o)
  cases W.heap[i]? with
  | none => rfl
  | some o => cases o <;> simp

theorem grow_below {k' : K} (hg : Grow (kOf W) k') : RowKit.Below W.heap.size W k'.w := ⟨hg.os, hg.tape, hg.out, hg.size, hg.blk⟩

theorem trodAll_stays (hl : laidOutB P = true) {k' : K} (hg : Grow (kOf W) k') : ∀ {ts : List TypeId} {vs : List Value} {ds : List (DataW H)} {ps : List MemPlace},
    ts.all (fun t => P.readableRec t && decide (t < P.types.size)) = true → DataW.TrodAll enc P W 0 (fun _ => true) true ts vs ds ps → (∀ p ∈ ps, p.block < W.heap.size) →
    DataW.TrodAll enc P k'.w 0 (fun b => decide (b < W.heap.size)) true ts vs ds ps
  | [], vs, ds, ps, _, h, _ => by
    obtain ⟨rfl, rfl, rfl⟩ := ChangeShapes.trodAll_nil h
    exact rfl
  | t :: ts, vs, ds, ps, hr, h, hlt => by
    obtain ⟨v, vs', d, ds', p, q, rfl, rfl, rfl, h1, h2⟩ := ChangeShapes.trodAll_cons h
    simp only [List.all_cons, Bool.and_eq_true, decide_eq_true_eq] at hr
    exact ⟨p, q, RowKit.Below.trod hl hr.1.1 hr.1.2 h1 (grow_below hg) (fun x hx => hlt x (by simp [hx])), trodAll_stays hl hg hr.2 h2 (fun x hx => hlt x (by simp [hx])), rfl⟩

theorem post_law {apart : Bool} {args : Array Value} {ds gs : List (DataW H)} {before : List MemPlace} {tb : TypeId} {k' : K} (hW : DataW.Whole enc P fn.params.toList s.vars apart W args.toList ds gs before)
    (hl : laidOutB P = true) (hts : fn.params.toList.all (fun t => P.readableRec t && decide (t < P.types.size)) = true) (hvars : s.vars = []) (hrt : fn.resultTypes = #[tb]) (hb : P.underlying tb = some .bool)
    (hsp : s.fn H (ds ++ gs) = { results := [.lit (.bool true)], args := ds }) (hg : Grow (kOf W) k') : s.post enc P fn apart true false false W args (.bool true) k'.w := by
  have hlt := hW.lt
  have hW' := hW
  obtain ⟨p, q, hA, hV, rfl, hfz, hnd⟩ := hW
  rw [hvars] at hV
  obtain ⟨rfl, rfl⟩ := ChangeShapes.trodVars_none hV
  refine ⟨ds, [], p ++ [], [], p, [], hW', ?_, ?_, ?_, World.keptBut_mono (fun x hx => ⟨hx, .inr (.inl (by simpa using hx))⟩) (grow_kept hg), fun h => by simp at h⟩
  · rw [hsp, hrt]
    refine ⟨[], [], ⟨1, ?_⟩, rfl, rfl⟩
    simp [DataW.trod, Value.cells, hb]
  · rw [hsp]
    exact trodAll_stays hl hg hts hA (fun x hx => hlt x (by simp [hx]))
  · rw [hsp, hvars]
    exact rfl

theorem isV_of {P : Program} {t : TypeId} {α : Type} [Enc α] [Rg α] (hr : Rd P t α) {v : Value} {d : DataW H} {ps : List MemPlace} (h : DataW.Trod enc P W 0 (fun _ => true) true t v d ps) {r : Reach} {base : Nat} (hok : Value.okWide P W r base t v) :
    ∃ y : α, IsV y v (kOf W) ∧ Rg.rg y := by
  obtain ⟨n, hn⟩ := h
  obtain ⟨y, hy, hg⟩ := hr.rd enc W n _ _ hn
  exact ⟨y, ⟨_, hr.sh W r base v hok, hy⟩, hg⟩

theorem law_calls {f : FuncId} {args : Array Value} {Q : Ending → World → Prop} (h : Calls P f args (kOf W).w (Ret (kOf W) (IsV true))) (hq : ∀ k' : K, Grow (kOf W) k' → Q (.returned (.bool true)) k'.w) : Calls P f args W Q :=
  h.mono fun e w' he => by
    cases e with
    | returned v =>
      obtain ⟨k', rfl, hg, hv⟩ := he
      rw [isV_bool.1 hv]
      exact hq k' hg
    | panicked c => exact he.elim
    | outgrown => exact he.elim
end
end Go.Gb

/- General part of the proofs: reasoning on the mirrored functions. -/
namespace Go.Gb

def Flow.ends {σ ρ : Type} : Flow σ ρ → Prop
  | .go _ => False
  | _ => True

/-- A loop with a counter that goes up to N. -/
theorem loop_up {σ ρ : Type} {body : σ → Option (Flow σ ρ)} (Inv : Nat → σ → Prop) (N : Nat) (Post : Flow σ ρ → Prop)
    (step : ∀ i s, i < N → Inv i s → (∃ s', body s = some (.go s') ∧ Inv (i + 1) s') ∨ (∃ f, body s = some f ∧ f.ends ∧ Post f))
    (done : ∀ s, Inv N s → ∃ f, body s = some f ∧ f.ends ∧ Post f) (s0 : σ) (h0 : Inv 0 s0) (fuel : Nat) (hf : N < fuel) : ∃ f, iterL body fuel s0 = some f ∧ f.ends ∧ Post f := by
  have key : ∀ m i s, i + m = N → Inv i s → ∀ fuel, m < fuel → ∃ f, iterL body fuel s = some f ∧ f.ends ∧ Post f := by
    intro m
    induction m with
    | zero =>
      intro i s hi hs fuel hf
      obtain ⟨f, hb, he, hp⟩ := done s (by rwa [show N = i by omega])
      obtain ⟨fuel, rfl⟩ : ∃ m, fuel = m + 1 := ⟨fuel - 1, by omega⟩
      refine ⟨f, ?_, he, hp⟩
      simp only [iterL, hb]
      cases f <;> simp_all [Flow.ends]
    | succ m ih =>
      intro i s hi hs fuel hf
      obtain ⟨fuel, rfl⟩ : ∃ m, fuel = m + 1 := ⟨fuel - 1, by omega⟩
      rcases step i s (by omega) hs with ⟨s', hb, hs'⟩ | ⟨f, hb, he, hp⟩
      · obtain ⟨f, h, he, hp⟩ := ih (i + 1) s' (by omega) hs' fuel (by omega)
        refine ⟨f, ?_, he, hp⟩
        simp only [iterL, hb, h]
      · refine ⟨f, ?_, he, hp⟩
        simp only [iterL, hb]
        cases f <;> simp_all [Flow.ends]
  exact key N 0 s0 (by omega) h0 fuel hf

theorem getI_nat {α : Type} {l : List α} {i : Nat} (h : i < l.length) : getI l (i : Int) = some l[i] := by
  unfold getI
  rw [if_pos (by omega), Int.toNat_natCast, List.getElem?_eq_getElem h]
theorem addI_some {n m : Int} (h : inI (n + m)) : addI n m = some (n + m) := if_pos h
theorem subI_some {n m : Int} (h : inI (n - m)) : subI n m = some (n - m) := if_pos h
theorem addI_one {i : Nat} (h : i < 4611686018427387904) : addI (i : Int) 1 = some ((i + 1 : Nat) : Int) := by
  rw [addI_some (by unfold inI; omega)]; simp
theorem appI_some {α : Type} {xs ys : List α} (h : xs.length + ys.length ≤ 1073741824) : appI xs ys = some (xs ++ ys) := if_pos h
theorem sliceI_some {α : Type} {xs : List α} {lo hi : Int} (h0 : 0 ≤ lo) (h1 : lo ≤ hi) (h2 : hi ≤ xs.length) : sliceI xs lo hi = some ((xs.take hi.toNat).drop lo.toNat) := if_pos ⟨h0, h1, h2⟩
end Go.Gb

/- General part of the proofs: sorting an own slice in place, by the contracts of the library's sort at elements of k cells. -/
namespace Go.Gb
open Go.Proofs Go.Sort Go.RowKit Go.Lib
variable {P : Program} {α : Type}

/-- The cells of a value are given by the value alone. -/
class FlatE (α : Type) [Enc α] where
  enc : α → List Value
  rep : ∀ {k : K} {cs : List Value} {x : α}, Enc.rep k cs x ↔ cs = enc x

instance : FlatE Int := ⟨fun n => [.int .i64 n], Iff.rfl⟩
instance : FlatE Bool := ⟨fun n => [.bool n], Iff.rfl⟩
instance {α β : Type} [Enc α] [Enc β] [FlatE α] [FlatE β] : FlatE (α × β) where
  enc p := FlatE.enc p.1 ++ FlatE.enc p.2
  rep {k cs p} := by
    have l1 : (FlatE.enc p.1).length = Enc.sz α := Enc.len (k := k) (FlatE.rep.2 rfl)
    have l2 : (FlatE.enc p.2).length = Enc.sz β := Enc.len (k := k) (FlatE.rep.2 rfl)
    constructor
    · rintro ⟨_, h1, h2⟩
      rw [← FlatE.rep.1 h1, ← FlatE.rep.1 h2, List.take_append_drop]
    · rintro rfl
      exact ⟨by rw [List.length_append, l1, l2], FlatE.rep.2 (List.take_left' l1), FlatE.rep.2 (List.drop_left' l1)⟩
@[reducible] def FlatE.ofMap {σ β : Type} [Enc β] [FlatE β] (f : σ → β) : @FlatE σ (Enc.ofMap f) :=
  letI : Enc σ := Enc.ofMap f
  ⟨fun x => FlatE.enc (f x), fun {_ _ x} => FlatE.rep (x := f x)⟩
theorem flat_len [Enc α] [FlatE α] (k : K) (x : α) : (FlatE.enc x).length = Enc.sz α := Enc.len (k := k) (FlatE.rep.2 rfl)
theorem repL_flat [Enc α] [FlatE α] {k : K} : ∀ {xs : List α} {cs : List Value}, RepL k cs xs ↔ cs = (xs.map FlatE.enc).flatten
  | [], cs => by simp [RepL]
  | x :: xs, cs => by
    have hl := flat_len k x
    simp only [RepL, List.map_cons, List.flatten_cons]
    rw [repL_flat (xs := xs)]
    rw [FlatE.rep]
    constructor
    · rintro ⟨h1, h2⟩
      rw [← h1, ← h2, List.take_append_drop]
    · intro h
      subst h
      exact ⟨List.take_left' hl, List.drop_left' hl⟩

/-- A box that nothing is written to any more: shared from the start. -/
theorem ok_boxR {k : K} {a : Act} {o : Oper} [Enc α] {t : TypeId} {y : Operand} {x : α} (ho : o.op = .box t y) (h : IsV x (a.eval y) k) : Does P o a k (IsRef x) := by
  obtain ⟨cs, hc, hr⟩ := isV_cells h
  have hg := K.alloc_grow k (.cells cs t)
  have hb : Box k.w.heap.size x (k.alloc (.cells cs t)) := box_new hr
  refine does_run (v := .pointer (some ⟨k.w.heap.size, 0, none⟩)) (k' := (k.alloc (.cells cs t)).share k.w.heap.size hb.lt) ?_
    ⟨hg.tape, hg.os, hg.out, hg.size, hg.blk, fun b hs => (K.share_le _ _ hb.lt).up b (hg.up b hs), fun b hlt hs => hs.elim (hg.new b hlt) (fun e => absurd e (by omega)), hg.drawn⟩ hb.share
  simp only [execOp, ho]
  simp [Instr.box, newVar, newRow, newObj, hc, K.alloc, K.share]
  rfl

theorem evalT (a : Act) (t : Nat) : a.eval (.tmp t) = a.get t := rfl
/-- The bits that both numbers have. -/
def andI (n m : Int) : Int := IntKind.i64.wrap ((BitVec.ofInt 64 n &&& BitVec.ofInt 64 m).toNat : Int)
theorem ok_and {k : K} {a : Act} {o : Oper} {t u : TypeId} {x y : Operand} {n m : Int} (ho : o.op = .binOp .and t x y u) (hx : IsV n (a.eval x) k) (hy : IsV m (a.eval y) k) : Does P o a k (IsV (andI n m)) := by
  have hx := isV_int.1 hx; have hy := isV_int.1 hy
  refine does_pure (v := .int .i64 (andI n m)) ?_ (isV_int.2 rfl)
  simp only [execOp, ho, hx, hy]
  simp [eqGuard, binOp, Op.intBits, andI]
  rfl
end Go.Gb


set_option linter.unusedVariables false
set_option linter.unusedSimpArgs false
/- General part of the proofs: regions in which moves stand behind operations that write: they may run first. -/
namespace Go.Gb

/-- Only the way out at the end. -/
def QN (Q : Exit → Act → World → Prop) : Exit → Act → World → Prop := fun e a w => match e with
  | .normal => Q .normal a w
  | _ => False

/-- An operation that looks at no world. -/
def isPure (A : Array Oper) (l : Nat) : Bool := match A[l]? with
  | some o => (match o.op with | .move (.tmp _) => true | .assign (.tmp _) => true | .extract (.tmp _) _ => true | _ => false) && o.guard.isNone
  | none => false
section
variable {P : Program} {A : Array Oper} {Q : Exit → Act → World → Prop}
theorem isPure_spec {l : Nat} (h : isPure A l = true) : ∃ o, A[l]? = some o ∧ o.guard = none ∧ ∀ a : Act, (∃ v, ∀ w, (execOp a.eval o).run P w = .ok (.value v) w) ∨ (∀ w, ∃ x w', (execOp a.eval o).run P w = .halt x w' ∧ ∀ c, x ≠ .panic c) := by
  unfold isPure at h
  cases hA : A[l]? with
  | none => rw [hA] at h; simp at h
  | some o =>
    rw [hA] at h
    simp only [Bool.and_eq_true, Option.isNone_iff_eq_none] at h
    obtain ⟨h1, h2⟩ := h
    refine ⟨o, rfl, h2, fun a => ?_⟩
    cases hop : o.op with
    | move x => exact .inl ⟨a.eval x, fun w => by simp [execOp, hop]⟩
    | assign x => exact .inl ⟨a.eval x, fun w => by simp [execOp, hop]⟩
    | extract x ix =>
      cases hv : a.eval x with
      | tuple vs =>
        cases hx : vs[ix]? with
        | some y => exact .inl ⟨y, fun w => by simp [execOp, hop, hv, Instr.extract, hx]⟩
        | none => exact .inr fun w => by simp [execOp, hop, hv, Instr.extract, hx]
      | _ => exact .inr fun w => by simp [execOp, hop, hv, Instr.extract]
    | _ => rw [hop] at h1; simp at h1

end

end Go.Gb

/- General part of the proofs: runs, lists of intervals with what holds on each: the canonical form of a function of one number that is constant between finitely many breaks. -/
namespace Go.Gb
section
variable {V : Type} {e : V}

/-- Intervals (from, to) and what holds there. -/
abbrev Runs (V : Type) := List (Int × Int × V)

/-- What holds at x. -/
def rval (e : V) : Runs V → Int → V
  | [], _ => e
  | (a, b, v) :: t, x => if a ≤ x ∧ x < b then v else rval e t x

/-- Nothing begins before n, and what begins at n is not v. -/
def Nxt (n : Int) (v : V) : Runs V → Prop
  | [] => True
  | (c, _, w) :: _ => n < c ∨ (n = c ∧ v ≠ w)

def Canon (e : V) : Runs V → Prop
  | [] => True
  | (a, b, v) :: t => a < b ∧ v ≠ e ∧ Nxt b v t ∧ Canon e t

theorem canon_ge : ∀ {l : Runs V} {n : Int} {v : V}, Canon e l → Nxt n v l → ∀ x, x < n → rval e l x = e
  | [], _, _, _, _, _, _ => rfl
  | (a, b, w) :: t, n, v, hc, hn, x, hx => by
    obtain ⟨h1, _, h3, h4⟩ := hc
    have hna : n ≤ a := by rcases hn with h | h <;> omega
    simp only [rval]
    rw [if_neg (by omega)]
    exact canon_ge h4 h3 x (by omega)
/-- One more interval at the end: merged with the last one if both are one. -/
def pushR [DecidableEq V] (e : V) (l : Runs V) (a b : Int) (v : V) : Runs V :=
  if v = e then l else match l.getLast? with
    | some (c, d, w) => if d = a ∧ w = v then l.dropLast ++ [(c, b, v)] else l ++ [(a, b, v)]
    | none => [(a, b, v)]
/-- The member that holds at x. -/
theorem rval_mem : ∀ {l : Runs V} {x : Int}, rval e l x = e ∨ ∃ a b, (a, b, rval e l x) ∈ l ∧ a ≤ x ∧ x < b
  | [], _ => .inl rfl
  | (a, b, v) :: t, x => by
    simp only [rval]
    split
    · rename_i h; exact .inr ⟨a, b, by simp, h⟩
    · rcases rval_mem (l := t) (x := x) with h | ⟨a', b', h1, h2⟩
      · exact .inl h
      · exact .inr ⟨a', b', List.mem_cons_of_mem _ h1, h2⟩
theorem rval_of_mem : ∀ {l : Runs V} {a b x : Int} {v : V}, Canon e l → (a, b, v) ∈ l → a ≤ x → x < b → rval e l x = v
  | (c, d, w) :: t, a, b, x, v, hc, hm, h1, h2 => by
    obtain ⟨k1, k2, k3, k4⟩ := hc
    rcases List.mem_cons.1 hm with h | h
    · simp only [Prod.mk.injEq] at h
      obtain ⟨rfl, rfl, rfl⟩ := h
      simp only [rval]; rw [if_pos ⟨h1, h2⟩]
    · have ih := rval_of_mem k4 h h1 h2
      simp only [rval]
      split
      · rename_i h3
        have := canon_ge k4 k3 x h3.2
        -- the member would hold e
        exfalso
        rw [ih] at this
        have : v ≠ e := by
          clear this ih h1 h2 h3 k1 k2 k3 hm
          induction t with
          | nil => simp at h
          | cons r t ih =>
            obtain ⟨_, q2, _, q4⟩ := k4
            rcases List.mem_cons.1 h with h | h
            · subst h; exact q2
            · exact ih q4 h
        exact this (by assumption)
      · exact ih
theorem canon_mem : ∀ {l : Runs V} {a b : Int} {v : V}, Canon e l → (a, b, v) ∈ l → a < b ∧ v ≠ e
  | (c, d, w) :: t, a, b, v, hc, hm => by
    rcases List.mem_cons.1 hm with h | h
    · simp only [Prod.mk.injEq] at h
      obtain ⟨rfl, rfl, rfl⟩ := h
      exact ⟨hc.1, hc.2.1⟩
    · exact canon_mem hc.2.2.2 h
end
end Go.Gb

/- General part of the proofs: reasoning on the mirrored functions, continued: loops over a list as folds, the last element of a list, halving. -/
namespace Go.Gb

end Go.Gb

/- General part of the proofs: own slices in the library's functions: sorted and made compact in place, made with room. -/
namespace Go.Gb
open Go.Proofs Go.Sort Go.RowKit Go.Lib
variable {P : Program}

/-- A slice of the call's own, in a block that the call may write to. -/
def IsOwnW {α : Type} [Enc α] (v : Value) (k : K) (e : TypeId) (xs : List α) : Pred := fun u k' => IsOwn 0 e xs u k' ∧ Wr (obF v) k (obF u)

theorem ownAt {α : Type} [Enc α] {u v : Value} {k : K} {B : Nat} {e : TypeId} {xs : List α} (h : v = u) (g : IsOwn B e xs v k) : OwnAt u B e xs v k := ⟨h, g⟩
theorem upT {R : Pred} [Mono R] {u v : Value} {k q : K} (h : R u k) (hk : Grow k q) (e : v = u) : R v q := e ▸ Mono.mono hk h
theorem repL_int {k : K} : ∀ {xs : List Int} {cs : List Value}, RepL k cs xs ↔ cs = xs.map (Value.int .i64)
  | [], cs => by simp [RepL]
  | x :: xs, cs => by
    rw [repL_flat]
    have : ∀ l : List Int, (l.map fun n => FlatE.enc n).flatten = l.map (Value.int .i64) := by
      intro l
      induction l with
      | nil => rfl
      | cons a l ih => simp only [List.map_cons, List.flatten_cons, ih]; rfl
    rw [this]

section
variable {k0 : K} {b off cap : Nat} {cur : Array Value} {e : TypeId} {xs : List Int} {cs : List Value}
theorem own_holds (hh : k0.w.heap[b]? = some (.cells cur e (0, 0))) (hroom : off + xs.length ≤ cur.size) (hcs : (cur.toList.drop off).take (xs.length * Enc.sz Int) = cs) (hrep : RepL k0 cs xs) :
    Holds (Value.int .i64) k0.w b off xs.toArray := by
  intro j hj
  simp only [List.size_toArray] at hj
  refine ⟨?_, by simp [World.frozen?, hh]⟩
  have h1 : cs[j]? = cur[off + j]? := by
    rw [← hcs, List.getElem?_take, if_pos (by show j < xs.length * 1; omega), List.getElem?_drop, Array.getElem?_toList]
  rw [repL_int.1 hrep, List.getElem?_map, List.getElem?_eq_getElem hj] at h1
  simp only [World.cell?, hh, ← h1]
  rw [getElem!_pos _ j (by simpa using hj)]
  simp
theorem put_own {ys zs : List Int} (hB : 0 ≤ b) (ho : ¬ k0.sh b) (hh : k0.w.heap[b]? = some (.cells cur e (0, 0))) (hc1 : xs.length ≤ cap) (hc0 : 0 < cap) (hcm : cap ≤ maxLen) (hfit : off + cap * Enc.sz Int ≤ cur.size)
    (hlen : (ys ++ zs).length = xs.length) {w' : World} {n : Nat} {os : Array Obj} (hw : w' = grow (putRow (Value.int .i64) (Sort.ahead k0.w n) b off (ys ++ zs).toArray) os) :
    ∃ k' : K, k'.w = w' ∧ Chg (obF (.slice (some ⟨b, off, none⟩) xs.length cap)) k0 k' ∧ IsOwn 0 e ys (.slice (some ⟨b, off, none⟩) ys.length cap) k' := by
  have hlt : b < k0.w.heap.size := (Array.getElem?_eq_some_iff.1 hh).1
  have hsz : k0.w.heap.size ≤ w'.heap.size := by rw [hw]; unfold putRow mapBlock; simp [grow, Sort.ahead]
  have hblk : ∀ x, x < k0.w.heap.size → x ≠ b → w'.heap[x]? = k0.w.heap[x]? := by
    intro x hx hxb
    rw [hw]
    unfold putRow mapBlock
    rw [heap_grow_old _ _ (by simpa [Sort.ahead] using hx)]
    simp [Array.getElem?_modify, hxb.symm, Sort.ahead]
  have hrow : w'.heap[b]? = some (.cells (putCells (Value.int .i64) off (ys ++ zs).toArray cur) e (0, 0)) := by
    rw [hw]
    unfold putRow mapBlock
    rw [heap_grow_old _ _ (by simpa [Sort.ahead] using hlt)]
    simp [Array.getElem?_modify, hh, onCells, Sort.ahead]
  let k' : K := ⟨w', k0.sh, fun x hx => Nat.lt_of_lt_of_le (k0.lt x hx) hsz⟩
  have hyl : ys.length ≤ xs.length := by rw [← hlen, List.length_append]; omega
  have hE : Enc.sz Int = 1 := rfl
  refine ⟨k', rfl, ⟨by rw [show k'.w = w' from rfl, hw]; rfl, by rw [show k'.w = w' from rfl, hw]; rfl, by rw [show k'.w = w' from rfl, hw]; rfl, hsz, fun x hx hF => hblk x hx fun e' => hF (by simp [obF, ob, e', Nat.ne_of_gt hc0]), fun _ h => h, fun _ _ h => .inl h, by rw [show k'.w = w' from rfl, hw]; exact Nat.le_add_right _ _⟩,
    .inr (.inr ⟨b, off, cap, _, _, rfl, hB, ho, hrow, by omega, hc0, hcm, by simpa [putCells] using hfit, rfl, ?_⟩)⟩
  rw [repL_int]
  refine List.ext_getElem? fun t => ?_
  rw [List.getElem?_take, hE, Nat.mul_one]
  split
  · rename_i ht
    have hcur : off + t < cur.size := by rw [hE] at hfit; omega
    rw [List.getElem?_drop, Array.getElem?_toList, putCells, Array.getElem?_mapIdx, Array.getElem?_eq_getElem hcur, Option.map_some, if_pos (by simp only [List.size_toArray]; omega), Nat.add_sub_cancel_left, getElem!_pos _ t (by simp only [List.size_toArray]; omega), List.getElem?_map, List.getElem?_eq_getElem ht]
    simp [List.getElem_append_left ht]
  · rename_i ht
    rw [List.getElem?_eq_none (by simp; omega)]
end

/-- An own slice of numbers, sorted in place. -/
theorem sortI_own {f : FuncId} {S : List Int → List Int} {e : TypeId} {xs : List Int} {v0 : Value} {k0 : K} (hS : (S xs).length = xs.length)
    (hnone : ∀ p cap w, Calls P f #[.slice p 0 cap] w fun e w' => e = .returned (.tuple #[]) ∧ w' = w)
    (hc : ∀ blk off cap (w : World), Holds (Value.int .i64) w blk off xs.toArray → blk < w.heap.size →
      Calls P f #[.slice (some ⟨blk, off, none⟩) xs.length cap] w fun e w' => e = .returned (.tuple #[]) ∧ ∃ n os, w' = grow (putRow (Value.int .i64) (Sort.ahead w n) blk off (S xs).toArray) os)
    (i0 : IsOwn 0 e xs v0 k0) : Calls P f #[v0] k0.w (RetC (obF v0) k0 fun _ k' => IsOwn 0 e (S xs) v0 k') := by
  have hz : ∀ p cap, v0 = .slice p 0 cap → xs = [] → Calls P f #[v0] k0.w (RetC (obF v0) k0 fun _ k' => IsOwn 0 e (S xs) v0 k') := by
    intro p cap hv hx
    have hS0 : S xs = [] := List.length_eq_zero_iff.1 (by rw [hS, hx]; rfl)
    subst hv
    refine (hnone p cap k0.w).mono ?_
    rintro e' w' ⟨rfl, rfl⟩
    refine ⟨k0, rfl, Chg.refl _ k0, ?_⟩
    rw [hS0]
    rw [hx] at i0
    exact i0
  rcases i0 with ⟨hv, hx⟩ | ⟨a, hv, hx⟩ | ⟨b, off, cap, cur, cs, rfl, hB, ho, hh, hc1, hc0, hcm, hfit, hcs, hrep⟩
  · exact hz _ _ hv hx
  · exact hz _ _ hv hx
  · have hlt : b < k0.w.heap.size := (Array.getElem?_eq_some_iff.1 hh).1
    have hE : Enc.sz Int = 1 := rfl
    have hH := own_holds hh (by rw [hE] at hfit; omega) hcs hrep
    refine (hc b off cap k0.w hH hlt).mono ?_
    rintro e' w' ⟨rfl, n, os, hw⟩
    obtain ⟨k', e1, hg, hown⟩ := put_own (xs := xs) (ys := S xs) (zs := []) hB ho hh hc1 hc0 hcm hfit (by simpa using hS) (by simpa using hw)
    exact ⟨k', e1, hg, by rw [hS] at hown; exact hown⟩

/-- An own slice of numbers, made compact in place. -/
theorem compactI_own {f : FuncId} {e : TypeId} {xs : List Int} {v0 : Value} {k0 : K} (hl : (compact xs).length ≤ xs.length) (hlen : xs.length ≤ 1073741824)
    (hnone : ∀ p cap w, Calls P f #[.slice p 0 cap] w fun e w' => e = .returned (.slice p 0 cap) ∧ w' = w)
    (hc : ∀ blk off cap (w : World), Holds (Value.int .i64) w blk off xs.toArray → xs.length ≤ cap →
      Calls P f #[.slice (some ⟨blk, off, none⟩) xs.length cap] w fun e w' => e = .returned (.slice (some ⟨blk, off, none⟩) (compact xs).length cap) ∧
        ∃ q, w' = putRow (Value.int .i64) (Sort.ahead w q) blk off (compact xs ++ List.replicate (xs.length - (compact xs).length) 0).toArray)
    (i0 : IsOwn 0 e xs v0 k0) : Calls P f #[v0] k0.w (RetC (obF v0) k0 (IsOwnW v0 k0 e (compact xs))) := by
  have hz : ∀ p cap, v0 = .slice p 0 cap → xs = [] → Calls P f #[v0] k0.w (RetC (obF v0) k0 (IsOwnW v0 k0 e (compact xs))) := by
    intro p cap hv hx
    have hS0 : compact xs = [] := List.length_eq_zero_iff.1 (by rw [hx] at hl ⊢; simpa using hl)
    subst hv
    refine (hnone p cap k0.w).mono ?_
    rintro e' w' ⟨rfl, rfl⟩
    refine ⟨k0, rfl, Chg.refl _ k0, ?_, fun b h => .inl h⟩
    rw [hS0]
    rw [hx] at i0
    exact i0
  rcases i0 with ⟨hv, hx⟩ | ⟨a, hv, hx⟩ | ⟨b, off, cap, cur, cs, rfl, hB, ho, hh, hc1, hc0, hcm, hfit, hcs, hrep⟩
  · exact hz _ _ hv hx
  · exact hz _ _ hv hx
  · have hE : Enc.sz Int = 1 := rfl
    have hH := own_holds hh (by rw [hE] at hfit; omega) hcs hrep
    refine (hc b off cap k0.w hH hc1).mono ?_
    rintro e' w' ⟨rfl, q, hw⟩
    obtain ⟨k', e1, hg, hown⟩ := put_own (xs := xs) (ys := compact xs) (zs := List.replicate (xs.length - (compact xs).length) 0) (n := q) (os := #[]) (w' := w') hB ho hh hc1 hc0 hcm hfit (by simp; omega) (by rw [hw, grow_empty])
    refine ⟨k', e1, hg, hown, fun b h => .inl ?_⟩
    simpa [obF, ob] using h

/-! What sorting and making compact do, plainly. -/
theorem keeps_val {α : Type} [DecidableEq α] [Inhabited α] {zs : List α} {j : Nat} (hj : j < zs.length) (h0 : 0 < j) : keeps zs.toArray j = decide (zs[j] ≠ zs[j - 1]'(by omega)) := by
  unfold keeps
  rw [getElem!_pos _ j (by simpa using hj), getElem!_pos _ (j - 1) (by simp; omega)]
  simp [Nat.ne_of_gt h0]
theorem compact_sorted {l : List Int} (hs : l.Pairwise fun a b => a ≤ b) : (compact l).Pairwise (fun a b => a < b) ∧ (∀ x, x ∈ compact l ↔ x ∈ l) ∧ (compact l).length ≤ l.length := by
  have hs' := List.pairwise_iff_getElem.1 hs
  have key : ∀ m, m ≤ l.length → (compactUpTo l.toArray m).Pairwise (fun a b => a < b) ∧ (∀ x, x ∈ compactUpTo l.toArray m ↔ x ∈ l.take m) ∧ (compactUpTo l.toArray m).length ≤ m := by
    intro m
    induction m with
    | zero => intro _; simp [compactUpTo]
    | succ m ih =>
      intro hm
      obtain ⟨h1, h2, h3⟩ := ih (by omega)
      rw [compactUpTo_succ, List.take_succ_eq_append_getElem (by omega : m < l.length)]
      have e : l.toArray[m]! = l[m] := by rw [getElem!_pos _ m (by simp; omega)]; simp
      rcases Nat.eq_zero_or_pos m with rfl | h0
      · simp [keeps, compactUpTo, e]
      · rw [keeps_val (by omega) h0, e]
        have hle : l[m - 1]'(by omega) ≤ l[m] := hs' (m - 1) m (by omega) (by omega) (by omega)
        by_cases he : l[m] = l[m - 1]'(by omega)
        · simp only [he, ne_eq, not_true_eq_false, decide_false, Bool.false_eq_true, if_false, List.append_nil]
          refine ⟨h1, fun x => ?_, by omega⟩
          rw [h2]
          constructor
          · intro h; exact List.mem_append_left _ h
          · intro h
            rcases List.mem_append.1 h with h | h
            · exact h
            · simp only [List.mem_singleton] at h
              subst h
              rw [List.mem_iff_getElem]
              exact ⟨m - 1, by simp; omega, by simp⟩
        · simp only [ne_eq, he, not_false_eq_true, decide_true, if_true]
          refine ⟨?_, fun x => ?_, by simp; omega⟩
          · rw [List.pairwise_append]
            refine ⟨h1, List.pairwise_singleton _ _, fun x hx y hy => ?_⟩
            simp only [List.mem_singleton] at hy
            subst hy
            have := (h2 x).1 hx
            obtain ⟨j, hj, rfl⟩ := List.getElem_of_mem this
            rw [List.getElem_take]
            simp only [List.length_take] at hj
            have h5 : l[j]'(by omega) ≤ l[m - 1]'(by omega) := by
              rcases Nat.lt_or_ge j (m - 1) with h | h
              · exact hs' j (m - 1) (by omega) (by omega) h
              · have : j = m - 1 := by omega
                subst this; exact Int.le_refl _
            omega
          · rw [List.mem_append, List.mem_append, h2]
  have := key l.length (Nat.le_refl _)
  rwa [List.take_length] at this
theorem compact_length {l : List Int} : (compact l).length ≤ l.length := by
  unfold compact compactUpTo
  rw [List.length_map]
  exact Nat.le_trans (List.length_filter_le _ _) (by simp)
/-- The numbers, sorted. -/
def sortInts (l : List Int) : Option (List Int) := if l.length ≤ 1073741824 then some (l.mergeSort fun x y => decide (x ≤ y)) else none
theorem sortInts_spec {l : List Int} (h : l.length ≤ 1000000) : ∃ r, sortInts l = some r ∧ r.Perm l ∧ r.Pairwise fun a b => a ≤ b := by
  refine ⟨_, if_pos (by omega), List.mergeSort_perm _ _, ?_⟩
  have := List.pairwise_mergeSort (le := fun x y : Int => decide (x ≤ y)) (by intro a b c; simp; omega) (by intro a b; simp; omega) l
  simpa using this
/-- Each number once. -/
def compactInts (l : List Int) : Option (List Int) := if l.length ≤ 1073741824 then some (compact l) else none
theorem compactInts_spec {l : List Int} (h : l.length ≤ 1000000) (hs : l.Pairwise fun a b => a ≤ b) : ∃ r, compactInts l = some r ∧ r.Pairwise (fun a b => a < b) ∧ (∀ x, x ∈ r ↔ x ∈ l) ∧ r.length ≤ l.length :=
  ⟨_, if_pos (by omega), compact_sorted hs⟩
end Go.Gb

/- General part of the proofs: building runs from cuts; loops that may end early; sums. -/
namespace Go.Gb
section
variable {V : Type} [DecidableEq V] {e : V}

/-- The runs of a function that is constant between neighbouring cuts. -/
def build (e : V) (zs : List Int) (A : Int → V) : Nat → Runs V
  | 0 => []
  | i + 1 => pushR e (build e zs A i) (zs.getD i 0) (zs.getD (i + 1) 0) (A (zs.getD i 0))
end

/-! Sums -/
end Go.Gb

/- General part of the proofs: short forms of the steps. -/
namespace Go.Gb
abbrev IsI (x : Int) : Pred := IsV x
abbrev IsL {α : Type} (x : List α) : Pred := IsV (x.length : Int)
/-- what holds of the slots -/
def Al : List (Nat × Pred) → Act → K → Prop
  | [], _, _ => True
  | (t, R) :: l, a, k => R (a.get t) k ∧ Al l a k
section
variable {P : Program} {a a0 a' : Act} {k k0 k' kk : K} {R : Pred} {o : Oper} {es : List Ent} {F : FP} {n : Nat} {Q : Exit → Act → World → Prop} {A : Array Oper} {m : Nat} {ops : List Oper}
theorem gS {id : Nat} (m : Nat) (es : List Ent) (hn : a0.tmps.size = n) (hchk : chkS n m A.toList es = true)
    (hst : Steps P es a0 k0 (A.toList.take m) es) (hQ : LetsOut Q)
    (hpost : ∀ a k, Post A.toList es m a0 k0 a k → wpOps P A Q (List.range' m (A.size - m)) a k.w) : (Code.region id A false).wp P Q a0 k0.w :=
  regionS es hn hchk hst hQ hpost
theorem cutS {x y : Code} (T : Act → K → Prop)
    (h1 : ∀ Q' : Exit → Act → World → Prop, LetsOut Q' → (∀ a' k', T a' k' → Q' .normal a' k'.w) → x.wp P Q' a k.w)
    (h2 : ∀ a' k', T a' k' → y.wp P Q a' k'.w) : (Code.seq x y).wp P Q a k.w :=
  wp_seq (h1 _ trivial h2)
theorem cutL {x y : Code} (F : FP) (kk : K) (n : Nat) (l : List (Nat × Pred))
    (h1 : ∀ Q' : Exit → Act → World → Prop, LetsOut Q' → (∀ a' k', Bs F kk n a' k' ∧ Al l a' k' → Q' .normal a' k'.w) → x.wp P Q' a k.w)
    (h2 : ∀ a' k', Bs F kk n a' k' ∧ Al l a' k' → y.wp P Q a' k'.w) : (Code.seq x y).wp P Q a k.w :=
  wp_seq (h1 _ trivial h2)
/-- A region, and what is then used of it. -/
theorem stepL {id : Nat} {y : Code} (m : Nat) (es : List Ent) (hm : A.size = m) (H : Bs F kk n a k) (hchk : chkS n m A.toList es = true)
    (hst : Steps P es a k (A.toList.take m) es) (l : List (Nat × Pred)) (hl : ∀ b q, Post A.toList es m a k b q → Al l b q)
    (h2 : ∀ a' k', Bs F kk n a' k' ∧ Al l a' k' → y.wp P Q a' k'.w) : (Code.seq (Code.region id A false) y).wp P Q a k.w := by
  refine wp_seq ?_
  refine regionS es H.s hchk hst trivial fun b q p => ?_
  rw [hm, Nat.sub_self]
  exact tail_done (k := q) (h2 _ _ ⟨Bs.post H p, hl _ _ p⟩)
theorem Post.ke {b : Act} {q : K} [Mono R] (p : Post ops es m a k b q) (t : Nat) (ht : allI (fun i o => i ≥ m || o.dst != some t) 0 ops = true) (h : R (a.get t) k) : R (b.get t) q := keep p t ht h
theorem Post.ou {b : Act} {q : K} {nd : List (Nat × Option Nat)} (p : Post ops es m a k b q) (i d : Nat) (h : (Nat.blt i m, (nth ops i).bind (·.dst), nth es i) = (true, some d, some ⟨some R, nd⟩)) : R (b.get d) q :=
  out p i d nd (Prod.mk.inj h).1 (Prod.mk.inj (Prod.mk.inj h).2).1 (Prod.mk.inj (Prod.mk.inj h).2).2
theorem o1 (nd : List (Nat × Option Nat)) [Mono R] (hg : o.guard = none) (h : ∀ a k, Grow k0 k → Known es a0 a k nd → Does P o a k R) : Ob P es a0 k0 o ⟨some R, nd⟩ := ob1 hg h
theorem mu {t : Nat} [Mono R] (h : (o.guard, o.op) = (none, .move (.tmp t))) (i : R (a0.get t) k0) : Ob P es a0 k0 o ⟨some R, [(t, none)]⟩ :=
  ob1 (Prod.mk.inj h).1 fun _ _ g n => ok_move (Prod.mk.inj h).2 (up i g n.1)
theorem cp {t : Nat} (j : Nat) {nd : List (Nat × Option Nat)} [Mono R] (h : (o.guard, o.op) = (none, .assign (.tmp t))) (hj : nth es j = some ⟨some R, nd⟩) : Ob P es a0 k0 o ⟨some R, [(t, some j)]⟩ :=
  ob1 (Prod.mk.inj h).1 fun a k _ n => ok_assign (Prod.mk.inj h).2 (show R (a.get t) k by have h1 := n.1; rw [hj] at h1; exact h1)
theorem cm {t : Nat} (j : Nat) {nd : List (Nat × Option Nat)} [Mono R] (h : (o.guard, o.op) = (none, .move (.tmp t))) (hj : nth es j = some ⟨some R, nd⟩) : Ob P es a0 k0 o ⟨some R, [(t, some j)]⟩ :=
  ob1 (Prod.mk.inj h).1 fun a k _ n => ok_move (Prod.mk.inj h).2 (show R (a.get t) k by have h1 := n.1; rw [hj] at h1; exact h1)
theorem aI {x : Int} {y : Operand} (h : (o.guard, o.op) = (none, .assign y)) (hy : y = .const (.int .i64 x)) : Ob P es a0 k0 o ⟨some (IsI x), []⟩ := by
  subst hy; exact ob1 (Prod.mk.inj h).1 fun _ _ _ _ => ok_assign (Prod.mk.inj h).2 (isV_int.2 rfl)
theorem cI {x : Int} {v : Value} (h : v = .int .i64 x) : IsV x v k := isV_int.2 h
theorem cB {p : Prop} {x : Bool} {v : Value} (h : v = .bool x) (_ : p) : IsV x v k := isV_bool.2 h
end
section
variable {P : Program} {o : Oper} {a0 : Act} {k0 : K} {R : Pred} {es : List Ent} {nj : List (Nat × Option Nat)} {j : Nat} {m : Bool}
theorem gT (nd : List (Nat × Option Nat)) [Mono R] (hg : o.guard = some (j, true)) (hj : nth es j = some ⟨some (IsV m), nj⟩) (h : m = true → ∀ a k, Grow k0 k → Known es a0 a k nd → Does P o a k R) : Ob P es a0 k0 o ⟨some (Gd (m = true) R), nd⟩ := gdT hg hj h
theorem gF (nd : List (Nat × Option Nat)) [Mono R] (hg : o.guard = some (j, false)) (hj : nth es j = some ⟨some (IsV m), nj⟩) (h : m = false → ∀ a k, Grow k0 k → Known es a0 a k nd → Does P o a k R) : Ob P es a0 k0 o ⟨some (Gd (m = false) R), nd⟩ := gdF hg hj h
theorem mT {t : Nat} [Mono R] (h : (o.guard, o.op) = (some (j, true), .move (.tmp t))) (hj : nth es j = some ⟨some (IsV m), nj⟩) (i : R (a0.get t) k0) : Ob P es a0 k0 o ⟨some (Gd (m = true) R), [(t, none)]⟩ :=
  gdT (Prod.mk.inj h).1 hj fun _ _ _ g n => ok_move (Prod.mk.inj h).2 (up i g n.1)
theorem mF {t : Nat} [Mono R] (h : (o.guard, o.op) = (some (j, false), .move (.tmp t))) (hj : nth es j = some ⟨some (IsV m), nj⟩) (i : R (a0.get t) k0) : Ob P es a0 k0 o ⟨some (Gd (m = false) R), [(t, none)]⟩ :=
  gdF (Prod.mk.inj h).1 hj fun _ _ _ g n => ok_move (Prod.mk.inj h).2 (up i g n.1)
end
end Go.Gb

/- General part of the proofs: pointers to boxes that are handed to calls, and methods that hold one. -/
namespace Go.Gb
end Go.Gb

/- General part of the proofs: shorter forms of single operations. -/
namespace Go.Gb
section
variable {P : Program} {o : Oper} {a0 : Act} {k0 : K} {R S : Pred} {es : List Ent} {α : Type} [Enc α] {nd nd2 : List (Nat × Option Nat)}
theorem known_at {es : List Ent} {a : Act} {k : K} {t j : Nat} {l : List (Nat × Option Nat)} (hj : nth es j = some ⟨some R, nd⟩) (h : Known es a0 a k ((t, some j) :: l)) : R (a.get t) k := by
  have h1 := h.1; rw [hj] at h1; exact h1
theorem e0 {t j : Nat} [Mono R] (h : (o.guard, o.op) = (none, .extract (.tmp t) 0)) (hj : nth es j = some ⟨some (IsTup2 R S), nd⟩) : Ob P es a0 k0 o ⟨some R, [(t, some j)]⟩ :=
  ob1 (Prod.mk.inj h).1 fun _ _ _ n => ok_ext2_0 (Prod.mk.inj h).2 (known_at hj n)
theorem e1 {t j : Nat} [Mono S] (h : (o.guard, o.op) = (none, .extract (.tmp t) 1)) (hj : nth es j = some ⟨some (IsTup2 R S), nd⟩) : Ob P es a0 k0 o ⟨some S, [(t, some j)]⟩ :=
  ob1 (Prod.mk.inj h).1 fun _ _ _ n => ok_ext2_1 (Prod.mk.inj h).2 (known_at hj n)
theorem ld {t j : Nat} {ty : TypeId} {y : α} (h : (o.guard, o.op) = (none, .load ty (.tmp t))) (ht : Ty P ty α) (hj : nth es j = some ⟨some (IsPtr y), nd⟩) : Ob P es a0 k0 o ⟨some (IsV y), [(t, some j)]⟩ :=
  ob1 (Prod.mk.inj h).1 fun _ _ _ n => ok_load (Prod.mk.inj h).2 ht (known_at hj n)
end
end Go.Gb

/- General part of the proofs: shifts and bits. -/
namespace Go.Gb
def shlI (n m : Int) : Option Int := if 0 ≤ m then some (IntKind.i64.wrap (n * 2 ^ min m.toNat 64)) else none
def shrI (n m : Int) : Option Int := if 0 ≤ m then some (n.fdiv (2 ^ min m.toNat 64)) else none
def andnI (n m : Int) : Int := IntKind.i64.wrap ((BitVec.ofInt 64 n &&& ~~~BitVec.ofInt 64 m).toNat : Int)
def orI (n m : Int) : Int := IntKind.i64.wrap ((BitVec.ofInt 64 n ||| BitVec.ofInt 64 m).toNat : Int)
def IK.shl {κ : IntKind} (x : IK κ) (n : Int) : IK κ := ⟨κ.wrap (x.n * 2 ^ n.toNat)⟩
def IK.and {κ : IntKind} (x y : IK κ) : IK κ := ⟨κ.wrap ((BitVec.ofInt κ.bits x.n &&& BitVec.ofInt κ.bits y.n).toNat : Int)⟩
section
variable {P : Program} {o : Oper} {a : Act} {k : K} {t u : TypeId} {x y : Operand} {n m r : Int} {κ : IntKind} {p q : IK κ}
theorem ok_shl (ho : o.op = .binOp .shl t x y u) (hx : IsV n (a.eval x) k) (hy : ∃ κ', a.eval y = .int κ' m) (h : shlI n m = some r) : Does P o a k (IsV r) := by
  obtain ⟨h0, rfl⟩ := of_ite h
  have hx := isV_int.1 hx; obtain ⟨κ', hy⟩ := hy
  refine does_pure (v := .int .i64 (IntKind.i64.wrap (n * 2 ^ min m.toNat 64))) ?_ (isV_int.2 rfl)
  simp only [execOp, ho, hx, hy]
  have h2 : ¬ m < 0 := by omega
  simp [eqGuard, binOp, Op.shift, h2]
  rfl
theorem ok_shr (ho : o.op = .binOp .shr t x y u) (hx : IsV n (a.eval x) k) (hy : ∃ κ', a.eval y = .int κ' m) (h : shrI n m = some r) : Does P o a k (IsV r) := by
  obtain ⟨h0, rfl⟩ := of_ite h
  have hx := isV_int.1 hx; obtain ⟨κ', hy⟩ := hy
  refine does_pure (v := .int .i64 (n.fdiv (2 ^ min m.toNat 64))) ?_ (isV_int.2 rfl)
  simp only [execOp, ho, hx, hy]
  have h2 : ¬ m < 0 := by omega
  simp [eqGuard, binOp, Op.shift, h2]
  rfl
theorem ok_andn (ho : o.op = .binOp .andNot t x y u) (hx : IsV n (a.eval x) k) (hy : IsV m (a.eval y) k) : Does P o a k (IsV (andnI n m)) := by
  have hx := isV_int.1 hx; have hy := isV_int.1 hy
  refine does_pure (v := .int .i64 (andnI n m)) ?_ (isV_int.2 rfl)
  simp only [execOp, ho, hx, hy]
  simp [eqGuard, binOp, Op.intBits, andnI]
  rfl
theorem ok_or (ho : o.op = .binOp .or t x y u) (hx : IsV n (a.eval x) k) (hy : IsV m (a.eval y) k) : Does P o a k (IsV (orI n m)) := by
  have hx := isV_int.1 hx; have hy := isV_int.1 hy
  refine does_pure (v := .int .i64 (orI n m)) ?_ (isV_int.2 rfl)
  simp only [execOp, ho, hx, hy]
  simp [eqGuard, binOp, Op.intBits, orI]
  rfl
theorem ok_shrKI (ho : o.op = .binOp .shr t x y u) (hx : IsV p (a.eval x) k) (hy : ∃ κ', a.eval y = .int κ' m) (h0 : 0 ≤ m) (h1 : m.toNat ≤ κ.bits) : Does P o a k (IsV (p.shr m)) := by
  have hx := isV_ik.1 hx; obtain ⟨κ', hy⟩ := hy
  refine does_pure (v := .int κ (p.n.fdiv (2 ^ m.toNat))) ?_ (isV_ik.2 rfl)
  simp only [execOp, ho, hx, hy]
  have h2 : ¬ m < 0 := by omega
  simp [eqGuard, binOp, Op.shift, h2, Nat.min_eq_left h1]
theorem ok_shlKI (ho : o.op = .binOp .shl t x y u) (hx : IsV p (a.eval x) k) (hy : ∃ κ', a.eval y = .int κ' m) (h0 : 0 ≤ m) (h1 : m.toNat ≤ κ.bits) : Does P o a k (IsV (p.shl m)) := by
  have hx := isV_ik.1 hx; obtain ⟨κ', hy⟩ := hy
  refine does_pure (v := .int κ (κ.wrap (p.n * 2 ^ m.toNat))) ?_ (isV_ik.2 rfl)
  simp only [execOp, ho, hx, hy]
  have h2 : ¬ m < 0 := by omega
  simp [eqGuard, binOp, Op.shift, h2, Nat.min_eq_left h1]
theorem ok_andK (ho : o.op = .binOp .and t x y u) (hx : IsV p (a.eval x) k) (hy : IsV q (a.eval y) k) : Does P o a k (IsV (p.and q)) := by
  have hx := isV_ik.1 hx; have hy := isV_ik.1 hy
  refine does_pure (v := .int κ (p.and q).n) ?_ (isV_ik.2 rfl)
  simp only [execOp, ho, hx, hy]
  simp [eqGuard, binOp, Op.intBits, IK.and]
end
end Go.Gb

/- Arrays of ints that are indexed with a number that is not known before. -/
namespace Go.Gb

section
variable {P : Program} {o : Oper} {a : Act} {k : K} {α : Type} [Enc α]
theorem ok_arrIndexR {t e n : Nat} {x y : Operand} {l : List Int} {z : α} {i v : Int} (ho : o.op = .index t x y) (ht : P.underlying t = some (.array n e)) (he : Ty P e Int) (hn : n = l.length) (hag : Enc.agg α = true)
    (hf : ∀ k cs, Enc.rep k cs z → cs = l.map (Value.int .i64)) (hx : IsV z (a.eval x) k) (hy : IsV i (a.eval y) k) (h : getI l i = some v) : Does P o a k (IsV v) := by
  obtain ⟨cs, e1, hr⟩ := hx
  have hy := isV_int.1 hy
  have e2 := hf k _ hr
  obtain ⟨h0, h1, h2, h3⟩ := getI_spec h
  obtain ⟨⟨d, hd, hda⟩, hsz⟩ := he
  have hs1 : (P.info? e).map (·.size) = some 1 := hsz
  refine does_pure (v := .int .i64 v) ?_ (isV_int.2 rfl)
  have hpart : (part e cs.toArray (i.toNat * 1)).run P k.w = .ok (.int .i64 v) k.w := by
    have hc : cs.toArray[i.toNat]? = some (Value.int .i64 v) := by
      rw [e2]; simp [h1]
    have ha : aggOf d = false := hda
    simp [part, run_isAgg hd, ha, hc]
  rw [hag] at e1
  have e3 : a.eval x = .agg cs.toArray := e1
  simp only [execOp, ho, hy, e3]
  simp [Instr.index, asIntOf, run_underlying ht, run_sizeOf hs1, h0]
  rw [if_pos (by omega)]
  rw [Nat.mul_one] at hpart
  rw [hpart]
  rfl
end
end Go.Gb

/- General part of the proofs: slices without room to spare: an append makes a new one. -/
namespace Go.Gb
section
variable {α : Type} [Enc α] {P : Program} {o : Oper} {a : Act} {k : K}
/-- A slice without room to spare. -/
def IsFull (xs : List α) (v : Value) (k : K) : Prop := (∃ ad, v = .slice (some ad) xs.length xs.length) ∧ IsV xs v k
instance (xs : List α) : Pers (IsFull xs) := ⟨fun h ⟨e, r⟩ => ⟨e, Pers.pers h r⟩⟩
theorem run_append_full {t ty e : TypeId} {xs ys zs : List α} {v y : Value} (hu : P.underlying t = some (.slice e)) (he : ElemOk P e α)
    (hv : IsFull xs v k) (hy : Readable ys y k) (hz : appI xs ys = some zs) :
    ∃ v' k', (Builtin.append_ #[t, t] ty #[v, y]).run P k.w = .ok v' k'.w ∧ Grow k k' ∧ IsV zs v' k' := by
  obtain ⟨hlen, rfl⟩ := of_ite hz
  obtain ⟨i, z, hi, hiz, hsz, hzs, hpos, hby⟩ := he
  obtain ⟨⟨ad0, rfl⟩, hv⟩ := hv
  by_cases hm : ys = []
  · subst hm
    have hys : ∃ b c, y = .slice b 0 c := by
      rcases hy with ⟨rfl, _⟩ | ⟨ad, cap, cs, rfl, _⟩
      · exact ⟨_, _, rfl⟩
      · exact ⟨_, _, rfl⟩
    exact ⟨_, k, append_none t ty ⟨e, hu, by simp [hi]⟩ _ y k.w ⟨_, _, _, rfl, Nat.le_refl _⟩ hys, Grow.refl k, by rw [List.append_nil]; exact hv⟩
  · rcases hy with ⟨_, rfl⟩ | ⟨ad, c, news, rfl, hyc, hyr, hya⟩
    · exact absurd rfl hm
    have hya := hya.resolve_left hm
    have hyl := hyr.len
    have hpl : 0 < ys.length := List.length_pos_iff.2 hm
    have hnews : ∀ j u, news[j]? = some u → k.w.cell? (ad.add j) = some u := hya.cell
    have hl : news.length = ys.length * i.size := by rw [hsz]; exact hyl
    have hold : ∃ olds, RepL k olds xs ∧ ∀ j u, olds[j]? = some u → k.w.cell? (ad0.add j) = some u := by
      rcases hv.rd with ⟨h, _⟩ | ⟨ad1, c1, cs, h, _, hr, hc⟩
      · simp at h
      · simp only [Value.slice.injEq, Option.some.injEq] at h
        obtain ⟨rfl, _, _⟩ := h
        refine ⟨cs, hr, fun j u hj => ?_⟩
        rcases hc with rfl | hc
        · have := hr.len
          simp at this
          subst this
          simp at hj
        · exact hc.cell j u hj
    obtain ⟨olds, hr, holds⟩ := hold
    have hol := hr.len
    have hrun := run_append_grow (P := P) k.w t ty e i z hu hi hiz ad0 xs.length xs.length olds (by rw [hsz]; exact hol) holds ad ys.length c news hl hnews (by omega) (by omega) (growslice_fits (by omega) (by
      have : (xs.length + ys.length) * i.bytes ≤ 1073741824 * 65536 := Nat.mul_le_mul hlen hby
      omega))
    have hge := grownCap_ge k.w (xs.length + ys.length) xs.length e
    have hcm : grownCap k.w (xs.length + ys.length) xs.length e ≤ maxLen := grownCap_le_maxLen k.w _ xs.length e (by unfold maxLen; omega)
    generalize grownCap k.w (xs.length + ys.length) xs.length e = cap at hge hcm hrun
    let k' : K := ⟨_, k.sh, fun b hb => by
      have := k.lt b hb
      show b < (k.w.drew.alloc (.cells (olds.toArray ++ news.toArray ++ Builtin.zeroCells z.cells (cap - (xs.length + ys.length))) e)).heap.size
      simp; omega⟩
    have hblk : ∀ b, b < k.w.heap.size → k'.w.heap[b]? = k.w.heap[b]? := fun b hb => (World.grownBy_alloc k.w.drew _ none).block b hb (by simp)
    have hle : Le k k' := ⟨fun b hb => hblk b (k.lt b hb), fun b hb => hb⟩
    have hg : Grown k k' none := ⟨rfl, rfl, rfl, by simp [k'], fun b hb _ => hblk b hb, rfl, Nat.le_succ _⟩
    have hown : IsOwn k.w.heap.size e (xs ++ ys) (.slice (some ⟨k.w.heap.size, 0, none⟩) (xs.length + ys.length) cap) k' := by
      refine .inr (.inr ⟨k.w.heap.size, 0, cap, _, _, by rw [List.length_append], Nat.le_refl _, fun hs => Nat.lt_irrefl _ (k.lt _ hs),
        heap_alloc_new k.w.drew _, by rw [List.length_append]; exact hge, by omega, hcm, ?_, rfl, ?_⟩)
      · have e1 : olds.length + news.length = (xs.length + ys.length) * Enc.sz α := by rw [hol, hyl, Nat.add_mul]
        simp only [Array.size_append, List.size_toArray, size_zeroCells, hzs]
        rw [e1, ← Nat.add_mul, Nat.zero_add]
        exact Nat.mul_le_mul_right _ (by omega)
      · have e1 : (xs ++ ys).length * Enc.sz α = (olds ++ news).length := by rw [List.length_append, List.length_append, hol, hyl, Nat.add_mul]
        rw [e1]
        simp only [Array.toList_append, List.drop_zero]
        rw [List.take_left]
        exact (hr.append hyr).mono hle
    obtain ⟨k2, e2, _, hg2, hv2, _⟩ := hown.share hg.grow (Nat.le_refl _)
    exact ⟨_, k2, by rw [e2]; exact hrun, hg2, hv2⟩
theorem ok_appendF {t e : TypeId} {x y : Operand} {xs ys zs : List α} (ho : o.op = .call { callee := .builtin .append, args := #[x, y], argTypes := #[t, t] })
    (hu : P.underlying t = some (.slice e)) (he : ElemOk P e α) (hx : IsFull xs (a.eval x) k) (hy : Readable ys (a.eval y) k) (hz : appI xs ys = some zs) :
    Does P o a k (IsV zs) := by
  obtain ⟨v', k', hr, hg, hv⟩ := run_append_full (P := P) (t := t) (ty := o.type) hu he hx hy hz
  refine does_run (v := v') (k' := k') ?_ hg hv
  simp [execOp, ho, resolve, invoke, builtin, hr]
theorem ok_buildSliceF {t e n : Nat} {ps : List (Nat × Operand)} {xs : List α} (ho : o.op = .buildSlice t n ps.toArray) (hu : P.underlying t = some (.slice e)) (he : ElemOk P e α)
    (hn : n = xs.length) (h0 : 0 < n) (hlim : n * Enc.sz α ≤ 16777216) (h : Parts a k 0 ps xs) : Does P o a k (IsFull xs) := by
  have h' := h
  obtain ⟨i, z, hi, hiz, hsz, hzs, hpos, hby⟩ := he
  have hn' := hn
  subst hn
  obtain ⟨cs, hr, hf⟩ := fill_parts (z := z.cells.toList) (by simpa using hzs) ps xs 0 [] h (by simp)
  have hf := hf ((List.range (xs.length * Enc.sz α)).map fun j => z.cells[j % z.cells.size]!) (by simp)
  simp only [List.nil_append] at hf
  have hrun : (Instr.buildSlice t xs.length (ps.map fun p => (p.1, a.eval p.2)).toArray).run P k.w = .ok (.slice (some ⟨k.w.heap.size, 0, none⟩) xs.length xs.length) (k.alloc (.cells cs.toArray e)).w := by
    have hne : xs.length * Enc.sz α ≠ 0 := Nat.pos_iff_ne_zero.1 (Nat.mul_pos h0 hpos)
    have hnl : ¬ (xs.length * Enc.sz α > 2 ^ 24) := by omega
    have harr : (Array.range (xs.length * Enc.sz α)).map (fun j => z.cells[j % z.cells.size]!) = ((List.range (xs.length * Enc.sz α)).map fun j => z.cells[j % z.cells.size]!).toArray := by
      simp [← List.toArray_range]
    simp only [Instr.buildSlice, Sem.run_bind, run_underlying hu, Result.andThen_ok, run_sizeOf (P := P) (w := k.w) (show (P.info? e).map (·.size) = some (Enc.sz α) by simp [hi, hsz])]
    simp [hnl, hne, zeroValue, typeInfo, hi, hiz, harr, hf, newRow, newObj, K.alloc]
    rfl
  obtain ⟨v, k', hr2, hg, hown⟩ := run_buildSlice (P := P) hu ⟨i, z, hi, hiz, hsz, hzs, hpos, hby⟩ rfl h0 hlim h'
  rw [hrun] at hr2
  simp only [Result.ok.injEq] at hr2
  obtain ⟨rfl, _⟩ := hr2
  obtain ⟨k2, e2, _, hg2, hv2, _⟩ := hown.share hg (Nat.le_refl _)
  have hrun' : (Instr.buildSlice t xs.length (ps.map fun p => (p.1, a.eval p.2)).toArray).run P k.w = .ok (.slice (some ⟨k.w.heap.size, 0, none⟩) xs.length xs.length) k2.w := by
    rw [hrun, e2]; congr 1
  refine does_run (v := .slice (some ⟨k.w.heap.size, 0, none⟩) xs.length xs.length) (k' := k2) ?_ hg2 ⟨⟨_, rfl⟩, hv2⟩
  simp only [execOp, ho, List.map_toArray]
  simp [hrun']
end
end Go.Gb

/- General part of the proofs: package-level variables that are laid with data. -/
namespace Go.Gb
section
variable {P : Program} {t e : TypeId} {α β σ : Type} [Enc α] [Enc β]

/-- What is read as this datum is this value. -/
structure Ld (P : Program) (t : TypeId) (α : Type) [Enc α] (d : α → DataW Unit) : Prop where
  ld : ∀ (W : World) (fuel : Nat) (cs : List Value) (p : List MemPlace) (x : α), DataW.trod (fun _ => ()) P W 0 (fun _ => true) false fuel t cs = some (d x, p) → Enc.rep (kOf W) cs x
/-- The fields of a struct, from the offset o on. -/
structure LdF (P : Program) (fs : List Field) (o : Nat) (α : Type) [Enc α] (d : α → List (DataW Unit)) : Prop where
  run : ∀ (W : World) (fuel : Nat) (cs : List Value) (x : α) (xs : List (DataW Unit × List MemPlace)), cs.length = o + Enc.sz α → xs.map (·.1) = d x →
    (∀ (i : Nat) (f : Field), fs[i]? = some f → DataW.trod (fun _ => ()) P W 0 (fun _ => true) false fuel f.type ((cs.drop f.offset).take (P.cellsOf f.type)) = xs[i]?) → Enc.rep (kOf W) (cs.drop o) x
theorem LdF.one {f : Field} {o : Nat} {d : α → DataW Unit} (ho : f.offset = o) (hz : P.cellsOf f.type = Enc.sz α) (h : Ld P f.type α d) : LdF P [f] o α fun x => [d x] := by
  refine ⟨fun W fuel cs x xs hl hx hf => ?_⟩
  have h0 := hf 0 f rfl
  rw [ho, hz, List.take_of_length_le (by simp; omega)] at h0
  match xs, hx with
  | [y], hx =>
    simp only [List.map_cons, List.map_nil, List.cons.injEq, and_true] at hx
    obtain ⟨y1, y2⟩ := y
    dsimp only at hx
    subst hx
    exact h.ld W fuel _ y2 x (by simpa using h0)
  | [], hx => simp at hx
  | _ :: _ :: _, hx => simp at hx
theorem LdF.cons {f : Field} {fs : List Field} {o : Nat} {d : α → DataW Unit} {ds : β → List (DataW Unit)} (ho : f.offset = o) (hz : P.cellsOf f.type = Enc.sz α) (h : Ld P f.type α d) (g : LdF P fs (o + Enc.sz α) β ds) :
    LdF P (f :: fs) o (α × β) fun x => d x.1 :: ds x.2 := by
  refine ⟨fun W fuel cs x xs hl hx hf => ?_⟩
  have hl' : cs.length = o + (Enc.sz α + Enc.sz β) := hl
  have h0 := hf 0 f rfl
  rw [ho, hz] at h0
  match xs, hx with
  | y :: ys, hx =>
    simp only [List.map_cons, List.cons.injEq] at hx
    obtain ⟨y1, y2⟩ := y
    obtain ⟨hx1, hx2⟩ := hx
    dsimp only at hx1
    subst hx1
    have h1 := h.ld W fuel _ y2 x.1 (by simpa using h0)
    have h2 := g.run W fuel cs x.2 ys (by omega) hx2 fun i f' hf' => by
      have := hf (i + 1) f' (by simpa using hf')
      simpa using this
    rw [← List.drop_drop] at h2
    exact ⟨by simp; omega, h1, h2⟩
end
end Go.Gb

/- General part of the proofs: regions in which operations that only look may come behind a store. -/
namespace Go.Gb

/-- All operations behind number m come behind all others. -/
def chkB (m : Nat) (ops : List Oper) : Bool := allI (fun j _ => Nat.ble j m || (List.range j).all fun i => hasBit (masks ops []) j i) 0 ops

theorem count_set {listed : Array Bool} {i : Nat} (hi : i < listed.size) (h : listed.getD i false = false) :
    (listed.toList.filter (· = false)).length = ((listed.setIfInBounds i true).toList.filter (· = false)).length + 1 := by
  have h0 : listed[i] = false := by simpa [Array.getD_eq_getD_getElem?, Array.getElem?_eq_getElem hi] using h
  have hsplit : listed.toList = listed.toList.take i ++ false :: listed.toList.drop (i + 1) := by
    have h1 := List.take_append_drop i listed.toList
    have h2 : listed.toList.drop i = listed.toList[i]'(by simpa using hi) :: listed.toList.drop (i + 1) := List.drop_eq_getElem_cons (by simpa using hi)
    rw [Array.getElem_toList, h0] at h2
    exact (h1.symm.trans (by rw [h2]))
  have hset : (listed.setIfInBounds i true).toList = listed.toList.take i ++ true :: listed.toList.drop (i + 1) := by
    rw [Array.toList_setIfInBounds, List.set_eq_take_append_cons_drop, if_pos (by simpa using hi)]
  have e1 := congrArg (fun l => (l.filter (· = false)).length) hsplit
  have e2 := congrArg (fun l => (l.filter (· = false)).length) hset
  simp only [List.filter_append, List.length_append, List.filter_cons] at e1 e2
  simp at e1 e2 ⊢
  omega

section
variable {P : Program} {a0 : Act} {k0 : K} {es : List Ent}
theorem tail_anyB {A : Array Oper} {m : Nat} {Q : Exit → Act → World → Prop} (hedge : allI (fun i o => (binding o).all (· < i)) 0 A.toList = true) (htail : chkB m A.toList = true) :
    ∀ (fuel i : Nat) (listed : Array Bool) (a : Act) (w : World), m + 1 ≤ i → i + fuel = A.size → listed.size = A.size → (∀ j, listed.getD j false = true ↔ j < i) →
      wpOps P A Q (List.range' i fuel) a w → wpAny P .any A Q fuel listed a w := by
  have hready : ∀ (i : Nat) (listed : Array Bool), m + 1 ≤ i → listed.size = A.size → (∀ j, listed.getD j false = true ↔ j < i) → ∀ j, j ∈ Region.ready .any A listed ↔ (j = i ∧ i < A.size) := by
    intro i listed hmi hls hD j
    simp only [Region.ready, List.mem_filter, List.mem_range, Bool.and_eq_true, Bool.not_eq_true']
    have hT : ∀ j, j < A.size → listed.getD j true = listed.getD j false := by
      intro j hj; simp [Array.getD_eq_getD_getElem?, Array.getElem?_eq_getElem (show j < listed.size by omega)]
    constructor
    · rintro ⟨hjA, hj1, hj2⟩
      rw [hT j hjA] at hj1
      have hji : ¬ j < i := fun h => by rw [(hD j).2 h] at hj1; simp at hj1
      rcases Nat.lt_or_ge i j with hlt | hge
      · exfalso
        have ho : nth A.toList j = some A[j] := by rw [nth_toList]; simp [hjA]
        have hc := allI_spec htail j _ ho
        simp only [Nat.zero_add, Bool.or_eq_true, Nat.ble_eq] at hc
        have hc := hc.resolve_left (by omega)
        have hbit := List.all_eq_true.1 hc i (by simp; omega)
        have hdown : ∀ x o', nth A.toList x = some o' → x < i → ∀ e ∈ binding o', e < i := by
          intro x o' hx hxi e he
          have := allI_spec hedge x o' hx
          simp only [Nat.zero_add, List.all_eq_true, decide_eq_true_eq] at this
          have := this e he
          omega
        have := hasBit_spec (L := A.toList) (D := (· < i)) hdown (j := j) (i := i) ?_ hbit
        · omega
        · intro o' ho' e he
          rw [ho, Option.some.injEq] at ho'
          subst ho'
          have hA : A[j]? = some A[j] := by simp [hjA]
          rw [hA] at hj2
          simp only [Option.map_some, Option.getD_some, Array.all_eq_true_iff_forall_mem] at hj2
          simp only [binding, List.mem_map, List.mem_filter, Array.mem_toList_iff] at he
          obtain ⟨y, ⟨hy, hyb⟩, rfl⟩ := he
          have := hj2 y hy
          simp only [hyb, Bool.not_true, Bool.false_or] at this
          exact (hD _).1 this
      · exact ⟨by omega, by omega⟩
    · rintro ⟨rfl, hlt⟩
      refine ⟨hlt, ?_, ?_⟩
      · rw [hT j hlt]
        cases hb : listed.getD j false with
        | false => rfl
        | true => have := (hD j).1 hb; omega
      · have hA : A[j]? = some A[j] := by simp [hlt]
        rw [hA]
        simp only [Option.map_some, Option.getD_some, Array.all_eq_true_iff_forall_mem]
        intro y hy
        cases hyb : Region.binds .any y with
        | false => rfl
        | true =>
          simp only [Bool.not_true, Bool.false_or]
          have ho : nth A.toList j = some A[j] := by rw [nth_toList]; simp [hlt]
          have := allI_spec hedge j _ ho
          simp only [Nat.zero_add, List.all_eq_true, decide_eq_true_eq] at this
          exact (hD _).2 (this y.on (by simp only [binding, List.mem_map, List.mem_filter, Array.mem_toList_iff]; exact ⟨y, ⟨hy, hyb⟩, rfl⟩))
  intro fuel
  induction fuel with
  | zero =>
    intro i listed a w hmi hi hls hD h
    refine ⟨?_, by simpa [wpOps] using h⟩
    refine List.eq_nil_iff_forall_not_mem.2 fun j hj => ?_
    have := (hready i listed hmi hls hD j).1 hj
    omega
  | succ fuel ih =>
    intro i listed a w hmi hi hls hD h
    refine ⟨fun hnil => ?_, fun j hj => ?_⟩
    · have := (hready i listed hmi hls hD i).2 ⟨rfl, by omega⟩
      rw [hnil] at this; simp at this
    · obtain ⟨rfl, hlt⟩ := (hready i listed hmi hls hD j).1 hj
      rw [List.range'_succ, wpOps_cons] at h
      refine wpOp_mono (fun a' w' h' => ih (j + 1) _ a' w' (by omega) (by omega) (by simp [hls]) (fun x => ?_) h') h
      by_cases hx : x = j
      · subst hx; simp [Array.getD_eq_getD_getElem?, hls, hlt]
      · rw [getD_set_ne _ (fun e => hx e.symm), hD]; omega

theorem full_count {A : Array Oper} {m : Nat} {listed : Array Bool} (hmA : m < A.size) (hls : listed.size = A.size) (hD : ∀ j, listed.getD j false = true ↔ j < m + 1) :
    (listed.toList.filter (· = false)).length = A.size - (m + 1) := by
  have hl : listed.toList = List.replicate (m + 1) true ++ List.replicate (A.size - (m + 1)) false := by
    refine List.ext_getElem (by simp; omega) fun j h1 h2' => ?_
    have hjl : j < listed.size := by simpa using h1
    have hg : listed.toList[j] = listed.getD j false := by simp [Array.getD_eq_getD_getElem?, Array.getElem?_eq_getElem hjl]
    refine hg.trans ?_
    generalize listed.getD j false = z at hg
    have hz : z = true ↔ j < m + 1 := by rw [← hD j, ← hg]; simp [Array.getD_eq_getD_getElem?, Array.getElem?_eq_getElem hjl]
    rw [List.getElem_append]
    split
    · rename_i h; simp at h; rw [List.getElem_replicate]; exact hz.2 (by omega)
    · rename_i h; simp at h; rw [List.getElem_replicate]
      cases z with
      | false => rfl
      | true => have := hz.1 rfl; omega
  rw [hl]; simp

/-- The first operations in any order; number m, which writes, when it may; all others behind them. -/
theorem any_st {A : Array Oper} {n m : Nat} {Q : Exit → Act → World → Prop} {B : K → Prop} (hn : a0.tmps.size = n) (hS : chkS n m A.toList es = true) (hmA : m < A.size) (htail : chkB m A.toList = true)
    (hst : Steps P es a0 k0 (A.toList.take m) es) (hB : ∀ kb, B kb → Steps P es a0 kb (A.toList.take m) es) (hQ : LetsOut Q)
    (hT : ∀ a k (D : Nat → Prop), (∀ j, D j → j < m) → Inv A.toList es a0 k0 D a k → (∀ o, nth A.toList m = some o → ∀ e ∈ binding o, D e) →
      ∀ C : Act → World → Prop, (∀ kb k1, B kb → Inv A.toList es a0 kb D a k1 → C a k1.w) → wpOp P A Q m C a k.w)
    (hpost : ∀ kb, B kb → ∀ a k, Inv A.toList es a0 kb (· < m) a k → wpOps P A Q (List.range' (m + 1) (A.size - (m + 1))) a k.w) :
    ∀ (fuel : Nat) (listed : Array Bool) (a : Act) (k : K), listed.size = A.size → fuel = (listed.toList.filter (· = false)).length →
      (∀ j, listed.getD j false = true → j ≤ m) →
      ((listed.getD m false = false ∧ Inv A.toList es a0 k0 (fun j => listed.getD j false = true) a k) ∨
       (listed.getD m false = true ∧ (∀ o, nth A.toList m = some o → ∀ e ∈ binding o, listed.getD e false = true) ∧ ∃ kb, B kb ∧ Inv A.toList es a0 kb (fun j => listed.getD j false = true ∧ j < m) a k)) →
      wpAny P .any A Q fuel listed a k.w := by
  have hS' := hS
  simp only [chkS, Bool.and_eq_true, beq_iff_eq, decide_eq_true_eq] at hS'
  obtain ⟨⟨⟨⟨hlen, hml⟩, h2⟩, hedge⟩, hdist⟩ := hS'
  intro fuel
  induction fuel with
  | zero =>
    intro listed a k hls hf hDm hinv
    have hall : ∀ j, j < A.size → listed.getD j false = true := by
      intro j hj
      have hz := List.eq_nil_of_length_eq_zero hf.symm
      have : listed[j]'(by omega) ∉ listed.toList.filter (· = false) := by rw [hz]; simp
      simp only [List.mem_filter, Array.mem_toList_iff, Array.getElem_mem, true_and, decide_eq_true_eq, Bool.not_eq_false] at this
      simp [Array.getD_eq_getD_getElem?, Array.getElem?_eq_getElem (show j < listed.size by omega), this]
    have hm : A.size = m + 1 := by
      rcases Nat.lt_or_ge (m + 1) A.size with h | h
      · have := hDm (m + 1) (hall _ h); omega
      · omega
    rcases hinv with ⟨h, _⟩ | ⟨_, _, kb, hb, hinv⟩
    · rw [hall m hmA] at h; simp at h
    · have he : (fun j => listed.getD j false = true ∧ j < m) = (· < m) := funext fun j => propext ⟨fun h => h.2, fun h => ⟨hall j (by omega), h⟩⟩
      rw [he] at hinv
      refine tail_anyB hedge htail 0 (m + 1) listed a k.w (Nat.le_refl _) (by omega) hls (fun j => ⟨fun h => by have := hDm j h; omega, fun h => hall j (by omega)⟩) ?_
      have := hpost kb hb a k hinv
      rwa [show A.size - (m + 1) = 0 by omega] at this
  | succ fuel ih =>
    intro listed a k hls hf hDm hinv
    have hT2 : ∀ j, j < A.size → listed.getD j true = listed.getD j false := by
      intro j hj; simp [Array.getD_eq_getD_getElem?, Array.getElem?_eq_getElem (show j < listed.size by omega)]
    have hbind : ∀ j, j < A.size → ((A[j]?).map (·.after.all fun e => !Region.binds .any e || listed.getD e.on false)).getD false = true →
        ∀ o, nth A.toList j = some o → ∀ e ∈ binding o, listed.getD e false = true := by
      intro j hjA hj2 o ho e he
      have hA : A[j]? = some o := by rw [← nth_toList]; exact ho
      rw [hA] at hj2
      simp only [Option.map_some, Option.getD_some, Array.all_eq_true_iff_forall_mem] at hj2
      simp only [binding, List.mem_map, List.mem_filter, Array.mem_toList_iff] at he
      obtain ⟨y, ⟨hy, hyb⟩, rfl⟩ := he
      have := hj2 y hy
      simpa only [hyb, Bool.not_true, Bool.false_or] using this
    by_cases hfull : ∀ j, j < m + 1 → listed.getD j false = true
    · rcases hinv with ⟨h, _⟩ | ⟨_, _, kb, hb, hinv⟩
      · rw [hfull m (by omega)] at h; simp at h
      · have hD : ∀ j, listed.getD j false = true ↔ j < m + 1 := fun j => ⟨fun h => by have := hDm j h; omega, hfull j⟩
        have he : (fun j => listed.getD j false = true ∧ j < m) = (· < m) := funext fun j => propext ⟨fun h => h.2, fun h => ⟨hfull j (by omega), h⟩⟩
        rw [he] at hinv
        have hcount := full_count hmA hls hD
        rw [← hf] at hcount
        refine tail_anyB hedge htail (fuel + 1) (m + 1) listed a k.w (Nat.le_refl _) (by omega) hls hD ?_
        rw [hcount]; exact hpost kb hb a k hinv
    · have hex : ∃ j, j < m + 1 ∧ listed.getD j false = false ∧ ∀ i, i < j → listed.getD i false = true := by
        obtain ⟨j, hj⟩ := Classical.not_forall.1 hfull
        have hj : j < m + 1 ∧ listed.getD j false = false := by
          by_cases h : j < m + 1
          · exact ⟨h, by cases hb : listed.getD j false with | false => rfl | true => exact absurd (fun _ => hb) hj⟩
          · exact absurd (fun h' => absurd h' h) hj
        clear hfull
        induction j using Nat.strongRecOn with
        | _ j ihj =>
          by_cases hall : ∀ i, i < j → listed.getD i false = true
          · exact ⟨j, hj.1, hj.2, hall⟩
          · obtain ⟨i, hi⟩ := Classical.not_forall.1 hall
            obtain ⟨hij, hib⟩ : i < j ∧ ¬ listed.getD i false = true := ⟨Classical.byContradiction fun h => hi fun h' => absurd h' h, fun h => hi fun _ => h⟩
            exact ihj i hij (fun h => absurd (h (by omega)) hib) ⟨by omega, by simpa using hib⟩
      have hclosed : ∀ x o', nth A.toList x = some o' → listed.getD x false = true → ∀ e ∈ binding o', listed.getD e false = true := by
        intro x o' ho' hx e he
        rcases hinv with ⟨_, hinv⟩ | ⟨_, hmc, kb, _, hinv⟩
        · exact hinv.closed x o' ho' hx e he
        · by_cases hxm : x = m
          · subst hxm; exact hmc o' ho' e he
          · exact (hinv.closed x o' ho' ⟨hx, by have := hDm x hx; omega⟩ e he).1
      refine ⟨fun hnil => ?_, fun i hi => ?_⟩
      · exfalso
        obtain ⟨j, hjm, hjb, hlow⟩ := hex
        have hjr : j ∈ Region.ready .any A listed := by
          simp only [Region.ready, List.mem_filter, List.mem_range, Bool.and_eq_true, Bool.not_eq_true']
          refine ⟨by omega, by rw [hT2 j (by omega)]; exact hjb, ?_⟩
          have hA : A[j]? = some A[j] := by simp [show j < A.size by omega]
          rw [hA]
          simp only [Option.map_some, Option.getD_some, Array.all_eq_true_iff_forall_mem]
          intro y hy
          cases hyb : Region.binds .any y with
          | false => rfl
          | true =>
            simp only [Bool.not_true, Bool.false_or]
            have ho : nth A.toList j = some A[j] := by rw [nth_toList]; exact hA
            have := allI_spec hedge j _ ho
            simp only [Nat.zero_add, List.all_eq_true, decide_eq_true_eq] at this
            exact hlow _ (this y.on (by simp only [binding, List.mem_map, List.mem_filter, Array.mem_toList_iff]; exact ⟨y, ⟨hy, hyb⟩, rfl⟩))
        rw [hnil] at hjr; simp at hjr
      · simp only [Region.ready, List.mem_filter, List.mem_range, Bool.and_eq_true, Bool.not_eq_true'] at hi
        obtain ⟨hiA, hi1, hi2⟩ := hi
        rw [hT2 i hiA] at hi1
        have ho : nth A.toList i = some A[i] := by rw [nth_toList]; simp [hiA]
        have hb := hbind i hiA hi2 _ ho
        have hbm : ∀ e ∈ binding A[i], e < i := by
          have := allI_spec hedge i _ ho
          simp only [Nat.zero_add, List.all_eq_true, decide_eq_true_eq] at this
          exact this
        have him : i ≤ m := by
          rcases Nat.lt_or_ge m i with h | h
          · exfalso
            have hc := allI_spec htail i _ ho
            simp only [Nat.zero_add, Bool.or_eq_true, Nat.ble_eq] at hc
            have hc := hc.resolve_left (by omega)
            obtain ⟨j, hjm, hjb, hlow⟩ := hex
            have hbit := List.all_eq_true.1 hc j (by simp; omega)
            have := hasBit_spec (L := A.toList) (D := fun x => listed.getD x false = true) hclosed (j := i) (i := j)
              (fun o' ho' => hbind i hiA hi2 o' ho') hbit
            rw [this] at hjb; simp at hjb
          · exact h
        have hil : i < listed.size := by omega
        have hcnt := count_set hil hi1
        rw [← hf] at hcnt
        have hDm' : ∀ j, (listed.setIfInBounds i true).getD j false = true → j ≤ m := fun j hj => by
          by_cases hji : j = i
          · omega
          · rw [getD_set_ne _ (fun e => hji e.symm)] at hj; exact hDm j hj
        have hset : ∀ j, (listed.setIfInBounds i true).getD j false = true ↔ (listed.getD j false = true ∨ j = i) := by
          intro j
          by_cases hji : j = i
          · subst hji; simp [Array.getD_eq_getD_getElem?, show j < listed.size by omega]
          · rw [getD_set_ne _ (fun e => hji e.symm)]; simp [hji]
        by_cases hie : i = m
        · -- the store
          subst hie
          rcases hinv with ⟨_, hinv⟩ | ⟨h, _⟩
          · have hDlt : ∀ j, listed.getD j false = true → j < i := fun j hj => by
              have h1 := hDm j hj
              rcases Nat.lt_or_ge j i with h | h
              · exact h
              · obtain rfl : j = i := by omega
                rw [hj] at hi1; simp at hi1
            refine hT a k (fun j => listed.getD j false = true) hDlt hinv (fun o' ho' => by
              rw [ho, Option.some.injEq] at ho'; subst ho'; exact hb) _ fun kb k1 h1 h3 => ?_
            refine (ih _ a k1 (by simp [hls]) (by omega) hDm' (.inr ⟨(hset i).2 (.inr rfl), fun o' ho' e he => ?_, kb, h1, ?_⟩))
            · rw [ho, Option.some.injEq] at ho'; subst ho'
              exact (hset e).2 (.inl (hb e he))
            · have he : (fun j => (listed.setIfInBounds i true).getD j false = true ∧ j < i) = (fun j => listed.getD j false = true) := by
                funext j
                refine propext ⟨fun h => ?_, fun h => ⟨(hset j).2 (.inl h), hDlt j h⟩⟩
                rcases (hset j).1 h.1 with h5 | h5
                · exact h5
                · have := h.2; omega
              rw [he]; exact h3
          · rw [h] at hi1; simp at hi1
        · have hilt : i < m := by omega
          rcases hinv with ⟨hm0, hinv⟩ | ⟨hm1, hmc, kb, hbB, hinv⟩
          · have hDlt : ∀ j, listed.getD j false = true → j < m := fun j hj => by
              have h1 := hDm j hj
              rcases Nat.lt_or_ge j m with h | h
              · exact h
              · obtain rfl : j = m := by omega
                rw [hj] at hm0; simp at hm0
            refine step_op hn hS hst hinv hDlt ho hilt hb (by simp [hi1]) hQ fun a' k' hinv' => ?_
            refine ih _ a' k' (by simp [hls]) (by omega) hDm' (.inl ⟨by rw [getD_set_ne _ hie]; exact hm0, ?_⟩)
            have he : (fun j => (listed.setIfInBounds i true).getD j false = true) = (fun j => listed.getD j false = true ∨ j = i) := funext fun j => propext (hset j)
            rw [he]; exact hinv'
          · refine step_op hn hS (hB kb hbB) hinv (fun j h => h.2) ho hilt (fun e he => ⟨hb e he, by have := hbm e he; omega⟩) (fun h => by rw [h.1] at hi1; simp at hi1) hQ fun a' k' hinv' => ?_
            refine ih _ a' k' (by simp [hls]) (by omega) hDm' (.inr ⟨by rw [getD_set_ne _ hie]; exact hm1, fun o' ho' e he => (hset e).2 (.inl (hmc o' ho' e he)), kb, hbB, ?_⟩)
            have he : (fun j => (listed.setIfInBounds i true).getD j false = true ∧ j < m) = (fun j => (listed.getD j false = true ∧ j < m) ∨ j = i) := by
              funext j
              rw [hset j]
              refine propext ⟨fun h => ?_, fun h => ?_⟩
              · rcases h.1 with h5 | h5
                · exact .inl ⟨h5, h.2⟩
                · exact .inr h5
              · rcases h with h | h
                · exact ⟨.inl h.1, h.2⟩
                · exact ⟨.inr h, by omega⟩
            rw [he]; exact hinv'
end
end Go.Gb

/- General part of the proofs: parts of data of which nothing is said (slices of a type that holds itself). -/
namespace Go.Gb

/-- A cell of which nothing is said. -/
structure Opq where
  deriving DecidableEq, Inhabited
instance : Enc Opq where
  sz := 1
  agg := false
  rep _ cs _ := ∃ u : Value, cs = [u] ∧ u.oneCell' = true
  len h := by obtain ⟨u, h, _⟩ := h; simp [h]
  mono _ h := h
  one h := by obtain ⟨u, rfl, h⟩ := h; simpa using h
  agg1 _ := rfl
instance : Rg Opq := ⟨fun _ => True⟩

section
variable {P : Program} {t e : TypeId}
theorem rd_opq (hu : P.underlying t = some (.slice e)) : Rd P t Opq where
  rd {H} enc W fuel cs x h := by
    rcases DataW.trod_slice hu h with ⟨rfl, _⟩ | ⟨a, len, cap, elems, rest, n, _, rfl, _⟩
    · exact ⟨⟨⟩, ⟨_, rfl, rfl⟩, trivial⟩
    · exact ⟨⟨⟩, ⟨_, rfl, rfl⟩, trivial⟩
  sh W r base v h := by
    obtain ⟨a, l, c, rfl⟩ := WideShapes.okWide_slice hu h
    rfl
end
end Go.Gb

/- General part of the proofs: strings, and comparisons of small integers. -/
namespace Go.Gb

/-- a byte of a string -/
def strI (s : ByteArray) (i : Int) : Option (IK .u8) := if 0 ≤ i then (s[i.toNat]?).map fun b => ⟨b.toNat⟩ else none
/-- two strings, one after the other -/
def catI (s t : ByteArray) : Option ByteArray := if ((s.size + t.size : Nat) : Int) ≤ IntKind.i64.max then some (s ++ t) else none

theorem beqBA (a b : ByteArray) : (a == b) = decide (a = b) := by
  cases a with | mk x => cases b with | mk y =>
    have h : ((⟨x⟩ : ByteArray) == ⟨y⟩) = (x == y) := rfl
    rw [h]
    by_cases e : x = y
    · simp [e]
    · simp [e]
theorem len9 {l : List Value} (h : l.length = 9) : ∃ a b c d e f g i j, l = [a, b, c, d, e, f, g, i, j] := by
  match l, h with
  | [a, b, c, d, e, f, g, i, j], _ => exact ⟨a, b, c, d, e, f, g, i, j, rfl⟩
section
variable {P : Program} {o : Oper} {a : Act} {k : K} {κ : IntKind} {p q : IK κ} {t u : TypeId} {x y : Operand} {s r : ByteArray} {i : Int} {z : IK .u8}
theorem ok_lenS {ts : Array TypeId} (ho : o.op = .call { callee := .builtin .len, args := #[x], argTypes := ts }) (h0 : ts[0]? = some t)
    (hu : P.underlying t = some .string) (hx : IsV s (a.eval x) k) : Does P o a k (IsV (s.size : Int)) := by
  have hx := isV_str.1 hx
  refine does_pure (v := .int .i64 s.size) ?_ (isV_int.2 rfl)
  simp [execOp, ho, resolve, invoke, builtin, hx, Builtin.len_, h0, run_underlying hu, goInt]
theorem ok_strI (ho : o.op = .index t x y) (hu : P.underlying t = some .string) (hx : IsV s (a.eval x) k) (hy : IsV i (a.eval y) k) (h : strI s i = some z) : Does P o a k (IsV z) := by
  have hx := isV_str.1 hx; have hy := isV_int.1 hy
  unfold strI at h
  split at h
  · rename_i h0
    obtain ⟨b, hb, rfl⟩ := Option.map_eq_some_iff.1 h
    refine does_pure (v := .int .u8 b.toNat) ?_ (isV_ik.2 rfl)
    simp only [execOp, ho, hy, hx]
    simp [Instr.index, asIntOf, run_underlying hu, h0, hb]
  · cases h
theorem ok_catS (ho : o.op = .binOp .add t x y u) (hx : IsV s (a.eval x) k) (hy : IsV r (a.eval y) k) {z : ByteArray} (h : catI s r = some z) : Does P o a k (IsV z) := by
  have hx := isV_str.1 hx; have hy := isV_str.1 hy
  unfold catI at h
  split at h
  · rename_i h0
    obtain rfl := Option.some.inj h
    refine does_pure (v := .string (s ++ r)) ?_ (isV_str.2 rfl)
    simp only [execOp, ho, hx, hy]
    simp [eqGuard, binOp, Op.stringOp]
    simpa [IntKind.max, IntKind.bits, IntKind.signed] using h0
  · cases h
theorem ok_leqK (ho : o.op = .binOp .leq t x y u) (hx : IsV p (a.eval x) k) (hy : IsV q (a.eval y) k) : Does P o a k (IsV (decide (p.n ≤ q.n))) := by
  have hx := isV_ik.1 hx; have hy := isV_ik.1 hy
  refine does_pure (v := .bool (decide (p.n ≤ q.n))) ?_ (isV_bool.2 rfl)
  simp only [execOp, ho, hx, hy]
  simp [eqGuard, binOp, Op.intCmp]
theorem ok_geqK (ho : o.op = .binOp .geq t x y u) (hx : IsV p (a.eval x) k) (hy : IsV q (a.eval y) k) : Does P o a k (IsV (decide (q.n ≤ p.n))) := by
  have hx := isV_ik.1 hx; have hy := isV_ik.1 hy
  refine does_pure (v := .bool (decide (q.n ≤ p.n))) ?_ (isV_bool.2 rfl)
  simp only [execOp, ho, hx, hy]
  simp [eqGuard, binOp, Op.intCmp]
end
end Go.Gb

/- General part of the proofs: maps of the call's own, with values of any kind. -/
namespace Go.Gb
section
variable {P : Program} {o : Oper} {a a0 : Act} {k k' k0 : K} {κ α : Type} [DecidableEq κ] [Enc α] {F G : FP} {kv : κ → Value}

/-- A map of the call's own. -/
def MpR (kv : κ → Value) (m : List (κ × α)) : FP → Pred := fun F v k =>
  ∃ b, ∃ T : List (κ × Value × α), v = .map (some b) ∧ m = T.map (fun t => (t.1, t.2.2)) ∧ MapB kv b (T.map fun t => (t.1, t.2.1)) k ∧ (∀ t ∈ T, IsV t.2.2 t.2.1 k) ∧ F = Eq b
omit [DecidableEq κ] in
theorem MapB.nsh' {b : Nat} {l : List (κ × Value)} (h : MapB kv b l k) : ¬ k.sh b := by obtain ⟨h, _⟩ := h; exact h
omit [DecidableEq κ] in
instance (m : List (κ × α)) : Rsc (MpR kv m) where
  keep := fun ⟨b, T, e1, e2, hb, hT, eF⟩ g hs hn => ⟨b, T, e1, e2, hb.keep g (hs b (by rw [eF])), fun t ht => Pers.pers (g.le hn) (hT t ht), eF⟩
  handed := fun ⟨b, T, e1, e2, hb, hT, eF⟩ g hs => ⟨b, T, e1, e2, hb.handed g (hs b (by rw [eF])), fun t ht => Pers.pers g.le (hT t ht), eF⟩
  lt := fun ⟨b, T, e1, e2, hb, hT, eF⟩ c hc => by rw [eF] at hc; subst hc; exact hb.lt
  nsh := fun ⟨b, T, e1, e2, hb, hT, eF⟩ c hc => by rw [eF] at hc; subst hc; exact hb.nsh'
omit [DecidableEq κ] in
theorem MpR.new {v : Value} {b0 : Nat} (h : ∃ b, v = .map (some b) ∧ b0 ≤ b ∧ MapB kv b [] k) : ∃ F, MpR (α := α) kv [] F v k ∧ ∀ c, F c → b0 ≤ c := by
  obtain ⟨b, e1, hb0, hb⟩ := h
  exact ⟨_, ⟨b, [], e1, rfl, hb, fun t ht => by simp at ht, rfl⟩, fun c hc => by subst hc; exact hb0⟩

theorem getK_split {β γ : Type} (f : β → γ) : ∀ (T : List (κ × β)) (n : κ), getK (T.map fun t => (t.1, f t.2)) n = (getK T n).map f
  | [], _ => rfl
  | (a, v) :: l, n => by
    simp only [List.map_cons, getK]
    split
    · rfl
    · exact getK_split f l n
theorem setK_split {β γ : Type} (f : β → γ) (z : β) : ∀ (T : List (κ × β)) (n : κ), setK (T.map fun t => (t.1, f t.2)) n (f z) = (setK T n z).map fun t => (t.1, f t.2)
  | [], _ => rfl
  | (a, v) :: l, n => by
    simp only [List.map_cons, setK]
    split
    · rfl
    · rw [setK_split f z l n]; rfl
theorem setK_memX {β : Type} {z : β} : ∀ {T : List (κ × β)} {n : κ} {t : κ × β}, t ∈ setK T n z → t.2 = z ∨ t ∈ T
  | [], _, t, h => by simp [setK] at h; exact .inl (by rw [h])
  | (a, v) :: l, n, t, h => by
    simp only [setK] at h
    split at h
    · rcases List.mem_cons.1 h with rfl | h
      · exact .inl rfl
      · exact .inr (List.mem_cons_of_mem _ h)
    · rcases List.mem_cons.1 h with rfl | h
      · exact .inr (by simp)
      · exact (setK_memX h).imp id (List.mem_cons_of_mem _)
theorem getK_memX {β : Type} {z : β} : ∀ {T : List (κ × β)} {n : κ}, getK T n = some z → ∃ t ∈ T, t.2 = z
  | (a, v) :: l, n, h => by
    simp only [getK] at h
    split at h
    · exact ⟨(a, v), by simp, Option.some.inj h⟩
    · obtain ⟨t, ht, e⟩ := getK_memX h; exact ⟨t, List.mem_cons_of_mem _ ht, e⟩

theorem ok_lookupX {t kt et : TypeId} {x y : Operand} {m : List (κ × α)} {n : κ} {z : α} {u : Value} (ho : o.op = .lookup t x y false) (KO : KeyOk P kt kv) (hu : P.underlying t = some (.map kt et)) (hz : Zero P et z)
    (hR : MpR kv m F u k) (hx : a.eval x = u) (hy : a.eval y = kv n) : Does P o a k (IsV ((getK m n).getD z)) := by
  obtain ⟨b, T, e1, e2, hb, hT, _⟩ := hR
  obtain ⟨zv, hz, hzv⟩ := hz
  have h := ok_lookupM (o := o) (a := a) ho KO hu hz (hx.trans e1) hy hb
  refine does_imp h fun v k' g hv => ?_
  rw [hv, e2, getK_split (fun t : Value × α => t.1), getK_split (fun t : Value × α => t.2)]
  cases hg : getK T n with
  | none => exact hzv k'
  | some p =>
    obtain ⟨t, ht, e⟩ := getK_memX hg
    have := hT t ht
    rw [e] at this
    exact Pers.pers g.le this

theorem tail_mapX {A : Array Oper} {i : Nat} {rest : List Nat} {Q : Exit → Act → World → Prop} {t kt et : TypeId} {x y z : Operand} {m : List (κ × α)} {n : κ} {w : α} {u : Value}
    (ho : nth A.toList i = some o) (hg : o.guard = none) (hop : o.op = .mapUpdate t x y z) (hd : o.dst = none) (KO : KeyOk P kt kv) (hu : P.underlying t = some (.map kt et))
    (hR : MpR kv m F u k) (hx : a.eval x = u) (hy : a.eval y = kv n) (hz : IsV w (a.eval z) k)
    (next : ∀ k', Chg F k k' → MpR kv (setK m n w) F u k' → wpOps P A Q rest a k'.w) : wpOps P A Q (i :: rest) a k.w := by
  obtain ⟨b, T, e1, e2, hb, hT, eF⟩ := hR
  refine tail_mapUpdate ho hg hop hd KO hu (hx.trans e1) hy hb fun k' hch hsz hb' => ?_
  subst eF
  have hle := hch.le (fun c hc => by subst hc; exact hb.nsh')
  refine next k' hch ⟨b, setK T n (a.eval z, w), e1, ?_, ?_, fun t ht => ?_, rfl⟩
  · rw [e2]; exact setK_split (fun t : Value × α => t.2) (a.eval z, w) T n
  · rw [← setK_split (fun t : Value × α => t.1)]; exact hb'
  · rcases setK_memX ht with e | ht
    · rw [e]; exact Pers.pers hle hz
    · exact Pers.pers hle (hT t ht)
end
end Go.Gb

/- General part of the proofs: a variable of the library that holds some int. -/
namespace Go.Gb
theorem ref_cell {m : Int} {g : Nat} {k : K} (h : IsRef m (.pointer (some ⟨g, 0, none⟩)) k) : k.w.cell? ⟨g, 0, none⟩ = some (.int .i64 m) := by
  obtain ⟨a, e, _, cs, hr, _, arr, t, fr, hh, hl, hc⟩ := h
  obtain rfl : a = ⟨g, 0, none⟩ := by injection e with e; injection e with e; exact e.symm
  obtain rfl : cs = [.int .i64 m] := hr
  have := hc 0 (by simp)
  unfold World.cell?
  simp only at hh this ⊢
  rw [hh]
  simpa using this
theorem ref_of_cell {m : Int} {g : Nat} {W : World} (h : W.cell? ⟨g, 0, none⟩ = some (.int .i64 m)) : IsRef m (.pointer (some ⟨g, 0, none⟩)) (kOf W) := by
  obtain ⟨hs, arr, t, fr, hh, hc⟩ := cell_at h
  refine ⟨_, rfl, (Array.getElem?_eq_some_iff.1 hh).1, [.int .i64 m], rfl, hs, arr, t, fr, hh, ?_, ?_⟩
  · have h9 : 0 < arr.size := (Array.getElem?_eq_some_iff.1 hc).1
    simpa using (by omega : 1 ≤ arr.size)
  · intro j hj
    obtain rfl : j = 0 := by simpa using hj
    simpa using hc
end Go.Gb


