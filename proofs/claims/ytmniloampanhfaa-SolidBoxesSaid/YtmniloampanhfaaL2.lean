/- The general part of the proofs (no program in sight), part 2: worlds with shared blocks, regions, operations, calls, loops, what comes in as data. -/
import Derived.Laws.IdiomCopy
import Derived.Laws.StructEq
import Derived.Lib.AppendZeros
import Derived.Lib.Overlaps
import Derived.ProofKit
import Derived.Shelf.GgSortFunc.InsertionK
import Derived.Test.YtmniloampanhfaaL1
set_option linter.unusedVariables false
set_option linter.unusedSimpArgs false
/- General part of the proofs: separation, handing over, arrays, comparisons. -/
namespace Go.Gb
section
variable {P : Program} {o : Oper} {a a0 : Act} {k k' k0 : K} {R S : Pred} {α β : Type} [Enc α] [Enc β]

/-- Behind the handing over of a slice. -/
structure Shared (k k' : K) (r : Option Nat) : Prop where
  w : k'.w = k.w
  le : Le k k'
  sh : ∀ b, k'.sh b → k.sh b ∨ r = some b
theorem IsOwn.hand {B : Nat} {e : TypeId} {xs : List α} {v : Value} (h : IsOwn B e xs v k) (hg : Grow k0 k) (hB : k0.w.heap.size ≤ B) :
    ∃ k' : K, Shared k k' (ob v) ∧ Grow k0 k' ∧ IsV xs v k' := by
  obtain ⟨k', hw, hle, hg', hv, hs⟩ := h.share hg hB
  exact ⟨k', ⟨hw, hle, hs⟩, hg', hv⟩
theorem Box.hand {b : Nat} {x : α} (h : Box b x k) (hb : b < k.w.heap.size) (hg : Grow k0 k) (hn : k0.w.heap.size ≤ b) :
    ∃ k' : K, Shared k k' (some b) ∧ Grow k0 k' ∧ IsRef x (.pointer (some ⟨b, 0, none⟩)) k' :=
  ⟨k.share b hb, ⟨rfl, K.share_le k b hb, fun i hi => hi.imp id (fun e => by rw [e])⟩, hg.share hb hn, h.share⟩
theorem Box.shared {b : Nat} {x : α} {r : Option Nat} (h : Box b x k) (g : Shared k k' r) (hne : r ≠ some b) : Box b x k' := by
  have hle := g.le
  obtain ⟨ho, arr, t, h, r'⟩ := h
  exact ⟨fun hs => (g.sh b hs).elim ho hne, arr, t, by rw [g.w]; exact h, Enc.mono hle r'⟩
theorem IsOwn.shared {B : Nat} {e : TypeId} {xs : List α} {v : Value} {r : Option Nat} (h : IsOwn B e xs v k) (g : Shared k k' r) (hne : ∀ b, ob v = some b → r ≠ some b) : IsOwn B e xs v k' := by
  have hle := g.le
  rcases h with r' | r' | ⟨b', off, cap, cur, cs, rfl, hB, ho, hh, hc, h0, r'⟩
  · exact .inl r'
  · exact .inr (.inl r')
  · have hne' := hne b' (by simp [ob, Nat.ne_of_gt h0])
    exact .inr (.inr ⟨b', off, cap, cur, cs, rfl, hB, fun hs => (g.sh b' hs).elim ho hne', by rw [g.w]; exact hh, hc, h0, r'.1, r'.2.1, r'.2.2.1, r'.2.2.2.mono hle⟩)
theorem IsOwn.nsh {B : Nat} {e : TypeId} {xs : List α} {v : Value} (h : IsOwn B e xs v k) : ∀ b, ob v = some b → ¬ k.sh b := fun b hb => (h.lt b hb).2.2
theorem IsOwn.lo {B : Nat} {e : TypeId} {xs : List α} {v : Value} (h : IsOwn B e xs v k) : ∀ b, ob v = some b → B ≤ b := fun b hb => (h.lt b hb).1

/-- Two resources are apart. -/
def Sep (r s : Option Nat) : Prop := ∀ b, r = some b → s ≠ some b
theorem Sep.symm {r s : Option Nat} (h : Sep r s) : Sep s r := fun b e f => h b f e
theorem sep_boxes {b c : Nat} (h : b ≠ c) : Sep (some b) (some c) := fun i e f => h (by simp at e f; rw [e, f])
theorem Sep.box {r : Option Nat} {b : Nat} (h : Sep r (some b)) : r ≠ some b := fun e => h b e rfl
theorem sep_none {r : Option Nat} : Sep none r := fun b e => by simp at e
/-- what is new is apart from what was there -/
theorem sep_new {r s : Option Nat} {n : Nat} (hr : ∀ b, r = some b → b < n) (hs : ∀ b, s = some b → n ≤ b) : Sep r s := fun b e f => by
  have := hr b e; have := hs b f; omega
theorem sep_app {r s s' : Option Nat} {n : Nat} (h : Sep r s) (hr : ∀ b, r = some b → b < n) (hs : ∀ b, s' = some b → s = some b ∨ n ≤ b) : Sep r s' := fun b e f => by
  rcases hs b f with g | g
  · exact h b e g
  · have := hr b e; omega
theorem Box.ltr {b : Nat} {x : α} (h : Box b x k) : ∀ c, some b = some c → c < k.w.heap.size := fun c e => by simp at e; rw [← e]; exact h.lt
theorem IsOwn.ltr {B : Nat} {e : TypeId} {xs : List α} {v : Value} (h : IsOwn B e xs v k) : ∀ b, ob v = some b → b < k.w.heap.size := fun b hb => (h.lt b hb).2.1

theorem ok_moveOA {x : Operand} {u : Value} {B : Nat} {e : TypeId} {xs : List α} (ho : o.op = .move x ∨ o.op = .assign x) (h : OwnAt u B e xs (a.eval x) k) : Does P o a k (OwnAt u B e xs) := by
  rcases ho with ho | ho
  · exact ok_move ho h
  · exact ok_assign ho h

theorem cells_agg (cs : Array Value) : (Value.agg cs).cells = cs := rfl
theorem hd1 {x y : Value} (h : [x] = [y]) : x = y := by simpa using h

/-! arrays as pairs -/
def ArrOk (P : Program) (t e n : Nat) (α : Type) [Enc α] : Prop := P.underlying t = some (.array n e) ∧ (P.info? e).map (·.size) = some (Enc.sz α)
theorem ok_arrAddr {t e n : Nat} {i : Nat} {x y : Operand} {p : α} {z : β} (ho : o.op = .indexAddr t x y) (ht : ArrOk P t e n β) (hi : i < n)
    (hp : ∀ ad k, At p ad k → At z (ad.add (i * Enc.sz β)) k) (hx : IsPtr p (a.eval x) k) (hy : IsV (i : Int) (a.eval y) k) : Does P o a k (IsPtr z) := by
  obtain ⟨ad, e1, hat⟩ := hx
  have hy := isV_int.1 hy
  refine does_pure (v := .pointer (some (ad.add (i * Enc.sz β)))) ?_ ⟨_, rfl, hp _ _ hat⟩
  simp only [execOp, ho, hy, e1]
  simp [Instr.indexAt, asIntOf, run_underlying ht.1, run_sizeOf ht.2, Instr.sureAddr]
  exact fun h => absurd h (by omega)

theorem ok_slice00 {t e : TypeId} {x : Operand} {xs : List α} {lo : Option Operand} (ho : o.op = .slice t x lo (some (.const (.int .i64 0))) (some (.const (.int .i64 0))))
    (hlo : lo = none ∨ lo = some (.const (.int .i64 0))) (hu : P.underlying t = some (.slice e)) (ht : (P.info? e).map (·.size) = some (Enc.sz α)) (hx : Readable xs (a.eval x) k) : Does P o a k IsE0 := by
  have hsz : ∀ w, (sizeOf e).run P w = .ok (Enc.sz α) w := fun w => run_sizeOf ht
  have b1 : ∀ (c : BoundsCode) (y : Nat) (w : World), (Instr.sliceBound (.int .i64 0) y c).run P w = .ok 0 w := fun c y w => by
    simpa using run_sliceBound (P := P) (i := 0) (y := y) (c := c) (w := w) (by omega) (by omega)
  have ev : ∀ v : Value, a.eval (.const v) = v := fun v => rfl
  rcases hx with ⟨e1, rfl⟩ | ⟨ad, cap, cs, e1, _⟩
  · refine does_pure (v := .slice none 0 0) ?_ (.inl rfl)
    rcases hlo with rfl | rfl <;>
    · simp only [execOp, ho, e1]
      simp [Instr.sliceAt, Instr.slice, run_underlying hu, Instr.sliceBounds, b1, hsz, ev]
  · refine does_pure (v := .slice (some ad) 0 0) ?_ (.inr ⟨ad, rfl⟩)
    rcases hlo with rfl | rfl <;>
    · simp only [execOp, ho, e1]
      simp [Instr.sliceAt, Instr.slice, run_underlying hu, Instr.sliceBounds, b1, hsz, ev]

/-! comparisons -/
theorem ok_eqS {t u : TypeId} {x y : Operand} {b c : ByteArray} (ho : o.op = .binOp .eql t x y u) (hx : IsV b (a.eval x) k) (hy : IsV c (a.eval y) k) : Does P o a k (IsV (b.toList == c.toList)) := by
  have hx := isV_str.1 hx; have hy := isV_str.1 hy
  refine does_pure (v := .bool (b.toList == c.toList)) ?_ (isV_bool.2 rfl)
  simp only [execOp, ho, hx, hy]
  simp [eqGuard, binOp, Op.stringOp]
theorem ok_neS {t u : TypeId} {x y : Operand} {b c : ByteArray} (ho : o.op = .binOp .neq t x y u) (hx : IsV b (a.eval x) k) (hy : IsV c (a.eval y) k) : Does P o a k (IsV (!(b.toList == c.toList))) := by
  have hx := isV_str.1 hx; have hy := isV_str.1 hy
  refine does_pure (v := .bool (!(b.toList == c.toList))) ?_ (isV_bool.2 rfl)
  simp only [execOp, ho, hx, hy]
  simp [eqGuard, binOp, Op.stringOp]

/-- Values of this type are compared part by part. -/
def EqOk (P : Program) (t : TypeId) (α : Type) [Enc α] [DecidableEq α] : Prop :=
  P.eqGuardType P.depth t = false ∧ ∀ (k : K) (x y : α) (u v : Value), IsV x u k → IsV y v k → (∃ cs, u = .agg cs) ∧ (∃ cs, v = .agg cs) ∧ ∀ w, (Op.equal t u v).run P w = .ok (decide (x = y)) w
theorem ok_eqA [DecidableEq α] {t u : TypeId} {x y : Operand} {p q : α} (ho : o.op = .binOp .eql t x y u) (he : EqOk P t α) (hx : IsV p (a.eval x) k) (hy : IsV q (a.eval y) k) :
    Does P o a k (IsV (decide (p = q))) := by
  obtain ⟨hgd, he⟩ := he
  obtain ⟨⟨cs, e1⟩, ⟨ds, e2⟩, hr⟩ := he k p q _ _ hx hy
  refine does_pure (v := .bool (decide (p = q))) ?_ (isV_bool.2 rfl)
  rw [e1, e2] at hr
  simp only [execOp, ho, e1, e2]
  simp [eqGuard, binOp, hr, hgd]
theorem ok_neA [DecidableEq α] {t u : TypeId} {x y : Operand} {p q : α} (ho : o.op = .binOp .neq t x y u) (he : EqOk P t α) (hx : IsV p (a.eval x) k) (hy : IsV q (a.eval y) k) :
    Does P o a k (IsV (!decide (p = q))) := by
  obtain ⟨hgd, he⟩ := he
  obtain ⟨⟨cs, e1⟩, ⟨ds, e2⟩, hr⟩ := he k p q _ _ hx hy
  refine does_pure (v := .bool (!decide (p = q))) ?_ (isV_bool.2 rfl)
  rw [e1, e2] at hr
  simp only [execOp, ho, e1, e2]
  simp [eqGuard, binOp, hr, hgd]
end
end Go.Gb

/- General part of the proofs: what is written, told by the blocks that may be written to. -/
namespace Go.Gb

/-- A set of blocks. -/
abbrev FP := Nat → Prop
def noF : FP := fun _ => False
/-- The block of a slice's array. -/
def obF (v : Value) : FP := fun b => ob v = some b

/-- At most these blocks have been written to, or handed over; there may be new ones. -/
structure Chg (F : FP) (k k' : K) : Prop where
  tape : k'.w.tape = k.w.tape
  os : k'.w.os = k.w.os
  out : k'.w.output = k.w.output
  size : k.w.heap.size ≤ k'.w.heap.size
  blk : ∀ b, b < k.w.heap.size → ¬ F b → k'.w.heap[b]? = k.w.heap[b]?
  up : ∀ b, k.sh b → k'.sh b
  new : ∀ b, b < k.w.heap.size → k'.sh b → k.sh b ∨ F b
  drawn : k.w.drawn ≤ k'.w.drawn

theorem Chg.refl (F : FP) (k : K) : Chg F k k := ⟨rfl, rfl, rfl, Nat.le_refl _, fun _ _ _ => rfl, fun _ h => h, fun _ _ h => .inl h, Nat.le_refl _⟩
theorem Chg.of {F : FP} {k k' : K} (h : Grow k k') : Chg F k k' := ⟨h.tape, h.os, h.out, h.size, fun b hb _ => h.blk b hb, h.up, fun b hb hs => .inl (h.new b hb hs), h.drawn⟩
theorem Chg.grow {k k' : K} (h : Chg noF k k') : Grow k k' := ⟨h.tape, h.os, h.out, h.size, fun b hb => h.blk b hb (fun f => f), h.up, fun b hb hs => (h.new b hb hs).elim id False.elim, h.drawn⟩
theorem Chg.new' {F : FP} {k k' : K} (h : Chg F k k') (b : Nat) (hb : b < k.w.heap.size) (hF : ¬ F b) (hs : k'.sh b) : k.sh b := (h.new b hb hs).elim id (fun f => (hF f).elim)
/-- The blocks may be written to: they are in F, or newer than k. -/
def Wr (F : FP) (k : K) (G : FP) : Prop := ∀ b, G b → F b ∨ k.w.heap.size ≤ b
theorem Chg.step {F G : FP} {a b c : K} (h : Chg F a b) (g : Chg G b c) (hw : Wr F a G) : Chg F a c :=
  ⟨g.tape.trans h.tape, g.os.trans h.os, g.out.trans h.out, Nat.le_trans h.size g.size,
    fun i hi hF => (g.blk i (Nat.lt_of_lt_of_le hi h.size) (fun hG => (hw i hG).elim hF (by omega))).trans (h.blk i hi hF),
    fun i hi => g.up i (h.up i hi), fun i hi hs => (g.new i (Nat.lt_of_lt_of_le hi h.size) hs).elim (h.new i hi) (fun hG => .inr ((hw i hG).elim id (by omega))), Nat.le_trans h.drawn g.drawn⟩
theorem Chg.then {F : FP} {a b c : K} (h : Chg F a b) (g : Grow b c) : Chg F a c := h.step (Chg.of (F := noF) g) (fun _ f => f.elim)
theorem Chg.le {F : FP} {k k' : K} (h : Chg F k k') (hF : ∀ b, F b → ¬ k.sh b) : Le k k' :=
  ⟨fun b hb => h.blk b (k.lt b hb) (fun f => hF b f hb), h.up⟩
theorem Wr.none {F : FP} {k : K} : Wr F k noF := fun _ f => f.elim
theorem Wr.up {F G : FP} {k k' : K} (h : Wr F k G) (hs : k'.w.heap.size ≤ k.w.heap.size) : Wr F k' G := fun b hb => (h b hb).imp id (fun h => by omega)
/-- What is newer than a later world, is newer. -/
theorem Wr.new {F F' G : FP} {k k' : K} (hc : Chg F' k k') (h : ∀ b, G b → k'.w.heap.size ≤ b) : Wr F k G := fun b hb => .inr (Nat.le_trans hc.size (h b hb))

/-- Two sets of blocks are apart. -/
def Apart (F G : FP) : Prop := ∀ b, F b → ¬ G b
theorem Apart.symm {F G : FP} (h : Apart F G) : Apart G F := fun b g f => h b f g
theorem Apart.new {F G : FP} {n : Nat} (hF : ∀ b, F b → b < n) (hG : ∀ b, G b → n ≤ b) : Apart F G := fun b f g => by have := hF b f; have := hG b g; omega
theorem Apart.app {F G G' : FP} {n : Nat} (h : Apart F G) (hF : ∀ b, F b → b < n) (hG : ∀ b, G' b → G b ∨ n ≤ b) : Apart F G' := fun b f g => by
  rcases hG b g with g | g
  · exact h b f g
  · have := hF b f; omega

/-- Behind the handing over of some blocks. -/
structure Handed (k k' : K) (F : FP) : Prop where
  w : k'.w = k.w
  le : Le k k'
  sh : ∀ b, k'.sh b → k.sh b ∨ F b
theorem Chg.hand {F G : FP} {k0 k k' : K} (h : Chg F k0 k) (g : Handed k k' G) (hn : Wr F k0 G) : Chg F k0 k' :=
  ⟨by rw [g.w]; exact h.tape, by rw [g.w]; exact h.os, by rw [g.w]; exact h.out, by rw [g.w]; exact h.size, by rw [g.w]; exact h.blk, fun b hb => g.le.up b (h.up b hb),
    fun b hb hs => (g.sh b hs).elim (h.new b hb) (fun f => (hn b f).elim .inr (fun h => by omega)), by rw [g.w]; exact h.drawn⟩

section
variable {P : Program} {o : Oper} {a a0 : Act} {k k' k0 : K} {R S : Pred} {α β : Type} [Enc α] [Enc β] {F G : FP}

/-- What belongs to the call alone: a value and the blocks behind it. -/
class Rsc (R : FP → Pred) : Prop where
  keep : ∀ {F G v k k'}, R F v k → Chg G k k' → Apart F G → (∀ b, G b → ¬ k.sh b) → R F v k'
  handed : ∀ {F G v k k'}, R F v k → Handed k k' G → Apart F G → R F v k'
  lt : ∀ {F v k}, R F v k → ∀ b, F b → b < k.w.heap.size
  nsh : ∀ {F v k}, R F v k → ∀ b, F b → ¬ k.sh b
theorem Rsc.grow {R : FP → Pred} [Rsc R] {v : Value} (h : R F v k) (g : Grow k k') : R F v k' := Rsc.keep h (Chg.of (F := noF) g) (fun _ _ f => f) (fun _ f => f.elim)
instance {R : FP → Pred} [Rsc R] : Mono (R F) := ⟨fun g h => Rsc.grow h g⟩

/-- A box of the call's own. -/
def BoxR (x : α) : FP → Pred := fun F v k => ∃ b, v = .pointer (some ⟨b, 0, none⟩) ∧ F = Eq b ∧ Box b x k
theorem Box.keep {b : Nat} {x : α} (h : Box b x k) (g : Chg G k k') (hG : ¬ G b) (hn : ∀ b, G b → ¬ k.sh b) : Box b x k' := by
  have hle := g.le hn
  have hlt := h.lt
  obtain ⟨ho, arr, t, h, r⟩ := h
  exact ⟨fun hs => ho (g.new' b hlt hG hs), arr, t, by rw [g.blk b hlt hG]; exact h, Enc.mono hle r⟩
theorem Box.handed {b : Nat} {x : α} (h : Box b x k) (g : Handed k k' G) (hG : ¬ G b) : Box b x k' := by
  have hle := g.le
  obtain ⟨ho, arr, t, h, r⟩ := h
  exact ⟨fun hs => (g.sh b hs).elim ho hG, arr, t, by rw [g.w]; exact h, Enc.mono hle r⟩
instance (x : α) : Rsc (BoxR x) where
  keep := fun ⟨b, e, eF, h⟩ g hs hn => ⟨b, e, eF, h.keep g (hs b (by rw [eF])) hn⟩
  handed := fun ⟨b, e, eF, h⟩ g hs => ⟨b, e, eF, h.handed g (hs b (by rw [eF]))⟩
  lt := fun ⟨b, e, eF, h⟩ c hc => by rw [eF] at hc; rw [← hc]; exact h.lt
  nsh := fun ⟨b, e, eF, h⟩ c hc => by rw [eF] at hc; rw [← hc]; exact h.own

/-- A slice of the call's own. -/
def OwnR (e : TypeId) (xs : List α) : FP → Pred := fun F v k => F = obF v ∧ IsOwn 0 e xs v k
theorem IsOwn.keep {B : Nat} {e : TypeId} {xs : List α} {v : Value} (h : IsOwn B e xs v k) (g : Chg G k k') (hs : Apart (obF v) G) (hn : ∀ b, G b → ¬ k.sh b) : IsOwn B e xs v k' := by
  have hle := g.le hn
  rcases h with r | r | ⟨b', off, cap, cur, cs, rfl, hB, ho, hh, hc, h0, r⟩
  · exact .inl r
  · exact .inr (.inl r)
  · have hlt : b' < k.w.heap.size := (Array.getElem?_eq_some_iff.1 hh).1
    have hne := hs b' (by simp [obF, ob, Nat.ne_of_gt h0])
    exact .inr (.inr ⟨b', off, cap, cur, cs, rfl, hB, fun hs' => ho (g.new' b' hlt hne hs'), by rw [g.blk b' hlt hne]; exact hh, hc, h0, r.1, r.2.1, r.2.2.1, r.2.2.2.mono hle⟩)
theorem IsOwn.handed {B : Nat} {e : TypeId} {xs : List α} {v : Value} (h : IsOwn B e xs v k) (g : Handed k k' G) (hs : Apart (obF v) G) : IsOwn B e xs v k' := by
  have hle := g.le
  rcases h with r | r | ⟨b', off, cap, cur, cs, rfl, hB, ho, hh, hc, h0, r⟩
  · exact .inl r
  · exact .inr (.inl r)
  · have hne := hs b' (by simp [obF, ob, Nat.ne_of_gt h0])
    exact .inr (.inr ⟨b', off, cap, cur, cs, rfl, hB, fun hs' => (g.sh b' hs').elim ho hne, by rw [g.w]; exact hh, hc, h0, r.1, r.2.1, r.2.2.1, r.2.2.2.mono hle⟩)
instance (e : TypeId) (xs : List α) : Rsc (OwnR e xs) where
  keep := fun ⟨eF, h⟩ g hs hn => ⟨eF, h.keep g (eF ▸ hs) hn⟩
  handed := fun ⟨eF, h⟩ g hs => ⟨eF, h.handed g (eF ▸ hs)⟩
  lt := fun ⟨eF, h⟩ b hb => (h.lt b (by rw [eF] at hb; exact hb)).2.1
  nsh := fun ⟨eF, h⟩ b hb => (h.lt b (by rw [eF] at hb; exact hb)).2.2

theorem hand_box {x : α} {v : Value} (h : BoxR x F v k) : ∃ k' : K, Handed k k' F ∧ IsRef x v k' := by
  obtain ⟨b, rfl, rfl, h⟩ := h
  exact ⟨k.share b h.lt, ⟨rfl, K.share_le k b h.lt, fun i hi => hi.imp id Eq.symm⟩, h.share⟩
theorem hand_own {e : TypeId} {xs : List α} {v : Value} (h : OwnR e xs F v k) : ∃ k' : K, Handed k k' F ∧ IsV xs v k' := by
  obtain ⟨rfl, h⟩ := h
  obtain ⟨k', hs, _, hv⟩ := h.hand (k0 := ⟨⟨#[], k.w.tape, 0, k.w.os, k.w.output⟩, fun _ => False, fun _ f => f.elim⟩)
    ⟨rfl, rfl, rfl, Nat.zero_le _, fun b hb => absurd hb (Nat.not_lt_zero b), fun _ f => f.elim, fun b hb => absurd hb (Nat.not_lt_zero b), Nat.zero_le _⟩ (Nat.le_refl _)
  exact ⟨k', ⟨hs.w, hs.le, hs.sh⟩, hv⟩

/-! the operations behind the others -/
theorem tail_storeB {A : Array Oper} {i off b : Nat} {rest : List Nat} {Q : Exit → Act → World → Prop} {t : TypeId} {p y : Operand} {x : α} {z : β} {set : α → β → α}
    (ho : nth A.toList i = some o) (hg : o.guard = none) (hop : o.op = .store t p y) (hd : o.dst = none) (hs : (P.info? t).map (·.size) = some (Enc.sz β)) (hu : Upd off set)
    (hp : IsAdr b off (a.eval p) k) (hb : Box b x k) (hv : IsV z (a.eval y) k)
    (h : ∀ k', Chg (Eq b) k k' → Box b (set x z) k' → wpOps P A Q rest a k'.w) : wpOps P A Q (i :: rest) a k.w :=
  tail_store ho hg hop hd hs hu hp hb hv fun k' hon hz => h k' ⟨hon.tape, hon.os, hon.out, Nat.le_of_eq hon.size.symm, fun c _ hc => hon.blk c (fun e => hc e.symm), fun c hc => by rw [hon.sh]; exact hc, fun c _ hc => by rw [hon.sh] at hc; exact .inl hc, hon.drawn⟩ hz

theorem tail_storeS {A : Array Oper} {i m off : Nat} {e : TypeId} {rest : List Nat} {Q : Exit → Act → World → Prop} {t : TypeId} {p y : Operand} {u : Value} {xs : List α} {x : α} {z : β} {set : α → β → α}
    (ho : nth A.toList i = some o) (hg : o.guard = none) (hop : o.op = .store t p y) (hd : o.dst = none) (hs : (P.info? t).map (·.size) = some (Enc.sz β)) (hu : Upd off set)
    (hp : IsAdrO u (m * Enc.sz α + off) (a.eval p) k) (hb : IsOwn 0 e xs u k) (hm : xs[m]? = some x) (hv : IsV z (a.eval y) k)
    (h : ∀ k' : K, Chg (obF u) k k' → IsOwn 0 e (xs.set m (set x z)) u k' → wpOps P A Q rest a k'.w) : wpOps P A Q (i :: rest) a k.w :=
  tail_storeO ho hg hop hd hs hu hp hb hm hv fun b k' hob hon hz => h k' ⟨hon.tape, hon.os, hon.out, Nat.le_of_eq hon.size.symm, fun c _ hc => hon.blk c (fun e => hc (by rw [obF, hob, e])), fun c hc => by rw [hon.sh]; exact hc, fun c _ hc => by rw [hon.sh] at hc; exact .inl hc, hon.drawn⟩ hz

theorem Grown.chg {r : Option Nat} (h : Grown k k' r) : Chg (fun b => r = some b) k k' :=
  ⟨h.tape, h.os, h.out, h.size, fun b hb hr => h.blk b hb (fun e => hr e.symm), fun b hb => by rw [h.sh]; exact hb, fun b _ hb => by rw [h.sh] at hb; exact .inl hb, h.drawn⟩

theorem tail_appendS {A : Array Oper} {i d : Nat} {rest : List Nat} {Q : Exit → Act → World → Prop} {t e : TypeId} {x y : Operand} {xs ys zs : List α}
    (ho : nth A.toList i = some o) (hgd : o.guard = none) (hop : o.op = .call { callee := .builtin .append, args := #[x, y], argTypes := #[t, t] }) (hd : o.dst = some d) (hda : d < a.tmps.size)
    (hu : P.underlying t = some (.slice e)) (he : ElemOk P e α) (hv : IsOwn 0 e xs (a.eval x) k) (hy : Readable ys (a.eval y) k) (hz : appI xs ys = some zs)
    (h : ∀ (a' : Act) (k' : K), a'.tmps.size = a.tmps.size → a'.defers = a.defers → (∀ t, t ≠ d → a'.get t = a.get t) → Chg (obF (a.eval x)) k k' → IsOwn 0 e zs (a'.get d) k' →
      (∀ b, obF (a'.get d) b → obF (a.eval x) b ∨ k.w.heap.size ≤ b) → wpOps P A Q rest a' k'.w) : wpOps P A Q (i :: rest) a k.w :=
  tail_append ho hgd hop hd hda hu he (Nat.zero_le _) hv hy hz fun a' k' h1 h2 h3 h4 h5 h6 => h a' k' h1 h2 h3 h4.chg h5 h6

/-- What a call does that may write to the blocks in F. -/
def RetC (F : FP) (k : K) (R : Pred) : Ending → World → Prop
  | .returned v, w' => ∃ k' : K, k'.w = w' ∧ Chg F k k' ∧ R v k'
  | .outgrown, _ => False
  | .panicked _, _ => False

theorem tail_call {A : Array Oper} {i d : Nat} {rest : List Nat} {Q : Exit → Act → World → Prop} {f : FuncId} {as_ : List Operand} {ts : Array TypeId}
    (ho : nth A.toList i = some o) (hgd : o.guard = none) (hop : o.op = .call { callee := .value (.func f), args := as_.toArray, argTypes := ts }) (hd : o.dst = some d) (hda : d < a.tmps.size)
    (hc : ∀ args w, (callFunc f args).run P w = .ok (.enter f args) w) (_hQ : LetsOut Q) (hcall : Calls P f (as_.map a.eval).toArray k.w (RetC F k R))
    (h : ∀ (a' : Act) (k' : K), a'.tmps.size = a.tmps.size → a'.defers = a.defers → (∀ t, t ≠ d → a'.get t = a.get t) → Chg F k k' → R (a'.get d) k' → wpOps P A Q rest a' k'.w) : wpOps P A Q (i :: rest) a k.w := by
  rw [wpOps_cons]
  rw [nth_toList] at ho
  unfold wpOp
  simp only [ho, Region.wanted, hgd, if_true]
  refine .inl ?_
  unfold Oper.wp
  have hr : (execOp a.eval o).run P k.w = .ok (.enter f (as_.map a.eval).toArray) k.w := by
    simp [execOp, hop, resolve, invoke, Deferred.ofValue, Act.eval, hc]
  rw [hr]
  refine Calls.mono hcall fun e w' he => ?_
  cases e with
  | returned v =>
    obtain ⟨k', rfl, hg, hv⟩ := he
    simp only [hd]
    have hgd' : (a.put (some d) v).get d = v := by rw [get_put _ _ _ _ hda]; simp
    refine h _ k' (put_size _ _ _) (put_defers' _ _ _) ?_ hg (by rw [hgd']; exact hv)
    intro t ht
    rw [get_put _ _ _ _ hda, if_neg (Ne.symm ht)]
  | panicked c => exact he.elim
  | outgrown => exact he.elim
theorem Ret.toC {f : FuncId} {as_ : Array Value} {w : World} (h : Calls P f as_ w (Ret k R)) : Calls P f as_ w (RetC F k R) := h.mono fun e w' he => by
  cases e with
  | returned v => obtain ⟨k', e1, hg, hv⟩ := he; exact ⟨k', e1, Chg.of hg, hv⟩
  | panicked c => exact he
  | outgrown => exact he
theorem Ret.ofC {f : FuncId} {as_ : Array Value} {w : World} (h : Calls P f as_ w (RetC noF k R)) : Calls P f as_ w (Ret k R) := h.mono fun e w' he => by
  cases e with
  | returned v => obtain ⟨k', e1, hg, hv⟩ := he; exact ⟨k', e1, hg.grow, hv⟩
  | panicked c => exact he
  | outgrown => exact he
end
end Go.Gb

/- General part of the proofs: the way in and out of functions that write to what they are handed; slots of the call's own. -/
namespace Go.Gb
section
variable {P : Program} {o : Oper} {a a0 : Act} {k k' k0 : K} {R S T : Pred} {α β : Type} [Enc α] [Enc β] {F G : FP}

theorem bodyPost_ret' {fn : Func} {v : Value} (hd : a.defers = []) (hv : (results fn a.tmps).run P k'.w = .ok v k'.w) (hg : Chg F k k') (hR : R v k') : bodyPost P fn (RetC F k R) .ret a k'.w :=
  ⟨hd, v, hv, k', rfl, hg, hR⟩
theorem letsOutC {fn : Func} : LetsOut (bodyPost P fn (RetC F k R)) := trivial
theorem enterC {f : FuncId} {fn : Func} {c : Code} {args : Array Value} {n : Nat} (hf : P.funcs[f]? = some fn) (hb : fn.body = some c) (hn : fn.ntmps = n) (hl : args.size ≤ n)
    (h : ∀ a : Act, a.tmps.size = n → a.defers = [] → ArgsAre a 0 args.toList → c.wp P (bodyPost P fn (RetC F k R)) a k.w) : Calls P f args k.w (RetC F k R) := by
  refine calls_of_wp hf hb (h _ ?_ rfl ?_)
  · simp [hn]; omega
  · have key : ∀ (vs : List Value) (i : Nat), args.toList.drop i = vs → ArgsAre { tmps := args ++ Array.replicate (fn.ntmps - args.size) undef, defers := [] } i vs := by
      intro vs
      induction vs with
      | nil => intro i _; trivial
      | cons v vs ih =>
        intro i hi
        have hlt : i < args.size := by
          rcases Nat.lt_or_ge i args.size with h | h
          · exact h
          · rw [List.drop_eq_nil_of_le (by simpa using h)] at hi; simp at hi
        refine ⟨?_, ih (i + 1) (by rw [← List.drop_drop, hi]; rfl)⟩
        rw [List.drop_eq_getElem_cons (by simpa using hlt)] at hi
        simp only [List.cons.injEq] at hi
        simp only [Act.get, Array.getD_eq_getD_getElem?]
        rw [Array.getElem?_append_left hlt]
        simp [hlt, ← hi.1]
    exact key _ 0 rfl
theorem retC0 {fn : Func} (hr : fn.results = #[]) (hd : a.defers = []) (hg : Chg F k k') : bodyPost P fn (RetC F k IsAny) .ret a k'.w :=
  ⟨hd, .tuple #[], by simp [results, hr], k', rfl, hg, trivial⟩
theorem retC1 {fn : Func} {r : ResultVar} (hr : fn.results = #[r]) (hd : a.defers = []) (hg : Chg F k k') (h : ResOk P a k' r R) : bodyPost P fn (RetC F k R) .ret a k'.w := by
  obtain ⟨v, hv, hR⟩ := resOk_run h
  refine ⟨hd, v, ?_, k', rfl, hg, hR⟩
  simp only [results_eq, hr]
  simp [hv]
theorem retC2 {fn : Func} {r s : ResultVar} (hr : fn.results = #[r, s]) (hd : a.defers = []) (hg : Chg F k k') (h : ResOk P a k' r R) (g : ResOk P a k' s S) :
    bodyPost P fn (RetC F k (IsTup2 R S)) .ret a k'.w := by
  obtain ⟨v, hv, hR⟩ := resOk_run h
  obtain ⟨u, hu, hS⟩ := resOk_run g
  refine ⟨hd, .tuple #[v, u], ?_, k', rfl, hg, v, u, rfl, hR, hS⟩
  simp only [results_eq, hr]
  simp [hv, hu]
theorem retC3 {fn : Func} {r s t : ResultVar} (hr : fn.results = #[r, s, t]) (hd : a.defers = []) (hg : Chg F k k') (h : ResOk P a k' r R) (g : ResOk P a k' s S) (f : ResOk P a k' t T) :
    bodyPost P fn (RetC F k (IsTup3 R S T)) .ret a k'.w := by
  obtain ⟨v, hv, hR⟩ := resOk_run h
  obtain ⟨u, hu, hS⟩ := resOk_run g
  obtain ⟨z, hz, hT⟩ := resOk_run f
  refine ⟨hd, .tuple #[v, u, z], ?_, k', rfl, hg, v, u, z, rfl, hR, hS, hT⟩
  simp only [results_eq, hr]
  simp [hv, hu, hz]

/-- The blocks are newer than the world k. -/
def Lo (k : K) (G : FP) : Prop := ∀ b, G b → k.w.heap.size ≤ b
theorem Lo.wr (h : Lo k G) : Wr F k G := fun b hb => .inr (h b hb)
theorem Lo.chg (h : Lo k' G) (g : Chg F k k') : Lo k G := fun b hb => Nat.le_trans g.size (h b hb)
theorem Lo.app {G' : FP} (h : Lo k G) (g : Chg F k k') (hG : ∀ b, G' b → G b ∨ k'.w.heap.size ≤ b) : Lo k G' := fun b hb => (hG b hb).elim (h b) (fun h => Nat.le_trans g.size h)
theorem Wr.app {G' : FP} (h : Wr F k G) (g : Chg F k k') (hG : ∀ b, G' b → G b ∨ k'.w.heap.size ≤ b) : Wr F k G' := fun b hb => (hG b hb).elim (h b) (fun h => .inr (Nat.le_trans g.size h))
theorem Lo.eq {b : Nat} (h : k.w.heap.size ≤ b) : Lo k (Eq b) := fun _ e => e ▸ h
theorem Box.ltF {b : Nat} {x : α} (h : Box b x k) : ∀ c, b = c → c < k.w.heap.size := fun _ e => e ▸ h.lt
theorem Box.nshF {b : Nat} {x : α} (h : Box b x k) : ∀ c, b = c → ¬ k.sh c := fun _ e => e ▸ h.own
theorem IsOwn.ltF {B : Nat} {e : TypeId} {xs : List α} {v : Value} (h : IsOwn B e xs v k) : ∀ b, obF v b → b < k.w.heap.size := fun b hb => (h.lt b hb).2.1
theorem IsOwn.nshF {B : Nat} {e : TypeId} {xs : List α} {v : Value} (h : IsOwn B e xs v k) : ∀ b, obF v b → ¬ k.sh b := fun b hb => (h.lt b hb).2.2
theorem IsOwn.loF {e : TypeId} {xs : List α} {v : Value} (h : IsOwn k0.w.heap.size e xs v k) : Lo k0 (obF v) := fun b hb => (h.lt b hb).1
theorem IsOwn.give {B : Nat} {e : TypeId} {xs : List α} {v : Value} (h : IsOwn B e xs v k) : ∃ k' : K, Handed k k' (obF v) ∧ IsV xs v k' :=
  hand_own ⟨rfl, h.weaken (Nat.zero_le _)⟩
theorem Box.give {b : Nat} {x : α} (h : Box b x k) : ∃ k' : K, Handed k k' (Eq b) ∧ IsRef x (.pointer (some ⟨b, 0, none⟩)) k' :=
  hand_box ⟨b, rfl, rfl, h⟩
theorem IsE0.own0 {e : TypeId} {v : Value} (h : IsE0 v k) : IsOwn (α := α) 0 e [] v k := h.own
theorem IsE0.noOb {v : Value} (h : IsE0 v k) : ∀ b, ¬ obF v b := fun b hb => by rw [obF, h.ob] at hb; simp at hb
theorem IsE0.lo {v : Value} (h : IsE0 v k) : Lo k0 (obF v) := fun b hb => (h.noOb b hb).elim
theorem IsE0.apart {v : Value} (h : IsE0 v k) : Apart (obF v) G := fun b hb => (h.noOb b hb).elim
theorem obF_eq {u v : Value} (h : u = v) : obF u = obF v := by rw [h]
end

/-- How far a call has come. -/
structure Bs (F : FP) (k0 : K) (n : Nat) (a : Act) (k : K) : Prop where
  g : Chg F k0 k
  s : a.tmps.size = n
  d : a.defers = []
section
variable {P : Program} {F : FP} {a a' : Act} {k k' k0 : K} {n m : Nat} {ops : List Oper} {es : List Ent}
theorem Bs.post (h : Bs F k0 n a k) (p : Post ops es m a k a' k') : Bs F k0 n a' k' := ⟨h.g.then p.grow, p.size.trans h.s, p.defers.trans h.d⟩
/-- as cut, the piece of code last -/
theorem cutFg {c : Code} {Q : Exit → Act → World → Prop} {τ ρ : Type} (f : Flow τ ρ) (T : τ → Act → K → Prop) (X : Nat → τ → Act → K → Prop) (Rt : ρ → Act → K → Prop)
    (h1 : ∀ Q' : Exit → Act → World → Prop, LetsOut Q' → (∀ s' a' k', f = .go s' → T s' a' k' → Q' .normal a' k'.w) →
      (∀ i s' a' k', f = .ex i s' → X i s' a' k' → Q' (.exit i) a' k'.w) → (∀ r a' k', f = .ret r → Rt r a' k' → Q' .ret a' k'.w) → c.wp P Q' a k.w)
    (hQ : LetsOut Q) (h4 : ∀ r a' k', f = .ret r → Rt r a' k' → Q .ret a' k'.w) (h3 : ∀ i s' a' k', f = .ex i s' → X i s' a' k' → Q (.exit i) a' k'.w)
    (h2 : ∀ s' a' k', f = .go s' → T s' a' k' → Q .normal a' k'.w) : c.wp P Q a k.w :=
  h1 Q hQ h2 h3 h4
theorem cutFe {c : Code} {Q : Exit → Act → World → Prop} {τ ρ : Type} (f : Flow τ ρ) (T : τ → Act → K → Prop) (X : Nat → τ → Act → K → Prop) (Rt : ρ → Act → K → Prop)
    (h1 : ∀ Q' : Exit → Act → World → Prop, LetsOut Q' → (∀ s' a' k', f = .go s' → T s' a' k' → Q' .normal a' k'.w) →
      (∀ i s' a' k', f = .ex i s' → X i s' a' k' → Q' (.exit i) a' k'.w) → (∀ r a' k', f = .ret r → Rt r a' k' → Q' .ret a' k'.w) → c.wp P Q' a k.w)
    (hQ : LetsOut Q) (h4 : ∀ r a' k', f = .ret r → Rt r a' k' → Q .ret a' k'.w) (h2 : ∀ s' a' k', f = .go s' → T s' a' k' → Q .normal a' k'.w)
    (h3 : ∀ i s' a' k', f = .ex i s' → X i s' a' k' → Q (.exit i) a' k'.w) : c.wp P Q a k.w :=
  h1 Q hQ h2 h3 h4
end
end Go.Gb

/- General part of the proofs: function values. -/
namespace Go.Gb
section
variable {P : Program} {o : Oper} {a a0 : Act} {k k' k0 : K} {α β γ δ : Type} [Enc α] [Enc β] [Enc γ] [Enc δ]

/-- A function value that computes g. -/
def IsFn1 (P : Program) (g : α → Option β) : Pred := fun v k =>
  ∃ f first captured, v = .func (.func f) first captured ∧ (∀ args w, (callFunc f args).run P w = .ok (.enter f args) w) ∧
    ∀ k', Le k k' → ∀ x vx y, IsV x vx k' → g x = some y → Calls P f (first ++ #[vx] ++ captured) k'.w (Ret k' (IsV y))
def IsFn2 (P : Program) (g : α → β → Option γ) : Pred := fun v k =>
  ∃ f first captured, v = .func (.func f) first captured ∧ (∀ args w, (callFunc f args).run P w = .ok (.enter f args) w) ∧
    ∀ k', Le k k' → ∀ x vx y vy z, IsV x vx k' → IsV y vy k' → g x y = some z → Calls P f (first ++ #[vx, vy] ++ captured) k'.w (Ret k' (IsV z))
/-- with two results -/
def IsFn2T (P : Program) (g : α → β → Option (γ × δ)) : Pred := fun v k =>
  ∃ f first captured, v = .func (.func f) first captured ∧ (∀ args w, (callFunc f args).run P w = .ok (.enter f args) w) ∧
    ∀ k', Le k k' → ∀ x vx y vy z, IsV x vx k' → IsV y vy k' → g x y = some z → Calls P f (first ++ #[vx, vy] ++ captured) k'.w (Ret k' (IsTup2 (IsV z.1) (IsV z.2)))
instance (g : α → Option β) : Pers (IsFn1 P g) := ⟨fun h ⟨f, fi, c, e, hc, r⟩ => ⟨f, fi, c, e, hc, fun k' hk => r k' (h.trans hk)⟩⟩
instance (g : α → β → Option γ) : Pers (IsFn2 P g) := ⟨fun h ⟨f, fi, c, e, hc, r⟩ => ⟨f, fi, c, e, hc, fun k' hk => r k' (h.trans hk)⟩⟩
instance (g : α → β → Option (γ × δ)) : Pers (IsFn2T P g) := ⟨fun h ⟨f, fi, c, e, hc, r⟩ => ⟨f, fi, c, e, hc, fun k' hk => r k' (h.trans hk)⟩⟩

theorem ok_makeFunc {R : Pred} {fn : Fn} {first captured : List Operand} (ho : o.op = .makeFunc fn first.toArray captured.toArray)
    (h : R (.func fn (first.map a.eval).toArray (captured.map a.eval).toArray) k) : Does P o a k R :=
  does_pure (v := .func fn (first.map a.eval).toArray (captured.map a.eval).toArray) (by simp [execOp, ho, Instr.makeFunc]) h

theorem does_enter {R : Pred} {f : FuncId} {args : Array Value} (hr : (execOp a.eval o).run P k.w = .ok (.enter f args) k.w) (h : Calls P f args k.w (Ret k R)) : Does P o a k R := by
  intro next Q hQ hn
  unfold Oper.wp
  rw [hr]
  refine Calls.mono h fun e w' he => ?_
  cases e with
  | returned v =>
    obtain ⟨k', rfl, hg, hv⟩ := he
    exact hn v k' hg hv
  | panicked c => exact he.elim
  | outgrown => exact he.elim

theorem ok_callF1 {g : α → Option β} {fx x : Operand} {ts : Array TypeId} {p : α} {r : β} (ho : o.op = .call { callee := .value fx, args := #[x], argTypes := ts })
    (hf : IsFn1 P g (a.eval fx) k) (hx : IsV p (a.eval x) k) (h : g p = some r) : Does P o a k (IsV r) := by
  obtain ⟨f, fi, c, e, hc, hr⟩ := hf
  refine does_enter (f := f) (args := fi ++ #[a.eval x] ++ c) ?_ (hr k (Le.refl k) _ _ _ hx h)
  simp [execOp, ho, resolve, invoke, Deferred.ofValue, e, hc]
theorem ok_callF2 {g : α → β → Option γ} {fx x y : Operand} {ts : Array TypeId} {p : α} {q : β} {r : γ} (ho : o.op = .call { callee := .value fx, args := #[x, y], argTypes := ts })
    (hf : IsFn2 P g (a.eval fx) k) (hx : IsV p (a.eval x) k) (hy : IsV q (a.eval y) k) (h : g p q = some r) : Does P o a k (IsV r) := by
  obtain ⟨f, fi, c, e, hc, hr⟩ := hf
  refine does_enter (f := f) (args := fi ++ #[a.eval x, a.eval y] ++ c) ?_ (hr k (Le.refl k) _ _ _ _ _ hx hy h)
  simp [execOp, ho, resolve, invoke, Deferred.ofValue, e, hc]
theorem ok_callF2T {g : α → β → Option (γ × δ)} {fx x y : Operand} {ts : Array TypeId} {p : α} {q : β} {r : γ × δ} (ho : o.op = .call { callee := .value fx, args := #[x, y], argTypes := ts })
    (hf : IsFn2T P g (a.eval fx) k) (hx : IsV p (a.eval x) k) (hy : IsV q (a.eval y) k) (h : g p q = some r) : Does P o a k (IsTup2 (IsV r.1) (IsV r.2)) := by
  obtain ⟨f, fi, c, e, hc, hr⟩ := hf
  refine does_enter (f := f) (args := fi ++ #[a.eval x, a.eval y] ++ c) ?_ (hr k (Le.refl k) _ _ _ _ _ hx hy h)
  simp [execOp, ho, resolve, invoke, Deferred.ofValue, e, hc]
end
end Go.Gb

/- General part of the proofs: other integer types, nil tests, results that belong to the caller. -/
namespace Go.Gb

/-- An integer of another type. -/
structure IK (κ : IntKind) where
  n : Int
  deriving DecidableEq
instance {κ : IntKind} : Inhabited (IK κ) := ⟨⟨0⟩⟩
instance {κ : IntKind} : Enc (IK κ) where
  sz := 1
  agg := false
  rep _ cs x := cs = [.int κ x.n]
  len h := by simp [h]
  mono _ h := h
  one h := by subst h; simp [Value.oneCell']
  agg1 _ := rfl
def IK.shr {κ : IntKind} (x : IK κ) (n : Int) : IK κ := ⟨x.n.fdiv (2 ^ n.toNat)⟩
def IK.add {κ : IntKind} (x y : IK κ) : IK κ := ⟨κ.wrap (x.n + y.n)⟩
def IK.sub {κ : IntKind} (x y : IK κ) : IK κ := ⟨κ.wrap (x.n - y.n)⟩
def IK.mul {κ : IntKind} (x y : IK κ) : IK κ := ⟨κ.wrap (x.n * y.n)⟩

theorem isV_ik {κ : IntKind} {x : IK κ} {v : Value} {k : K} : IsV x v k ↔ v = .int κ x.n :=
  ⟨fun ⟨_, e, r⟩ => by rw [e, r]; rfl, fun e => ⟨[.int κ x.n], e, rfl⟩⟩

section
variable {P : Program} {o : Oper} {a a0 : Act} {k k' k0 : K} {R S : Pred} {α β : Type} [Enc α] [Enc β]

theorem run_convert {t u : TypeId} {κ κ' : IntKind} {n : Int} {w : World} (ht : (P.underlying t).isSome = true) (hu : P.underlying u = some (.int κ')) : (convert t u (.int κ n)).run P w = .ok (.int κ' (κ'.wrap n)) w := by
  obtain ⟨d, hd⟩ := Option.isSome_iff_exists.1 ht
  simp [convert, run_underlying hd, run_underlying hu, Conv.intToInt]
section
variable {t u v : TypeId} {x y : Operand} {κ κ' : IntKind}
theorem ok_conv_ii {n : Int} (ho : o.op = .convert t u x) (ht : (P.underlying t).isSome = true) (hu : P.underlying u = some (.int .i64)) (hin : inI n) (hx : IsV n (a.eval x) k) : Does P o a k (IsV n) := by
  have hx := isV_int.1 hx
  refine does_pure (v := .int .i64 n) ?_ (isV_int.2 rfl)
  simp only [execOp, ho, hx]
  have := run_convert (P := P) (κ := .i64) (n := n) (w := k.w) ht hu
  rw [IntWalk.i64_in _ hin] at this
  simp [this]
theorem ok_conv_ik {n : Int} (ho : o.op = .convert t u x) (ht : (P.underlying t).isSome = true) (hu : P.underlying u = some (.int κ')) (hx : IsV n (a.eval x) k) : Does P o a k (IsV (IK.mk (κ'.wrap n) : IK κ')) := by
  have hx := isV_int.1 hx
  refine does_pure (v := .int κ' (κ'.wrap n)) ?_ (isV_ik.2 rfl)
  simp only [execOp, ho, hx]
  simp [run_convert (P := P) (κ := .i64) (n := n) ht hu]
theorem ok_conv_ki {n : IK κ} (ho : o.op = .convert t u x) (ht : (P.underlying t).isSome = true) (hu : P.underlying u = some (.int .i64)) (hx : IsV n (a.eval x) k) : Does P o a k (IsV (IntKind.i64.wrap n.n)) := by
  have hx := isV_ik.1 hx
  refine does_pure (v := .int .i64 (IntKind.i64.wrap n.n)) ?_ (isV_int.2 rfl)
  simp only [execOp, ho, hx]
  simp [run_convert (P := P) (κ := κ) (n := n.n) ht hu]
theorem ok_conv_kk {n : IK κ} (ho : o.op = .convert t u x) (ht : (P.underlying t).isSome = true) (hu : P.underlying u = some (.int κ')) (hx : IsV n (a.eval x) k) : Does P o a k (IsV (IK.mk (κ'.wrap n.n) : IK κ')) := by
  have hx := isV_ik.1 hx
  refine does_pure (v := .int κ' (κ'.wrap n.n)) ?_ (isV_ik.2 rfl)
  simp only [execOp, ho, hx]
  simp [run_convert (P := P) (κ := κ) (n := n.n) ht hu]
end

section
variable {t u : TypeId} {x y : Operand} {κ κ' : IntKind} {n m : IK κ}
theorem ok_shrK {c : IntKind} {b : Int} (ho : o.op = .binOp .shr t x (.const (.int c b)) u) (hx : IsV n (a.eval x) k) (h0 : 0 ≤ b) (h1 : b.toNat ≤ κ.bits) : Does P o a k (IsV (n.shr b)) := by
  have hx := isV_ik.1 hx
  have ev : a.eval (.const (.int c b)) = .int c b := rfl
  refine does_pure (v := .int κ (n.n.fdiv (2 ^ b.toNat))) ?_ (isV_ik.2 rfl)
  simp only [execOp, ho, hx, ev]
  have h2 : ¬ b < 0 := by omega
  simp [eqGuard, binOp, Op.shift, h2, Nat.min_eq_left h1]
theorem ok_addK (ho : o.op = .binOp .add t x y u) (hx : IsV n (a.eval x) k) (hy : IsV m (a.eval y) k) : Does P o a k (IsV (n.add m)) := by
  have hx := isV_ik.1 hx; have hy := isV_ik.1 hy
  refine does_pure (v := .int κ (κ.wrap (n.n + m.n))) ?_ (isV_ik.2 rfl)
  simp only [execOp, ho, hx, hy]
  simp [eqGuard, binOp, Op.intArith]
theorem ok_subK (ho : o.op = .binOp .sub t x y u) (hx : IsV n (a.eval x) k) (hy : IsV m (a.eval y) k) : Does P o a k (IsV (n.sub m)) := by
  have hx := isV_ik.1 hx; have hy := isV_ik.1 hy
  refine does_pure (v := .int κ (κ.wrap (n.n - m.n))) ?_ (isV_ik.2 rfl)
  simp only [execOp, ho, hx, hy]
  simp [eqGuard, binOp, Op.intArith]
theorem ok_mulK (ho : o.op = .binOp .mul t x y u) (hx : IsV n (a.eval x) k) (hy : IsV m (a.eval y) k) : Does P o a k (IsV (n.mul m)) := by
  have hx := isV_ik.1 hx; have hy := isV_ik.1 hy
  refine does_pure (v := .int κ (κ.wrap (n.n * m.n))) ?_ (isV_ik.2 rfl)
  simp only [execOp, ho, hx, hy]
  simp [eqGuard, binOp, Op.intArith]
end

/-- Of a test whether a slice is nil. -/
def IsNT (xs : List α) : Pred := fun v _ => ∃ b, v = .bool b ∧ (b = true → xs = [])
instance (xs : List α) : Pers (IsNT xs) := ⟨fun _ h => h⟩
theorem ok_eqNil {t e u : TypeId} {x : Operand} {xs : List α} (ho : o.op = .binOp .eql t x (.const (.slice none 0 0)) u) (hu : P.underlying t = some (.slice e)) (hx : Readable xs (a.eval x) k) : Does P o a k (IsNT xs) := by
  have ev : a.eval (.const (.slice none 0 0)) = .slice none 0 0 := rfl
  have hr : ∀ (ad : Option Addr) (n c : Nat), (Op.equal t (.slice ad n c) (.slice none 0 0)).run P k.w = .ok ad.isNone k.w := fun ad n c => by
    show (Op.equalIn (9999 + 1) t _ _).run P k.w = _
    rw [Op.equalIn]
    cases ad <;> simp [run_underlying hu]
  rcases hx with ⟨e1, rfl⟩ | ⟨ad, cap, cs, e1, _⟩
  · refine does_pure (v := .bool true) ?_ ⟨true, rfl, fun _ => rfl⟩
    simp only [execOp, ho, e1, ev]
    simp [eqGuard, binOp, hr]
  · refine does_pure (v := .bool false) ?_ ⟨false, rfl, fun h => by simp at h⟩
    simp only [execOp, ho, e1, ev]
    simp [eqGuard, binOp, hr]

theorem IsOwn.raise {B : Nat} {e : TypeId} {xs : List α} {v : Value} (h : IsOwn B e xs v k) (hl : Lo k0 (obF v)) : IsOwn k0.w.heap.size e xs v k := by
  rcases h with r | r | ⟨b', off, cap, cur, cs, rfl, hB, ho, hh, hc, h0, r⟩
  · exact .inl r
  · exact .inr (.inl r)
  · exact .inr (.inr ⟨b', off, cap, cur, cs, rfl, hl b' (by simp [obF, ob, Nat.ne_of_gt h0]), ho, hh, hc, h0, r⟩)
/-- A result that is the caller's own can be handed to all. -/
theorem ret_give {f : FuncId} {args : Array Value} {e : TypeId} {xs : List α} (h : Calls P f args k.w (Ret k (IsOwn k.w.heap.size e xs))) : Calls P f args k.w (Ret k (IsV xs)) := h.mono fun en w' he => by
  cases en with
  | returned v =>
    obtain ⟨k', rfl, hg, hv⟩ := he
    obtain ⟨k2, hs, hg2, hv2⟩ := hv.hand hg (Nat.le_refl _)
    exact ⟨k2, hs.w, hg2, hv2⟩
  | panicked c => exact he
  | outgrown => exact he
theorem ret_weaken {f : FuncId} {args : Array Value} {e : TypeId} {xs : List α} {B : Nat} (hB : B ≤ k.w.heap.size) (h : Calls P f args k.w (Ret k (IsOwn k.w.heap.size e xs))) : Calls P f args k.w (Ret k (IsOwn B e xs)) := h.mono fun en w' he => by
  cases en with
  | returned v =>
    obtain ⟨k', rfl, hg, hv⟩ := he
    exact ⟨k', rfl, hg, hv.weaken hB⟩
  | panicked c => exact he
  | outgrown => exact he
theorem enterK {F : FP} {f : FuncId} {fn : Func} {c : Code} {args : Array Value} {n : Nat} (hf : P.funcs[f]? = some fn) (hb : fn.body = some c) (hn : fn.ntmps = n) (hl : args.size ≤ n)
    (h : ∀ (a : Act) (q : K), q = k → a.tmps.size = n → a.defers = [] → ArgsAre a 0 args.toList → c.wp P (bodyPost P fn (RetC F k R)) a q.w) : Calls P f args k.w (RetC F k R) :=
  enterC hf hb hn hl fun a hs hd ha => h a k rfl hs hd ha
end
end Go.Gb

/- General part of the proofs: operations of any kind behind the others; slices of the call's own that are only read by a call; pointers to elements. -/
namespace Go.Gb
section
variable {P : Program} {o : Oper} {a a0 : Act} {k k' k0 : K} {R S T : Pred} {α β : Type} [Enc α] [Enc β]

instance [Pers R] [Pers S] : Pers (IsTup2 R S) := ⟨fun h ⟨x, y, e, a, b⟩ => ⟨x, y, e, Pers.pers h a, Pers.pers h b⟩⟩
instance [Pers R] [Pers S] [Pers T] : Pers (IsTup3 R S T) := ⟨fun h ⟨x, y, z, e, a, b, c⟩ => ⟨x, y, z, e, Pers.pers h a, Pers.pers h b, Pers.pers h c⟩⟩

theorem tail_does {A : Array Oper} {i d : Nat} {rest : List Nat} {Q : Exit → Act → World → Prop}
    (ho : nth A.toList i = some o) (hgd : o.guard = none) (hd : o.dst = some d) (hda : d < a.tmps.size) (hQ : LetsOut Q) (hD : Does P o a k R)
    (h : ∀ (a' : Act) (k' : K), a'.tmps.size = a.tmps.size → a'.defers = a.defers → (∀ t, t ≠ d → a'.get t = a.get t) → Grow k k' → R (a'.get d) k' → wpOps P A Q rest a' k'.w) : wpOps P A Q (i :: rest) a k.w := by
  rw [wpOps_cons]
  rw [nth_toList] at ho
  unfold wpOp
  simp only [ho, Region.wanted, hgd, if_true]
  refine .inl (hD _ _ hQ fun v k' hg hv => ?_)
  rw [hd]
  have hgd' : (a.put (some d) v).get d = v := by rw [get_put _ _ _ _ hda]; simp
  refine h _ k' (put_size _ _ _) (put_defers' _ _ _) ?_ hg (by rw [hgd']; exact hv)
  intro t ht
  rw [get_put _ _ _ _ hda, if_neg (Ne.symm ht)]
theorem Rsc.mono {F : FP} {R : FP → Pred} [Rsc R] {v : Value} (g : Grow k k') (h : R F v k) : R F v k' := Rsc.grow h g

/-- A value that says nothing of memory. -/
class Flat (R : Pred) : Prop where
  flat : ∀ {v k k'}, R v k → R v k'
instance {x : Int} : Flat (IsV x) := ⟨fun h => isV_int.2 (isV_int.1 h)⟩
instance {x : Bool} : Flat (IsV x) := ⟨fun h => isV_bool.2 (isV_bool.1 h)⟩
instance {x : ByteArray} : Flat (IsV x) := ⟨fun h => isV_str.2 (isV_str.1 h)⟩
instance {κ : IntKind} {x : IK κ} : Flat (IsV x) := ⟨fun h => isV_ik.2 (isV_ik.1 h)⟩
instance [Flat R] [Flat S] : Flat (IsTup2 R S) := ⟨fun ⟨x, y, e, a, b⟩ => ⟨x, y, e, Flat.flat a, Flat.flat b⟩⟩
instance [Flat R] [Flat S] [Flat T] : Flat (IsTup3 R S T) := ⟨fun ⟨x, y, z, e, a, b, c⟩ => ⟨x, y, z, e, Flat.flat a, Flat.flat b, Flat.flat c⟩⟩
instance : Flat IsAny := ⟨fun h => h⟩

/-- All blocks but these stay as they are: a world in which one more block is shared, as long as a call runs that only reads it. -/
theorem borrow [Flat R] {f : FuncId} {args : Array Value} {kb : K} {F : FP} (hb : Handed k kb F) (h : Calls P f args kb.w (Ret kb R)) : Calls P f args k.w (Ret k R) := by
  rw [← hb.w]
  refine h.mono fun e w' he => ?_
  cases e with
  | returned v =>
    obtain ⟨k', rfl, hg, hv⟩ := he
    have hw := hb.w
    have h1 := hg.tape; have h2 := hg.os; have h3 := hg.out; have h4 := hg.size; have h5 := hg.blk; have h6 := hg.drawn
    rw [hw] at h1 h2 h3 h4 h5 h6
    exact ⟨⟨k'.w, k.sh, fun b hs => Nat.lt_of_lt_of_le (k.lt b hs) h4⟩, rfl, ⟨h1, h2, h3, h4, h5, fun _ h => h, fun _ _ h => h, h6⟩, Flat.flat hv⟩
  | panicked c => exact he
  | outgrown => exact he

/-- A pointer to an element of slice u, by its number; none: nil. -/
def IsEP (u : Value) (s : Nat) : Option Int → Pred
  | some i => IsAdrO u (i.toNat * s)
  | none => IsNil
instance (u : Value) (s : Nat) (p : Option Int) : Pers (IsEP u s p) := ⟨fun hl h => by cases p <;> exact h⟩
instance (u : Value) (s : Nat) (p : Option Int) : Flat (IsEP u s p) := ⟨fun h => by cases p <;> exact h⟩
/-- the element that a pointer points to -/
def atI {γ : Type} (xs : List γ) (p : Option Int) : Option γ := p.bind (getI xs)

/-- The value is u, and u is a slice that is shared. -/
def VAt (u : Value) (xs : List α) : Pred := fun v k => v = u ∧ IsV xs v k
instance (u : Value) (xs : List α) : Pers (VAt u xs) := ⟨fun h ⟨e, r⟩ => ⟨e, Pers.pers h r⟩⟩

theorem ok_moveVA {x : Operand} {u : Value} {xs : List α} (ho : o.op = .move x ∨ o.op = .assign x) (h : VAt u xs (a.eval x) k) : Does P o a k (VAt u xs) := by
  rcases ho with ho | ho
  · exact ok_move ho h
  · exact ok_assign ho h
theorem ok_indexE {t e : TypeId} {x y : Operand} {u : Value} {xs : List α} {i : Int} {z : α} (ho : o.op = .indexAddr t x y) (hu : P.underlying t = some (.slice e)) (ht : Ty P e α)
    (hx : a.eval x = u) (hr : Readable xs u k) (hy : IsV i (a.eval y) k) (h : getI xs i = some z) : Does P o a k (IsEP u (Enc.sz α) (some i)) := by
  obtain ⟨h0, hg, hl, hli⟩ := getI_spec h
  have hy := isV_int.1 hy
  rcases hr with ⟨e1, rfl⟩ | ⟨ad, cap, cs, e1, hc, hr, ha⟩
  · simp at hg
  · have ha := ha.resolve_left (by intro e; subst e; simp at hg)
    obtain ⟨hs, _⟩ := ha
    obtain ⟨b, off, sp⟩ := ad
    simp only at hs
    subst hs
    refine does_pure (v := .pointer (some ((⟨b, off, none⟩ : Addr).add (i.toNat * Enc.sz α)))) ?_ ⟨b, off, xs.length, cap, e1, ?_⟩
    · simp only [execOp, ho, hy, hx, e1]
      simp [Instr.indexAt, asIntOf, run_underlying hu, run_sizeOf ht.2, h0, hli]
    · unfold Addr.add
      split
      · rename_i h; rw [h]; rfl
      · rfl
theorem run_eqPtr {t s : TypeId} {u : Value} {n : Nat} {p : Option Int} {v : Value} (hu : P.underlying t = some (.pointer s)) (h : IsEP u n p v k) : (Op.equal t v (.pointer none)).run P k.w = .ok p.isNone k.w := by
  show (Op.equalIn (9999 + 1) t _ _).run P k.w = _
  rw [Op.equalIn]
  cases p with
  | none => rw [show v = .pointer none from h]; simp [run_underlying hu]
  | some i => obtain ⟨b, f, n, c, e1, rfl⟩ := h; simp [run_underlying hu]
theorem ok_eqEP {t s w : TypeId} {x : Operand} {u : Value} {n : Nat} {p : Option Int} (ho : o.op = .binOp .eql t x (.const (.pointer none)) w) (hu : P.underlying t = some (.pointer s)) (h : IsEP u n p (a.eval x) k) :
    Does P o a k (IsV p.isNone) := by
  have ev : a.eval (.const (.pointer none)) = .pointer none := rfl
  refine does_pure (v := .bool p.isNone) ?_ (isV_bool.2 rfl)
  simp only [execOp, ho, ev]
  have := run_eqPtr (P := P) hu h
  cases p with
  | none => rw [show a.eval x = .pointer none from h] at this ⊢; simp [eqGuard, binOp, this]
  | some i => obtain ⟨b, f, n, c, e1, e2⟩ := h; rw [e2] at this ⊢; simp [eqGuard, binOp, this]
theorem ok_neEP {t s w : TypeId} {x : Operand} {u : Value} {n : Nat} {p : Option Int} (ho : o.op = .binOp .neq t x (.const (.pointer none)) w) (hu : P.underlying t = some (.pointer s)) (h : IsEP u n p (a.eval x) k) :
    Does P o a k (IsV p.isSome) := by
  have ev : a.eval (.const (.pointer none)) = .pointer none := rfl
  refine does_pure (v := .bool p.isSome) ?_ (isV_bool.2 rfl)
  simp only [execOp, ho, ev]
  have := run_eqPtr (P := P) hu h
  cases p with
  | none => rw [show a.eval x = .pointer none from h] at this ⊢; simp [eqGuard, binOp, this]
  | some i => obtain ⟨b, f, n, c, e1, e2⟩ := h; rw [e2] at this ⊢; simp [eqGuard, binOp, this]
/-- The pointer is not nil: what it points to, for reading. -/
theorem ok_nilCheckP {x : Operand} {u : Value} {xs : List α} {p : Option Int} {z : α} (ho : o.op = .nilCheck x) (h : IsEP u (Enc.sz α) p (a.eval x) k) (hr : Readable xs u k) (hz : atI xs p = some z) : Does P o a k (IsPtr z) := by
  cases p with
  | none => simp [atI] at hz
  | some i =>
    obtain ⟨h0, hg, hl, hli⟩ := getI_spec (show getI xs i = some z from hz)
    obtain ⟨b, f, n, c, e1, e2⟩ := h
    rcases hr with ⟨e3, rfl⟩ | ⟨ad, cap, cs, e3, hc, hrep, ha⟩
    · simp at hg
    · have ha := ha.resolve_left (by intro e; subst e; simp at hg)
      rw [e1] at e3
      simp only [Value.slice.injEq, Option.some.injEq] at e3
      obtain ⟨rfl, _, _⟩ := e3
      have hat := ha.elem hrep hg
      have ha' : (⟨b, f, none⟩ : Addr).add (i.toNat * Enc.sz α) = ⟨b, f + i.toNat * Enc.sz α, none⟩ := by
        unfold Addr.add
        split
        · rename_i h; rw [h]; rfl
        · rfl
      refine does_pure (v := .pointer (some ⟨b, f + i.toNat * Enc.sz α, none⟩)) ?_ ⟨_, rfl, by rw [← ha']; exact hat⟩
      simp only [execOp, ho, e2]
      simp
/-- .. and for writing. -/
theorem ok_nilCheckO {x : Operand} {u : Value} {s : Nat} {p : Option Int} {i : Int} (ho : o.op = .nilCheck x) (h : IsEP u s p (a.eval x) k) (hp : p = some i) : Does P o a k (IsAdrO u (i.toNat * s)) := by
  subst hp
  obtain ⟨b, f, n, c, e1, e2⟩ := h
  refine does_pure (v := .pointer (some ⟨b, f + i.toNat * s, none⟩)) ?_ ⟨b, f, n, c, e1, rfl⟩
  simp only [execOp, ho, e2]
  simp
theorem atI_spec {γ : Type} {xs : List γ} {p : Option Int} {z : γ} (h : atI xs p = some z) : p = some (p.getD 0) ∧ getI xs (p.getD 0) = some z := by
  cases p with
  | none => simp [atI] at h
  | some i => exact ⟨rfl, h⟩
theorem ret_imp {f : FuncId} {args : Array Value} {w : World} (h : Calls P f args w (Ret k R)) (hi : ∀ v k', R v k' → S v k') : Calls P f args w (Ret k S) := h.mono fun e w' he => by
  cases e with
  | returned v => obtain ⟨k', e1, hg, hv⟩ := he; exact ⟨k', e1, hg, hi _ _ hv⟩
  | panicked c => exact he
  | outgrown => exact he
theorem ok_indexEV {t e : TypeId} {x y : Operand} {u : Value} {xs : List α} {i : Int} {z : α} (ho : o.op = .indexAddr t x y) (hu : P.underlying t = some (.slice e)) (ht : Ty P e α)
    (hx : VAt u xs (a.eval x) k) (hy : IsV i (a.eval y) k) (h : getI xs i = some z) : Does P o a k (IsEP u (Enc.sz α) (some i)) :=
  ok_indexE ho hu ht hx.1 (hx.1 ▸ IsV.rd hx.2) hy h
theorem ok_indexEO {t e : TypeId} {x y : Operand} {u w : Value} {xs : List α} {i : Int} {z : α} {B : Nat} {e' : TypeId} (ho : o.op = .indexAddr t x y) (hu : P.underlying t = some (.slice e)) (ht : Ty P e α)
    (hx : OwnAt w B e' xs (a.eval x) k) (hw : w = u) (hy : IsV i (a.eval y) k) (h : getI xs i = some z) : Does P o a k (IsEP u (Enc.sz α) (some i)) :=
  ok_indexE ho hu ht (hx.1.trans hw) (hw ▸ hx.1 ▸ IsOwn.rd hx.2) hy h
theorem ret_ep {f : FuncId} {args : Array Value} {w : World} {u v : Value} {n : Nat} {p : Option Int} (h : Calls P f args w (Ret k (IsEP v n p))) (e : v = u) : Calls P f args w (Ret k (IsEP u n p)) := e ▸ h
theorem rdV {t : Nat} {u : Value} {xs : List α} (h : IsV xs (a.get t) k) (hk : Grow k k') (q : a.get t = u) : Readable xs u k' := q ▸ IsV.rd (Mono.mono hk h)
theorem rdO {t : Nat} {u : Value} {xs : List α} {B : Nat} {e : TypeId} (h : IsOwn B e xs (a.get t) k) (hk : Grow k k') (q : a.get t = u) : Readable xs u k' := q ▸ IsOwn.rd (Mono.mono hk h)
theorem tail_ext {A : Array Oper} {i d n : Nat} {rest : List Nat} {Q : Exit → Act → World → Prop} {x : Operand} {vs : Array Value} {v : Value}
    (ho : nth A.toList i = some o) (hg : o.guard = none) (hop : o.op = .extract x n) (hd : o.dst = some d) (hda : d < a.tmps.size) (hx : a.eval x = .tuple vs) (hv : vs[n]? = some v)
    (h : ∀ a' : Act, a'.tmps.size = a.tmps.size → a'.defers = a.defers → a'.get d = v → (∀ t, t ≠ d → a'.get t = a.get t) → wpOps P A Q rest a' k.w) : wpOps P A Q (i :: rest) a k.w := by
  rw [wpOps_cons]
  rw [nth_toList] at ho
  unfold wpOp
  simp only [ho, Region.wanted, hg, if_true]
  refine .inl ?_
  unfold Oper.wp
  have hr : (execOp a.eval o).run P k.w = .ok (.value v) k.w := by
    simp only [execOp, hop, hx]; simp [Instr.extract, hv]
  rw [hr]
  simp only [Oper.upon_value, hd]
  refine h _ (put_size _ _ _) (put_defers' _ _ _) ?_ ?_
  · rw [get_put _ _ _ _ hda]; simp
  · intro t ht; rw [get_put _ _ _ _ hda, if_neg (Ne.symm ht)]
end
end Go.Gb

/- General part of the proofs: copying into a slice of the call's own. -/
namespace Go.Gb

theorem run_copy_raw {P : Program} {w : World} {dT sT ty e e' z : TypeId} {b o dLen dCap sLen sCap : Nat} {a : Addr} {cs : List Value} {cur : Array Value}
    (hu : P.underlying dT = some (.slice e)) (hs : (P.info? e).map (·.size) = some z) (hg : w.heap[b]? = some (.cells cur e' (0, 0))) (hn : cs.length = Nat.min sLen dLen * z)
    (hsrc : ∀ j v, cs[j]? = some v → w.cell? (a.add j) = some v) (hfit : o + cs.length ≤ cur.size) (h1 : ∀ v ∈ cs, v.oneCell' = true) :
    (Builtin.copy_ #[dT, sT] ty #[.slice (some ⟨b, o, none⟩) dLen dCap, .slice (some a) sLen sCap]).run P w =
      .ok (goInt (Nat.min sLen dLen)) (w.setRow b (cur.toList.take o ++ cs ++ cur.toList.drop (o + cs.length)).toArray) := by
  have hl := run_loadCells_list (P := P) w a cs hsrc
  have hst := run_storeCells_at P b o e' cs 0 cur w hg (by simpa using hfit) h1
  simp only [Nat.add_zero] at hst
  cases hq : P.info? e with
  | none => simp [hq] at hs
  | some i =>
    have hi : i.size = z := by simpa [hq] using hs
    rw [hn] at hl
    simp [Builtin.copy_, run_underlying hu, Builtin.lenOf, Builtin.firstCells, sizeOf, typeInfo, hq, hi, hl, hst]
end Go.Gb

/- General part of the proofs: parts of slices of the call's own. -/
namespace Go.Gb
section
variable {P : Program} {o : Oper} {a a0 : Act} {k k' k0 : K} {α : Type} [Enc α] {F G : FP}

/-- A slice of the call's own, which lies in the array of slice u. -/
def OwnSub (u : Value) (B : Nat) (e : TypeId) (xs : List α) : Pred := fun v k => IsOwn B e xs v k ∧ ∀ b, obF v b → obF u b
instance (u : Value) (B : Nat) (e : TypeId) (xs : List α) : Mono (OwnSub u B e xs) := ⟨fun h ⟨r, s⟩ => ⟨Mono.mono h r, s⟩⟩

theorem run_sliceO {t e : TypeId} {v : Value} {B : Nat} {xs ys : List α} {lo hi : Int} (lov hiv : Option Value) (hlo : lov = some (.int .i64 lo) ∨ (lov = none ∧ lo = 0)) (hhi : hiv = some (.int .i64 hi) ∨ (hiv = none ∧ hi = xs.length))
    (hu : P.underlying t = some (.slice e)) (ht : (P.info? e).map (·.size) = some (Enc.sz α)) (hv : IsOwn B e xs v k) (h : sliceI xs lo hi = some ys) :
    ∃ v', (Instr.sliceAt t v lov hiv none).run P k.w = .ok v' k.w ∧ OwnSub v B e ys v' k := by
  obtain ⟨⟨h0, h1, h2⟩, rfl⟩ := of_ite h
  have hsz : ∀ w, (sizeOf e).run P w = .ok (Enc.sz α) w := fun w => run_sizeOf ht
  have hlen : ((xs.take hi.toNat).drop lo.toNat).length = hi.toNat - lo.toNat := by simp; omega
  have hb : ∀ (len cap : Nat) (w : World), len = xs.length → len ≤ cap → (Instr.sliceBounds true len cap lov hiv none).run P w = .ok (lo.toNat, hi.toNat, cap) w := by
    intro len cap w hl hc
    subst hl
    have b1 := run_sliceBound (P := P) (i := hi) (y := cap) (c := .sliceAcap) (w := w) (by omega) (by omega)
    have b2 := run_sliceBound (P := P) (i := lo) (y := hi.toNat) (c := .sliceB) (w := w) h0 (by omega)
    rcases hlo with rfl | ⟨rfl, rfl⟩ <;> rcases hhi with rfl | ⟨rfl, rfl⟩
    · simp [Instr.sliceBounds, b1, b2]
    · have b3 := run_sliceBound (P := P) (i := lo) (y := xs.length) (c := .sliceB) (w := w) h0 (by omega)
      simp [Instr.sliceBounds, b3]
    · simp [Instr.sliceBounds, b1]
    · simp [Instr.sliceBounds]
  rcases hv with ⟨rfl, rfl⟩ | ⟨ad, rfl, rfl⟩ | ⟨b, off, cap, cur, cs, rfl, hB, ho, hh, hc, h0', hmx, hcs, hcells, hr⟩
  · simp only [List.length_nil, Int.natCast_zero] at h2
    have e1 : lo.toNat = 0 := by omega
    have e2 : hi.toNat = 0 := by omega
    have := hb 0 0 k.w rfl (Nat.le_refl _)
    refine ⟨.slice none 0 0, ?_, .inl ⟨rfl, by simp⟩, fun _ h => h⟩
    simp [Instr.sliceAt, Instr.slice, run_underlying hu, this, hsz, e1, e2]
  · simp only [List.length_nil, Int.natCast_zero] at h2
    have e1 : lo.toNat = 0 := by omega
    have e2 : hi.toNat = 0 := by omega
    have := hb 0 0 k.w rfl (Nat.le_refl _)
    refine ⟨.slice (some ad) 0 0, ?_, .inr (.inl ⟨ad, rfl, by simp⟩), fun _ h => h⟩
    simp [Instr.sliceAt, Instr.slice, run_underlying hu, this, hsz, e1, e2]
  · have hbb := hb xs.length cap k.w rfl hc
    by_cases hcl : cap = lo.toNat
    · have hnil : (xs.take hi.toNat).drop lo.toNat = [] := List.eq_nil_of_length_eq_zero (by rw [hlen]; omega)
      refine ⟨.slice (some ⟨b, off, none⟩) 0 0, ?_, .inr (.inl ⟨_, rfl, hnil⟩), fun c hc => by simp [obF, ob] at hc⟩
      have e3 : hi.toNat - cap = 0 := by omega
      simp [Instr.sliceAt, Instr.slice, run_underlying hu, hbb, hsz, ← hcl, e3]
    · have hadd : (⟨b, off, none⟩ : Addr).add (lo.toNat * Enc.sz α) = ⟨b, off + lo.toNat * Enc.sz α, none⟩ := by
        unfold Addr.add
        split
        · rename_i h; rw [h]; simp
        · rfl
      have hm3 : lo.toNat * Enc.sz α + (cap - lo.toNat) * Enc.sz α = cap * Enc.sz α := by rw [← Nat.add_mul, Nat.add_sub_cancel' (by omega)]
      refine ⟨.slice (some ⟨b, off + lo.toNat * Enc.sz α, none⟩) (hi.toNat - lo.toNat) (cap - lo.toNat), ?_,
        .inr (.inr ⟨b, off + lo.toNat * Enc.sz α, cap - lo.toNat, cur, _, by rw [hlen], hB, ho, hh, by rw [hlen]; omega, by omega, by omega, by omega, rfl, ?_⟩), ?_⟩
      · have : ¬ cap = lo.toNat := hcl
        simp [Instr.sliceAt, Instr.slice, run_underlying hu, hbb, hsz, hcl, hadd]
      · have hr2 := RepL.drop lo.toNat (RepL.take hi.toNat hr)
        rw [hlen]
        have e5 : ((cur.toList.drop (off + lo.toNat * Enc.sz α)).take ((hi.toNat - lo.toNat) * Enc.sz α)) = (cs.take (hi.toNat * Enc.sz α)).drop (lo.toNat * Enc.sz α) := by
          have hm1 : hi.toNat * Enc.sz α ≤ xs.length * Enc.sz α := Nat.mul_le_mul_right _ (by omega)
          rw [← hcells, List.take_take, Nat.min_eq_left hm1, List.drop_take, List.drop_drop, Nat.sub_mul]
        rw [e5]
        exact hr2
      · intro c hc
        simp only [obF, ob] at hc ⊢
        rw [if_neg (by omega)] at hc ⊢
        exact hc

section
variable {t e : TypeId} {x y z : Operand} {xs ys : List α} {lo hi : Int} {B : Nat} {u : Value}
theorem ok_sliceO (ho : o.op = .slice t x (some y) (some z) none) (hu : P.underlying t = some (.slice e)) (ht : (P.info? e).map (·.size) = some (Enc.sz α))
    (hx : OwnAt u B e xs (a.eval x) k) (hy : IsV lo (a.eval y) k) (hz : IsV hi (a.eval z) k) (h : sliceI xs lo hi = some ys) : Does P o a k (OwnSub u B e ys) := by
  have hy := isV_int.1 hy; have hz := isV_int.1 hz
  obtain ⟨rfl, hx⟩ := hx
  obtain ⟨v, hr, hv⟩ := run_sliceO (P := P) (some (.int .i64 lo)) (some (.int .i64 hi)) (.inl rfl) (.inl rfl) hu ht hx h
  refine does_pure (v := v) ?_ hv
  simp [execOp, ho, hy, hz, hr]
theorem ok_sliceO_lo (ho : o.op = .slice t x (some y) none none) (hu : P.underlying t = some (.slice e)) (ht : (P.info? e).map (·.size) = some (Enc.sz α))
    (hx : OwnAt u B e xs (a.eval x) k) (hy : IsV lo (a.eval y) k) (h : sliceI xs lo xs.length = some ys) : Does P o a k (OwnSub u B e ys) := by
  have hy := isV_int.1 hy
  obtain ⟨rfl, hx⟩ := hx
  obtain ⟨v, hr, hv⟩ := run_sliceO (P := P) (some (.int .i64 lo)) none (.inl rfl) (.inr ⟨rfl, rfl⟩) hu ht hx h
  refine does_pure (v := v) ?_ hv
  simp [execOp, ho, hy, hr]
theorem ok_sliceO_hi (ho : o.op = .slice t x none (some z) none) (hu : P.underlying t = some (.slice e)) (ht : (P.info? e).map (·.size) = some (Enc.sz α))
    (hx : OwnAt u B e xs (a.eval x) k) (hz : IsV hi (a.eval z) k) (h : sliceI xs 0 hi = some ys) : Does P o a k (OwnSub u B e ys) := by
  have hz := isV_int.1 hz
  obtain ⟨rfl, hx⟩ := hx
  obtain ⟨v, hr, hv⟩ := run_sliceO (P := P) none (some (.int .i64 hi)) (.inr ⟨rfl, rfl⟩) (.inl rfl) hu ht hx h
  refine does_pure (v := v) ?_ hv
  simp [execOp, ho, hz, hr]
end
end
end Go.Gb
namespace Go.Gb
theorem does_imp {P : Program} {o : Oper} {a : Act} {k : K} {R S : Pred} (h : Does P o a k R) (hi : ∀ v k', Grow k k' → R v k' → S v k') : Does P o a k S :=
  fun next Q hQ hn => h next Q hQ fun v k' hg hv => hn v k' hg (hi v k' hg hv)
end Go.Gb

/- General part of the proofs: what comes in as data stands for values of Lean; the row of a law. -/
namespace Go.Gb

/-- The world, all of whose blocks are shared. -/
def kOf (W : World) : K := ⟨W, fun b => b < W.heap.size, fun _ h => h⟩

/-- What integers that come in are. -/
class Rg (α : Type) where
  rg : α → Prop
instance : Rg Int := ⟨inI⟩
instance : Rg Bool := ⟨fun _ => True⟩
instance : Rg ByteArray := ⟨fun b => b.size ≤ maxLen⟩
instance {α : Type} [Rg α] : Rg (List α) := ⟨fun l => ∀ x ∈ l, Rg.rg x⟩
instance {α β : Type} [Rg α] [Rg β] : Rg (α × β) := ⟨fun p => Rg.rg p.1 ∧ Rg.rg p.2⟩
@[reducible] def Rg.ofMap {σ β : Type} [Rg β] (f : σ → β) : Rg σ := ⟨fun x => Rg.rg (f x)⟩

def RdC (P : Program) (t : TypeId) (α : Type) [Enc α] [Rg α] : Prop :=
  ∀ {H : Type} (enc : TypeId × Value → H) (W : World) (fuel : Nat) (cs : List Value) (x : DataW H × List MemPlace),
    DataW.trod enc P W 0 (fun _ => true) true fuel t cs = some x → ∃ y : α, Enc.rep (kOf W) cs y ∧ Rg.rg y
/-- What is read as data at this Go type stands for a value of the Lean type. -/
structure Rd (P : Program) (t : TypeId) (α : Type) [Enc α] [Rg α] : Prop where
  rd : RdC P t α
  sh : ∀ (W : World) (r : Reach) (base : Nat) (v : Value), Value.okWide P W r base t v → v = mkV (Enc.agg α) v.cells.toList

section
variable {P : Program} {t e : TypeId} {α β σ : Type} [Enc α] [Enc β] [Rg α] [Rg β]

theorem rd_int (hu : P.underlying t = some (.int .i64)) : Rd P t Int where
  rd {H} enc W fuel cs x h := by
    obtain ⟨n, rfl, _, hw⟩ := DataW.trod_int hu h
    refine ⟨n, rfl, ?_⟩
    simp [Lit.wf, IntKind.min, IntKind.max, IntKind.bits, IntKind.signed] at hw
    exact hw
  sh W r base v h := by
    obtain ⟨n, rfl⟩ := WideShapes.okWide_int hu h
    rfl
theorem rd_bool (hu : P.underlying t = some .bool) : Rd P t Bool where
  rd {H} enc W fuel cs x h := by
    obtain ⟨n, rfl, _⟩ := DataW.trod_bool hu h
    exact ⟨n, rfl, trivial⟩
  sh W r base v h := by
    obtain ⟨n, rfl⟩ := WideShapes.okWide_bool hu h
    rfl
theorem rd_string (hu : P.underlying t = some .string) : Rd P t ByteArray where
  rd {H} enc W fuel cs x h := by
    obtain ⟨n, rfl, _, hw⟩ := DataW.trod_string hu h
    exact ⟨n, rfl, hw⟩
  sh W r base v h := by
    obtain ⟨n, rfl⟩ := WideShapes.okWide_string hu h
    rfl

theorem cell_at {W : World} {a : Addr} {u : Value} (h : W.cell? a = some u) : a.spot = none ∧ ∃ arr t fr, W.heap[a.block]? = some (.cells arr t fr) ∧ arr[a.off]? = some u := by
  unfold World.cell? at h
  cases hh : W.heap[a.block]? with
  | none => rw [hh] at h; simp at h
  | some o =>
    rw [hh] at h
    cases o with
    | cells arr t fr =>
      simp only at h
      split at h
      · simp at h
      · rename_i hs
        refine ⟨by simpa using hs, arr, t, fr, rfl, h⟩
    | _ => simp at h

theorem add_eq {a : Addr} (ha : a.spot = none) (i : Nat) : a.add i = ⟨a.block, a.off + i, none⟩ := by
  unfold Addr.add
  split
  · rename_i h; subst h; cases a; simp_all
  · rfl

theorem cells_row {W : World} {a : Addr} {n i : Nat} {l : List Value} {arr : Array Value} {t : TypeId} {fr : Nat × Nat} (ha : a.spot = none) (hh : W.heap[a.block]? = some (.cells arr t fr)) (hn : 0 < n) (h : W.cells? 0 (a.add i) n = some l) :
    a.off + i + n ≤ arr.size ∧ l = (arr.toList.drop (a.off + i)).take n := by
  obtain ⟨_, hl, hc⟩ := World.cells?_some h
  rw [add_eq ha] at hc
  have hcell : ∀ j, j < n → arr[a.off + i + j]? = l[j]? := by
    intro j hj
    have hj' := hc j hj
    rw [add_eq rfl, List.getElem?_eq_getElem (by omega)] at hj'
    obtain ⟨_, arr', t', fr', hh', hj2⟩ := cell_at hj'
    simp only at hh'
    rw [hh] at hh'
    simp only [Option.some.injEq, Obj.cells.injEq] at hh'
    obtain ⟨rfl, _⟩ := hh'
    rw [hj2, List.getElem?_eq_getElem (by omega)]
  have hlast := hcell (n - 1) (by omega)
  rw [List.getElem?_eq_getElem (show n - 1 < l.length by omega)] at hlast
  have hlt := (Array.getElem?_eq_some_iff.1 hlast).1
  refine ⟨by omega, List.ext_getElem? fun j => ?_⟩
  by_cases hj : j < n
  · rw [List.getElem?_take, if_pos hj, List.getElem?_drop, ← hcell j hj]
    simp
  · rw [List.getElem?_eq_none (by omega), List.getElem?_eq_none (by simp; omega)]

theorem rd_slice (hu : P.underlying t = some (.slice e)) (hz : P.cellsOf e = Enc.sz α) (h0 : 0 < Enc.sz α) (he : Rd P e α) : Rd P t (List α) where
  rd {H} enc W fuel cs x h := by
    rcases DataW.trod_slice hu h with ⟨rfl, _⟩ | ⟨a, len, cap, elems, rest, n, _, rfl, _, _, hlc, hcm, hel, hE, hR, _⟩
    · exact ⟨[], ⟨_, rfl, .inl ⟨rfl, rfl⟩⟩, fun x hx => by simp at hx⟩
    · rw [hz] at hE hR
      obtain ⟨hrl, hR⟩ := hR rfl
      by_cases hc0 : cap = 0
      · obtain rfl : len = 0 := by omega
        exact ⟨[], ⟨_, rfl, .inr (.inl ⟨a, by rw [hc0], rfl⟩)⟩, fun x hx => by simp at hx⟩
      · -- the block
        obtain ⟨l0, hl0⟩ : ∃ l0, W.cells? 0 (a.add 0) (Enc.sz α) = some l0 := by
          by_cases hl : 0 < len
          · have := hE 0 hl
            rw [List.getElem?_eq_getElem (by omega), Nat.zero_mul, Option.bind_eq_some_iff] at this
            obtain ⟨l0, h, _⟩ := this
            exact ⟨l0, h⟩
          · have := hR 0 (by omega)
            rw [List.getElem?_eq_getElem (by omega), show (len + 0) * Enc.sz α = 0 by rw [show len = 0 by omega]; simp, Option.bind_eq_some_iff] at this
            obtain ⟨l0, h, _⟩ := this
            exact ⟨l0, h⟩
        have ha0 : a.add 0 = a := by simp [Addr.add]
        obtain ⟨_, hll, hlc0⟩ := World.cells?_some hl0
        have h00 := hlc0 0 h0
        rw [ha0, ha0, List.getElem?_eq_getElem (by omega)] at h00
        obtain ⟨hsp, arr, t', fr, hh, _⟩ := cell_at h00
        have hlt : a.block < W.heap.size := (Array.getElem?_eq_some_iff.1 hh).1
        have key : ∀ m, m ≤ len → ∃ xs : List α, xs.length = m ∧ RepL (kOf W) ((arr.toList.drop a.off).take (m * Enc.sz α)) xs ∧ (∀ x ∈ xs, Rg.rg x) ∧ (m = 0 ∨ a.off + m * Enc.sz α ≤ arr.size) := by
          intro m
          induction m with
          | zero => intro _; exact ⟨[], rfl, by simp [RepL], fun x hx => by simp at hx, .inl rfl⟩
          | succ m ih =>
            intro hm
            obtain ⟨xs, h1, h2, h3, h4⟩ := ih (by omega)
            have := hE m (by omega)
            rw [List.getElem?_eq_getElem (by omega), Option.bind_eq_some_iff] at this
            obtain ⟨l, hl, htr⟩ := this
            obtain ⟨hsz, rfl⟩ := cells_row hsp hh h0 hl
            obtain ⟨y, hy, hyr⟩ := he.rd enc W n _ _ htr
            refine ⟨xs ++ [y], by simp [h1], ?_, ?_, .inr (by rw [Nat.add_mul, Nat.one_mul]; omega)⟩
            · have e1 : (arr.toList.drop a.off).take ((m + 1) * Enc.sz α) = (arr.toList.drop a.off).take (m * Enc.sz α) ++ (arr.toList.drop (a.off + m * Enc.sz α)).take (Enc.sz α) := by
                rw [Nat.add_mul, Nat.one_mul, List.take_add, List.drop_drop]
              rw [e1]
              have hly := Enc.len hy
              refine h2.append ⟨?_, ?_⟩
              · rw [List.take_of_length_le (by omega)]; exact hy
              · simp only [RepL]; rw [List.drop_eq_nil_of_le (by omega)]
            · intro x hx
              rcases List.mem_append.1 hx with hx | hx
              · exact h3 x hx
              · simp at hx; rw [hx]; exact hyr
        obtain ⟨xs, h1, h2, h3, h4⟩ := key len (Nat.le_refl _)
        subst h1
        refine ⟨xs, ⟨_, rfl, .inr (.inr ⟨a, cap, _, rfl, hlc, hlt, h2, hsp, arr, t', fr, hh, ?_, ?_⟩)⟩, h3⟩
        · have hc1 := (Array.getElem?_eq_some_iff.1 (show arr[a.off]? = some _ from by assumption)).1
          rw [h2.len]
          rcases h4 with h4 | h4
          · rw [h4, Nat.zero_mul]; omega
          · exact h4
        · intro j hj
          rw [List.getElem?_take, if_pos (by rw [h2.len] at hj; exact hj), List.getElem?_drop]
          simp
  sh W r base v h := by
    obtain ⟨a, l, c, rfl⟩ := WideShapes.okWide_slice hu h
    rfl

/-- The fields of a struct, from the offset o on. -/
structure RdF (P : Program) (fs : List Field) (o : Nat) (α : Type) [Enc α] [Rg α] : Prop where
  run : ∀ {H : Type} (enc : TypeId × Value → H) (W : World) (fuel : Nat) (cs : List Value), cs.length = o + Enc.sz α →
    (∀ f ∈ fs, ∃ x : DataW H × List MemPlace, DataW.trod enc P W 0 (fun _ => true) true fuel f.type ((cs.drop f.offset).take (P.cellsOf f.type)) = some x) → ∃ y : α, Enc.rep (kOf W) (cs.drop o) y ∧ Rg.rg y
theorem RdF.one {f : Field} {o : Nat} (ho : f.offset = o) (hz : P.cellsOf f.type = Enc.sz α) (h : Rd P f.type α) : RdF P [f] o α := by
  refine ⟨?_⟩
  intro H enc W fuel cs hl hf
  obtain ⟨x, hx⟩ := hf f (by simp)
  rw [ho, hz, List.take_of_length_le (by simp; omega)] at hx
  exact h.rd enc W fuel _ x hx
theorem RdF.cons {f : Field} {fs : List Field} {o : Nat} (ho : f.offset = o) (hz : P.cellsOf f.type = Enc.sz α) (h : Rd P f.type α) (g : RdF P fs (o + Enc.sz α) β) : RdF P (f :: fs) o (α × β) := by
  refine ⟨?_⟩
  intro H enc W fuel cs hl hf
  obtain ⟨x, hx⟩ := hf f (by simp)
  rw [ho, hz] at hx
  have hl' : cs.length = o + (Enc.sz α + Enc.sz β) := hl
  obtain ⟨y, hy, hyr⟩ := h.rd enc W fuel _ x hx
  obtain ⟨z, hz', hzr⟩ := g.run enc W fuel cs (by omega) (fun f' hf' => hf f' (List.mem_cons_of_mem _ hf'))
  rw [← List.drop_drop] at hz'
  exact ⟨(y, z), ⟨by simp; omega, hy, hz'⟩, hyr, hzr⟩

theorem rd_struct [Enc σ] [Rg σ] {fs : Array Field} {f : σ → β} (g : β → σ) (hu : P.underlying t = some (.struct fs)) (hz : P.cellsOf t = Enc.sz β) (hag : Enc.agg σ = true)
    (hr : ∀ k cs y, Enc.rep (α := β) k cs y → Enc.rep (α := σ) k cs (g y)) (hrg : ∀ y : β, Rg.rg y → Rg.rg (g y)) (h : RdF P fs.toList 0 β) (_hf : ∀ y, f (g y) = y) : Rd P t σ where
  rd {H} enc W fuel cs x hx := by
    obtain ⟨xs, n, _, _, hl, hxl, he⟩ := DataW.trod_struct hu hx
    obtain ⟨y, hy, hyr⟩ := h.run enc W n cs (by omega) (fun f hf => by
      obtain ⟨i, hi, rfl⟩ := List.getElem_of_mem hf
      have hi' : i < fs.size := by simpa using hi
      have := he i fs[i] (by simp [hi'])
      rw [List.getElem?_eq_getElem (by omega)] at this
      exact ⟨_, by simpa using this⟩)
    exact ⟨g y, hr _ _ _ (by simpa using hy), hrg _ hyr⟩
  sh W r base v h := by
    obtain ⟨cs, rfl, _⟩ := WideShapes.okWide_struct hu h
    rw [hag]
    simp [mkV, Value.cells]
end
end Go.Gb

/- General part of the proofs: from a law's contract to its row. -/
namespace Go.Gb
section
variable {H : Type} {enc : TypeId × Value → H} {P : Program} {fn : Func} {s : ChangeSpec} {W : World}

theorem grow_kept {k' : K} {may : MemPlace → Prop} (hg : Grow (kOf W) k') : W.keptBut k'.w may := by
  refine ⟨hg.os, hg.out, fun i hi => ?_⟩
  have := hg.blk i hi
  rw [this]
  show (match W.heap[i]?, W.heap[i]? with
    | some (.cells c t fr), some (.cells c' t' fr') => t' = t ∧ fr' = fr ∧ c'.size = c.size ∧ ∀ j : Nat, ¬ may (.cell i j) → c'[j]? = c[j]?
    | some (.map es clock), some (.map es' clock') => may (.map i) ∨ (es' = es ∧ clock' = clock)
    | o, o' => o' = o)
  cases W.heap[i]? with
  | none => rfl
  | some o => cases o <;> simp

theorem grow_below {k' : K} (hg : Grow (kOf W) k') : RowKit.Below W.heap.size W k'.w := ⟨hg.os, hg.tape, hg.out, hg.size, hg.blk⟩

theorem trodAll_stays (hl : laidOutB P = true) {k' : K} (hg : Grow (kOf W) k') : ∀ {ts : List TypeId} {vs : List Value} {ds : List (DataW H)} {ps : List MemPlace},
    ts.all (fun t => P.readableRec t && decide (t < P.types.size)) = true → DataW.TrodAll enc P W 0 (fun _ => true) true ts vs ds ps → (∀ p ∈ ps, p.block < W.heap.size) →
    DataW.TrodAll enc P k'.w 0 (fun b => decide (b < W.heap.size)) true ts vs ds ps
  | [], vs, ds, ps, _, h, _ => by
    obtain ⟨rfl, rfl, rfl⟩ := ChangeShapes.trodAll_nil h
    exact rfl
  | t :: ts, vs, ds, ps, hr, h, hlt => by
    obtain ⟨v, vs', d, ds', p, q, rfl, rfl, rfl, h1, h2⟩ := ChangeShapes.trodAll_cons h
    simp only [List.all_cons, Bool.and_eq_true, decide_eq_true_eq] at hr
    exact ⟨p, q, RowKit.Below.trod hl hr.1.1 hr.1.2 h1 (grow_below hg) (fun x hx => hlt x (by simp [hx])), trodAll_stays hl hg hr.2 h2 (fun x hx => hlt x (by simp [hx])), rfl⟩

theorem post_law {apart : Bool} {args : Array Value} {ds gs : List (DataW H)} {before : List MemPlace} {tb : TypeId} {k' : K} (hW : DataW.Whole enc P fn.params.toList s.vars apart W args.toList ds gs before)
    (hl : laidOutB P = true) (hts : fn.params.toList.all (fun t => P.readableRec t && decide (t < P.types.size)) = true) (hvars : s.vars = []) (hrt : fn.resultTypes = #[tb]) (hb : P.underlying tb = some .bool)
    (hsp : s.fn H (ds ++ gs) = { results := [.lit (.bool true)], args := ds }) (hg : Grow (kOf W) k') : s.post enc P fn apart true false false W args (.bool true) k'.w := by
  have hlt := hW.lt
  have hW' := hW
  obtain ⟨p, q, hA, hV, rfl, hfz, hnd⟩ := hW
  rw [hvars] at hV
  obtain ⟨rfl, rfl⟩ := ChangeShapes.trodVars_none hV
  refine ⟨ds, [], p ++ [], [], p, [], hW', ?_, ?_, ?_, World.keptBut_mono (fun x hx => ⟨hx, .inr (.inl (by simpa using hx))⟩) (grow_kept hg), fun h => by simp at h⟩
  · rw [hsp, hrt]
    refine ⟨[], [], ⟨1, ?_⟩, rfl, rfl⟩
    simp [DataW.trod, Value.cells, hb]
  · rw [hsp]
    exact trodAll_stays hl hg hts hA (fun x hx => hlt x (by simp [hx]))
  · rw [hsp, hvars]
    exact rfl

theorem isV_of {P : Program} {t : TypeId} {α : Type} [Enc α] [Rg α] (hr : Rd P t α) {v : Value} {d : DataW H} {ps : List MemPlace} (h : DataW.Trod enc P W 0 (fun _ => true) true t v d ps) {r : Reach} {base : Nat} (hok : Value.okWide P W r base t v) :
    ∃ y : α, IsV y v (kOf W) ∧ Rg.rg y := by
  obtain ⟨n, hn⟩ := h
  obtain ⟨y, hy, hg⟩ := hr.rd enc W n _ _ hn
  exact ⟨y, ⟨_, hr.sh W r base v hok, hy⟩, hg⟩

theorem law_calls {f : FuncId} {args : Array Value} {Q : Ending → World → Prop} (h : Calls P f args (kOf W).w (Ret (kOf W) (IsV true))) (hq : ∀ k' : K, Grow (kOf W) k' → Q (.returned (.bool true)) k'.w) : Calls P f args W Q :=
  h.mono fun e w' he => by
    cases e with
    | returned v =>
      obtain ⟨k', rfl, hg, hv⟩ := he
      rw [isV_bool.1 hv]
      exact hq k' hg
    | panicked c => exact he.elim
    | outgrown => exact he.elim
end
end Go.Gb

/- General part of the proofs: reasoning on the mirrored functions. -/
namespace Go.Gb

def Flow.ends {σ ρ : Type} : Flow σ ρ → Prop
  | .go _ => False
  | _ => True

/-- A loop with a counter that goes up to N. -/
theorem loop_up {σ ρ : Type} {body : σ → Option (Flow σ ρ)} (Inv : Nat → σ → Prop) (N : Nat) (Post : Flow σ ρ → Prop)
    (step : ∀ i s, i < N → Inv i s → (∃ s', body s = some (.go s') ∧ Inv (i + 1) s') ∨ (∃ f, body s = some f ∧ f.ends ∧ Post f))
    (done : ∀ s, Inv N s → ∃ f, body s = some f ∧ f.ends ∧ Post f) (s0 : σ) (h0 : Inv 0 s0) (fuel : Nat) (hf : N < fuel) : ∃ f, iterL body fuel s0 = some f ∧ f.ends ∧ Post f := by
  have key : ∀ m i s, i + m = N → Inv i s → ∀ fuel, m < fuel → ∃ f, iterL body fuel s = some f ∧ f.ends ∧ Post f := by
    intro m
    induction m with
    | zero =>
      intro i s hi hs fuel hf
      obtain ⟨f, hb, he, hp⟩ := done s (by rwa [show N = i by omega])
      obtain ⟨fuel, rfl⟩ : ∃ m, fuel = m + 1 := ⟨fuel - 1, by omega⟩
      refine ⟨f, ?_, he, hp⟩
      simp only [iterL, hb]
      cases f <;> simp_all [Flow.ends]
    | succ m ih =>
      intro i s hi hs fuel hf
      obtain ⟨fuel, rfl⟩ : ∃ m, fuel = m + 1 := ⟨fuel - 1, by omega⟩
      rcases step i s (by omega) hs with ⟨s', hb, hs'⟩ | ⟨f, hb, he, hp⟩
      · obtain ⟨f, h, he, hp⟩ := ih (i + 1) s' (by omega) hs' fuel (by omega)
        refine ⟨f, ?_, he, hp⟩
        simp only [iterL, hb, h]
      · refine ⟨f, ?_, he, hp⟩
        simp only [iterL, hb]
        cases f <;> simp_all [Flow.ends]
  exact key N 0 s0 (by omega) h0 fuel hf

/-- A loop with a measure that gets less. -/
theorem loop_down {σ ρ : Type} {body : σ → Option (Flow σ ρ)} (Inv : σ → Prop) (μ : σ → Nat) (Post : Flow σ ρ → Prop)
    (step : ∀ s, Inv s → (∃ s', body s = some (.go s') ∧ Inv s' ∧ μ s' < μ s) ∨ (∃ f, body s = some f ∧ f.ends ∧ Post f))
    (s0 : σ) (h0 : Inv s0) (fuel : Nat) (hf : μ s0 < fuel) : ∃ f, iterL body fuel s0 = some f ∧ f.ends ∧ Post f := by
  induction fuel generalizing s0 with
  | zero => omega
  | succ fuel ih =>
    rcases step s0 h0 with ⟨s', hb, hs', hm⟩ | ⟨f, hb, he, hp⟩
    · obtain ⟨f, h, he, hp⟩ := ih s' hs' (by omega)
      refine ⟨f, ?_, he, hp⟩
      simp only [iterL, hb, h]
    · refine ⟨f, ?_, he, hp⟩
      simp only [iterL, hb]
      cases f <;> simp_all [Flow.ends]

theorem getI_nat {α : Type} {l : List α} {i : Nat} (h : i < l.length) : getI l (i : Int) = some l[i] := by
  unfold getI
  rw [if_pos (by omega), Int.toNat_natCast, List.getElem?_eq_getElem h]
theorem getI_some {α : Type} {l : List α} {i : Int} (h0 : 0 ≤ i) (h : i < l.length) : getI l i = some (l[i.toNat]'(by omega)) := by
  unfold getI
  rw [if_pos h0, List.getElem?_eq_getElem]
theorem addI_some {n m : Int} (h : inI (n + m)) : addI n m = some (n + m) := if_pos h
theorem subI_some {n m : Int} (h : inI (n - m)) : subI n m = some (n - m) := if_pos h
theorem mulI_some {n m : Int} (h : inI (n * m)) : mulI n m = some (n * m) := if_pos h
theorem addI_one {i : Nat} (h : i < 4611686018427387904) : addI (i : Int) 1 = some ((i + 1 : Nat) : Int) := by
  rw [addI_some (by unfold inI; omega)]; simp
theorem appI_some {α : Type} {xs ys : List α} (h : xs.length + ys.length ≤ 1073741824) : appI xs ys = some (xs ++ ys) := if_pos h
theorem sliceI_some {α : Type} {xs : List α} {lo hi : Int} (h0 : 0 ≤ lo) (h1 : lo ≤ hi) (h2 : hi ≤ xs.length) : sliceI xs lo hi = some ((xs.take hi.toNat).drop lo.toNat) := if_pos ⟨h0, h1, h2⟩
end Go.Gb

/- General part of the proofs: sorting an own slice in place, by the contracts of the library's sort at elements of k cells. -/
namespace Go.Gb
open Go.Proofs Go.Sort Go.RowKit Go.Lib
variable {P : Program} {α : Type}

/-- The cells of a value are given by the value alone. -/
class FlatE (α : Type) [Enc α] where
  enc : α → List Value
  rep : ∀ {k : K} {cs : List Value} {x : α}, Enc.rep k cs x ↔ cs = enc x

instance : FlatE Int := ⟨fun n => [.int .i64 n], Iff.rfl⟩
instance : FlatE Bool := ⟨fun n => [.bool n], Iff.rfl⟩
instance {α β : Type} [Enc α] [Enc β] [FlatE α] [FlatE β] : FlatE (α × β) where
  enc p := FlatE.enc p.1 ++ FlatE.enc p.2
  rep {k cs p} := by
    have l1 : (FlatE.enc p.1).length = Enc.sz α := Enc.len (k := k) (FlatE.rep.2 rfl)
    have l2 : (FlatE.enc p.2).length = Enc.sz β := Enc.len (k := k) (FlatE.rep.2 rfl)
    constructor
    · rintro ⟨_, h1, h2⟩
      rw [← FlatE.rep.1 h1, ← FlatE.rep.1 h2, List.take_append_drop]
    · rintro rfl
      exact ⟨by rw [List.length_append, l1, l2], FlatE.rep.2 (List.take_left' l1), FlatE.rep.2 (List.drop_left' l1)⟩
@[reducible] def FlatE.ofMap {σ β : Type} [Enc β] [FlatE β] (f : σ → β) : @FlatE σ (Enc.ofMap f) :=
  letI : Enc σ := Enc.ofMap f
  ⟨fun x => FlatE.enc (f x), fun {_ _ x} => FlatE.rep (x := f x)⟩
theorem flat_len [Enc α] [FlatE α] (k : K) (x : α) : (FlatE.enc x).length = Enc.sz α := Enc.len (k := k) (FlatE.rep.2 rfl)
theorem flat_one [Enc α] [FlatE α] (k : K) (x : α) : ∀ v ∈ FlatE.enc x, v.oneCell' = true := Enc.one (k := k) (FlatE.rep.2 rfl)

theorem repL_flat [Enc α] [FlatE α] {k : K} : ∀ {xs : List α} {cs : List Value}, RepL k cs xs ↔ cs = (xs.map FlatE.enc).flatten
  | [], cs => by simp [RepL]
  | x :: xs, cs => by
    have hl := flat_len k x
    simp only [RepL, List.map_cons, List.flatten_cons]
    rw [repL_flat (xs := xs)]
    rw [FlatE.rep]
    constructor
    · rintro ⟨h1, h2⟩
      rw [← h1, ← h2, List.take_append_drop]
    · intro h
      subst h
      exact ⟨List.take_left' hl, List.drop_left' hl⟩

theorem flatten_get [Inhabited α] {enc : α → List Value} {n : Nat} (hn : ∀ x, (enc x).length = n) : ∀ (xs : List α) (t : Nat), t < xs.length * n → (xs.map enc).flatten[t]? = (enc (xs[t / n]?.getD default))[t % n]?
  | [], t, h => by simp at h
  | x :: xs, t, h => by
    have hn0 : 0 < n := Nat.pos_of_ne_zero fun e => by subst e; simp at h
    simp only [List.map_cons, List.flatten_cons, List.getElem?_append, hn]
    by_cases ht : t < n
    · rw [if_pos ht, Nat.div_eq_of_lt ht, Nat.mod_eq_of_lt ht]; rfl
    · rw [if_neg ht, flatten_get hn xs (t - n) (by simp only [List.length_cons, Nat.add_mul, Nat.one_mul] at h; omega)]
      have e1 : t / n = (t - n) / n + 1 := by rw [← Nat.add_div_right _ hn0, Nat.sub_add_cancel (Nat.le_of_not_lt ht)]
      have e2 : t % n = (t - n) % n := by rw [← Nat.add_mod_right (t - n) n, Nat.sub_add_cancel (Nat.le_of_not_lt ht)]
      rw [e1, e2, List.getElem?_cons_succ]

theorem flatK_toList [Inhabited α] {enc : α → List Value} {n : Nat} (hn : ∀ x, (enc x).length = n) (d : Array α) : (flatK enc n d).toList = (d.toList.map enc).flatten := by
  refine List.ext_getElem? fun t => ?_
  by_cases ht : t < d.size * n
  · rw [flatten_get hn _ _ (by simpa using ht)]
    have hn0 : 0 < n := Nat.pos_of_ne_zero fun e => by subst e; simp at ht
    have hq : t / n < d.size := (Nat.div_lt_iff_lt_mul hn0).2 ht
    have hm := Nat.mod_lt t hn0
    have h1 := get_flatK enc n d t ht
    rw [getElem!_pos (flatK enc n d) t (by simpa using ht), getElem!_pos d (t / n) hq] at h1
    rw [List.getElem?_eq_getElem (by simpa using ht), Array.getElem_toList, h1, show d.toList[t / n]? = some d[t / n] from by rw [Array.getElem?_toList, Array.getElem?_eq_getElem hq], Option.getD_some, List.getElem?_eq_getElem (by rw [hn]; exact hm), getElem!_pos (enc d[t / n]) (t % n) (by rw [hn]; exact hm)]
  · rw [List.getElem?_eq_none (by simpa using Nat.le_of_not_lt ht), List.getElem?_eq_none]
    rw [show ((d.toList.map enc).flatten).length = d.size * n from ?_]
    · exact Nat.le_of_not_lt ht
    · have : ∀ xs : List α, ((xs.map enc).flatten).length = xs.length * n := by
        intro xs
        induction xs with
        | nil => simp
        | cons x xs ih => simp only [List.map_cons, List.flatten_cons, List.length_append, hn, ih, List.length_cons, Nat.add_mul, Nat.one_mul]; omega
      rw [this]; simp

theorem putCells_toList (off : Nat) (d c : Array Value) (h : off + d.size ≤ c.size) : ((putCells id off d c).toList.drop off).take d.size = d.toList := by
  refine List.ext_getElem? fun t => ?_
  rw [List.getElem?_take]
  split
  · rename_i ht
    rw [List.getElem?_drop, Array.getElem?_toList, putCells, Array.getElem?_mapIdx, Array.getElem?_eq_getElem (by omega), Option.map_some, if_pos (by omega), Nat.add_sub_cancel_left, getElem!_pos d t ht, Array.getElem?_toList, Array.getElem?_eq_getElem ht]
    rfl
  · rename_i ht
    rw [List.getElem?_eq_none (by simpa using Nat.le_of_not_lt ht)]

theorem insInner_size [Inhabited α] (lt : α → α → Bool) (a : Nat) : ∀ (j : Nat) (d : Array α), (insInner lt a j d).size = d.size
  | 0, _ => rfl
  | j + 1, d => by
    simp only [insInner]
    split
    · rw [insInner_size lt a j, size_swp]
    · rfl
theorem insOuter_size [Inhabited α] (lt : α → α → Bool) (a b : Nat) : ∀ (m i : Nat) (d : Array α), b - i = m → (insOuter lt a b i d).size = d.size
  | 0, i, d, hm => by rw [insOuter, if_neg (by omega)]
  | m + 1, i, d, hm => by rw [insOuter, if_pos (by omega), insOuter_size lt a b m (i + 1) _ (by omega), insInner_size]
theorem insertionSort_size [Inhabited α] (lt : α → α → Bool) (d : Array α) (a b : Nat) : (insertionSort lt d a b).size = d.size := insOuter_size lt a b _ _ d rfl

/-- An own slice, sorted in place. -/
theorem sort_own [Inhabited α] [Enc α] [FlatE α] {f : FuncId} {FV : Value} {S : Array α → Array α} (hS : ∀ d, (S d).size = d.size) {e : TypeId} {xs : List α} {v0 : Value} {k0 : K}
    (hnone : ∀ p cap w, Calls P f #[.slice p 0 cap, FV] w fun e w' => e = .returned (.tuple #[]) ∧ w' = w)
    (hc : ∀ blk off cap (w : World), HoldsK FlatE.enc (Enc.sz α) w blk off xs.toArray → blk < w.heap.size →
      Calls P f #[.slice (some ⟨blk, off, none⟩) xs.toArray.size cap, FV] w fun e w' => e = .returned (.tuple #[]) ∧ ∃ n os, w' = sortWorldK FlatE.enc (Enc.sz α) w blk off n (S xs.toArray) os)
    (i0 : IsOwn 0 e xs v0 k0) : Calls P f #[v0, FV] k0.w (RetC (obF v0) k0 fun _ k' => IsOwn 0 e (S xs.toArray).toList v0 k') := by
  have hS0 : xs = [] → (S xs.toArray).toList = [] := fun h => by
    have := hS xs.toArray
    rw [h] at this ⊢
    simpa using this
  have hz : ∀ p cap, v0 = .slice p 0 cap → xs = [] → Calls P f #[v0, FV] k0.w (RetC (obF v0) k0 fun _ k' => IsOwn 0 e (S xs.toArray).toList v0 k') := by
    intro p cap hv hx
    subst hv
    refine (hnone p cap k0.w).mono ?_
    rintro e' w' ⟨rfl, rfl⟩
    refine ⟨k0, rfl, Chg.refl _ k0, ?_⟩
    rw [hS0 hx]
    rw [hx] at i0
    exact i0
  rcases i0 with ⟨hv, hx⟩ | ⟨a, hv, hx⟩ | ⟨b, off, cap, cur, cs, rfl, hB, ho, hh, hc1, hc0, hcm, hfit, hcs, hrep⟩
  · exact hz _ _ hv hx
  · exact hz _ _ hv hx
  · have hlt : b < k0.w.heap.size := (Array.getElem?_eq_some_iff.1 hh).1
    have hn := flat_len (α := α) k0
    have hroom : off + xs.length * Enc.sz α ≤ cur.size := Nat.le_trans (Nat.add_le_add_left (Nat.mul_le_mul_right _ hc1) _) hfit
    have hcl : cs = (flatK FlatE.enc (Enc.sz α) xs.toArray).toList := by rw [flatK_toList hn]; exact repL_flat.1 hrep
    have hH : HoldsK FlatE.enc (Enc.sz α) k0.w b off xs.toArray := by
      intro j hj
      rw [size_flatK] at hj
      simp only [List.size_toArray] at hj
      refine ⟨?_, by simp [World.frozen?, hh]⟩
      have h1 : cs[j]? = cur[off + j]? := by rw [← hcs, List.getElem?_take, if_pos hj, List.getElem?_drop, Array.getElem?_toList]
      rw [hcl, Array.getElem?_toList] at h1
      simp only [World.cell?, hh, ← h1]
      rw [getElem!_pos _ j (by simpa using hj), Array.getElem?_eq_getElem (by simpa using hj)]
      rfl
    have hcall := hc b off cap k0.w hH hlt
    rw [show xs.toArray.size = xs.length from List.size_toArray] at hcall
    refine hcall.mono ?_
    rintro e' w' ⟨rfl, n, os, hw⟩
    have hsz : k0.w.heap.size ≤ w'.heap.size := by rw [hw]; unfold sortWorldK putRowK; simp
    have hblk : ∀ x, x < k0.w.heap.size → x ≠ b → w'.heap[x]? = k0.w.heap[x]? := by
      intro x hx hxb
      rw [hw]
      unfold sortWorldK putRowK putRow mapBlock
      rw [heap_grow_old _ _ (by simpa using hx)]
      simp [Array.getElem?_modify, hxb.symm]
    have hrow : w'.heap[b]? = some (.cells (putCells id off (flatK FlatE.enc (Enc.sz α) (S xs.toArray)) cur) e (0, 0)) := by
      rw [hw]
      unfold sortWorldK putRowK putRow mapBlock
      rw [heap_grow_old _ _ (by simpa using hlt)]
      simp [Array.getElem?_modify, hh, onCells]
    have hSl : (S xs.toArray).toList.length = xs.length := by simp [hS]
    let k' : K := ⟨w', k0.sh, fun x hx => Nat.lt_of_lt_of_le (k0.lt x hx) hsz⟩
    refine ⟨k', rfl, ⟨by rw [show k'.w = w' from rfl, hw]; rfl, by rw [show k'.w = w' from rfl, hw]; rfl, by rw [show k'.w = w' from rfl, hw]; rfl, hsz, fun x hx hF => hblk x hx fun e' => hF (by simp [obF, ob, e', Nat.ne_of_gt hc0]), fun _ h => h, fun _ _ h => .inl h, by rw [show k'.w = w' from rfl, hw]; exact Nat.le_add_right _ _⟩,
      .inr (.inr ⟨b, off, cap, _, _, by rw [hSl], hB, ho, hrow, by rw [hSl]; exact hc1, hc0, hcm, by simpa [putCells] using hfit, rfl, ?_⟩)⟩
    rw [repL_flat, ← flatK_toList hn, hSl]
    have hsz2 : (flatK FlatE.enc (Enc.sz α) (S xs.toArray)).size = xs.length * Enc.sz α := by rw [size_flatK, hS]; simp
    rw [← hsz2]
    exact putCells_toList off _ cur (by rw [hsz2]; exact hroom)

/-- A box that nothing is written to any more: shared from the start. -/
theorem ok_boxR {k : K} {a : Act} {o : Oper} [Enc α] {t : TypeId} {y : Operand} {x : α} (ho : o.op = .box t y) (h : IsV x (a.eval y) k) : Does P o a k (IsRef x) := by
  obtain ⟨cs, hc, hr⟩ := isV_cells h
  have hg := K.alloc_grow k (.cells cs t)
  have hb : Box k.w.heap.size x (k.alloc (.cells cs t)) := box_new hr
  refine does_run (v := .pointer (some ⟨k.w.heap.size, 0, none⟩)) (k' := (k.alloc (.cells cs t)).share k.w.heap.size hb.lt) ?_
    ⟨hg.tape, hg.os, hg.out, hg.size, hg.blk, fun b hs => (K.share_le _ _ hb.lt).up b (hg.up b hs), fun b hlt hs => hs.elim (hg.new b hlt) (fun e => absurd e (by omega)), hg.drawn⟩ hb.share
  simp only [execOp, ho]
  simp [Instr.box, newVar, newRow, newObj, hc, K.alloc, K.share]
  rfl

theorem evalT (a : Act) (t : Nat) : a.eval (.tmp t) = a.get t := rfl
/-- The bits that both numbers have. -/
def andI (n m : Int) : Int := IntKind.i64.wrap ((BitVec.ofInt 64 n &&& BitVec.ofInt 64 m).toNat : Int)
theorem ok_and {k : K} {a : Act} {o : Oper} {t u : TypeId} {x y : Operand} {n m : Int} (ho : o.op = .binOp .and t x y u) (hx : IsV n (a.eval x) k) (hy : IsV m (a.eval y) k) : Does P o a k (IsV (andI n m)) := by
  have hx := isV_int.1 hx; have hy := isV_int.1 hy
  refine does_pure (v := .int .i64 (andI n m)) ?_ (isV_int.2 rfl)
  simp only [execOp, ho, hx, hy]
  simp [eqGuard, binOp, Op.intBits, andI]
  rfl
theorem andI_mask (n : Int) : andI n 4611686018427387903 = n % 4611686018427387904 := by
  unfold andI
  have h : (BitVec.ofInt 64 n &&& BitVec.ofInt 64 4611686018427387903).toNat = (n % 4611686018427387904).toNat := by
    rw [BitVec.toNat_and, BitVec.toNat_ofInt, BitVec.toNat_ofInt]
    have e : ((4611686018427387903 : Int) % ((2 ^ 64 : Nat) : Int)).toNat = 2 ^ 62 - 1 := by decide
    rw [e, Nat.and_two_pow_sub_one_eq_mod]
    omega
  rw [h, IntKind.wrap_i64]
  omega
end Go.Gb

/- General part of the proofs: regions in which moves stand behind operations that write: they may run first. -/
namespace Go.Gb

/-- Only the way out at the end. -/
def QN (Q : Exit → Act → World → Prop) : Exit → Act → World → Prop := fun e a w => match e with
  | .normal => Q .normal a w
  | _ => False

def isMv (A : Array Oper) (l : Nat) : Bool := match A[l]? with
  | some o => (match o.op with | .move (.tmp _) => true | .assign (.tmp _) => true | _ => false) && o.guard.isNone && o.after.isEmpty && o.dst.isSome
  | none => false
/-- Where a move goes, and where it comes from. -/
def mvOf (A : Array Oper) (l : Nat) : Nat × Nat := match A[l]? with
  | some o => (o.dst.getD 0, match o.op with | .move (.tmp s) => s | .assign (.tmp s) => s | _ => 0)
  | none => (0, 0)
def lateAct (A : Array Oper) : List Nat → Act → Act
  | [], a => a
  | l :: r, a => lateAct A r (a.put (some (mvOf A l).1) (a.get (mvOf A l).2))
def listL : Array Bool → List Nat → Array Bool
  | b, [] => b
  | b, l :: r => listL (b.setIfInBounds l true) r
def chkLate (A : Array Oper) : Array Bool → List Nat → Bool
  | _, [] => true
  | b, l :: r => isMv A l && Region.free .any A b l && (Region.ready .any A b).contains l && chkLate A (b.setIfInBounds l true) r
/-- An operation that looks at no world. -/
def isPure (A : Array Oper) (l : Nat) : Bool := match A[l]? with
  | some o => (match o.op with | .move (.tmp _) => true | .assign (.tmp _) => true | .extract (.tmp _) _ => true | _ => false) && o.guard.isNone
  | none => false
def chkT (A : Array Oper) : Array Bool → List Nat → Bool
  | b, [] => Region.ready .any A b == []
  | b, i :: r => (Region.ready .any A b == [i] || (isPure A i && Region.free .any A b i && (Region.ready .any A b).contains i)) && chkT A (b.setIfInBounds i true) r
def fullL (A : Array Oper) (m : Nat) (late : List Nat) : Array Bool := (Array.range A.size).map fun j => decide (j < m) || late.contains j

def chkL (n m : Nat) (late ord : List Nat) (A : Array Oper) (es : List Ent) : Bool :=
  chkS n m A.toList es && Region.noSelect A && chkLate A (Array.replicate A.size false) late && late.all (fun l => decide (m ≤ l) && decide (l < A.size)) &&
  allI (fun j _ => decide (j < m) || late.contains j || (List.range m).all fun i => hasBit (masks A.toList []) j i) 0 A.toList &&
  chkT A (fullL A m late) ord && ((fullL A m late).toList.filter (· = false)).length == ord.length && decide late.Nodup &&
  late.all (fun l => late.all fun l' => (mvOf A l).2 != (mvOf A l').1 && (l == l' || (mvOf A l).1 != (mvOf A l').1)) && late.all fun l => decide ((mvOf A l).1 < n)

section
variable {P : Program} {A : Array Oper} {Q : Exit → Act → World → Prop}
theorem isMv_spec {l : Nat} (h : isMv A l = true) : ∃ o, A[l]? = some o ∧ o.guard = none ∧ o.after = #[] ∧ o.dst = some (mvOf A l).1 ∧ ∀ a : Act, ∀ w, (execOp a.eval o).run P w = .ok (.value (a.get (mvOf A l).2)) w := by
  unfold isMv at h
  cases hA : A[l]? with
  | none => rw [hA] at h; simp at h
  | some o =>
    rw [hA] at h
    simp only [Bool.and_eq_true, Option.isNone_iff_eq_none, Array.isEmpty_iff] at h
    obtain ⟨⟨⟨h1, h2⟩, h3⟩, h4⟩ := h
    obtain ⟨d, hd⟩ := Option.isSome_iff_exists.1 h4
    refine ⟨o, rfl, h2, h3, by simp [mvOf, hA, hd], fun a w => ?_⟩
    cases hop : o.op with
    | move x =>
      cases x with
      | tmp s => simp [execOp, hop, mvOf, hA, Act.eval, Act.get]
      | _ => rw [hop] at h1; simp at h1
    | assign x =>
      cases x with
      | tmp s => simp [execOp, hop, mvOf, hA, Act.eval, Act.get]
      | _ => rw [hop] at h1; simp at h1
    | _ => rw [hop] at h1; simp at h1

theorem take_late (hs : Region.noSelect A = true) (hQ : ∀ c a w, ¬ Q (.panic c) a w) : ∀ (late : List Nat) (listed : Array Bool) (a : Act) (w : World) (fuel : Nat), chkLate A listed late = true →
    wpAny P .any A Q fuel (listL listed late) (lateAct A late a) w → wpAny P .any A Q (fuel + late.length) listed a w
  | [], _, _, _, _, _, h => h
  | l :: r, listed, a, w, fuel, hc, h => by
    simp only [chkLate, Bool.and_eq_true] at hc
    obtain ⟨⟨⟨h1, h2⟩, h3⟩, h4⟩ := hc
    obtain ⟨o, ho, hg, _, hd, hv⟩ := isMv_spec (P := P) h1
    have ih := take_late hs hQ r (listed.setIfInBounds l true) (a.put (some (mvOf A l).1) (a.get (mvOf A l).2)) w fuel h4 h
    rw [← hd] at ih
    exact wpAny_take ho hs h2 h3 (fun c a w hq => absurd hq (hQ c _ w)) (.inl ⟨by unfold Region.wanted; rw [hg], hv a⟩) ih

theorem isPure_spec {l : Nat} (h : isPure A l = true) : ∃ o, A[l]? = some o ∧ o.guard = none ∧ ∀ a : Act, (∃ v, ∀ w, (execOp a.eval o).run P w = .ok (.value v) w) ∨ (∀ w, ∃ x w', (execOp a.eval o).run P w = .halt x w' ∧ ∀ c, x ≠ .panic c) := by
  unfold isPure at h
  cases hA : A[l]? with
  | none => rw [hA] at h; simp at h
  | some o =>
    rw [hA] at h
    simp only [Bool.and_eq_true, Option.isNone_iff_eq_none] at h
    obtain ⟨h1, h2⟩ := h
    refine ⟨o, rfl, h2, fun a => ?_⟩
    cases hop : o.op with
    | move x => exact .inl ⟨a.eval x, fun w => by simp [execOp, hop]⟩
    | assign x => exact .inl ⟨a.eval x, fun w => by simp [execOp, hop]⟩
    | extract x ix =>
      cases hv : a.eval x with
      | tuple vs =>
        cases hx : vs[ix]? with
        | some y => exact .inl ⟨y, fun w => by simp [execOp, hop, hv, Instr.extract, hx]⟩
        | none => exact .inr fun w => by simp [execOp, hop, hv, Instr.extract, hx]
      | _ => exact .inr fun w => by simp [execOp, hop, hv, Instr.extract]
    | _ => rw [hop] at h1; simp at h1

theorem tail_ord (hs : Region.noSelect A = true) (hQ : ∀ c a w, ¬ Q (.panic c) a w) (hO : ∀ a w, ¬ Q .outgrown a w) : ∀ (ord : List Nat) (listed : Array Bool) (a : Act) (w : World), chkT A listed ord = true → wpOps P A Q ord a w → wpAny P .any A Q ord.length listed a w
  | [], listed, a, w, hc, h => by
    simp only [chkT, beq_iff_eq] at hc
    exact ⟨hc, by simpa [wpOps] using h⟩
  | i :: r, listed, a, w, hc, h => by
    simp only [chkT, Bool.and_eq_true, Bool.or_eq_true, beq_iff_eq] at hc
    obtain ⟨hc | hc, hr⟩ := hc
    · refine ⟨fun hn => (by rw [hc] at hn; simp at hn), fun j hj => ?_⟩
      rw [hc, List.mem_singleton] at hj
      subst hj
      rw [wpOps_cons] at h
      exact wpOp_mono (fun a' w' h' => tail_ord hs hQ hO r _ a' w' hr h') h
    · obtain ⟨⟨h1, h2⟩, h3⟩ := hc
      obtain ⟨o, ho, hg, hp⟩ := isPure_spec (P := P) h1
      have hw : ∀ a : Act, Region.wanted o (yielded A a.tmps) = true := fun a => by unfold Region.wanted; rw [hg]
      rw [wpOps_cons] at h
      unfold wpOp at h
      rw [ho] at h
      simp only [hw, if_true] at h
      have h := h.resolve_right fun hx => by obtain ⟨_, b, w', hb⟩ := hx; exact hO b w' hb
      unfold Oper.wp at h
      rcases hp a with ⟨v, hv⟩ | hx
      · rw [hv w] at h
        exact wpAny_take ho hs h2 h3 (fun c a w hq => absurd hq (hQ c _ w)) (.inl ⟨hw a, hv⟩) (tail_ord hs hQ hO r _ _ w hr h)
      · obtain ⟨x, w', hr', hnp⟩ := hx w
        rw [hr'] at h
        cases x <;> simp only [Oper.upon] at h
        · exact absurd rfl (hnp _)
theorem lateAct_size : ∀ (late : List Nat) (a : Act), (lateAct A late a).tmps.size = a.tmps.size
  | [], _ => rfl
  | l :: r, a => by rw [lateAct, lateAct_size r, put_size]
theorem lateAct_defers : ∀ (late : List Nat) (a : Act), (lateAct A late a).defers = a.defers
  | [], _ => rfl
  | l :: r, a => by rw [lateAct, lateAct_defers r, put_defers']
theorem lateAct_old {t n : Nat} : ∀ (late : List Nat) (a : Act), a.tmps.size = n → (∀ l ∈ late, (mvOf A l).1 < n) → (∀ l ∈ late, (mvOf A l).1 ≠ t) → (lateAct A late a).get t = a.get t
  | [], _, _, _, _ => rfl
  | l :: r, a, hn, h1, h2 => by
    rw [lateAct, lateAct_old (n := n) r _ (by rw [put_size]; exact hn) (fun l' hl => h1 l' (List.mem_cons_of_mem _ hl)) (fun l' hl => h2 l' (List.mem_cons_of_mem _ hl)), get_put _ _ _ _ (by rw [hn]; exact h1 l List.mem_cons_self), if_neg (h2 l List.mem_cons_self)]
theorem lateAct_new {n : Nat} : ∀ (late : List Nat) (a : Act), a.tmps.size = n → (∀ l ∈ late, (mvOf A l).1 < n) → late.Nodup →
    (∀ l ∈ late, ∀ l' ∈ late, (mvOf A l).2 ≠ (mvOf A l').1 ∧ (l = l' ∨ (mvOf A l).1 ≠ (mvOf A l').1)) → ∀ l ∈ late, (lateAct A late a).get (mvOf A l).1 = a.get (mvOf A l).2
  | [], _, _, _, _, _, l, hl => nomatch hl
  | x :: r, a, hn, h1, hnd, h2, l, hl => by
    obtain ⟨hx, hnd'⟩ := List.nodup_cons.1 hnd
    have hxn := h1 x List.mem_cons_self
    rw [lateAct]
    rcases List.mem_cons.1 hl with rfl | hlr
    · rw [lateAct_old (n := n) r _ (by rw [put_size]; exact hn) (fun l' hl => h1 l' (List.mem_cons_of_mem _ hl)) (fun l' hl' => ?_), get_put _ _ _ _ (by rw [hn]; exact hxn), if_pos rfl]
      rcases (h2 l List.mem_cons_self l' (List.mem_cons_of_mem _ hl')).2 with e | e
      · subst e; exact absurd hl' hx
      · exact fun e' => e e'.symm
    · rw [lateAct_new (n := n) r _ (by rw [put_size]; exact hn) (fun l' hl => h1 l' (List.mem_cons_of_mem _ hl)) hnd' (fun l1 hl1 l2 hl2 => h2 l1 (List.mem_cons_of_mem _ hl1) l2 (List.mem_cons_of_mem _ hl2)) l hlr,
        get_put _ _ _ _ (by rw [hn]; exact hxn), if_neg fun e => (h2 l hl x List.mem_cons_self).1 e.symm]
theorem listL_size : ∀ (late : List Nat) (b : Array Bool), (listL b late).size = b.size
  | [], _ => rfl
  | l :: r, b => by rw [listL, listL_size r]; simp
theorem listL_get : ∀ (late : List Nat) (b : Array Bool) (j : Nat), (∀ l ∈ late, l < b.size) → ((listL b late).getD j false = true ↔ b.getD j false = true ∨ j ∈ late)
  | [], b, j, _ => by simp [listL]
  | l :: r, b, j, h => by
    rw [listL, listL_get r _ j (fun x hx => by simpa using h x (List.mem_cons_of_mem _ hx))]
    have hl := h l List.mem_cons_self
    by_cases e : j = l
    · subst e; simp [Array.getD_eq_getD_getElem?, hl]
    · rw [getD_set_ne _ (fun e' => e e'.symm)]; simp [e]
end

section
variable {P : Program} {a0 : Act} {k0 : K} {es : List Ent}
theorem known_base {a0' a : Act} {k : K} : ∀ (need : List (Nat × Option Nat)), (∀ t, (t, none) ∈ need → a0'.get t = a0.get t) → Known es a0' a k need → Known es a0 a k need
  | [], _, _ => trivial
  | (t, some j) :: xs, h, hk => ⟨hk.1, known_base xs (fun t ht => h t (List.mem_cons_of_mem _ ht)) hk.2⟩
  | (t, none) :: xs, h, hk => ⟨hk.1.trans (h t List.mem_cons_self), known_base xs (fun t ht => h t (List.mem_cons_of_mem _ ht)) hk.2⟩
theorem ob_base {a0' : Act} {o : Oper} {e : Ent} (h : ∀ t, (t, none) ∈ e.need → a0'.get t = a0.get t) (ho : Ob P es a0 k0 o e) : Ob P es a0' k0 o e := by
  unfold Ob at *
  cases hR : e.R with
  | none => rw [hR] at ho; exact ho
  | some R =>
    rw [hR] at ho
    refine ⟨ho.1, ho.2.imp (fun g => ⟨fun a k hg hk => g.1 a k hg (known_base _ h hk), g.2⟩) ?_⟩
    rintro ⟨j, w, Rj, nd, h1, h2, h3, h4⟩
    exact ⟨j, w, Rj, nd, h1, h2, fun a k v hg hk => h3 a k v hg (known_base _ h hk), h4⟩
theorem steps_base {a0' : Act} : ∀ {os : List Oper} {es' : List Ent}, (∀ i o e, nth os i = some o → nth es' i = some e → ∀ t, (t, none) ∈ e.need → a0'.get t = a0.get t) → Steps P es a0 k0 os es' → Steps P es a0' k0 os es'
  | [], _, _, _ => trivial
  | _ :: _, [], _, _ => trivial
  | o :: os, e :: es', h, hs => ⟨ob_base (h 0 o e rfl rfl) hs.1, steps_base (fun i o e ho he => h (i + 1) o e ho he) hs.2⟩

theorem any_late {A : Array Oper} {n m : Nat} {late ord : List Nat} {Q : Exit → Act → World → Prop} (hn : a0.tmps.size = n) (hchk : chkL n m late ord A es = true)
    (hst : Steps P es a0 k0 (A.toList.take m) es) (hQ : LetsOut Q) (hQp : ∀ c a w, ¬ Q (.panic c) a w) (hQo : ∀ a w, ¬ Q .outgrown a w)
    (hpost : ∀ a k, Inv A.toList es a0 k0 (· < m) a k → wpOps P A Q ord a k.w) :
    ∀ (fuel : Nat) (listed : Array Bool) (a : Act) (k : K), listed.size = A.size → fuel = (listed.toList.filter (· = false)).length →
      (∀ l ∈ late, listed.getD l false = true) → (∀ j, listed.getD j false = true → j < m ∨ j ∈ late) → Inv A.toList es a0 k0 (fun j => listed.getD j false = true ∧ j < m) a k → wpAny P .any A Q fuel listed a k.w := by
  have hchk' := hchk
  simp only [chkL, Bool.and_eq_true, beq_iff_eq, decide_eq_true_eq] at hchk'
  obtain ⟨⟨⟨⟨⟨⟨⟨⟨⟨hS, hnos⟩, hlate⟩, hlm⟩, htail⟩, hT⟩, hcnt⟩, hnd⟩, hsrc⟩, hdst⟩ := hchk'
  have hS' := hS
  simp only [chkS, Bool.and_eq_true, beq_iff_eq, decide_eq_true_eq] at hS'
  obtain ⟨⟨⟨⟨hlen, hml⟩, h2⟩, hedge⟩, hdist⟩ := hS'
  have hmA : m ≤ A.size := by simpa using hml
  have hlm' : ∀ l ∈ late, m ≤ l ∧ l < A.size := fun l hl => by
    have := List.all_eq_true.1 hlm l hl
    simpa using this
  have hmv : ∀ l ∈ late, ∃ o, A[l]? = some o ∧ o.after = #[] := by
    have : ∀ (r : List Nat) (b : Array Bool), chkLate A b r = true → ∀ l ∈ r, isMv A l = true := by
      intro r
      induction r with
      | nil => intro b _ l hl; simp at hl
      | cons x r ih =>
        intro b hb l hl
        simp only [chkLate, Bool.and_eq_true] at hb
        rcases List.mem_cons.1 hl with rfl | hl
        · exact hb.1.1.1
        · exact ih _ hb.2 l hl
    intro l hl
    obtain ⟨o, ho, _, ha, _⟩ := isMv_spec (P := P) (this late _ hlate l hl)
    exact ⟨o, ho, ha⟩
  intro fuel
  induction fuel with
  | zero =>
    intro listed a k hls hf hL hDm hinv
    have hall : ∀ j, j < A.size → listed.getD j false = true := by
      intro j hj
      have hz := List.eq_nil_of_length_eq_zero hf.symm
      have : listed[j]'(by omega) ∉ listed.toList.filter (· = false) := by rw [hz]; simp
      simp only [List.mem_filter, Array.mem_toList_iff, Array.getElem_mem, true_and, decide_eq_true_eq, Bool.not_eq_false] at this
      simp [Array.getD_eq_getD_getElem?, Array.getElem?_eq_getElem (show j < listed.size by omega), this]
    have hfl : listed = fullL A m late := by
      refine Array.ext (by simp [fullL, hls]) fun j h1 h2 => ?_
      have h3 := hall j (by omega)
      have h4 := hDm j h3
      have h5 : listed[j] = true := by simpa [Array.getD_eq_getD_getElem?, Array.getElem?_eq_getElem h1] using h3
      rw [h5]
      simp only [fullL, Array.getElem_map, Array.getElem_range]
      simpa using h4
    have hinv' : Inv A.toList es a0 k0 (· < m) a k := by
      have he : (fun j => listed.getD j false = true ∧ j < m) = (· < m) := funext fun j => propext ⟨fun h => h.2, fun h => ⟨hall j (by omega), h⟩⟩
      rw [he] at hinv; exact hinv
    have h0 : ord.length = 0 := by rw [← hcnt, ← hfl]; exact hf.symm
    have := tail_ord hnos hQp hQo ord listed a k.w (by rw [hfl]; exact hT) (hpost a k hinv')
    rw [h0] at this
    exact this
  | succ fuel ih =>
    intro listed a k hls hf hL hDm hinv
    by_cases hfull : ∀ j, j < m → listed.getD j false = true
    · have hfl : listed = fullL A m late := by
        refine Array.ext (by simp [fullL, hls]) fun j h1 h2 => ?_
        have hg : listed.getD j false = listed[j] := by simp [Array.getD_eq_getD_getElem?, Array.getElem?_eq_getElem h1]
        have e : (fullL A m late)[j] = (decide (j < m) || late.contains j) := by simp [fullL]
        rw [e, ← hg, Bool.eq_iff_iff]
        simp only [Bool.or_eq_true, decide_eq_true_eq, List.contains_iff_mem]
        exact ⟨hDm j, fun h => h.elim (hfull j) (hL j)⟩
      have hinv' : Inv A.toList es a0 k0 (· < m) a k := by
        have he : (fun j => listed.getD j false = true ∧ j < m) = (· < m) := funext fun j => propext ⟨fun h => h.2, fun h => ⟨hfull j h, h⟩⟩
        rw [he] at hinv; exact hinv
      have h0 : ord.length = fuel + 1 := by rw [← hcnt, ← hfl]; exact hf.symm
      have := tail_ord hnos hQp hQo ord listed a k.w (by rw [hfl]; exact hT) (hpost a k hinv')
      rw [h0] at this
      exact this
    · have hex : ∃ j, j < m ∧ listed.getD j false = false ∧ ∀ i, i < j → listed.getD i false = true := by
        obtain ⟨j, hj⟩ := Classical.not_forall.1 hfull
        have hj : j < m ∧ listed.getD j false = false := by
          by_cases h : j < m
          · exact ⟨h, by cases hb : listed.getD j false with | false => rfl | true => exact absurd (fun _ => hb) hj⟩
          · exact absurd (fun h' => absurd h' h) hj
        clear hfull
        induction j using Nat.strongRecOn with
        | _ j ihj =>
          by_cases hall : ∀ i, i < j → listed.getD i false = true
          · exact ⟨j, hj.1, hj.2, hall⟩
          · obtain ⟨i, hi⟩ := Classical.not_forall.1 hall
            obtain ⟨hij, hib⟩ : i < j ∧ ¬ listed.getD i false = true := ⟨Classical.byContradiction fun h => hi fun h' => absurd h' h, fun h => hi fun _ => h⟩
            exact ihj i hij (fun h => absurd (h (by omega)) hib) ⟨by omega, by simpa using hib⟩
      have hT2 : ∀ j, j < A.size → listed.getD j true = listed.getD j false := by
        intro j hj; simp [Array.getD_eq_getD_getElem?, Array.getElem?_eq_getElem (show j < listed.size by omega)]
      have hbind : ∀ j, j < A.size → ((A[j]?).map (·.after.all fun e => !Region.binds .any e || listed.getD e.on false)).getD false = true →
          ∀ o, nth A.toList j = some o → ∀ e ∈ binding o, listed.getD e false = true := by
        intro j hjA hj2 o ho e he
        have hA : A[j]? = some o := by rw [← nth_toList]; exact ho
        rw [hA] at hj2
        simp only [Option.map_some, Option.getD_some, Array.all_eq_true_iff_forall_mem] at hj2
        simp only [binding, List.mem_map, List.mem_filter, Array.mem_toList_iff] at he
        obtain ⟨y, ⟨hy, hyb⟩, rfl⟩ := he
        have := hj2 y hy
        simpa only [hyb, Bool.not_true, Bool.false_or] using this
      have hclosed : ∀ x o', nth A.toList x = some o' → listed.getD x false = true → ∀ e ∈ binding o', listed.getD e false = true := by
        intro x o' ho' hx e he
        rcases hDm x hx with h | h
        · exact (hinv.closed x o' ho' ⟨hx, h⟩ e he).1
        · obtain ⟨o2, h1, h2⟩ := hmv x h
          rw [nth_toList, h1, Option.some.injEq] at ho'
          subst ho'
          simp [binding, h2] at he
      refine ⟨fun hnil => ?_, fun i hi => ?_⟩
      · exfalso
        obtain ⟨j, hjm, hjb, hlow⟩ := hex
        have hjr : j ∈ Region.ready .any A listed := by
          simp only [Region.ready, List.mem_filter, List.mem_range, Bool.and_eq_true, Bool.not_eq_true']
          refine ⟨by omega, by rw [hT2 j (by omega)]; exact hjb, ?_⟩
          have hA : A[j]? = some A[j] := by simp [show j < A.size by omega]
          rw [hA]
          simp only [Option.map_some, Option.getD_some, Array.all_eq_true_iff_forall_mem]
          intro y hy
          cases hyb : Region.binds .any y with
          | false => rfl
          | true =>
            simp only [Bool.not_true, Bool.false_or]
            have ho : nth A.toList j = some A[j] := by rw [nth_toList]; exact hA
            have := allI_spec hedge j _ ho
            simp only [Nat.zero_add, List.all_eq_true, decide_eq_true_eq] at this
            exact hlow _ (this y.on (by simp only [binding, List.mem_map, List.mem_filter, Array.mem_toList_iff]; exact ⟨y, ⟨hy, hyb⟩, rfl⟩))
        rw [hnil] at hjr; simp at hjr
      · simp only [Region.ready, List.mem_filter, List.mem_range, Bool.and_eq_true, Bool.not_eq_true'] at hi
        obtain ⟨hiA, hi1, hi2⟩ := hi
        rw [hT2 i hiA] at hi1
        have ho : nth A.toList i = some A[i] := by rw [nth_toList]; simp [hiA]
        have hb := hbind i hiA hi2 _ ho
        have him : i < m := by
          rcases Nat.lt_or_ge i m with h | h
          · exact h
          · exfalso
            have hnl : i ∉ late := fun hl => by rw [hL i hl] at hi1; simp at hi1
            have hc := allI_spec htail i _ ho
            simp only [Nat.zero_add, Bool.or_eq_true, decide_eq_true_eq, List.contains_iff_mem] at hc
            have hc := (hc.resolve_left (fun h' => h'.elim (fun h'' => by omega) hnl))
            obtain ⟨j, hjm, hjb, hlow⟩ := hex
            have hbit := List.all_eq_true.1 hc j (by simp; omega)
            have := hasBit_spec (L := A.toList) (D := fun x => listed.getD x false = true) hclosed (j := i) (i := j)
              (fun o' ho' => hbind i hiA hi2 o' ho') hbit
            rw [this] at hjb; simp at hjb
        have hbm : ∀ e ∈ binding A[i], e < i := by
          have := allI_spec hedge i _ ho
          simp only [Nat.zero_add, List.all_eq_true, decide_eq_true_eq] at this
          exact this
        refine step_op hn hS hst hinv (fun j h => h.2) ho him (fun j hj => ⟨hb j hj, by have := hbm j hj; omega⟩) (fun h => by rw [h.1] at hi1; simp at hi1) hQ fun a' k' hinv' => ?_
        refine ih _ a' k' (by simp [hls]) ?_ (fun l hl => getD_set_true (hL l hl)) (fun j hj => ?_) ?_
        · have hil : i < listed.size := by omega
          have h0 : listed[i] = false := by simpa [Array.getD_eq_getD_getElem?, Array.getElem?_eq_getElem hil] using hi1
          have hsplit : listed.toList = listed.toList.take i ++ false :: listed.toList.drop (i + 1) := by
            have h1 := List.take_append_drop i listed.toList
            have h2 : listed.toList.drop i = listed.toList[i]'(by simpa using hil) :: listed.toList.drop (i + 1) := List.drop_eq_getElem_cons (by simpa using hil)
            rw [Array.getElem_toList, h0] at h2
            exact (h1.symm.trans (by rw [h2]))
          have hset : (listed.setIfInBounds i true).toList = listed.toList.take i ++ true :: listed.toList.drop (i + 1) := by
            rw [Array.toList_setIfInBounds, List.set_eq_take_append_cons_drop, if_pos (by simpa using hil)]
          rw [hset, List.filter_append, List.length_append]
          rw [hsplit, List.filter_append, List.length_append] at hf
          simp only [List.filter_cons] at hf ⊢
          simp at hf ⊢
          omega
        · by_cases hji : j = i
          · exact .inl (by omega)
          · rw [getD_set_ne _ (fun e => hji e.symm)] at hj; exact hDm j hj
        · have he : (fun j => (listed.setIfInBounds i true).getD j false = true ∧ j < m) = (fun j => (listed.getD j false = true ∧ j < m) ∨ j = i) := by
            funext j
            by_cases hji : j = i
            · subst hji; simp [Array.getD_eq_getD_getElem?, show j < listed.size by omega, him]
            · rw [getD_set_ne _ (fun e => hji e.symm)]; simp [hji]
          rw [he]; exact hinv'

/-- What is known when the operations in any order, and the moves, have run. -/
structure PostL (A : Array Oper) (es : List Ent) (m : Nat) (late : List Nat) (a0 : Act) (k0 : K) (a : Act) (k : K) : Prop where
  grow : Grow k0 k
  size : a.tmps.size = a0.tmps.size
  defers : a.defers = a0.defers
  val : ∀ i d R nd, i < m → (nth A.toList i).bind (·.dst) = some d → nth es i = some ⟨some R, nd⟩ → R (a.get d) k
  old : ∀ t, allI (fun i o => (decide (i ≥ m) && !late.contains i) || o.dst != some t) 0 A.toList = true → a.get t = a0.get t
  moved : ∀ l d s, late.contains l = true → mvOf A l = (d, s) → a.get d = a0.get s

theorem region_late {id : Nat} {A : Array Oper} {n m : Nat} {Q : Exit → Act → World → Prop} (es : List Ent) (late ord : List Nat) (hm : P.follows .mixedOrders = true)
    (hn : a0.tmps.size = n) (hchk : chkL n m late ord A es = true) (hst : Steps P es a0 k0 (A.toList.take m) es) (hQ : LetsOut Q)
    (hpost : ∀ a k, PostL A es m late a0 k0 a k → wpOps P A (QN Q) ord a k.w) : (Code.region id A true).wp P Q a0 k0.w := by
  have hchk' := hchk
  simp only [chkL, Bool.and_eq_true, beq_iff_eq, decide_eq_true_eq] at hchk'
  obtain ⟨⟨⟨⟨⟨⟨⟨⟨⟨hS, hnos⟩, hlate⟩, hlm⟩, htail⟩, hT⟩, hcnt⟩, hnd⟩, hsrc⟩, hdst⟩ := hchk'
  have hS' := hS
  simp only [chkS, Bool.and_eq_true, beq_iff_eq, decide_eq_true_eq] at hS'
  obtain ⟨⟨⟨⟨hlen, hml⟩, h2⟩, hedge⟩, hdist⟩ := hS'
  have hlm' : ∀ l ∈ late, m ≤ l ∧ l < A.size := fun l hl => by
    have := List.all_eq_true.1 hlm l hl
    simpa using this
  have hdst' : ∀ l ∈ late, (mvOf A l).1 < n := fun l hl => by
    have := List.all_eq_true.1 hdst l hl
    simpa using this
  have hsrc' : ∀ l ∈ late, ∀ l' ∈ late, (mvOf A l).2 ≠ (mvOf A l').1 ∧ (l = l' ∨ (mvOf A l).1 ≠ (mvOf A l').1) := fun l hl l' hl' => by
    have := List.all_eq_true.1 (List.all_eq_true.1 hsrc l hl) l' hl'
    simpa using this
  have hmv : ∀ l ∈ late, ∃ o, A[l]? = some o ∧ o.after = #[] ∧ o.dst = some (mvOf A l).1 := by
    have : ∀ (r : List Nat) (b : Array Bool), chkLate A b r = true → ∀ l ∈ r, isMv A l = true := by
      intro r
      induction r with
      | nil => intro b _ l hl; simp at hl
      | cons x r ih =>
        intro b hb l hl
        simp only [chkLate, Bool.and_eq_true] at hb
        rcases List.mem_cons.1 hl with rfl | hl
        · exact hb.1.1.1
        · exact ih _ hb.2 l hl
    intro l hl
    obtain ⟨o, ho, _, ha, hd, _⟩ := isMv_spec (P := P) (this late _ hlate l hl)
    exact ⟨o, ho, ha, hd⟩
  -- what no move writes
  have hbase : ∀ t, (∀ l ∈ late, (mvOf A l).1 ≠ t) → (lateAct A late a0).get t = a0.get t := fun t ht => lateAct_old (n := n) late a0 hn hdst' ht
  have hst' : Steps P es (lateAct A late a0) k0 (A.toList.take m) es := by
    refine steps_base (fun i o e ho he t ht => hbase t fun l hl hd => ?_) hst
    have hi : i < m := by
      have := nth_lt ho
      simp only [List.length_take] at this
      omega
    obtain ⟨e', he', hc⟩ := chk2_spec h2 i o ho
    rw [he, Option.some.injEq] at he'
    subst he'
    simp only [chkOp, Bool.and_eq_true, Nat.zero_add] at hc
    have := List.all_eq_true.1 hc.2 _ ht
    simp only at this
    obtain ⟨ol, hol, hal, hdl⟩ := hmv l hl
    have hnl : nth A.toList l = some ol := by rw [nth_toList]; exact hol
    have h3 := allI_spec this l ol hnl
    simp only [Nat.zero_add, Bool.or_eq_true, bne_iff_ne, beq_iff_eq, hdl] at h3
    rcases h3 with (h3 | h3) | h3
    · exact h3 (by rw [hd])
    · have := (hlm' l hl).1; omega
    · have hf := hasBit_spec (L := A.toList) (D := fun _ => False) (fun _ _ _ hx => hx.elim) (j := l) (i := i) (fun o' ho' e he => by
        rw [hnl, Option.some.injEq] at ho'
        subst ho'
        simp [binding, hal] at he) h3
      exact hf
  have hp : ∀ a k, Inv A.toList es (lateAct A late a0) k0 (· < m) a k → wpOps P A (QN Q) ord a k.w := by
    intro a k hinv
    refine hpost a k ⟨hinv.grow, hinv.size.trans (lateAct_size late a0), hinv.defers.trans (lateAct_defers late a0), ?_, ?_, ?_⟩
    · intro i d R nd him hd he
      cases ho : nth A.toList i with
      | none => rw [ho] at hd; simp at hd
      | some o => rw [ho] at hd; exact hinv.vals i o d _ him ho hd he
    · intro t ht
      rw [hinv.rest t ?_, hbase t ?_]
      · intro l hl hd
        obtain ⟨ol, hol, _, hdl⟩ := hmv l hl
        have := allI_spec ht l ol (by rw [nth_toList]; exact hol)
        simp only [Nat.zero_add, Bool.or_eq_true, Bool.and_eq_true, decide_eq_true_eq, Bool.not_eq_true', bne_iff_ne, ne_eq, hdl] at this
        rcases this with h | h
        · exact absurd (List.contains_iff_mem.2 hl) (by rw [h.2]; simp)
        · exact h (by rw [hd])
      · intro i o hi ho hd
        have := allI_spec ht i o ho
        simp only [Nat.zero_add, Bool.or_eq_true, Bool.and_eq_true, decide_eq_true_eq, bne_iff_ne, ne_eq] at this
        rcases this with h | h
        · omega
        · exact h hd
    · intro l d s hl hds
      have hlm2 := List.contains_iff_mem.1 hl
      obtain ⟨ol, hol, _, hdl⟩ := hmv l hlm2
      have hd : (mvOf A l).1 = d := by rw [hds]
      have hs : (mvOf A l).2 = s := by rw [hds]
      rw [hinv.rest d ?_, ← hd, ← hs, lateAct_new (n := n) late a0 hn hdst' hnd hsrc' l hlm2]
      intro i o hi ho hod
      have := allI_spec (allI_spec hdist i o ho) l ol (by rw [nth_toList]; exact hol)
      simp only [Nat.zero_add, Bool.or_eq_true, beq_iff_eq, bne_iff_ne, ne_eq] at this
      have hml := (hlm' l hlm2).1
      rcases this with (h | h) | h
      · omega
      · rw [hod] at h; simp at h
      · exact h (by rw [hod, hdl, hd])
  refine wp_mono (Q := QN Q) ?_ (fun e a w h => by cases e <;> first | exact h | exact h.elim)
  refine wp_region_any hm ?_
  let k1 : K := ⟨{ k0.w with drawn := k0.w.drawn + 1 }, k0.sh, k0.lt⟩
  have hg : Grow k0 k1 := ⟨rfl, rfl, rfl, Nat.le_refl _, fun _ _ => rfl, fun _ h => h, fun _ _ h => h, Nat.le_succ _⟩
  have hF : ∀ j, ¬ (Array.replicate A.size false).getD j false = true := by
    intro j hj; simp [Array.getD_eq_getD_getElem?, Array.getElem?_replicate] at hj; split at hj <;> simp at hj
  have hLg : ∀ j, (listL (Array.replicate A.size false) late).getD j false = true ↔ j ∈ late := by
    intro j
    rw [listL_get late _ j (fun l hl => by simpa using (hlm' l hl).2)]
    exact ⟨fun h => h.resolve_left (hF j), .inr⟩
  obtain ⟨fuel, hfuel⟩ : ∃ f, f = ((listL (Array.replicate A.size false) late).toList.filter (· = false)).length := ⟨_, rfl⟩
  have hsum : ∀ (r : List Nat) (b : Array Bool), r.Nodup → (∀ l ∈ r, l < b.size ∧ b.getD l false = false) → ((listL b r).toList.filter (· = false)).length + r.length = (b.toList.filter (· = false)).length := by
    intro r
    induction r with
    | nil => intro b _ _; rfl
    | cons l r ih =>
      intro b hn hb
      obtain ⟨hx, hn'⟩ := List.nodup_cons.1 hn
      obtain ⟨hl, hlb⟩ := hb l List.mem_cons_self
      have ih := ih (b.setIfInBounds l true) hn' fun l' hl' => ⟨by simpa using (hb l' (List.mem_cons_of_mem _ hl')).1, by rw [getD_set_ne _ (fun e : l = l' => hx (by rw [e]; exact hl'))]; exact (hb l' (List.mem_cons_of_mem _ hl')).2⟩
      have h0 : b[l] = false := by simpa [Array.getD_eq_getD_getElem?, Array.getElem?_eq_getElem hl] using hlb
      have hsplit : b.toList = b.toList.take l ++ false :: b.toList.drop (l + 1) := by
        have h1 := List.take_append_drop l b.toList
        have h2 : b.toList.drop l = b.toList[l]'(by simpa using hl) :: b.toList.drop (l + 1) := List.drop_eq_getElem_cons (by simpa using hl)
        rw [Array.getElem_toList, h0] at h2
        exact (h1.symm.trans (by rw [h2]))
      have hset : (b.setIfInBounds l true).toList = b.toList.take l ++ true :: b.toList.drop (l + 1) := by
        rw [Array.toList_setIfInBounds, List.set_eq_take_append_cons_drop, if_pos (by simpa using hl)]
      rw [listL]
      rw [hset, List.filter_append, List.length_append] at ih
      rw [hsplit, List.filter_append, List.length_append]
      simp only [List.filter_cons] at ih ⊢
      simp at ih ⊢
      omega
  have hs := hsum late (Array.replicate A.size false) hnd fun l hl => ⟨by simpa using (hlm' l hl).2, by simpa using hF l⟩
  have hsz : A.size = fuel + late.length := by rw [hfuel, hs]; simp
  have hbig := take_late (P := P) (A := A) (Q := QN Q) hnos (fun _ _ _ h => h) late (Array.replicate A.size false) a0 k1.w fuel hlate ?_
  · rw [← hsz] at hbig; exact hbig
  refine any_late (by rw [lateAct_size]; exact hn) hchk hst' trivial (fun _ _ _ h => h) (fun _ _ h => h) hp fuel _ _ k1 (by rw [listL_size]; simp) hfuel (fun l hl => (hLg l).2 hl) (fun j hj => .inr ((hLg j).1 hj)) ?_
  exact ⟨hg, rfl, rfl, fun i o d e hi => absurd ((hLg i).1 hi.1) (fun hl => by have := (hlm' i hl).1; omega), fun _ _ => rfl, fun j o _ hj => absurd ((hLg j).1 hj.1) (fun hl => by have := (hlm' j hl).1; omega),
    fun i hi => absurd ((hLg i).1 hi.1) (fun hl => by have := (hlm' i hl).1; omega)⟩
theorem keepL {R : Pred} {A : Array Oper} {late : List Nat} {m : Nat} {a : Act} {k : K} [Mono R] (p : PostL A es m late a0 k0 a k) (t : Nat) (ht : allI (fun i o => (decide (i ≥ m) && !late.contains i) || o.dst != some t) 0 A.toList = true)
    (h : R (a0.get t) k0) : R (a.get t) k := up h p.grow (p.old t ht)
theorem outL {R : Pred} {A : Array Oper} {late : List Nat} {m : Nat} {a : Act} {k : K} (p : PostL A es m late a0 k0 a k) (i d : Nat) (nd : List (Nat × Option Nat)) (him : Nat.blt i m = true) (hd : (nth A.toList i).bind (·.dst) = some d)
    (he : nth es i = some ⟨some R, nd⟩) : R (a.get d) k := p.val i d R nd (by simpa using him) hd he
end
end Go.Gb

/- General part of the proofs: runs, lists of intervals with what holds on each: the canonical form of a function of one number that is constant between finitely many breaks. -/
namespace Go.Gb
section
variable {V : Type} {e : V}

/-- Intervals (from, to) and what holds there. -/
abbrev Runs (V : Type) := List (Int × Int × V)

/-- What holds at x. -/
def rval (e : V) : Runs V → Int → V
  | [], _ => e
  | (a, b, v) :: t, x => if a ≤ x ∧ x < b then v else rval e t x

/-- Nothing begins before n, and what begins at n is not v. -/
def Nxt (n : Int) (v : V) : Runs V → Prop
  | [] => True
  | (c, _, w) :: _ => n < c ∨ (n = c ∧ v ≠ w)

def Canon (e : V) : Runs V → Prop
  | [] => True
  | (a, b, v) :: t => a < b ∧ v ≠ e ∧ Nxt b v t ∧ Canon e t

theorem canon_ge : ∀ {l : Runs V} {n : Int} {v : V}, Canon e l → Nxt n v l → ∀ x, x < n → rval e l x = e
  | [], _, _, _, _, _, _ => rfl
  | (a, b, w) :: t, n, v, hc, hn, x, hx => by
    obtain ⟨h1, _, h3, h4⟩ := hc
    have hna : n ≤ a := by rcases hn with h | h <;> omega
    simp only [rval]
    rw [if_neg (by omega)]
    exact canon_ge h4 h3 x (by omega)
theorem canon_lt {a b : Int} {v : V} {t : Runs V} (hc : Canon e ((a, b, v) :: t)) {x : Int} (hx : x < a) : rval e ((a, b, v) :: t) x = e := by
  obtain ⟨h1, _, h3, h4⟩ := hc
  simp only [rval]
  rw [if_neg (by omega)]
  exact canon_ge h4 h3 x (by omega)
theorem rval_head {a b : Int} {v : V} {t : Runs V} (h : a < b) : rval e ((a, b, v) :: t) a = v := by
  simp only [rval]; rw [if_pos (by omega)]
theorem rval_nxt {b : Int} {v : V} {t : Runs V} (hc : Canon e t) (hn : Nxt b v t) (hv : v ≠ e) : rval e t b ≠ v := by
  cases t with
  | nil => exact fun h => hv h.symm
  | cons r t =>
    obtain ⟨c, d, w⟩ := r
    rcases hn with h | ⟨rfl, h⟩
    · rw [canon_lt hc h]; exact fun h => hv h.symm
    · rw [rval_head hc.1]; exact fun h' => h h'.symm

/-- The canonical form is given by the function. -/
theorem canon_unique : ∀ {l m : Runs V}, Canon e l → Canon e m → (∀ x, rval e l x = rval e m x) → l = m
  | [], [], _, _, _ => rfl
  | [], (a, b, v) :: t, _, hm, h => by
    have := h a
    rw [rval_head hm.1] at this
    exact absurd this.symm hm.2.1
  | (a, b, v) :: t, [], hl, _, h => by
    have := h a
    rw [rval_head hl.1] at this
    exact absurd this hl.2.1
  | (a, b, v) :: t, (a', b', v') :: t', hl, hm, h => by
    have ha : a = a' := by
      rcases Int.lt_trichotomy a a' with h1 | h1 | h1
      · have := h a
        rw [rval_head hl.1, canon_lt hm h1] at this
        exact absurd this hl.2.1
      · exact h1
      · have := h a'
        rw [rval_head hm.1, canon_lt hl h1] at this
        exact absurd this.symm hm.2.1
    subst ha
    have hv : v = v' := by
      have := h a
      rwa [rval_head hl.1, rval_head hm.1] at this
    subst hv
    obtain ⟨l1, l2, l3, l4⟩ := hl
    obtain ⟨m1, m2, m3, m4⟩ := hm
    have hb : b = b' := by
      rcases Int.lt_trichotomy b b' with h1 | h1 | h1
      · have := h b
        simp only [rval] at this
        rw [if_neg (by omega), if_pos (by omega)] at this
        exact absurd this (rval_nxt l4 l3 l2)
      · exact h1
      · have := h b'
        simp only [rval] at this
        rw [if_neg (show ¬ (a ≤ b' ∧ b' < b') by omega), if_pos (by omega)] at this
        exact absurd this.symm (rval_nxt m4 m3 m2)
    subst hb
    rw [canon_unique l4 m4 fun x => ?_]
    by_cases hx : x < b
    · rw [canon_ge l4 l3 x hx, canon_ge m4 m3 x hx]
    · have := h x
      simp only [rval] at this
      rwa [if_neg (by omega), if_neg (by omega)] at this

/-- All end at n or before. -/
def EndsBy (l : Runs V) (n : Int) : Prop := ∀ r ∈ l, r.2.1 ≤ n
/-- What ends at n is not v. -/
def Lst (l : Runs V) (n : Int) (v : V) : Prop := ∀ r, l.getLast? = some r → r.2.1 < n ∨ (r.2.1 = n ∧ r.2.2 ≠ v)

theorem canon_snoc : ∀ {l : Runs V} {a b : Int} {v : V}, Canon e l → Lst l a v → a < b → v ≠ e → Canon e (l ++ [(a, b, v)])
  | [], a, b, v, _, _, h, hv => ⟨h, hv, trivial, trivial⟩
  | [(c, d, w)], a, b, v, hc, hl, h, hv => by
    refine ⟨hc.1, hc.2.1, ?_, h, hv, trivial, trivial⟩
    rcases hl _ rfl with h | ⟨h1, h2⟩
    · exact .inl h
    · exact .inr ⟨h1, h2⟩
  | (c, d, w) :: (c', d', w') :: t, a, b, v, hc, hl, h, hv =>
    ⟨hc.1, hc.2.1, hc.2.2.1, canon_snoc (l := (c', d', w') :: t) hc.2.2.2 (fun r hr => hl r (by rw [List.getLast?_cons_cons]; exact hr)) h hv⟩
theorem canon_prefix : ∀ {l m : Runs V}, Canon e (l ++ m) → Canon e l
  | [], _, _ => trivial
  | [(c, d, w)], _, h => ⟨h.1, h.2.1, trivial, trivial⟩
  | (c, d, w) :: (c', d', w') :: t, m, h => ⟨h.1, h.2.1, h.2.2.1, canon_prefix (l := (c', d', w') :: t) h.2.2.2⟩
theorem canon_last : ∀ {l : Runs V} {a b : Int} {v : V}, Canon e (l ++ [(a, b, v)]) → a < b ∧ v ≠ e ∧ Lst l a v
  | [], a, b, v, h => ⟨h.1, h.2.1, fun r hr => by simp at hr⟩
  | [(c, d, w)], a, b, v, h => by
    refine ⟨h.2.2.2.1, h.2.2.2.2.1, fun r hr => ?_⟩
    simp at hr; subst hr
    rcases h.2.2.1 with h | ⟨h1, h2⟩
    · exact .inl h
    · exact .inr ⟨h1, h2⟩
  | (c, d, w) :: (c', d', w') :: t, a, b, v, h => by
    obtain ⟨h1, h2, h3⟩ := canon_last (l := (c', d', w') :: t) h.2.2.2
    exact ⟨h1, h2, fun r hr => h3 r (by rw [List.getLast?_cons_cons] at hr; exact hr)⟩
theorem canon_ends : ∀ {l : Runs V} {a b : Int} {v : V}, Canon e (l ++ [(a, b, v)]) → EndsBy l a
  | [], _, _, _, _ => fun r hr => by simp at hr
  | (c, d, w) :: t, a, b, v, h => by
    have h1 := h.2.2.2
    have ih := canon_ends (l := t) h1
    intro r hr
    rcases List.mem_cons.1 hr with rfl | hr
    · have h2 := h.2.2.1
      cases t with
      | nil => rcases h2 with h | h <;> simp_all <;> omega
      | cons r' t =>
        obtain ⟨c', d', w'⟩ := r'
        have h3 := ih (c', d', w') (by simp)
        have h4 := h1.1
        simp only at h3
        have h5 : d ≤ c' := by rcases h2 with h | h <;> omega
        show d ≤ a
        omega
    · exact ih r hr
theorem rval_snoc : ∀ {l : Runs V} {a b : Int} {v : V}, EndsBy l a → ∀ x, rval e (l ++ [(a, b, v)]) x = if a ≤ x ∧ x < b then v else rval e l x
  | [], a, b, v, _, x => rfl
  | (c, d, w) :: t, a, b, v, h, x => by
    have h1 := h (c, d, w) (by simp)
    simp only at h1
    simp only [List.cons_append, rval]
    rw [rval_snoc (fun r hr => h r (List.mem_cons_of_mem _ hr))]
    by_cases hx : c ≤ x ∧ x < d
    · rw [if_pos hx, if_pos hx, if_neg (by omega)]
    · rw [if_neg hx, if_neg hx]

/-- One more interval at the end: merged with the last one if both are one. -/
def pushR [DecidableEq V] (e : V) (l : Runs V) (a b : Int) (v : V) : Runs V :=
  if v = e then l else match l.getLast? with
    | some (c, d, w) => if d = a ∧ w = v then l.dropLast ++ [(c, b, v)] else l ++ [(a, b, v)]
    | none => [(a, b, v)]
theorem pushR_spec [DecidableEq V] {l : Runs V} {a b : Int} (v : V) (hc : Canon e l) (he : EndsBy l a) (hab : a < b) :
    Canon e (pushR e l a b v) ∧ EndsBy (pushR e l a b v) b ∧ ∀ x, rval e (pushR e l a b v) x = if a ≤ x ∧ x < b then v else rval e l x := by
  unfold pushR
  by_cases hv : v = e
  · rw [if_pos hv]
    refine ⟨hc, fun r hr => by have := he r hr; omega, fun x => ?_⟩
    split
    · rename_i h
      subst hv
      have : ∀ {l : Runs V}, EndsBy l a → rval v l x = v := by
        intro l
        induction l with
        | nil => intro _; rfl
        | cons r t ih =>
          obtain ⟨c, d, w⟩ := r
          intro he
          have := he (c, d, w) (by simp)
          simp only at this
          simp only [rval]
          rw [if_neg (by omega)]
          exact ih fun r hr => he r (List.mem_cons_of_mem _ hr)
      exact this he
    · rfl
  · rw [if_neg hv]
    rcases List.eq_nil_or_concat l with rfl | ⟨l', ⟨c, d, w⟩, rfl⟩
    · exact ⟨⟨hab, hv, trivial, trivial⟩, fun r hr => by simp at hr; subst hr; exact Int.le_refl _, fun x => rfl⟩
    · simp only [List.concat_eq_append, List.getLast?_append, List.getLast?_singleton, Option.some_or, List.dropLast_concat] at he hc ⊢
      obtain ⟨k1, k2, k3⟩ := canon_last hc
      have ke := canon_ends hc
      have hda : d ≤ a := he (c, d, w) (by simp)
      split
      · rename_i h
        obtain ⟨rfl, rfl⟩ := h
        refine ⟨canon_snoc (canon_prefix hc) k3 (by omega) hv, fun r hr => ?_, fun x => ?_⟩
        · rcases List.mem_append.1 hr with h | h
          · have := he r (List.mem_append_left _ h); omega
          · simp at h; subst h; exact Int.le_refl _
        · rw [rval_snoc ke, rval_snoc ke]
          by_cases h1 : d ≤ x ∧ x < b
          · rw [if_pos h1, if_pos (by omega)]
          · rw [if_neg h1]
            by_cases h2 : c ≤ x ∧ x < d
            · rw [if_pos h2, if_pos (by omega)]
            · rw [if_neg h2, if_neg (by omega)]
      · rename_i h
        refine ⟨canon_snoc hc (fun r hr => ?_) hab hv, fun r hr => ?_, fun x => rval_snoc he x⟩
        · simp at hr; subst hr
          by_cases h1 : d = a
          · exact .inr ⟨h1, fun h2 => h ⟨h1, h2⟩⟩
          · exact .inl (by show d < a; omega)
        · rcases List.mem_append.1 hr with h | h
          · have := he r h; omega
          · simp at h; subst h; exact Int.le_refl _

/-- The member that holds at x. -/
theorem rval_mem : ∀ {l : Runs V} {x : Int}, rval e l x = e ∨ ∃ a b, (a, b, rval e l x) ∈ l ∧ a ≤ x ∧ x < b
  | [], _ => .inl rfl
  | (a, b, v) :: t, x => by
    simp only [rval]
    split
    · rename_i h; exact .inr ⟨a, b, by simp, h⟩
    · rcases rval_mem (l := t) (x := x) with h | ⟨a', b', h1, h2⟩
      · exact .inl h
      · exact .inr ⟨a', b', List.mem_cons_of_mem _ h1, h2⟩
theorem rval_of_mem : ∀ {l : Runs V} {a b x : Int} {v : V}, Canon e l → (a, b, v) ∈ l → a ≤ x → x < b → rval e l x = v
  | (c, d, w) :: t, a, b, x, v, hc, hm, h1, h2 => by
    obtain ⟨k1, k2, k3, k4⟩ := hc
    rcases List.mem_cons.1 hm with h | h
    · simp only [Prod.mk.injEq] at h
      obtain ⟨rfl, rfl, rfl⟩ := h
      simp only [rval]; rw [if_pos ⟨h1, h2⟩]
    · have ih := rval_of_mem k4 h h1 h2
      simp only [rval]
      split
      · rename_i h3
        have := canon_ge k4 k3 x h3.2
        -- the member would hold e
        exfalso
        rw [ih] at this
        have : v ≠ e := by
          clear this ih h1 h2 h3 k1 k2 k3 hm
          induction t with
          | nil => simp at h
          | cons r t ih =>
            obtain ⟨_, q2, _, q4⟩ := k4
            rcases List.mem_cons.1 h with h | h
            · subst h; exact q2
            · exact ih q4 h
        exact this (by assumption)
      · exact ih
theorem canon_mem : ∀ {l : Runs V} {a b : Int} {v : V}, Canon e l → (a, b, v) ∈ l → a < b ∧ v ≠ e
  | (c, d, w) :: t, a, b, v, hc, hm => by
    rcases List.mem_cons.1 hm with h | h
    · simp only [Prod.mk.injEq] at h
      obtain ⟨rfl, rfl, rfl⟩ := h
      exact ⟨hc.1, hc.2.1⟩
    · exact canon_mem hc.2.2.2 h
end
end Go.Gb

/- General part of the proofs: reasoning on the mirrored functions, continued: loops over a list as folds, the last element of a list, halving. -/
namespace Go.Gb

/-- An empty slice with room for n elements. -/
def growI (α : Type) (n : Int) : Option (List α) := if 0 ≤ n ∧ n ≤ 1073741824 then some [] else none
theorem growI_some {α : Type} {n : Int} (h0 : 0 ≤ n) (h : n ≤ 1073741824) : growI α n = some [] := if_pos ⟨h0, h⟩

theorem getI_concat {α : Type} {l : List α} {x : α} {i : Int} (h : i = (l.length : Int)) : getI (l ++ [x]) i = some x := by
  subst h; unfold getI; rw [if_pos (by omega)]; simp
theorem set_concat {α : Type} {l : List α} {x y : α} {i : Nat} (h : i = l.length) : (l ++ [x]).set i y = l ++ [y] := by
  subst h; rw [List.set_append_right _ _ (Nat.le_refl _)]; simp
theorem subI_len {α : Type} {l : List α} {x : α} (h : l.length < 4611686018427387904) : subI (((l ++ [x]).length : Nat) : Int) 1 = some (l.length : Int) := by
  rw [subI_some (by unfold inI; simp; omega)]; simp
theorem subI_nat {i : Nat} (h0 : 0 < i) (h : i < 4611686018427387904) : subI (i : Int) 1 = some ((i - 1 : Nat) : Int) := by
  rw [subI_some (by unfold inI; omega)]; congr 1; omega
theorem getI_len_none {α : Type} {l : List α} {i : Int} (h : (l.length : Int) ≤ i) : getI l i = none := by
  unfold getI
  split
  · rw [List.getElem?_eq_none (by omega)]
  · rfl

/-- A loop over the elements of a list. -/
theorem iter_range {σ τ ρ γ : Type} {l : List γ} {body : τ → Option (Flow τ ρ)} {k : Nat} (st : σ → Int → τ) (step : σ → γ → σ) (Inv : Nat → σ → Prop)
    (hs : ∀ i (hi : i < l.length) s, Inv i s → body (st s (i : Int)) = some (.go (st (step s l[i]) ((i + 1 : Nat) : Int))) ∧ Inv (i + 1) (step s l[i]))
    (hd : ∀ s, Inv l.length s → body (st s (l.length : Int)) = some (.ex k (st s (l.length : Int)))) {s0 : σ} (h0 : Inv 0 s0) {fuel : Nat} (hf : l.length < fuel) :
    iterL body fuel (st s0 0) = some (.ex k (st (l.foldl step s0) (l.length : Int))) ∧ Inv l.length (l.foldl step s0) := by
  have key : ∀ m i s, i + m = l.length → Inv i s → ∀ fuel, m < fuel → iterL body fuel (st s (i : Int)) = some (.ex k (st ((l.drop i).foldl step s) (l.length : Int))) ∧ Inv l.length ((l.drop i).foldl step s) := by
    intro m
    induction m with
    | zero =>
      intro i s hi hI fuel hf
      obtain rfl : i = l.length := by omega
      obtain ⟨fuel, rfl⟩ : ∃ m, fuel = m + 1 := ⟨fuel - 1, by omega⟩
      simp only [List.drop_length, List.foldl_nil]
      simp only [iterL, hd s hI]
      exact ⟨trivial, hI⟩
    | succ m ih =>
      intro i s hi hI fuel hf
      obtain ⟨fuel, rfl⟩ : ∃ m, fuel = m + 1 := ⟨fuel - 1, by omega⟩
      have hlt : i < l.length := by omega
      obtain ⟨h1, h2⟩ := hs i hlt s hI
      rw [List.drop_eq_getElem_cons hlt, List.foldl_cons]
      simp only [iterL, h1]
      exact ih (i + 1) _ (by omega) h2 fuel (by omega)
  have := key l.length 0 s0 (by omega) h0 fuel hf
  simpa using this

/-- A loop over the elements of a list, with results of other calls at each. -/
theorem iter_rangeE {σ τ ρ γ : Type} {l : List γ} {body : τ → Option (Flow τ ρ)} {k : Nat} (st : σ → Int → τ) (Inv : Nat → σ → Prop)
    (hs : ∀ i (hi : i < l.length) s, Inv i s → ∃ s', body (st s (i : Int)) = some (.go (st s' ((i + 1 : Nat) : Int))) ∧ Inv (i + 1) s')
    (hd : ∀ s, Inv l.length s → body (st s (l.length : Int)) = some (.ex k (st s (l.length : Int)))) {s0 : σ} (h0 : Inv 0 s0) {fuel : Nat} (hf : l.length < fuel) :
    ∃ s, iterL body fuel (st s0 0) = some (.ex k (st s (l.length : Int))) ∧ Inv l.length s := by
  have key : ∀ m i s, i + m = l.length → Inv i s → ∀ fuel, m < fuel → ∃ s', iterL body fuel (st s (i : Int)) = some (.ex k (st s' (l.length : Int))) ∧ Inv l.length s' := by
    intro m
    induction m with
    | zero =>
      intro i s hi hI fuel hf
      obtain rfl : i = l.length := by omega
      obtain ⟨fuel, rfl⟩ : ∃ m, fuel = m + 1 := ⟨fuel - 1, by omega⟩
      refine ⟨s, ?_, hI⟩
      simp only [iterL, hd s hI]
    | succ m ih =>
      intro i s hi hI fuel hf
      obtain ⟨fuel, rfl⟩ : ∃ m, fuel = m + 1 := ⟨fuel - 1, by omega⟩
      obtain ⟨s', h1, h2⟩ := hs i (by omega) s hI
      obtain ⟨s2, h3, h4⟩ := ih (i + 1) s' (by omega) h2 fuel (by omega)
      refine ⟨s2, ?_, h4⟩
      simp only [iterL, h1]
      exact h3
  exact key l.length 0 s0 (by omega) h0 fuel hf

/-- A loop with a counter from a number on: it ends at N by leaving, or before by a result. -/
theorem iter_from {σ τ ρ : Type} {body : τ → Option (Flow τ ρ)} {k : Nat} (st : σ → Int → τ) (a N : Nat) (hab : a ≤ N) (Inv : Nat → σ → Prop)
    (hs : ∀ i, a ≤ i → i < N → ∀ s, Inv i s → ∃ s', body (st s (i : Int)) = some (.go (st s' ((i + 1 : Nat) : Int))) ∧ Inv (i + 1) s')
    (hd : ∀ s, Inv N s → body (st s (N : Int)) = some (.ex k (st s (N : Int)))) {s0 : σ} (h0 : Inv a s0) {fuel : Nat} (hf : N - a < fuel) :
    ∃ s, iterL body fuel (st s0 (a : Int)) = some (.ex k (st s (N : Int))) ∧ Inv N s := by
  have key : ∀ m i s, i + m = N → a ≤ i → Inv i s → ∀ fuel, m < fuel → ∃ s', iterL body fuel (st s (i : Int)) = some (.ex k (st s' (N : Int))) ∧ Inv N s' := by
    intro m
    induction m with
    | zero =>
      intro i s hi ha hI fuel hf
      obtain rfl : i = N := by omega
      obtain ⟨fuel, rfl⟩ : ∃ m, fuel = m + 1 := ⟨fuel - 1, by omega⟩
      refine ⟨s, ?_, hI⟩
      simp only [iterL, hd s hI]
    | succ m ih =>
      intro i s hi ha hI fuel hf
      obtain ⟨fuel, rfl⟩ : ∃ m, fuel = m + 1 := ⟨fuel - 1, by omega⟩
      obtain ⟨s', h1, h2⟩ := hs i ha (by omega) s hI
      obtain ⟨s2, h3, h4⟩ := ih (i + 1) s' (by omega) (by omega) h2 fuel (by omega)
      refine ⟨s2, ?_, h4⟩
      simp only [iterL, h1]
      exact h3
  exact key (N - a) a s0 (by omega) (Nat.le_refl _) h0 fuel (by omega)

/-- A loop that looks through a list from its start on: it leaves with a result at the first element that has a property, or runs to the end. -/
theorem iter_find {ρ γ : Type} {l : List γ} {body : Int → Option (Flow Int ρ)} {k : Nat} (p : γ → Prop) (r : Nat → ρ)
    (hs : ∀ i (hi : i < l.length), (p l[i] ∧ body (i : Int) = some (.ret (r i))) ∨ (¬ p l[i] ∧ body (i : Int) = some (.go ((i + 1 : Nat) : Int))))
    (hd : body (l.length : Int) = some (.ex k (l.length : Int))) {fuel : Nat} (hf : l.length < fuel) :
    (∃ i, ∃ hi : i < l.length, p l[i] ∧ (∀ j (hj : j < i), ¬ p (l[j]'(by omega))) ∧ iterL body fuel 0 = some (.ret (r i))) ∨
    ((∀ x ∈ l, ¬ p x) ∧ iterL body fuel 0 = some (.ex k (l.length : Int))) := by
  have key : ∀ m i, i + m = l.length → (∀ j (hj : j < i) (hl : j < l.length), ¬ p l[j]) → ∀ fuel, m < fuel →
      (∃ j, ∃ hj : j < l.length, p l[j] ∧ (∀ q (hq : q < j), ¬ p (l[q]'(by omega))) ∧ iterL body fuel (i : Int) = some (.ret (r j))) ∨
      ((∀ j (hj : j < l.length), ¬ p l[j]) ∧ iterL body fuel (i : Int) = some (.ex k (l.length : Int))) := by
    intro m
    induction m with
    | zero =>
      intro i hi hp fuel hf
      obtain rfl : i = l.length := by omega
      obtain ⟨fuel, rfl⟩ : ∃ m, fuel = m + 1 := ⟨fuel - 1, by omega⟩
      refine .inr ⟨fun j hj => hp j hj hj, ?_⟩
      simp only [iterL, hd]
    | succ m ih =>
      intro i hi hp fuel hf
      obtain ⟨fuel, rfl⟩ : ∃ m, fuel = m + 1 := ⟨fuel - 1, by omega⟩
      rcases hs i (by omega) with ⟨h1, h2⟩ | ⟨h1, h2⟩
      · refine .inl ⟨i, by omega, h1, fun q hq => hp q hq (by omega), ?_⟩
        simp only [iterL, h2]
      · simp only [iterL, h2]
        exact ih (i + 1) (by omega) (fun j hj hl => by
          rcases Nat.lt_or_ge j i with h | h
          · exact hp j h hl
          · obtain rfl : j = i := by omega
            exact h1) fuel (by omega)
  rcases key l.length 0 (by omega) (fun j hj _ => absurd hj (Nat.not_lt_zero j)) fuel hf with h | ⟨h1, h2⟩
  · exact .inl h
  · refine .inr ⟨fun x hx => ?_, h2⟩
    obtain ⟨j, hj, rfl⟩ := List.getElem_of_mem hx
    exact h1 j hj

theorem foldl_filterMap {α β : Type} (p : α → Bool) (f : α → β) : ∀ (l : List α) (s : List β), l.foldl (fun s r => if p r then s ++ [f r] else s) s = s ++ (l.filter p).map f
  | [], s => by simp
  | x :: l, s => by
    rw [List.foldl_cons, foldl_filterMap p f l]
    by_cases h : p x = true
    · simp [h]
    · simp [h]
theorem foldl_flatMap {α β : Type} (f : α → List β) : ∀ (l : List α) (s : List β), l.foldl (fun s r => s ++ f r) s = s ++ l.flatMap f
  | [], s => by simp
  | x :: l, s => by rw [List.foldl_cons, foldl_flatMap f l]; simp

/-- Halving a sum, as binary searches do it. -/
def halfI (n : Int) : Int := IntKind.i64.wrap (IK.shr (IK.mk (IntKind.u64.wrap n) : IK .u64) 1).n
theorem halfI_eq {n : Int} (h0 : 0 ≤ n) (h : n < 9223372036854775808) : halfI n = n / 2 := by
  unfold halfI IK.shr
  have e1 : IntKind.u64.wrap n = n := by simp [IntKind.wrap, IntKind.bits, IntKind.signed]; omega
  show IntKind.i64.wrap ((IntKind.u64.wrap n).fdiv (2 ^ (1 : Int).toNat)) = n / 2
  rw [e1, Int.fdiv_eq_ediv_of_nonneg _ (by decide), IntKind.wrap_i64]
  have : (2 : Int) ^ (1 : Int).toNat = 2 := by decide
  rw [this]
  omega

/-- What a binary search for the first element that is not below finds. -/
theorem bsearch {γ ρ : Type} {l : List γ} {p : γ → Bool} {body : Int × Int → Option (Flow (Int × Int) ρ)} {k : Nat} (hl : l.length < 4611686018427387904)
    (hp : ∀ i j (hij : i < j) (hj : j < l.length), p l[j] = true → p (l[i]'(by omega)) = true)
    (hb : ∀ i j : Nat, ∀ hij : i < j, ∀ hj : j ≤ l.length, body ((i : Int), (j : Int)) = some (.go (if p (l[(i + j) / 2]'(by omega)) then ((((i + j) / 2 + 1 : Nat) : Int), (j : Int)) else ((i : Int), (((i + j) / 2 : Nat) : Int)))))
    (hd : ∀ i : Nat, body ((i : Int), (i : Int)) = some (.ex k ((i : Int), (i : Int)))) {fuel : Nat} (hf : l.length < fuel) :
    ∃ n : Nat, n ≤ l.length ∧ iterL body fuel (0, (l.length : Int)) = some (.ex k ((n : Int), (n : Int))) ∧ (∀ i (hi : i < l.length), p l[i] = true ↔ i < n) := by
  have key : ∀ m i j : Nat, i ≤ j → j - i ≤ m → ∀ hj : j ≤ l.length, (∀ q (hq : q < l.length), q < i → p l[q] = true) → (∀ q (hq : q < l.length), j ≤ q → p l[q] = false) → ∀ fuel, m < fuel →
      ∃ n : Nat, n ≤ l.length ∧ iterL body fuel ((i : Int), (j : Int)) = some (.ex k ((n : Int), (n : Int))) ∧ (∀ i (hi : i < l.length), p l[i] = true ↔ i < n) := by
    intro m
    induction m with
    | zero =>
      intro i j hij hm hj h1 h2 fuel hf
      obtain rfl : i = j := by omega
      obtain ⟨fuel, rfl⟩ : ∃ m, fuel = m + 1 := ⟨fuel - 1, by omega⟩
      refine ⟨i, hj, by simp only [iterL, hd], fun q hq => ⟨fun h => ?_, h1 q hq⟩⟩
      rcases Nat.lt_or_ge q i with h' | h'
      · exact h'
      · rw [h2 q hq h'] at h; simp at h
    | succ m ih =>
      intro i j hij hm hj h1 h2 fuel hf
      obtain ⟨fuel, rfl⟩ : ∃ m, fuel = m + 1 := ⟨fuel - 1, by omega⟩
      rcases Nat.lt_or_ge i j with hlt | hge
      · have e := hb i j hlt hj
        have hh : (i + j) / 2 < l.length := by omega
        split at e
        · rename_i hc
          simp only [iterL, e]
          exact ih _ j (by omega) (by omega) hj (fun q hq hqi => by
            rcases Nat.lt_or_ge q ((i + j) / 2) with h | h
            · exact hp q _ h hh hc
            · have : q = (i + j) / 2 := by omega
              subst this; exact hc) h2 fuel (by omega)
        · rename_i hc
          simp only [iterL, e]
          exact ih i _ (by omega) (by omega) (by omega) h1 (fun q hq hqi => by
            rcases Nat.lt_or_ge ((i + j) / 2) q with h | h
            · rw [Bool.eq_false_iff]; intro hc'; exact hc (hp _ q h hq hc')
            · have : q = (i + j) / 2 := by omega
              subst this; simpa using hc) fuel (by omega)
      · obtain rfl : i = j := by omega
        refine ⟨i, hj, by simp only [iterL, hd], fun q hq => ⟨fun h => ?_, h1 q hq⟩⟩
        rcases Nat.lt_or_ge q i with h' | h'
        · exact h'
        · rw [h2 q hq h'] at h; simp at h
  exact key l.length 0 l.length (Nat.zero_le _) (by omega) (Nat.le_refl _) (fun q _ h => absurd h (Nat.not_lt_zero q)) (fun q hq h => absurd hq (by omega)) fuel hf
end Go.Gb

