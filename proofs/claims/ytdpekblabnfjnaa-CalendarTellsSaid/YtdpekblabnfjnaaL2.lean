/- The general part of the proofs (no program in sight): worlds with shared blocks, regions, operations, calls, loops, what comes in as data, part 2 -/
import Derived.Test.YtdpekblabnfjnaaL1
set_option linter.unusedVariables false
set_option linter.unusedSimpArgs false
/- General part of the proofs: separation, handing over, arrays, comparisons. -/
namespace Go.Gb
section
variable {P : Program} {o : Oper} {a a0 : Act} {k k' k0 : K} {R S : Pred} {α β : Type} [Enc α] [Enc β]

/-- Behind the handing over of a slice. -/
structure Shared (k k' : K) (r : Option Nat) : Prop where
  w : k'.w = k.w
  le : Le k k'
  sh : ∀ b, k'.sh b → k.sh b ∨ r = some b
theorem IsOwn.hand {B : Nat} {e : TypeId} {xs : List α} {v : Value} (h : IsOwn B e xs v k) (hg : Grow k0 k) (hB : k0.w.heap.size ≤ B) :
    ∃ k' : K, Shared k k' (ob v) ∧ Grow k0 k' ∧ IsV xs v k' := by
  obtain ⟨k', hw, hle, hg', hv, hs⟩ := h.share hg hB
  exact ⟨k', ⟨hw, hle, hs⟩, hg', hv⟩
theorem Box.hand {b : Nat} {x : α} (h : Box b x k) (hb : b < k.w.heap.size) (hg : Grow k0 k) (hn : k0.w.heap.size ≤ b) :
    ∃ k' : K, Shared k k' (some b) ∧ Grow k0 k' ∧ IsRef x (.pointer (some ⟨b, 0, none⟩)) k' :=
  ⟨k.share b hb, ⟨rfl, K.share_le k b hb, fun i hi => hi.imp id (fun e => by rw [e])⟩, hg.share hb hn, h.share⟩
theorem IsOwn.nsh {B : Nat} {e : TypeId} {xs : List α} {v : Value} (h : IsOwn B e xs v k) : ∀ b, ob v = some b → ¬ k.sh b := fun b hb => (h.lt b hb).2.2
theorem IsOwn.lo {B : Nat} {e : TypeId} {xs : List α} {v : Value} (h : IsOwn B e xs v k) : ∀ b, ob v = some b → B ≤ b := fun b hb => (h.lt b hb).1

/-- Two resources are apart. -/
def Sep (r s : Option Nat) : Prop := ∀ b, r = some b → s ≠ some b
theorem Sep.symm {r s : Option Nat} (h : Sep r s) : Sep s r := fun b e f => h b f e
theorem Sep.box {r : Option Nat} {b : Nat} (h : Sep r (some b)) : r ≠ some b := fun e => h b e rfl
theorem ok_moveOA {x : Operand} {u : Value} {B : Nat} {e : TypeId} {xs : List α} (ho : o.op = .move x ∨ o.op = .assign x) (h : OwnAt u B e xs (a.eval x) k) : Does P o a k (OwnAt u B e xs) := by
  rcases ho with ho | ho
  · exact ok_move ho h
  · exact ok_assign ho h

theorem cells_agg (cs : Array Value) : (Value.agg cs).cells = cs := rfl
/-! arrays as pairs -/
/-! comparisons -/
/-- Values of this type are compared part by part. -/
def EqOk (P : Program) (t : TypeId) (α : Type) [Enc α] [DecidableEq α] : Prop :=
  P.eqGuardType P.depth t = false ∧ ∀ (k : K) (x y : α) (u v : Value), IsV x u k → IsV y v k → (∃ cs, u = .agg cs) ∧ (∃ cs, v = .agg cs) ∧ ∀ w, (Op.equal t u v).run P w = .ok (decide (x = y)) w
end
end Go.Gb

/- General part of the proofs: what is written, told by the blocks that may be written to. -/
namespace Go.Gb

/-- A set of blocks. -/
abbrev FP := Nat → Prop
def noF : FP := fun _ => False
/-- The block of a slice's array. -/
def obF (v : Value) : FP := fun b => ob v = some b

/-- At most these blocks have been written to, or handed over; there may be new ones. -/
structure Chg (F : FP) (k k' : K) : Prop where
  tape : k'.w.tape = k.w.tape
  os : k'.w.os = k.w.os
  out : k'.w.output = k.w.output
  size : k.w.heap.size ≤ k'.w.heap.size
  blk : ∀ b, b < k.w.heap.size → ¬ F b → k'.w.heap[b]? = k.w.heap[b]?
  up : ∀ b, k.sh b → k'.sh b
  new : ∀ b, b < k.w.heap.size → k'.sh b → k.sh b ∨ F b
  drawn : k.w.drawn ≤ k'.w.drawn

theorem Chg.refl (F : FP) (k : K) : Chg F k k := ⟨rfl, rfl, rfl, Nat.le_refl _, fun _ _ _ => rfl, fun _ h => h, fun _ _ h => .inl h, Nat.le_refl _⟩
theorem Chg.of {F : FP} {k k' : K} (h : Grow k k') : Chg F k k' := ⟨h.tape, h.os, h.out, h.size, fun b hb _ => h.blk b hb, h.up, fun b hb hs => .inl (h.new b hb hs), h.drawn⟩
theorem Chg.grow {k k' : K} (h : Chg noF k k') : Grow k k' := ⟨h.tape, h.os, h.out, h.size, fun b hb => h.blk b hb (fun f => f), h.up, fun b hb hs => (h.new b hb hs).elim id False.elim, h.drawn⟩
theorem Chg.new' {F : FP} {k k' : K} (h : Chg F k k') (b : Nat) (hb : b < k.w.heap.size) (hF : ¬ F b) (hs : k'.sh b) : k.sh b := (h.new b hb hs).elim id (fun f => (hF f).elim)
/-- The blocks may be written to: they are in F, or newer than k. -/
def Wr (F : FP) (k : K) (G : FP) : Prop := ∀ b, G b → F b ∨ k.w.heap.size ≤ b
theorem Chg.step {F G : FP} {a b c : K} (h : Chg F a b) (g : Chg G b c) (hw : Wr F a G) : Chg F a c :=
  ⟨g.tape.trans h.tape, g.os.trans h.os, g.out.trans h.out, Nat.le_trans h.size g.size,
    fun i hi hF => (g.blk i (Nat.lt_of_lt_of_le hi h.size) (fun hG => (hw i hG).elim hF (by omega))).trans (h.blk i hi hF),
    fun i hi => g.up i (h.up i hi), fun i hi hs => (g.new i (Nat.lt_of_lt_of_le hi h.size) hs).elim (h.new i hi) (fun hG => .inr ((hw i hG).elim id (by omega))), Nat.le_trans h.drawn g.drawn⟩
theorem Chg.then {F : FP} {a b c : K} (h : Chg F a b) (g : Grow b c) : Chg F a c := h.step (Chg.of (F := noF) g) (fun _ f => f.elim)
theorem Chg.le {F : FP} {k k' : K} (h : Chg F k k') (hF : ∀ b, F b → ¬ k.sh b) : Le k k' :=
  ⟨fun b hb => h.blk b (k.lt b hb) (fun f => hF b f hb), h.up⟩
theorem Wr.none {F : FP} {k : K} : Wr F k noF := fun _ f => f.elim
theorem Wr.up {F G : FP} {k k' : K} (h : Wr F k G) (hs : k'.w.heap.size ≤ k.w.heap.size) : Wr F k' G := fun b hb => (h b hb).imp id (fun h => by omega)
/-- What is newer than a later world, is newer. -/
theorem Wr.new {F F' G : FP} {k k' : K} (hc : Chg F' k k') (h : ∀ b, G b → k'.w.heap.size ≤ b) : Wr F k G := fun b hb => .inr (Nat.le_trans hc.size (h b hb))

/-- Two sets of blocks are apart. -/
def Apart (F G : FP) : Prop := ∀ b, F b → ¬ G b
theorem Apart.symm {F G : FP} (h : Apart F G) : Apart G F := fun b g f => h b f g
theorem Apart.new {F G : FP} {n : Nat} (hF : ∀ b, F b → b < n) (hG : ∀ b, G b → n ≤ b) : Apart F G := fun b f g => by have := hF b f; have := hG b g; omega
theorem Apart.app {F G G' : FP} {n : Nat} (h : Apart F G) (hF : ∀ b, F b → b < n) (hG : ∀ b, G' b → G b ∨ n ≤ b) : Apart F G' := fun b f g => by
  rcases hG b g with g | g
  · exact h b f g
  · have := hF b f; omega

/-- Behind the handing over of some blocks. -/
structure Handed (k k' : K) (F : FP) : Prop where
  w : k'.w = k.w
  le : Le k k'
  sh : ∀ b, k'.sh b → k.sh b ∨ F b
theorem Chg.hand {F G : FP} {k0 k k' : K} (h : Chg F k0 k) (g : Handed k k' G) (hn : Wr F k0 G) : Chg F k0 k' :=
  ⟨by rw [g.w]; exact h.tape, by rw [g.w]; exact h.os, by rw [g.w]; exact h.out, by rw [g.w]; exact h.size, by rw [g.w]; exact h.blk, fun b hb => g.le.up b (h.up b hb),
    fun b hb hs => (g.sh b hs).elim (h.new b hb) (fun f => (hn b f).elim .inr (fun h => by omega)), by rw [g.w]; exact h.drawn⟩

section
variable {P : Program} {o : Oper} {a a0 : Act} {k k' k0 : K} {R S : Pred} {α β : Type} [Enc α] [Enc β] {F G : FP}

/-- What belongs to the call alone: a value and the blocks behind it. -/
class Rsc (R : FP → Pred) : Prop where
  keep : ∀ {F G v k k'}, R F v k → Chg G k k' → Apart F G → (∀ b, G b → ¬ k.sh b) → R F v k'
  handed : ∀ {F G v k k'}, R F v k → Handed k k' G → Apart F G → R F v k'
  lt : ∀ {F v k}, R F v k → ∀ b, F b → b < k.w.heap.size
  nsh : ∀ {F v k}, R F v k → ∀ b, F b → ¬ k.sh b
theorem Rsc.grow {R : FP → Pred} [Rsc R] {v : Value} (h : R F v k) (g : Grow k k') : R F v k' := Rsc.keep h (Chg.of (F := noF) g) (fun _ _ f => f) (fun _ f => f.elim)
instance {R : FP → Pred} [Rsc R] : Mono (R F) := ⟨fun g h => Rsc.grow h g⟩

/-- A box of the call's own. -/
def BoxR (x : α) : FP → Pred := fun F v k => ∃ b, v = .pointer (some ⟨b, 0, none⟩) ∧ F = Eq b ∧ Box b x k
theorem Box.keep {b : Nat} {x : α} (h : Box b x k) (g : Chg G k k') (hG : ¬ G b) (hn : ∀ b, G b → ¬ k.sh b) : Box b x k' := by
  have hle := g.le hn
  have hlt := h.lt
  obtain ⟨ho, arr, t, h, r⟩ := h
  exact ⟨fun hs => ho (g.new' b hlt hG hs), arr, t, by rw [g.blk b hlt hG]; exact h, Enc.mono hle r⟩
theorem Box.handed {b : Nat} {x : α} (h : Box b x k) (g : Handed k k' G) (hG : ¬ G b) : Box b x k' := by
  have hle := g.le
  obtain ⟨ho, arr, t, h, r⟩ := h
  exact ⟨fun hs => (g.sh b hs).elim ho hG, arr, t, by rw [g.w]; exact h, Enc.mono hle r⟩
instance (x : α) : Rsc (BoxR x) where
  keep := fun ⟨b, e, eF, h⟩ g hs hn => ⟨b, e, eF, h.keep g (hs b (by rw [eF])) hn⟩
  handed := fun ⟨b, e, eF, h⟩ g hs => ⟨b, e, eF, h.handed g (hs b (by rw [eF]))⟩
  lt := fun ⟨b, e, eF, h⟩ c hc => by rw [eF] at hc; rw [← hc]; exact h.lt
  nsh := fun ⟨b, e, eF, h⟩ c hc => by rw [eF] at hc; rw [← hc]; exact h.own

/-- A slice of the call's own. -/
def OwnR (e : TypeId) (xs : List α) : FP → Pred := fun F v k => F = obF v ∧ IsOwn 0 e xs v k
theorem IsOwn.keep {B : Nat} {e : TypeId} {xs : List α} {v : Value} (h : IsOwn B e xs v k) (g : Chg G k k') (hs : Apart (obF v) G) (hn : ∀ b, G b → ¬ k.sh b) : IsOwn B e xs v k' := by
  have hle := g.le hn
  rcases h with r | r | ⟨b', off, cap, cur, cs, rfl, hB, ho, hh, hc, h0, r⟩
  · exact .inl r
  · exact .inr (.inl r)
  · have hlt : b' < k.w.heap.size := (Array.getElem?_eq_some_iff.1 hh).1
    have hne := hs b' (by simp [obF, ob, Nat.ne_of_gt h0])
    exact .inr (.inr ⟨b', off, cap, cur, cs, rfl, hB, fun hs' => ho (g.new' b' hlt hne hs'), by rw [g.blk b' hlt hne]; exact hh, hc, h0, r.1, r.2.1, r.2.2.1, r.2.2.2.mono hle⟩)
theorem IsOwn.handed {B : Nat} {e : TypeId} {xs : List α} {v : Value} (h : IsOwn B e xs v k) (g : Handed k k' G) (hs : Apart (obF v) G) : IsOwn B e xs v k' := by
  have hle := g.le
  rcases h with r | r | ⟨b', off, cap, cur, cs, rfl, hB, ho, hh, hc, h0, r⟩
  · exact .inl r
  · exact .inr (.inl r)
  · have hne := hs b' (by simp [obF, ob, Nat.ne_of_gt h0])
    exact .inr (.inr ⟨b', off, cap, cur, cs, rfl, hB, fun hs' => (g.sh b' hs').elim ho hne, by rw [g.w]; exact hh, hc, h0, r.1, r.2.1, r.2.2.1, r.2.2.2.mono hle⟩)
instance (e : TypeId) (xs : List α) : Rsc (OwnR e xs) where
  keep := fun ⟨eF, h⟩ g hs hn => ⟨eF, h.keep g (eF ▸ hs) hn⟩
  handed := fun ⟨eF, h⟩ g hs => ⟨eF, h.handed g (eF ▸ hs)⟩
  lt := fun ⟨eF, h⟩ b hb => (h.lt b (by rw [eF] at hb; exact hb)).2.1
  nsh := fun ⟨eF, h⟩ b hb => (h.lt b (by rw [eF] at hb; exact hb)).2.2

theorem hand_box {x : α} {v : Value} (h : BoxR x F v k) : ∃ k' : K, Handed k k' F ∧ IsRef x v k' := by
  obtain ⟨b, rfl, rfl, h⟩ := h
  exact ⟨k.share b h.lt, ⟨rfl, K.share_le k b h.lt, fun i hi => hi.imp id Eq.symm⟩, h.share⟩
theorem hand_own {e : TypeId} {xs : List α} {v : Value} (h : OwnR e xs F v k) : ∃ k' : K, Handed k k' F ∧ IsV xs v k' := by
  obtain ⟨rfl, h⟩ := h
  obtain ⟨k', hs, _, hv⟩ := h.hand (k0 := ⟨⟨#[], k.w.tape, 0, k.w.os, k.w.output⟩, fun _ => False, fun _ f => f.elim⟩)
    ⟨rfl, rfl, rfl, Nat.zero_le _, fun b hb => absurd hb (Nat.not_lt_zero b), fun _ f => f.elim, fun b hb => absurd hb (Nat.not_lt_zero b), Nat.zero_le _⟩ (Nat.le_refl _)
  exact ⟨k', ⟨hs.w, hs.le, hs.sh⟩, hv⟩

/-! the operations behind the others -/
theorem tail_storeB {A : Array Oper} {i off b : Nat} {rest : List Nat} {Q : Exit → Act → World → Prop} {t : TypeId} {p y : Operand} {x : α} {z : β} {set : α → β → α}
    (ho : nth A.toList i = some o) (hg : o.guard = none) (hop : o.op = .store t p y) (hd : o.dst = none) (hs : (P.info? t).map (·.size) = some (Enc.sz β)) (hu : Upd off set)
    (hp : IsAdr b off (a.eval p) k) (hb : Box b x k) (hv : IsV z (a.eval y) k)
    (h : ∀ k', Chg (Eq b) k k' → Box b (set x z) k' → wpOps P A Q rest a k'.w) : wpOps P A Q (i :: rest) a k.w :=
  tail_store ho hg hop hd hs hu hp hb hv fun k' hon hz => h k' ⟨hon.tape, hon.os, hon.out, Nat.le_of_eq hon.size.symm, fun c _ hc => hon.blk c (fun e => hc e.symm), fun c hc => by rw [hon.sh]; exact hc, fun c _ hc => by rw [hon.sh] at hc; exact .inl hc, hon.drawn⟩ hz

theorem tail_storeS {A : Array Oper} {i m off : Nat} {e : TypeId} {rest : List Nat} {Q : Exit → Act → World → Prop} {t : TypeId} {p y : Operand} {u : Value} {xs : List α} {x : α} {z : β} {set : α → β → α}
    (ho : nth A.toList i = some o) (hg : o.guard = none) (hop : o.op = .store t p y) (hd : o.dst = none) (hs : (P.info? t).map (·.size) = some (Enc.sz β)) (hu : Upd off set)
    (hp : IsAdrO u (m * Enc.sz α + off) (a.eval p) k) (hb : IsOwn 0 e xs u k) (hm : xs[m]? = some x) (hv : IsV z (a.eval y) k)
    (h : ∀ k' : K, Chg (obF u) k k' → IsOwn 0 e (xs.set m (set x z)) u k' → wpOps P A Q rest a k'.w) : wpOps P A Q (i :: rest) a k.w :=
  tail_storeO ho hg hop hd hs hu hp hb hm hv fun b k' hob hon hz => h k' ⟨hon.tape, hon.os, hon.out, Nat.le_of_eq hon.size.symm, fun c _ hc => hon.blk c (fun e => hc (by rw [obF, hob, e])), fun c hc => by rw [hon.sh]; exact hc, fun c _ hc => by rw [hon.sh] at hc; exact .inl hc, hon.drawn⟩ hz

theorem Grown.chg {r : Option Nat} (h : Grown k k' r) : Chg (fun b => r = some b) k k' :=
  ⟨h.tape, h.os, h.out, h.size, fun b hb hr => h.blk b hb (fun e => hr e.symm), fun b hb => by rw [h.sh]; exact hb, fun b _ hb => by rw [h.sh] at hb; exact .inl hb, h.drawn⟩

theorem tail_appendS {A : Array Oper} {i d : Nat} {rest : List Nat} {Q : Exit → Act → World → Prop} {t e : TypeId} {x y : Operand} {xs ys zs : List α}
    (ho : nth A.toList i = some o) (hgd : o.guard = none) (hop : o.op = .call { callee := .builtin .append, args := #[x, y], argTypes := #[t, t] }) (hd : o.dst = some d) (hda : d < a.tmps.size)
    (hu : P.underlying t = some (.slice e)) (he : ElemOk P e α) (hv : IsOwn 0 e xs (a.eval x) k) (hy : Readable ys (a.eval y) k) (hz : appI xs ys = some zs)
    (h : ∀ (a' : Act) (k' : K), a'.tmps.size = a.tmps.size → a'.defers = a.defers → (∀ t, t ≠ d → a'.get t = a.get t) → Chg (obF (a.eval x)) k k' → IsOwn 0 e zs (a'.get d) k' →
      (∀ b, obF (a'.get d) b → obF (a.eval x) b ∨ k.w.heap.size ≤ b) → wpOps P A Q rest a' k'.w) : wpOps P A Q (i :: rest) a k.w :=
  tail_append ho hgd hop hd hda hu he (Nat.zero_le _) hv hy hz fun a' k' h1 h2 h3 h4 h5 h6 => h a' k' h1 h2 h3 h4.chg h5 h6

/-- What a call does that may write to the blocks in F. -/
def RetC (F : FP) (k : K) (R : Pred) : Ending → World → Prop
  | .returned v, w' => ∃ k' : K, k'.w = w' ∧ Chg F k k' ∧ R v k'
  | .outgrown, _ => False
  | .panicked _, _ => False

theorem tail_call {A : Array Oper} {i d : Nat} {rest : List Nat} {Q : Exit → Act → World → Prop} {f : FuncId} {as_ : List Operand} {ts : Array TypeId}
    (ho : nth A.toList i = some o) (hgd : o.guard = none) (hop : o.op = .call { callee := .value (.func f), args := as_.toArray, argTypes := ts }) (hd : o.dst = some d) (hda : d < a.tmps.size)
    (hc : ∀ args w, (callFunc f args).run P w = .ok (.enter f args) w) (_hQ : LetsOut Q) (hcall : Calls P f (as_.map a.eval).toArray k.w (RetC F k R))
    (h : ∀ (a' : Act) (k' : K), a'.tmps.size = a.tmps.size → a'.defers = a.defers → (∀ t, t ≠ d → a'.get t = a.get t) → Chg F k k' → R (a'.get d) k' → wpOps P A Q rest a' k'.w) : wpOps P A Q (i :: rest) a k.w := by
  rw [wpOps_cons]
  rw [nth_toList] at ho
  unfold wpOp
  simp only [ho, Region.wanted, hgd, if_true]
  refine .inl ?_
  unfold Oper.wp
  have hr : (execOp a.eval o).run P k.w = .ok (.enter f (as_.map a.eval).toArray) k.w := by
    simp [execOp, hop, resolve, invoke, Deferred.ofValue, Act.eval, hc]
  rw [hr]
  refine Calls.mono hcall fun e w' he => ?_
  cases e with
  | returned v =>
    obtain ⟨k', rfl, hg, hv⟩ := he
    simp only [hd]
    have hgd' : (a.put (some d) v).get d = v := by rw [get_put _ _ _ _ hda]; simp
    refine h _ k' (put_size _ _ _) (put_defers' _ _ _) ?_ hg (by rw [hgd']; exact hv)
    intro t ht
    rw [get_put _ _ _ _ hda, if_neg (Ne.symm ht)]
  | panicked c => exact he.elim
  | outgrown => exact he.elim
theorem Ret.ofC {f : FuncId} {as_ : Array Value} {w : World} (h : Calls P f as_ w (RetC noF k R)) : Calls P f as_ w (Ret k R) := h.mono fun e w' he => by
  cases e with
  | returned v => obtain ⟨k', e1, hg, hv⟩ := he; exact ⟨k', e1, hg.grow, hv⟩
  | panicked c => exact he
  | outgrown => exact he
end
end Go.Gb

/- General part of the proofs: the way in and out of functions that write to what they are handed; slots of the call's own. -/
namespace Go.Gb
section
variable {P : Program} {o : Oper} {a a0 : Act} {k k' k0 : K} {R S T : Pred} {α β : Type} [Enc α] [Enc β] {F G : FP}

theorem letsOutC {fn : Func} : LetsOut (bodyPost P fn (RetC F k R)) := trivial
theorem enterC {f : FuncId} {fn : Func} {c : Code} {args : Array Value} {n : Nat} (hf : P.funcs[f]? = some fn) (hb : fn.body = some c) (hn : fn.ntmps = n) (hl : args.size ≤ n)
    (h : ∀ a : Act, a.tmps.size = n → a.defers = [] → ArgsAre a 0 args.toList → c.wp P (bodyPost P fn (RetC F k R)) a k.w) : Calls P f args k.w (RetC F k R) := by
  refine calls_of_wp hf hb (h _ ?_ rfl ?_)
  · simp [hn]; omega
  · have key : ∀ (vs : List Value) (i : Nat), args.toList.drop i = vs → ArgsAre { tmps := args ++ Array.replicate (fn.ntmps - args.size) undef, defers := [] } i vs := by
      intro vs
      induction vs with
      | nil => intro i _; trivial
      | cons v vs ih =>
        intro i hi
        have hlt : i < args.size := by
          rcases Nat.lt_or_ge i args.size with h | h
          · exact h
          · rw [List.drop_eq_nil_of_le (by simpa using h)] at hi; simp at hi
        refine ⟨?_, ih (i + 1) (by rw [← List.drop_drop, hi]; rfl)⟩
        rw [List.drop_eq_getElem_cons (by simpa using hlt)] at hi
        simp only [List.cons.injEq] at hi
        simp only [Act.get, Array.getD_eq_getD_getElem?]
        rw [Array.getElem?_append_left hlt]
        simp [hlt, ← hi.1]
    exact key _ 0 rfl
theorem retC1 {fn : Func} {r : ResultVar} (hr : fn.results = #[r]) (hd : a.defers = []) (hg : Chg F k k') (h : ResOk P a k' r R) : bodyPost P fn (RetC F k R) .ret a k'.w := by
  obtain ⟨v, hv, hR⟩ := resOk_run h
  refine ⟨hd, v, ?_, k', rfl, hg, hR⟩
  simp only [results_eq, hr]
  simp [hv]
theorem retC2 {fn : Func} {r s : ResultVar} (hr : fn.results = #[r, s]) (hd : a.defers = []) (hg : Chg F k k') (h : ResOk P a k' r R) (g : ResOk P a k' s S) :
    bodyPost P fn (RetC F k (IsTup2 R S)) .ret a k'.w := by
  obtain ⟨v, hv, hR⟩ := resOk_run h
  obtain ⟨u, hu, hS⟩ := resOk_run g
  refine ⟨hd, .tuple #[v, u], ?_, k', rfl, hg, v, u, rfl, hR, hS⟩
  simp only [results_eq, hr]
  simp [hv, hu]
/-- The blocks are newer than the world k. -/
def Lo (k : K) (G : FP) : Prop := ∀ b, G b → k.w.heap.size ≤ b
theorem Lo.wr (h : Lo k G) : Wr F k G := fun b hb => .inr (h b hb)
theorem Lo.chg (h : Lo k' G) (g : Chg F k k') : Lo k G := fun b hb => Nat.le_trans g.size (h b hb)
theorem Lo.app {G' : FP} (h : Lo k G) (g : Chg F k k') (hG : ∀ b, G' b → G b ∨ k'.w.heap.size ≤ b) : Lo k G' := fun b hb => (hG b hb).elim (h b) (fun h => Nat.le_trans g.size h)
theorem Wr.app {G' : FP} (h : Wr F k G) (g : Chg F k k') (hG : ∀ b, G' b → G b ∨ k'.w.heap.size ≤ b) : Wr F k G' := fun b hb => (hG b hb).elim (h b) (fun h => .inr (Nat.le_trans g.size h))
theorem Lo.eq {b : Nat} (h : k.w.heap.size ≤ b) : Lo k (Eq b) := fun _ e => e ▸ h
theorem Box.ltF {b : Nat} {x : α} (h : Box b x k) : ∀ c, b = c → c < k.w.heap.size := fun _ e => e ▸ h.lt
theorem Box.nshF {b : Nat} {x : α} (h : Box b x k) : ∀ c, b = c → ¬ k.sh c := fun _ e => e ▸ h.own
theorem IsOwn.ltF {B : Nat} {e : TypeId} {xs : List α} {v : Value} (h : IsOwn B e xs v k) : ∀ b, obF v b → b < k.w.heap.size := fun b hb => (h.lt b hb).2.1
theorem IsOwn.nshF {B : Nat} {e : TypeId} {xs : List α} {v : Value} (h : IsOwn B e xs v k) : ∀ b, obF v b → ¬ k.sh b := fun b hb => (h.lt b hb).2.2
theorem IsOwn.loF {e : TypeId} {xs : List α} {v : Value} (h : IsOwn k0.w.heap.size e xs v k) : Lo k0 (obF v) := fun b hb => (h.lt b hb).1
theorem IsOwn.give {B : Nat} {e : TypeId} {xs : List α} {v : Value} (h : IsOwn B e xs v k) : ∃ k' : K, Handed k k' (obF v) ∧ IsV xs v k' :=
  hand_own ⟨rfl, h.weaken (Nat.zero_le _)⟩
theorem Box.give {b : Nat} {x : α} (h : Box b x k) : ∃ k' : K, Handed k k' (Eq b) ∧ IsRef x (.pointer (some ⟨b, 0, none⟩)) k' :=
  hand_box ⟨b, rfl, rfl, h⟩
theorem IsE0.own0 {e : TypeId} {v : Value} (h : IsE0 v k) : IsOwn (α := α) 0 e [] v k := h.own
theorem IsE0.noOb {v : Value} (h : IsE0 v k) : ∀ b, ¬ obF v b := fun b hb => by rw [obF, h.ob] at hb; simp at hb
theorem IsE0.lo {v : Value} (h : IsE0 v k) : Lo k0 (obF v) := fun b hb => (h.noOb b hb).elim
theorem IsE0.apart {v : Value} (h : IsE0 v k) : Apart (obF v) G := fun b hb => (h.noOb b hb).elim
end

/-- How far a call has come. -/
structure Bs (F : FP) (k0 : K) (n : Nat) (a : Act) (k : K) : Prop where
  g : Chg F k0 k
  s : a.tmps.size = n
  d : a.defers = []
section
variable {P : Program} {F : FP} {a a' : Act} {k k' k0 : K} {n m : Nat} {ops : List Oper} {es : List Ent}
theorem Bs.post (h : Bs F k0 n a k) (p : Post ops es m a k a' k') : Bs F k0 n a' k' := ⟨h.g.then p.grow, p.size.trans h.s, p.defers.trans h.d⟩
theorem cutFe {c : Code} {Q : Exit → Act → World → Prop} {τ ρ : Type} (f : Flow τ ρ) (T : τ → Act → K → Prop) (X : Nat → τ → Act → K → Prop) (Rt : ρ → Act → K → Prop)
    (h1 : ∀ Q' : Exit → Act → World → Prop, LetsOut Q' → (∀ s' a' k', f = .go s' → T s' a' k' → Q' .normal a' k'.w) →
      (∀ i s' a' k', f = .ex i s' → X i s' a' k' → Q' (.exit i) a' k'.w) → (∀ r a' k', f = .ret r → Rt r a' k' → Q' .ret a' k'.w) → c.wp P Q' a k.w)
    (hQ : LetsOut Q) (h4 : ∀ r a' k', f = .ret r → Rt r a' k' → Q .ret a' k'.w) (h2 : ∀ s' a' k', f = .go s' → T s' a' k' → Q .normal a' k'.w)
    (h3 : ∀ i s' a' k', f = .ex i s' → X i s' a' k' → Q (.exit i) a' k'.w) : c.wp P Q a k.w :=
  h1 Q hQ h2 h3 h4
end
end Go.Gb

/- General part of the proofs: function values. -/
namespace Go.Gb
section
variable {P : Program} {o : Oper} {a a0 : Act} {k k' k0 : K} {α β γ δ : Type} [Enc α] [Enc β] [Enc γ] [Enc δ]

/-- A function value that computes g. -/
def IsFn1 (P : Program) (g : α → Option β) : Pred := fun v k =>
  ∃ f first captured, v = .func (.func f) first captured ∧ (∀ args w, (callFunc f args).run P w = .ok (.enter f args) w) ∧
    ∀ k', Le k k' → ∀ x vx y, IsV x vx k' → g x = some y → Calls P f (first ++ #[vx] ++ captured) k'.w (Ret k' (IsV y))
def IsFn2 (P : Program) (g : α → β → Option γ) : Pred := fun v k =>
  ∃ f first captured, v = .func (.func f) first captured ∧ (∀ args w, (callFunc f args).run P w = .ok (.enter f args) w) ∧
    ∀ k', Le k k' → ∀ x vx y vy z, IsV x vx k' → IsV y vy k' → g x y = some z → Calls P f (first ++ #[vx, vy] ++ captured) k'.w (Ret k' (IsV z))
/-- with two results -/
def IsFn2T (P : Program) (g : α → β → Option (γ × δ)) : Pred := fun v k =>
  ∃ f first captured, v = .func (.func f) first captured ∧ (∀ args w, (callFunc f args).run P w = .ok (.enter f args) w) ∧
    ∀ k', Le k k' → ∀ x vx y vy z, IsV x vx k' → IsV y vy k' → g x y = some z → Calls P f (first ++ #[vx, vy] ++ captured) k'.w (Ret k' (IsTup2 (IsV z.1) (IsV z.2)))
instance (g : α → Option β) : Pers (IsFn1 P g) := ⟨fun h ⟨f, fi, c, e, hc, r⟩ => ⟨f, fi, c, e, hc, fun k' hk => r k' (h.trans hk)⟩⟩
instance (g : α → β → Option γ) : Pers (IsFn2 P g) := ⟨fun h ⟨f, fi, c, e, hc, r⟩ => ⟨f, fi, c, e, hc, fun k' hk => r k' (h.trans hk)⟩⟩
instance (g : α → β → Option (γ × δ)) : Pers (IsFn2T P g) := ⟨fun h ⟨f, fi, c, e, hc, r⟩ => ⟨f, fi, c, e, hc, fun k' hk => r k' (h.trans hk)⟩⟩

theorem ok_makeFunc {R : Pred} {fn : Fn} {first captured : List Operand} (ho : o.op = .makeFunc fn first.toArray captured.toArray)
    (h : R (.func fn (first.map a.eval).toArray (captured.map a.eval).toArray) k) : Does P o a k R :=
  does_pure (v := .func fn (first.map a.eval).toArray (captured.map a.eval).toArray) (by simp [execOp, ho, Instr.makeFunc]) h

theorem does_enter {R : Pred} {f : FuncId} {args : Array Value} (hr : (execOp a.eval o).run P k.w = .ok (.enter f args) k.w) (h : Calls P f args k.w (Ret k R)) : Does P o a k R := by
  intro next Q hQ hn
  unfold Oper.wp
  rw [hr]
  refine Calls.mono h fun e w' he => ?_
  cases e with
  | returned v =>
    obtain ⟨k', rfl, hg, hv⟩ := he
    exact hn v k' hg hv
  | panicked c => exact he.elim
  | outgrown => exact he.elim

theorem ok_callF1 {g : α → Option β} {fx x : Operand} {ts : Array TypeId} {p : α} {r : β} (ho : o.op = .call { callee := .value fx, args := #[x], argTypes := ts })
    (hf : IsFn1 P g (a.eval fx) k) (hx : IsV p (a.eval x) k) (h : g p = some r) : Does P o a k (IsV r) := by
  obtain ⟨f, fi, c, e, hc, hr⟩ := hf
  refine does_enter (f := f) (args := fi ++ #[a.eval x] ++ c) ?_ (hr k (Le.refl k) _ _ _ hx h)
  simp [execOp, ho, resolve, invoke, Deferred.ofValue, e, hc]
end
end Go.Gb

/- General part of the proofs: other integer types, nil tests, results that belong to the caller. -/
namespace Go.Gb

/-- An integer of another type. -/
structure IK (κ : IntKind) where
  n : Int
  deriving DecidableEq
instance {κ : IntKind} : Inhabited (IK κ) := ⟨⟨0⟩⟩
instance {κ : IntKind} : Enc (IK κ) where
  sz := 1
  agg := false
  rep _ cs x := cs = [.int κ x.n]
  len h := by simp [h]
  mono _ h := h
  one h := by subst h; simp [Value.oneCell']
  agg1 _ := rfl
def IK.shr {κ : IntKind} (x : IK κ) (n : Int) : IK κ := ⟨x.n.fdiv (2 ^ n.toNat)⟩
def IK.add {κ : IntKind} (x y : IK κ) : IK κ := ⟨κ.wrap (x.n + y.n)⟩
def IK.sub {κ : IntKind} (x y : IK κ) : IK κ := ⟨κ.wrap (x.n - y.n)⟩
def IK.mul {κ : IntKind} (x y : IK κ) : IK κ := ⟨κ.wrap (x.n * y.n)⟩

theorem isV_ik {κ : IntKind} {x : IK κ} {v : Value} {k : K} : IsV x v k ↔ v = .int κ x.n :=
  ⟨fun ⟨_, e, r⟩ => by rw [e, r]; rfl, fun e => ⟨[.int κ x.n], e, rfl⟩⟩

section
variable {P : Program} {o : Oper} {a a0 : Act} {k k' k0 : K} {R S : Pred} {α β : Type} [Enc α] [Enc β]

theorem run_convert {t u : TypeId} {κ κ' : IntKind} {n : Int} {w : World} (ht : (P.underlying t).isSome = true) (hu : P.underlying u = some (.int κ')) : (convert t u (.int κ n)).run P w = .ok (.int κ' (κ'.wrap n)) w := by
  obtain ⟨d, hd⟩ := Option.isSome_iff_exists.1 ht
  simp [convert, run_underlying hd, run_underlying hu, Conv.intToInt]
section
variable {t u v : TypeId} {x y : Operand} {κ κ' : IntKind}
theorem ok_conv_ik {n : Int} (ho : o.op = .convert t u x) (ht : (P.underlying t).isSome = true) (hu : P.underlying u = some (.int κ')) (hx : IsV n (a.eval x) k) : Does P o a k (IsV (IK.mk (κ'.wrap n) : IK κ')) := by
  have hx := isV_int.1 hx
  refine does_pure (v := .int κ' (κ'.wrap n)) ?_ (isV_ik.2 rfl)
  simp only [execOp, ho, hx]
  simp [run_convert (P := P) (κ := .i64) (n := n) ht hu]
theorem ok_conv_ki {n : IK κ} (ho : o.op = .convert t u x) (ht : (P.underlying t).isSome = true) (hu : P.underlying u = some (.int .i64)) (hx : IsV n (a.eval x) k) : Does P o a k (IsV (IntKind.i64.wrap n.n)) := by
  have hx := isV_ik.1 hx
  refine does_pure (v := .int .i64 (IntKind.i64.wrap n.n)) ?_ (isV_int.2 rfl)
  simp only [execOp, ho, hx]
  simp [run_convert (P := P) (κ := κ) (n := n.n) ht hu]
end

section
variable {t u : TypeId} {x y : Operand} {κ κ' : IntKind} {n m : IK κ}
theorem ok_shrK {c : IntKind} {b : Int} (ho : o.op = .binOp .shr t x (.const (.int c b)) u) (hx : IsV n (a.eval x) k) (h0 : 0 ≤ b) (h1 : b.toNat ≤ κ.bits) : Does P o a k (IsV (n.shr b)) := by
  have hx := isV_ik.1 hx
  have ev : a.eval (.const (.int c b)) = .int c b := rfl
  refine does_pure (v := .int κ (n.n.fdiv (2 ^ b.toNat))) ?_ (isV_ik.2 rfl)
  simp only [execOp, ho, hx, ev]
  have h2 : ¬ b < 0 := by omega
  simp [eqGuard, binOp, Op.shift, h2, Nat.min_eq_left h1]
end

/-- Of a test whether a slice is nil. -/
def IsNT (xs : List α) : Pred := fun v _ => ∃ b, v = .bool b ∧ (b = true → xs = [])
instance (xs : List α) : Pers (IsNT xs) := ⟨fun _ h => h⟩
theorem ok_eqNil {t e u : TypeId} {x : Operand} {xs : List α} (ho : o.op = .binOp .eql t x (.const (.slice none 0 0)) u) (hu : P.underlying t = some (.slice e)) (hx : Readable xs (a.eval x) k) : Does P o a k (IsNT xs) := by
  have ev : a.eval (.const (.slice none 0 0)) = .slice none 0 0 := rfl
  have hr : ∀ (ad : Option Addr) (n c : Nat), (Op.equal t (.slice ad n c) (.slice none 0 0)).run P k.w = .ok ad.isNone k.w := fun ad n c => by
    show (Op.equalIn (9999 + 1) t _ _).run P k.w = _
    rw [Op.equalIn]
    cases ad <;> simp [run_underlying hu]
  rcases hx with ⟨e1, rfl⟩ | ⟨ad, cap, cs, e1, _⟩
  · refine does_pure (v := .bool true) ?_ ⟨true, rfl, fun _ => rfl⟩
    simp only [execOp, ho, e1, ev]
    simp [eqGuard, binOp, hr]
  · refine does_pure (v := .bool false) ?_ ⟨false, rfl, fun h => by simp at h⟩
    simp only [execOp, ho, e1, ev]
    simp [eqGuard, binOp, hr]

theorem IsOwn.raise {B : Nat} {e : TypeId} {xs : List α} {v : Value} (h : IsOwn B e xs v k) (hl : Lo k0 (obF v)) : IsOwn k0.w.heap.size e xs v k := by
  rcases h with r | r | ⟨b', off, cap, cur, cs, rfl, hB, ho, hh, hc, h0, r⟩
  · exact .inl r
  · exact .inr (.inl r)
  · exact .inr (.inr ⟨b', off, cap, cur, cs, rfl, hl b' (by simp [obF, ob, Nat.ne_of_gt h0]), ho, hh, hc, h0, r⟩)
/-- A result that is the caller's own can be handed to all. -/
theorem ret_give {f : FuncId} {args : Array Value} {e : TypeId} {xs : List α} (h : Calls P f args k.w (Ret k (IsOwn k.w.heap.size e xs))) : Calls P f args k.w (Ret k (IsV xs)) := h.mono fun en w' he => by
  cases en with
  | returned v =>
    obtain ⟨k', rfl, hg, hv⟩ := he
    obtain ⟨k2, hs, hg2, hv2⟩ := hv.hand hg (Nat.le_refl _)
    exact ⟨k2, hs.w, hg2, hv2⟩
  | panicked c => exact he
  | outgrown => exact he
theorem ret_weaken {f : FuncId} {args : Array Value} {e : TypeId} {xs : List α} {B : Nat} (hB : B ≤ k.w.heap.size) (h : Calls P f args k.w (Ret k (IsOwn k.w.heap.size e xs))) : Calls P f args k.w (Ret k (IsOwn B e xs)) := h.mono fun en w' he => by
  cases en with
  | returned v =>
    obtain ⟨k', rfl, hg, hv⟩ := he
    exact ⟨k', rfl, hg, hv.weaken hB⟩
  | panicked c => exact he
  | outgrown => exact he
theorem enterK {F : FP} {f : FuncId} {fn : Func} {c : Code} {args : Array Value} {n : Nat} (hf : P.funcs[f]? = some fn) (hb : fn.body = some c) (hn : fn.ntmps = n) (hl : args.size ≤ n)
    (h : ∀ (a : Act) (q : K), q = k → a.tmps.size = n → a.defers = [] → ArgsAre a 0 args.toList → c.wp P (bodyPost P fn (RetC F k R)) a q.w) : Calls P f args k.w (RetC F k R) :=
  enterC hf hb hn hl fun a hs hd ha => h a k rfl hs hd ha
end
end Go.Gb

/- General part of the proofs: operations of any kind behind the others; slices of the call's own that are only read by a call; pointers to elements. -/
namespace Go.Gb
section
variable {P : Program} {o : Oper} {a a0 : Act} {k k' k0 : K} {R S T : Pred} {α β : Type} [Enc α] [Enc β]

instance [Pers R] [Pers S] : Pers (IsTup2 R S) := ⟨fun h ⟨x, y, e, a, b⟩ => ⟨x, y, e, Pers.pers h a, Pers.pers h b⟩⟩
theorem Rsc.mono {F : FP} {R : FP → Pred} [Rsc R] {v : Value} (g : Grow k k') (h : R F v k) : R F v k' := Rsc.grow h g

/-- A value that says nothing of memory. -/
class Flat (R : Pred) : Prop where
  flat : ∀ {v k k'}, R v k → R v k'
instance {x : Int} : Flat (IsV x) := ⟨fun h => isV_int.2 (isV_int.1 h)⟩
instance {x : Bool} : Flat (IsV x) := ⟨fun h => isV_bool.2 (isV_bool.1 h)⟩
instance {x : ByteArray} : Flat (IsV x) := ⟨fun h => isV_str.2 (isV_str.1 h)⟩
instance {κ : IntKind} {x : IK κ} : Flat (IsV x) := ⟨fun h => isV_ik.2 (isV_ik.1 h)⟩
instance [Flat R] [Flat S] : Flat (IsTup2 R S) := ⟨fun ⟨x, y, e, a, b⟩ => ⟨x, y, e, Flat.flat a, Flat.flat b⟩⟩
end
end Go.Gb

/- General part of the proofs: copying into a slice of the call's own. -/
namespace Go.Gb

end Go.Gb

/- General part of the proofs: maps of the call's own. -/
namespace Go.Gb

def getK {κ β : Type} [DecidableEq κ] : List (κ × β) → κ → Option β
  | [], _ => none
  | (a, v) :: l, n => if n = a then some v else getK l n
def setK {κ β : Type} [DecidableEq κ] : List (κ × β) → κ → β → List (κ × β)
  | [], n, v => [(n, v)]
  | (a, u) :: l, n, v => if n = a then (a, v) :: l else (a, u) :: setK l n v

/-- Block b is a map of the call's own with these entries. -/
structure MapB {κ : Type} (kv : κ → Value) (b : Nat) (l : List (κ × Value)) (k : K) : Prop where
  own : ¬ k.sh b
  is : ∃ es clk, k.w.heap[b]? = some (.map es clk) ∧ es.toList.map (fun e => (e.key, e.val)) = l.map (fun p => (kv p.1, p.2))

section
variable {P : Program} {o : Oper} {a a0 : Act} {k k' k0 : K} {R S T : Pred} {κ : Type} [DecidableEq κ] {kv : κ → Value} {F G : FP}

omit [DecidableEq κ] in
theorem MapB.lt {b : Nat} {l : List (κ × Value)} (h : MapB kv b l k) : b < k.w.heap.size := by
  obtain ⟨_, es, clk, h, _⟩ := h
  exact (Array.getElem?_eq_some_iff.1 h).1
omit [DecidableEq κ] in
theorem MapB.keep {b : Nat} {l : List (κ × Value)} (h : MapB kv b l k) (g : Chg G k k') (hG : ¬ G b) : MapB kv b l k' := by
  have hlt := h.lt
  obtain ⟨ho, es, clk, h, r⟩ := h
  exact ⟨fun hs => ho (g.new' b hlt hG hs), es, clk, by rw [g.blk b hlt hG]; exact h, r⟩
omit [DecidableEq κ] in
theorem MapB.handed {b : Nat} {l : List (κ × Value)} (h : MapB kv b l k) (g : Handed k k' G) (hG : ¬ G b) : MapB kv b l k' := by
  obtain ⟨ho, es, clk, h, r⟩ := h
  exact ⟨fun hs => (g.sh b hs).elim ho hG, es, clk, by rw [g.w]; exact h, r⟩

end
end Go.Gb
namespace Go.Gb
end Go.Gb
namespace Go.Gb
end Go.Gb

/- General part of the proofs: maps of the call's own with slices of the call's own as values. -/
namespace Go.Gb
section
variable {P : Program} {o : Oper} {a a0 : Act} {k k' k0 : K} {κ α : Type} [DecidableEq κ] [Enc α] {kv : κ → Value} {F G : FP}

/-- the nil slice -/
def nilS : Value := .slice none 0 0

def keysV (T : List (κ × Value × List α)) : List (κ × Value) := T.map fun t => (t.1, t.2.1)
def keysX (T : List (κ × Value × List α)) : List (κ × List α) := T.map fun t => (t.1, t.2.2)

/-- The slices but that of key n are the call's own, apart from each other. -/
structure Others (e : TypeId) (T : List (κ × Value × List α)) (n : κ) (k : K) : Prop where
  nodup : (T.map (·.1)).Nodup
  own : ∀ t ∈ T, t.1 ≠ n → IsOwn 0 e t.2.2 t.2.1 k
  ap : ∀ s ∈ T, ∀ t ∈ T, s.1 ≠ n → t.1 ≠ n → s.1 ≠ t.1 → Apart (obF s.2.1) (obF t.2.1)
def othF (T : List (κ × Value × List α)) (n : κ) : FP := fun c => ∃ t ∈ T, t.1 ≠ n ∧ obF t.2.1 c

theorem getK_map {γ δ : Type} (f : γ → δ) : ∀ (T : List (κ × γ)) (n : κ), getK (T.map fun t => (t.1, f t.2)) n = (getK T n).map f
  | [], _ => rfl
  | (a, v) :: T, n => by
    simp only [List.map_cons, getK]
    split
    · rfl
    · exact getK_map f T n
theorem setK_map {γ δ : Type} (f : γ → δ) : ∀ (T : List (κ × γ)) (n : κ) (v : γ), setK (T.map fun t => (t.1, f t.2)) n (f v) = (setK T n v).map fun t => (t.1, f t.2)
  | [], _, _ => rfl
  | (a, u) :: T, n, v => by
    simp only [List.map_cons, setK]
    split
    · rfl
    · simp [setK_map f T n v]
theorem getK_none {γ : Type} : ∀ {T : List (κ × γ)} {n : κ}, getK T n = none → ∀ t ∈ T, t.1 ≠ n
  | [], _, _, t, ht => by simp at ht
  | (a, u) :: T, n, h, t, ht => by
    simp only [getK] at h
    split at h
    · simp at h
    · rename_i hne
      rcases List.mem_cons.1 ht with rfl | ht
      · exact fun e => hne e.symm
      · exact getK_none h t ht
theorem setK_mem {γ : Type} : ∀ {T : List (κ × γ)} {n : κ} {v : γ} {t : κ × γ}, (T.map (·.1)).Nodup → t ∈ setK T n v → t = (n, v) ∨ (t ∈ T ∧ t.1 ≠ n)
  | [], _, _, t, _, h => by simp [setK] at h; exact .inl h
  | (a, u) :: T, n, v, t, hn, h => by
    simp only [List.map_cons, List.nodup_cons] at hn
    simp only [setK] at h
    split at h
    · rename_i e
      subst e
      rcases List.mem_cons.1 h with rfl | h
      · exact .inl rfl
      · exact .inr ⟨List.mem_cons_of_mem _ h, fun e => hn.1 (by rw [← e]; exact List.mem_map_of_mem h)⟩
    · rename_i hne
      rcases List.mem_cons.1 h with rfl | h
      · exact .inr ⟨by simp, fun e => hne e.symm⟩
      · rcases setK_mem hn.2 h with h | h
        · exact .inl h
        · exact .inr ⟨List.mem_cons_of_mem _ h.1, h.2⟩
theorem setK_keys {γ : Type} : ∀ (T : List (κ × γ)) (n : κ) (v : γ), (T.map (·.1)).Nodup → ((setK T n v).map (·.1)).Nodup
  | [], _, _, _ => by simp [setK]
  | (a, u) :: T, n, v, hn => by
    simp only [List.map_cons, List.nodup_cons] at hn
    simp only [setK]
    split
    · simp only [List.map_cons, List.nodup_cons]; exact hn
    · rename_i hne
      simp only [List.map_cons, List.nodup_cons]
      refine ⟨fun h => ?_, setK_keys T n v hn.2⟩
      obtain ⟨t, ht, he⟩ := List.mem_map.1 h
      rcases setK_mem hn.2 ht with h | h
      · rw [h] at he; exact hne he
      · exact hn.1 (by rw [← he]; exact List.mem_map_of_mem h.1)
theorem setK_same {γ : Type} : ∀ {T : List (κ × γ)} {n : κ} {v : γ}, getK T n = some v → setK T n v = T
  | [], _, _, h => by simp [getK] at h
  | (a, u) :: T, n, v, h => by
    simp only [getK] at h
    simp only [setK]
    split at h
    · rename_i e; subst e; simp at h; subst h; simp
    · rename_i hne; rw [if_neg hne, setK_same h]

/-- A map with slices of the call's own; the slice of key n, which is u, is left out. -/
def HoleR (kv : κ → Value) (e : TypeId) (m : List (κ × List α)) (n : κ) (b : Nat) (u : Value) : FP → Pred := fun F v k =>
  ∃ T : List (κ × Value × List α), v = .map (some b) ∧ m = keysX T ∧ MapB kv b (keysV T) k ∧ Others e T n k ∧ (getK (keysV T) n).getD nilS = u ∧ F = fun c => c = b ∨ othF T n c
/-- A map with slices of the call's own. -/
def SlR (kv : κ → Value) (e : TypeId) (m : List (κ × List α)) : FP → Pred := fun F v k =>
  ∃ b, ∃ T : List (κ × Value × List α), v = .map (some b) ∧ m = keysX T ∧ MapB kv b (keysV T) k ∧ (T.map (·.1)).Nodup ∧ (∀ t ∈ T, IsOwn 0 e t.2.2 t.2.1 k) ∧
    (∀ s ∈ T, ∀ t ∈ T, s.1 ≠ t.1 → Apart (obF s.2.1) (obF t.2.1)) ∧ F = fun c => c = b ∨ ∃ t ∈ T, obF t.2.1 c

instance (m : List (κ × List α)) (e : TypeId) (n : κ) (b : Nat) (u : Value) : Rsc (HoleR kv e m n b u) where
  keep := fun ⟨T, e1, e2, hb, ho, hu, eF⟩ g hs hn => ⟨T, e1, e2, hb.keep g (hs b (by rw [eF]; exact .inl rfl)),
    ⟨ho.nodup, fun t ht hne => (ho.own t ht hne).keep g (fun c hc => hs c (by rw [eF]; exact .inr ⟨t, ht, hne, hc⟩)) hn, ho.ap⟩, hu, eF⟩
  handed := fun ⟨T, e1, e2, hb, ho, hu, eF⟩ g hs => ⟨T, e1, e2, hb.handed g (hs b (by rw [eF]; exact .inl rfl)),
    ⟨ho.nodup, fun t ht hne => (ho.own t ht hne).handed g (fun c hc => hs c (by rw [eF]; exact .inr ⟨t, ht, hne, hc⟩)), ho.ap⟩, hu, eF⟩
  lt := fun ⟨T, e1, e2, hb, ho, hu, eF⟩ c hc => by
    rw [eF] at hc
    rcases hc with rfl | ⟨t, ht, hne, hc⟩
    · exact hb.lt
    · exact (ho.own t ht hne).ltF c hc
  nsh := fun ⟨T, e1, e2, hb, ho, hu, eF⟩ c hc => by
    rw [eF] at hc
    rcases hc with rfl | ⟨t, ht, hne, hc⟩
    · exact hb.own
    · exact (ho.own t ht hne).nshF c hc
instance (m : List (κ × List α)) (e : TypeId) : Rsc (SlR kv e m) where
  keep := fun ⟨b, T, e1, e2, hb, hd, ho, ha, eF⟩ g hs hn => ⟨b, T, e1, e2, hb.keep g (hs b (by rw [eF]; exact .inl rfl)), hd,
    fun t ht => (ho t ht).keep g (fun c hc => hs c (by rw [eF]; exact .inr ⟨t, ht, hc⟩)) hn, ha, eF⟩
  handed := fun ⟨b, T, e1, e2, hb, hd, ho, ha, eF⟩ g hs => ⟨b, T, e1, e2, hb.handed g (hs b (by rw [eF]; exact .inl rfl)), hd,
    fun t ht => (ho t ht).handed g (fun c hc => hs c (by rw [eF]; exact .inr ⟨t, ht, hc⟩)), ha, eF⟩
  lt := fun ⟨b, T, e1, e2, hb, hd, ho, ha, eF⟩ c hc => by
    rw [eF] at hc
    rcases hc with rfl | ⟨t, ht, hc⟩
    · exact hb.lt
    · exact (ho t ht).ltF c hc
  nsh := fun ⟨b, T, e1, e2, hb, hd, ho, ha, eF⟩ c hc => by
    rw [eF] at hc
    rcases hc with rfl | ⟨t, ht, hc⟩
    · exact hb.own
    · exact (ho t ht).nshF c hc

theorem SlR.make {e : TypeId} {T : List (κ × Value × List α)} {b : Nat} {n : κ} {u : Value} {xs : List α} (ho : Others e T n k) (hb : MapB kv b (setK (keysV T) n u) k) (hx : IsOwn 0 e xs u k) (ha : Apart (othF T n) (obF u)) :
    SlR kv e (setK (keysX T) n xs) (fun c => (c = b ∨ othF T n c) ∨ obF u c) (.map (some b)) k := by
  refine ⟨b, setK T n (u, xs), rfl, ?_, ?_, setK_keys T n _ ho.nodup, ?_, ?_, ?_⟩
  · unfold keysX; exact setK_map (fun t : Value × List α => t.2) T n (u, xs)
  · unfold keysV at hb ⊢
    rw [← setK_map (fun t : Value × List α => t.1) T n (u, xs)]
    exact hb
  · intro t ht
    rcases setK_mem ho.nodup ht with rfl | ⟨h1, h2⟩
    · exact hx
    · exact ho.own t h1 h2
  · intro s hs t ht hst
    rcases setK_mem ho.nodup hs with rfl | ⟨h1, h2⟩
    · rcases setK_mem ho.nodup ht with rfl | ⟨h3, h4⟩
      · exact absurd rfl hst
      · exact Apart.symm fun c hc => ha c ⟨t, h3, h4, hc⟩
    · rcases setK_mem ho.nodup ht with rfl | ⟨h3, h4⟩
      · exact fun c hc => ha c ⟨s, h1, h2, hc⟩
      · exact ho.ap s h1 t h3 h2 h4 hst
  · funext c
    refine propext ⟨?_, ?_⟩
    · rintro ((rfl | ⟨t, ht, hne, hc⟩) | hc)
      · exact .inl rfl
      · refine .inr ⟨t, ?_, hc⟩
        have key : ∀ (T : List (κ × Value × List α)), t ∈ T → t ∈ setK T n (u, xs) := by
          intro T
          induction T with
          | nil => simp
          | cons x T ih =>
            intro h
            obtain ⟨a, y⟩ := x
            simp only [setK]
            rcases List.mem_cons.1 h with rfl | h
            · rw [if_neg (Ne.symm hne)]; simp
            · split
              · exact List.mem_cons_of_mem _ h
              · exact List.mem_cons_of_mem _ (ih h)
        exact key T ht
      · refine .inr ⟨(n, u, xs), ?_, hc⟩
        have key : ∀ (T : List (κ × Value × List α)), (n, u, xs) ∈ setK T n (u, xs) := by
          intro T
          induction T with
          | nil => simp [setK]
          | cons x T ih =>
            obtain ⟨a, y⟩ := x
            simp only [setK]
            split
            · rename_i e; simp [e]
            · exact List.mem_cons_of_mem _ ih
        exact key T
    · rintro (rfl | ⟨t, ht, hc⟩)
      · exact .inl (.inl rfl)
      · rcases setK_mem ho.nodup ht with rfl | ⟨h3, h4⟩
        · exact .inr hc
        · exact .inl (.inr ⟨t, h3, h4, hc⟩)

/-- What becomes of the map when the slice at key n has other elements. -/
def backK {γ : Type} (m : List (κ × γ)) (n : κ) (xs : γ) : List (κ × γ) := if (getK m n).isNone then m else setK m n xs
/-- The slice that was taken out is put back, with other elements. -/
theorem HoleR.close {m : List (κ × List α)} {e : TypeId} {n : κ} {b : Nat} {u v : Value} {xs : List α} (h : HoleR kv e m n b u F v k) (hx : IsOwn 0 e xs u k) (ha : Apart F (obF u)) :
    ∃ G, SlR kv e (backK m n xs) G v k ∧ (∀ c, G c → F c ∨ obF u c) := by
  obtain ⟨T, e1, e2, hb, ho, hu, eF⟩ := h
  subst eF
  cases hg : getK (keysV T) n with
  | some w =>
    rw [hg] at hu
    simp only [Option.getD_some] at hu
    subst hu
    have hset : setK (keysV T) n w = keysV T := setK_same hg
    have hgm : (getK m n).isNone = false := by
      rw [e2]
      unfold keysV at hg
      unfold keysX
      rw [getK_map (fun t : Value × List α => t.1)] at hg
      rw [getK_map (fun t : Value × List α => t.2)]
      cases hT : getK T n with
      | none => rw [hT] at hg; simp at hg
      | some t => rfl
    refine ⟨_, ?_, fun c hc => hc⟩
    unfold backK
    rw [if_neg (by rw [hgm]; decide), e1, e2]
    exact SlR.make ho (by rw [hset]; exact hb) hx fun c hc => ha c (.inr hc)
  | none =>
    rw [hg] at hu
    simp only [Option.getD_none] at hu
    subst hu
    have hgm : getK m n = none := by
      rw [e2]
      unfold keysV at hg
      unfold keysX
      rw [getK_map (fun t : Value × List α => t.1)] at hg
      rw [getK_map (fun t : Value × List α => t.2)]
      simp at hg ⊢
      exact hg
    have hne : ∀ t ∈ T, t.1 ≠ n := by
      unfold keysV at hg
      rw [getK_map (fun t : Value × List α => t.1)] at hg
      simp at hg
      exact getK_none hg
    have hbk : backK m n xs = m := by unfold backK; rw [if_pos (by rw [hgm]; rfl)]
    rw [hbk]
    refine ⟨_, ⟨b, T, e1, e2, hb, ho.nodup, fun t ht => ho.own t ht (hne t ht), fun s hs t ht hst => ho.ap s hs t ht (hne s hs) (hne t ht) hst, rfl⟩, ?_⟩
    rintro c (rfl | ⟨t, ht, hc⟩)
    · exact .inl (.inl rfl)
    · exact .inl (.inr ⟨t, ht, hne t ht, hc⟩)

end
end Go.Gb

/- General part of the proofs: maps that nothing writes to any more. -/
namespace Go.Gb

/-- A map, as a list of its entries. -/
structure GMap (κ α : Type) where
  l : List (κ × α)
  deriving Inhabited
/-- What the map has at a key. -/
def GMap.get {κ α : Type} [DecidableEq κ] (m : GMap κ α) (n : κ) : Option α := getK m.l n

class KeyV (κ : Type) where
  kv : κ → Value
instance : KeyV Int := ⟨Value.int .i64⟩
instance : KeyV ByteArray := ⟨Value.string⟩

/-- A map that nothing writes to. -/
def MapRep {κ α : Type} [KeyV κ] [Enc α] (k : K) (v : Value) (m : GMap κ α) : Prop :=
  (v = .map none ∧ m.l = []) ∨ ∃ b es clk, ∃ T : List (κ × Value × α), v = .map (some b) ∧ k.sh b ∧ k.w.heap[b]? = some (.map es clk) ∧ m.l = T.map (fun t => (t.1, t.2.2)) ∧
    es.toList.map (fun e => (e.key, e.val)) = (T.map fun t => (t.1, t.2.1)).map (fun p => (KeyV.kv p.1, p.2)) ∧ ∀ t ∈ T, IsV t.2.2 t.2.1 k
instance {κ α : Type} [KeyV κ] [Enc α] : Enc (GMap κ α) where
  sz := 1
  agg := false
  rep k cs m := ∃ v, cs = [v] ∧ MapRep k v m
  len h := by obtain ⟨v, rfl, _⟩ := h; rfl
  mono h r := by
    obtain ⟨v, rfl, r⟩ := r
    refine ⟨v, rfl, ?_⟩
    rcases r with r | ⟨b, es, clk, T, e1, hs, hh, e2, e3, hT⟩
    · exact .inl r
    · exact .inr ⟨b, es, clk, T, e1, h.up _ hs, by rw [h.blk _ hs]; exact hh, e2, e3, fun t ht => Pers.pers h (hT t ht)⟩
  one h := by
    obtain ⟨v, rfl, r⟩ := h
    rcases r with ⟨rfl, _⟩ | ⟨b, es, clk, T, rfl, _⟩ <;> simp [Value.oneCell']
  agg1 _ := rfl

theorem isV_map {κ α : Type} [KeyV κ] [Enc α] {m : GMap κ α} {v : Value} {k : K} : IsV m v k ↔ MapRep k v m :=
  ⟨fun ⟨_, e, u, h, r⟩ => by subst h; subst e; exact r, fun r => ⟨[v], rfl, v, rfl, r⟩⟩

section
variable {P : Program} {o : Oper} {a a0 : Act} {k k' k0 : K} {κ α : Type} [DecidableEq κ] [KeyV κ] [Enc α] {F G : FP}

/-- Many blocks are handed over at once. -/
def K.shareF (k : K) (F : FP) (hF : ∀ b, F b → b < k.w.heap.size) : K := ⟨k.w, fun i => k.sh i ∨ F i, fun i hi => hi.elim (k.lt i) (hF i)⟩
theorem handed_F (k : K) (F : FP) (hF : ∀ b, F b → b < k.w.heap.size) : Handed k (k.shareF F hF) F := ⟨rfl, ⟨fun _ _ => rfl, fun _ h => .inl h⟩, fun _ h => h⟩

theorem IsOwn.shareF {B : Nat} {e : TypeId} {xs : List α} {v : Value} (h : IsOwn B e xs v k) (hh : Handed k k' G) (hG : ∀ b, obF v b → k'.sh b) : IsV xs v k' := by
  rcases h with r | ⟨ad, rfl, rfl⟩ | ⟨b, off, cap, cur, cs, rfl, hBb, ho, hb, hc, h0, hm, hs, ht, hr⟩
  · exact isV_list.2 (.inl r)
  · exact isV_list.2 (.inr (.inl ⟨ad, rfl, rfl⟩))
  · subst ht
    refine isV_list.2 (.inr (.inr ⟨_, cap, _, rfl, hc, hG b (by simp [obF, ob, Nat.ne_of_gt h0]), hr.mono hh.le, ?_⟩))
    rw [hh.w]
    exact cellsAt_row (n := xs.length * Enc.sz α) hb (by have := Nat.mul_le_mul_right (Enc.sz α) hc; omega)

omit [DecidableEq κ] in
theorem SlR.give {m : List (κ × List α)} {e : TypeId} {v : Value} (h : SlR KeyV.kv e m F v k) : ∃ k', Handed k k' F ∧ IsV (GMap.mk m) v k' := by
  have hlt := Rsc.lt h
  obtain ⟨b, T, e1, e2, hb, hd, ho, ha, eF⟩ := h
  have hh := handed_F k F hlt
  obtain ⟨_, es, clk, hm, hr⟩ := hb
  refine ⟨_, hh, isV_map.2 (.inr ⟨b, es, clk, T, e1, .inr (by rw [eF]; exact .inl rfl), hm, e2, hr, fun t ht => (ho t ht).shareF hh fun c hc => .inr (by rw [eF]; exact .inr ⟨t, ht, hc⟩)⟩)⟩
omit [DecidableEq κ] in
theorem SlR.new {e : TypeId} {v : Value} {b0 : Nat} (h : ∃ b, v = .map (some b) ∧ b0 ≤ b ∧ MapB (KeyV.kv (κ := κ)) b [] k) : ∃ F, SlR (α := α) (KeyV.kv (κ := κ)) e [] F v k ∧ ∀ c, F c → b0 ≤ c := by
  obtain ⟨b, e1, hb0, hb⟩ := h
  refine ⟨_, ⟨b, [], e1, rfl, hb, by simp, fun t ht => by simp at ht, fun s hs => by simp at hs, rfl⟩, ?_⟩
  rintro c (rfl | ⟨t, ht, _⟩)
  · exact hb0
  · simp at ht

end
end Go.Gb

/- General part of the proofs: parts of slices of the call's own. -/
namespace Go.Gb
section
variable {P : Program} {o : Oper} {a a0 : Act} {k k' k0 : K} {α : Type} [Enc α] {F G : FP}

end
end Go.Gb
namespace Go.Gb
end Go.Gb

/- General part of the proofs: what comes in as data stands for values of Lean; the row of a law. -/
namespace Go.Gb

/-- The world, all of whose blocks are shared. -/
def kOf (W : World) : K := ⟨W, fun b => b < W.heap.size, fun _ h => h⟩

/-- What integers that come in are. -/
class Rg (α : Type) where
  rg : α → Prop
  /-- how many values lie in lists in it -/
  bk : α → Nat
instance : Rg Int := ⟨inI, fun _ => 0⟩
instance : Rg Bool := ⟨fun _ => True, fun _ => 0⟩
instance : Rg ByteArray := ⟨fun b => b.size ≤ maxLen, fun _ => 0⟩
def bkL {α : Type} (f : α → Nat) : List α → Nat
  | [] => 0
  | x :: l => f x + 1 + bkL f l
theorem bkL_append {α : Type} (f : α → Nat) : ∀ l m : List α, bkL f (l ++ m) = bkL f l + bkL f m
  | [], m => by simp [bkL]
  | x :: l, m => by simp only [List.cons_append, bkL, bkL_append f l m]; omega
mutual
/-- how much a reading holds -/
def bulkD {H : Type} : DataW H → Nat
  | .lit (.string bytes) => bytes.length + 1
  | .lit _ => 1
  | .nil => 1
  | .ptr d => bulkD d + 1
  | .slice elems spare => bulkDs elems + bulkDs spare + 1
  | .agg parts => bulkDs parts + 1
  | .iface _ d => bulkD d + 1
  | .map entries => bulkEs entries + 1
  | .held _ => 1
def bulkDs {H : Type} : List (DataW H) → Nat
  | [] => 0
  | d :: r => bulkD d + bulkDs r
def bulkEs {H : Type} : List (Lit × DataW H) → Nat
  | [] => 0
  | x :: r => bulkEn x + bulkEs r
def bulkEn {H : Type} : Lit × DataW H → Nat
  | (.string bytes, d) => bytes.length + bulkD d + 1
  | (_, d) => bulkD d + 1
end
theorem bulk1 {H : Type} (d : DataW H) : 1 ≤ bulkD d := by
  cases d with
  | lit l => cases l <;> simp [bulkD]
  | _ => simp [bulkD]
theorem bulkDs_append {H : Type} : ∀ l r : List (DataW H), bulkDs (l ++ r) = bulkDs l + bulkDs r
  | [], r => by simp [bulkDs]
  | x :: l, r => by simp only [List.cons_append, bulkDs, bulkDs_append l r]; omega
/-- a list takes less than 2^47 bytes -/
def reachLen : Nat := 140737488351232
instance {α : Type} [Rg α] : Rg (List α) := ⟨fun l => l.length ≤ reachLen ∧ ∀ x ∈ l, Rg.rg x, bkL Rg.bk⟩
instance {α β : Type} [Rg α] [Rg β] : Rg (α × β) := ⟨fun p => Rg.rg p.1 ∧ Rg.rg p.2, fun p => Rg.bk p.1 + Rg.bk p.2⟩
@[reducible] def Rg.ofMap {σ β : Type} [Rg β] (f : σ → β) : Rg σ := ⟨fun x => Rg.rg (f x), fun x => Rg.bk (f x)⟩

def RdC (P : Program) (t : TypeId) (α : Type) [Enc α] [Rg α] : Prop :=
  ∀ {H : Type} (enc : TypeId × Value → H) (W : World) (fuel : Nat) (cs : List Value) (x : DataW H × List MemPlace),
    DataW.trod enc P W 0 (fun _ => true) true fuel t cs = some x → (∀ n ∈ DataW.weights P t x.1, n ≤ reachBytes) → ∃ y : α, Enc.rep (kOf W) cs y ∧ Rg.rg y ∧ Rg.bk y + 1 ≤ bulkD x.1
theorem weights_all {H : Type} {P : Program} {e : TypeId} {d : DataW H} {n : Nat} (hn : n ∈ DataW.weights P e d) : ∀ {l : List (DataW H)}, d ∈ l → n ∈ DataW.weightsAll P e l
  | x :: l, h => by
    simp only [DataW.weightsAll, List.mem_append]
    rcases List.mem_cons.1 h with rfl | h
    · exact .inl hn
    · exact .inr (weights_all hn h)
/-- What is read as data at this Go type stands for a value of the Lean type. -/
structure Rd (P : Program) (t : TypeId) (α : Type) [Enc α] [Rg α] : Prop where
  rd : RdC P t α
  sh : ∀ (W : World) (r : Reach) (base : Nat) (v : Value), Value.okWide P W r base t v → v = mkV (Enc.agg α) v.cells.toList

section
variable {P : Program} {t e : TypeId} {α β σ : Type} [Enc α] [Enc β] [Rg α] [Rg β]

theorem rd_int (hu : P.underlying t = some (.int .i64)) : Rd P t Int where
  rd {H} enc W fuel cs x h _ := by
    obtain ⟨n, rfl, _, hw⟩ := DataW.trod_int hu h
    refine ⟨n, rfl, ?_, bulk1 _⟩
    simp [Lit.wf, IntKind.min, IntKind.max, IntKind.bits, IntKind.signed] at hw
    exact hw
  sh W r base v h := by
    obtain ⟨n, rfl⟩ := WideShapes.okWide_int hu h
    rfl
theorem cell_at {W : World} {a : Addr} {u : Value} (h : W.cell? a = some u) : a.spot = none ∧ ∃ arr t fr, W.heap[a.block]? = some (.cells arr t fr) ∧ arr[a.off]? = some u := by
  unfold World.cell? at h
  cases hh : W.heap[a.block]? with
  | none => rw [hh] at h; simp at h
  | some o =>
    rw [hh] at h
    cases o with
    | cells arr t fr =>
      simp only at h
      split at h
      · simp at h
      · rename_i hs
        refine ⟨by simpa using hs, arr, t, fr, rfl, h⟩
    | _ => simp at h

theorem add_eq {a : Addr} (ha : a.spot = none) (i : Nat) : a.add i = ⟨a.block, a.off + i, none⟩ := by
  unfold Addr.add
  split
  · rename_i h; subst h; cases a; simp_all
  · rfl

theorem cells_row {W : World} {a : Addr} {n i : Nat} {l : List Value} {arr : Array Value} {t : TypeId} {fr : Nat × Nat} (ha : a.spot = none) (hh : W.heap[a.block]? = some (.cells arr t fr)) (hn : 0 < n) (h : W.cells? 0 (a.add i) n = some l) :
    a.off + i + n ≤ arr.size ∧ l = (arr.toList.drop (a.off + i)).take n := by
  obtain ⟨_, hl, hc⟩ := World.cells?_some h
  rw [add_eq ha] at hc
  have hcell : ∀ j, j < n → arr[a.off + i + j]? = l[j]? := by
    intro j hj
    have hj' := hc j hj
    rw [add_eq rfl, List.getElem?_eq_getElem (by omega)] at hj'
    obtain ⟨_, arr', t', fr', hh', hj2⟩ := cell_at hj'
    simp only at hh'
    rw [hh] at hh'
    simp only [Option.some.injEq, Obj.cells.injEq] at hh'
    obtain ⟨rfl, _⟩ := hh'
    rw [hj2, List.getElem?_eq_getElem (by omega)]
  have hlast := hcell (n - 1) (by omega)
  rw [List.getElem?_eq_getElem (show n - 1 < l.length by omega)] at hlast
  have hlt := (Array.getElem?_eq_some_iff.1 hlast).1
  refine ⟨by omega, List.ext_getElem? fun j => ?_⟩
  by_cases hj : j < n
  · rw [List.getElem?_take, if_pos hj, List.getElem?_drop, ← hcell j hj]
    simp
  · rw [List.getElem?_eq_none (by omega), List.getElem?_eq_none (by simp; omega)]

theorem rd_slice (hu : P.underlying t = some (.slice e)) (hz : P.cellsOf e = Enc.sz α) (h0 : 0 < Enc.sz α) (hby : Nat.ble 1 (P.bytesOf e) = true) (he : Rd P e α) : Rd P t (List α) where
  rd {H} enc W fuel cs x h hwt := by
    rcases DataW.trod_slice hu h with ⟨rfl, _⟩ | ⟨a, len, cap, elems, rest, n, _, rfl, rfl, _, hlc, hcm, hel, hE, hR, _⟩
    · exact ⟨[], ⟨_, rfl, .inl ⟨rfl, rfl⟩⟩, ⟨by simp, fun x hx => by simp at hx⟩, bulk1 _⟩
    · rw [hz] at hE hR
      obtain ⟨hrl, hR⟩ := hR rfl
      simp only [DataW.weights, hu] at hwt
      have hlen : len ≤ reachLen := by
        have h1 := hwt _ (List.mem_cons_self ..)
        rw [List.length_map, List.length_map, hel] at h1
        have h2 := Nat.le_of_ble_eq_true hby
        have h3 : (len + rest.length) * 1 ≤ (len + rest.length) * P.bytesOf e := Nat.mul_le_mul_left _ h2
        show len ≤ 140737488351232
        have h4 : reachBytes = 140737488351232 := rfl
        omega
      by_cases hc0 : cap = 0
      · obtain rfl : len = 0 := by omega
        exact ⟨[], ⟨_, rfl, .inr (.inl ⟨a, by rw [hc0], rfl⟩)⟩, ⟨by simp, fun x hx => by simp at hx⟩, bulk1 _⟩
      · -- the block
        obtain ⟨l0, hl0⟩ : ∃ l0, W.cells? 0 (a.add 0) (Enc.sz α) = some l0 := by
          by_cases hl : 0 < len
          · have := hE 0 hl
            rw [List.getElem?_eq_getElem (by omega), Nat.zero_mul, Option.bind_eq_some_iff] at this
            obtain ⟨l0, h, _⟩ := this
            exact ⟨l0, h⟩
          · have := hR 0 (by omega)
            rw [List.getElem?_eq_getElem (by omega), show (len + 0) * Enc.sz α = 0 by rw [show len = 0 by omega]; simp, Option.bind_eq_some_iff] at this
            obtain ⟨l0, h, _⟩ := this
            exact ⟨l0, h⟩
        have ha0 : a.add 0 = a := by simp [Addr.add]
        obtain ⟨_, hll, hlc0⟩ := World.cells?_some hl0
        have h00 := hlc0 0 h0
        rw [ha0, ha0, List.getElem?_eq_getElem (by omega)] at h00
        obtain ⟨hsp, arr, t', fr, hh, _⟩ := cell_at h00
        have hlt : a.block < W.heap.size := (Array.getElem?_eq_some_iff.1 hh).1
        have key : ∀ m, m ≤ len → ∃ xs : List α, xs.length = m ∧ RepL (kOf W) ((arr.toList.drop a.off).take (m * Enc.sz α)) xs ∧ (∀ x ∈ xs, Rg.rg x) ∧ (m = 0 ∨ a.off + m * Enc.sz α ≤ arr.size) ∧ bkL Rg.bk xs ≤ bulkDs ((elems.take m).map (·.1)) := by
          intro m
          induction m with
          | zero => intro _; exact ⟨[], rfl, by simp [RepL], fun x hx => by simp at hx, .inl rfl, Nat.zero_le _⟩
          | succ m ih =>
            intro hm
            obtain ⟨xs, h1, h2, h3, h4, h5⟩ := ih (by omega)
            have := hE m (by omega)
            rw [List.getElem?_eq_getElem (by omega), Option.bind_eq_some_iff] at this
            obtain ⟨l, hl, htr⟩ := this
            obtain ⟨hsz, rfl⟩ := cells_row hsp hh h0 hl
            obtain ⟨y, hy, hyr, hyb⟩ := he.rd enc W n _ _ htr fun w hw => hwt w (List.mem_cons_of_mem _ (List.mem_append_left _ (weights_all hw (List.mem_map.2 ⟨_, List.getElem_mem (show m < elems.length by omega), rfl⟩))))
            refine ⟨xs ++ [y], by simp [h1], ?_, ?_, .inr (by rw [Nat.add_mul, Nat.one_mul]; omega), by
              rw [bkL_append, List.take_succ_eq_append_getElem (show m < elems.length by omega), List.map_append, bulkDs_append]
              simp only [bkL, List.map_cons, List.map_nil, bulkDs]
              omega⟩
            · have e1 : (arr.toList.drop a.off).take ((m + 1) * Enc.sz α) = (arr.toList.drop a.off).take (m * Enc.sz α) ++ (arr.toList.drop (a.off + m * Enc.sz α)).take (Enc.sz α) := by
                rw [Nat.add_mul, Nat.one_mul, List.take_add, List.drop_drop]
              rw [e1]
              have hly := Enc.len hy
              refine h2.append ⟨?_, ?_⟩
              · rw [List.take_of_length_le (by omega)]; exact hy
              · simp only [RepL]; rw [List.drop_eq_nil_of_le (by omega)]
            · intro x hx
              rcases List.mem_append.1 hx with hx | hx
              · exact h3 x hx
              · simp at hx; rw [hx]; exact hyr
        obtain ⟨xs, h1, h2, h3, h4, h5⟩ := key len (Nat.le_refl _)
        subst h1
        refine ⟨xs, ⟨_, rfl, .inr (.inr ⟨a, cap, _, rfl, hlc, hlt, h2, hsp, arr, t', fr, hh, ?_, ?_⟩)⟩, ⟨hlen, h3⟩, by
          rw [List.take_of_length_le (by omega)] at h5
          show bkL Rg.bk xs + 1 ≤ bulkDs _ + bulkDs _ + 1
          omega⟩
        · have hc1 := (Array.getElem?_eq_some_iff.1 (show arr[a.off]? = some _ from by assumption)).1
          rw [h2.len]
          rcases h4 with h4 | h4
          · rw [h4, Nat.zero_mul]; omega
          · exact h4
        · intro j hj
          rw [List.getElem?_take, if_pos (by rw [h2.len] at hj; exact hj), List.getElem?_drop]
          simp
  sh W r base v h := by
    obtain ⟨a, l, c, rfl⟩ := WideShapes.okWide_slice hu h
    rfl

/-- The fields of a struct, from the offset o on. -/
structure RdF (P : Program) (fs : List Field) (o : Nat) (α : Type) [Enc α] [Rg α] : Prop where
  run : ∀ {H : Type} (enc : TypeId × Value → H) (W : World) (fuel : Nat) (cs : List Value) (ds : List (DataW H)), cs.length = o + Enc.sz α → ds.length = fs.length →
    (∀ (i : Nat) (f : Field) (d : DataW H), fs[i]? = some f → ds[i]? = some d → ∃ ps, DataW.trod enc P W 0 (fun _ => true) true fuel f.type ((cs.drop f.offset).take (P.cellsOf f.type)) = some (d, ps) ∧ ∀ n ∈ DataW.weights P f.type d, n ≤ reachBytes) → ∃ y : α, Enc.rep (kOf W) (cs.drop o) y ∧ Rg.rg y ∧ Rg.bk y ≤ bulkDs ds
theorem RdF.one {f : Field} {o : Nat} (ho : f.offset = o) (hz : P.cellsOf f.type = Enc.sz α) (h : Rd P f.type α) : RdF P [f] o α := by
  refine ⟨?_⟩
  intro H enc W fuel cs ds hl hd hf
  obtain ⟨d, rfl⟩ := List.length_eq_one_iff.1 hd
  obtain ⟨x, hx, hxw⟩ := hf 0 f d rfl rfl
  rw [ho, hz, List.take_of_length_le (by simp; omega)] at hx
  obtain ⟨y, h1, h2, h3⟩ := h.rd enc W fuel _ _ hx hxw
  have h3 : Rg.bk y + 1 ≤ bulkD d := h3
  exact ⟨y, h1, h2, by simp only [bulkDs]; omega⟩
theorem RdF.cons {f : Field} {fs : List Field} {o : Nat} (ho : f.offset = o) (hz : P.cellsOf f.type = Enc.sz α) (h : Rd P f.type α) (g : RdF P fs (o + Enc.sz α) β) : RdF P (f :: fs) o (α × β) := by
  refine ⟨?_⟩
  intro H enc W fuel cs ds hl hd hf
  cases ds with
  | nil => simp at hd
  | cons d ds =>
  obtain ⟨x, hx, hxw⟩ := hf 0 f d rfl rfl
  rw [ho, hz] at hx
  have hl' : cs.length = o + (Enc.sz α + Enc.sz β) := hl
  obtain ⟨y, hy, hyr, hyb⟩ := h.rd enc W fuel _ _ hx hxw
  obtain ⟨z, hz', hzr, hzb⟩ := g.run enc W fuel cs ds (by omega) (by simpa using hd) (fun i f' d' h1 h2 => hf (i + 1) f' d' (by simpa using h1) (by simpa using h2))
  rw [← List.drop_drop] at hz'
  exact ⟨(y, z), ⟨by simp; omega, hy, hz'⟩, ⟨hyr, hzr⟩, by show Rg.bk y + Rg.bk z ≤ bulkD d + bulkDs ds; have hyb : Rg.bk y + 1 ≤ bulkD d := hyb; omega⟩

theorem rd_struct [Enc σ] [Rg σ] {fs : Array Field} {f : σ → β} (g : β → σ) (hu : P.underlying t = some (.struct fs)) (hz : P.cellsOf t = Enc.sz β) (hag : Enc.agg σ = true)
    (hr : ∀ k cs y, Enc.rep (α := β) k cs y → Enc.rep (α := σ) k cs (g y)) (hrg : ∀ y : β, Rg.rg y → Rg.rg (g y)) (h : RdF P fs.toList 0 β) (_hf : ∀ y, f (g y) = y) (hbk : ∀ y : β, Rg.bk (g y) = Rg.bk y := by intro _; rfl) : Rd P t σ where
  rd {H} enc W fuel cs x hx hwt := by
    obtain ⟨xs, n, _, rfl, hl, hxl, he⟩ := DataW.trod_struct hu hx
    simp only [DataW.weights, hu] at hwt
    obtain ⟨y, hy, hyr, hyb⟩ := h.run enc W n cs (xs.map (·.1)) (by omega) (by simpa using hxl) (fun i f d h1 h2 => by
      have hi : i < fs.size := by simpa using (List.getElem?_eq_some_iff.1 h1).1
      have hf : fs[i]? = some f := by simpa using h1
      have := he i f hf
      rw [List.getElem?_eq_getElem (by omega)] at this
      have hd : xs[i].1 = d := by
        rw [List.getElem?_map, List.getElem?_eq_getElem (by omega)] at h2
        exact Option.some.inj h2
      refine ⟨xs[i].2, by rw [this, ← hd], fun w hw => ?_⟩
      rw [← hd] at hw
      exact hwt w (DataW.weights_mem_each (j := i) (t := f.type) (d := xs[i].1) (by simp [h1]) (by rw [List.getElem?_map, List.getElem?_eq_getElem (by omega)]; rfl) w hw))
    exact ⟨g y, hr _ _ _ (by simpa using hy), hrg _ hyr, by rw [hbk]; show Rg.bk y + 1 ≤ bulkDs _ + 1; omega⟩
  sh W r base v h := by
    obtain ⟨cs, rfl, _⟩ := WideShapes.okWide_struct hu h
    rw [hag]
    simp [mkV, Value.cells]
end
end Go.Gb

/- General part of the proofs: from a law's contract to its row. -/
namespace Go.Gb
section
variable {H : Type} {enc : TypeId × Value → H} {P : Program} {fn : Func} {s : ChangeSpec} {W : World}

theorem grow_kept {k' : K} {may : MemPlace → Prop} (hg : Grow (kOf W) k') : W.keptBut k'.w may := by
  refine ⟨hg.os, hg.out, fun i hi => ?_⟩
  have := hg.blk i hi
  rw [this]
  show (match W.heap[i]?, W.heap[i]? with
    | some (.cells c t fr), some (.cells c' t' fr') => t' = t ∧ fr' = fr ∧ c'.size = c.size ∧ ∀ j : Nat, ¬ may (.cell i j) → c'[j]? = c[j]?
    | some (.map es clock), some (.map es' clock') => may (.map i) ∨ (es' = es ∧ clock' = clock)
    | o, o' => o' = o)
  cases W.heap[i]? with
  | none => rfl
  | some o => cases o <;> simp

theorem grow_below {k' : K} (hg : Grow (kOf W) k') : RowKit.Below W.heap.size W k'.w := ⟨hg.os, hg.tape, hg.out, hg.size, hg.blk⟩

theorem trodAll_stays (hl : laidOutB P = true) {k' : K} (hg : Grow (kOf W) k') : ∀ {ts : List TypeId} {vs : List Value} {ds : List (DataW H)} {ps : List MemPlace},
    ts.all (fun t => P.readableRec t && decide (t < P.types.size)) = true → DataW.TrodAll enc P W 0 (fun _ => true) true ts vs ds ps → (∀ p ∈ ps, p.block < W.heap.size) →
    DataW.TrodAll enc P k'.w 0 (fun b => decide (b < W.heap.size)) true ts vs ds ps
  | [], vs, ds, ps, _, h, _ => by
    obtain ⟨rfl, rfl, rfl⟩ := ChangeShapes.trodAll_nil h
    exact rfl
  | t :: ts, vs, ds, ps, hr, h, hlt => by
    obtain ⟨v, vs', d, ds', p, q, rfl, rfl, rfl, h1, h2⟩ := ChangeShapes.trodAll_cons h
    simp only [List.all_cons, Bool.and_eq_true, decide_eq_true_eq] at hr
    exact ⟨p, q, RowKit.Below.trod hl hr.1.1 hr.1.2 h1 (grow_below hg) (fun x hx => hlt x (by simp [hx])), trodAll_stays hl hg hr.2 h2 (fun x hx => hlt x (by simp [hx])), rfl⟩

theorem post_law {apart : Bool} {args : Array Value} {ds gs : List (DataW H)} {before : List MemPlace} {tb : TypeId} {k' : K} (hW : DataW.Whole enc P fn.params.toList s.vars apart W args.toList ds gs before)
    (hl : laidOutB P = true) (hts : fn.params.toList.all (fun t => P.readableRec t && decide (t < P.types.size)) = true) (hvars : s.vars = []) (hrt : fn.resultTypes = #[tb]) (hb : P.underlying tb = some .bool)
    (hsp : s.fn H (ds ++ gs) = { results := [.lit (.bool true)], args := ds }) (hg : Grow (kOf W) k') : s.post enc P fn apart true false false W args (.bool true) k'.w := by
  have hlt := hW.lt
  have hW' := hW
  obtain ⟨p, q, hA, hV, rfl, hfz, hnd⟩ := hW
  rw [hvars] at hV
  obtain ⟨rfl, rfl⟩ := ChangeShapes.trodVars_none hV
  refine ⟨ds, [], p ++ [], [], p, [], hW', ?_, ?_, ?_, World.keptBut_mono (fun x hx => ⟨hx, .inr (.inl (by simpa using hx))⟩) (grow_kept hg), fun h => by simp at h⟩
  · rw [hsp, hrt]
    refine ⟨[], [], ⟨1, ?_⟩, rfl, rfl⟩
    simp [DataW.trod, Value.cells, hb]
  · rw [hsp]
    exact trodAll_stays hl hg hts hA (fun x hx => hlt x (by simp [hx]))
  · rw [hsp, hvars]
    exact rfl

theorem isV_of {P : Program} {t : TypeId} {α : Type} [Enc α] [Rg α] (hr : Rd P t α) {v : Value} {d : DataW H} {ps : List MemPlace} (h : DataW.Trod enc P W 0 (fun _ => true) true t v d ps) {r : Reach} {base : Nat} (hok : Value.okWide P W r base t v) (hwt : ∀ n ∈ DataW.weights P t d, n ≤ reachBytes) :
    ∃ y : α, IsV y v (kOf W) ∧ Rg.rg y := by
  obtain ⟨n, hn⟩ := h
  obtain ⟨y, hy, hg, _⟩ := hr.rd enc W n _ _ hn hwt
  exact ⟨y, ⟨_, hr.sh W r base v hok, hy⟩, hg⟩
theorem law_calls {f : FuncId} {args : Array Value} {Q : Ending → World → Prop} (h : Calls P f args (kOf W).w (Ret (kOf W) (IsV true))) (hq : ∀ k' : K, Grow (kOf W) k' → Q (.returned (.bool true)) k'.w) : Calls P f args W Q :=
  h.mono fun e w' he => by
    cases e with
    | returned v =>
      obtain ⟨k', rfl, hg, hv⟩ := he
      rw [isV_bool.1 hv]
      exact hq k' hg
    | panicked c => exact he.elim
    | outgrown => exact he.elim
end
end Go.Gb

/- General part of the proofs: reasoning on the mirrored functions. -/
namespace Go.Gb

def Flow.ends {σ ρ : Type} : Flow σ ρ → Prop
  | .go _ => False
  | _ => True

/-- A loop with a counter that goes up to N. -/
theorem loop_up {σ ρ : Type} {body : σ → Option (Flow σ ρ)} (Inv : Nat → σ → Prop) (N : Nat) (Post : Flow σ ρ → Prop)
    (step : ∀ i s, i < N → Inv i s → (∃ s', body s = some (.go s') ∧ Inv (i + 1) s') ∨ (∃ f, body s = some f ∧ f.ends ∧ Post f))
    (done : ∀ s, Inv N s → ∃ f, body s = some f ∧ f.ends ∧ Post f) (s0 : σ) (h0 : Inv 0 s0) (fuel : Nat) (hf : N < fuel) : ∃ f, iterL body fuel s0 = some f ∧ f.ends ∧ Post f := by
  have key : ∀ m i s, i + m = N → Inv i s → ∀ fuel, m < fuel → ∃ f, iterL body fuel s = some f ∧ f.ends ∧ Post f := by
    intro m
    induction m with
    | zero =>
      intro i s hi hs fuel hf
      obtain ⟨f, hb, he, hp⟩ := done s (by rwa [show N = i by omega])
      obtain ⟨fuel, rfl⟩ : ∃ m, fuel = m + 1 := ⟨fuel - 1, by omega⟩
      refine ⟨f, ?_, he, hp⟩
      simp only [iterL, hb]
      cases f <;> simp_all [Flow.ends]
    | succ m ih =>
      intro i s hi hs fuel hf
      obtain ⟨fuel, rfl⟩ : ∃ m, fuel = m + 1 := ⟨fuel - 1, by omega⟩
      rcases step i s (by omega) hs with ⟨s', hb, hs'⟩ | ⟨f, hb, he, hp⟩
      · obtain ⟨f, h, he, hp⟩ := ih (i + 1) s' (by omega) hs' fuel (by omega)
        refine ⟨f, ?_, he, hp⟩
        simp only [iterL, hb, h]
      · refine ⟨f, ?_, he, hp⟩
        simp only [iterL, hb]
        cases f <;> simp_all [Flow.ends]
  exact key N 0 s0 (by omega) h0 fuel hf

/-- A loop with a measure that gets less. -/
theorem loop_down {σ ρ : Type} {body : σ → Option (Flow σ ρ)} (Inv : σ → Prop) (μ : σ → Nat) (Post : Flow σ ρ → Prop)
    (step : ∀ s, Inv s → (∃ s', body s = some (.go s') ∧ Inv s' ∧ μ s' < μ s) ∨ (∃ f, body s = some f ∧ f.ends ∧ Post f))
    (s0 : σ) (h0 : Inv s0) (fuel : Nat) (hf : μ s0 < fuel) : ∃ f, iterL body fuel s0 = some f ∧ f.ends ∧ Post f := by
  induction fuel generalizing s0 with
  | zero => omega
  | succ fuel ih =>
    rcases step s0 h0 with ⟨s', hb, hs', hm⟩ | ⟨f, hb, he, hp⟩
    · obtain ⟨f, h, he, hp⟩ := ih s' hs' (by omega)
      refine ⟨f, ?_, he, hp⟩
      simp only [iterL, hb, h]
    · refine ⟨f, ?_, he, hp⟩
      simp only [iterL, hb]
      cases f <;> simp_all [Flow.ends]

theorem getI_nat {α : Type} {l : List α} {i : Nat} (h : i < l.length) : getI l (i : Int) = some l[i] := by
  unfold getI
  rw [if_pos (by omega), Int.toNat_natCast, List.getElem?_eq_getElem h]
theorem addI_some {n m : Int} (h : inI (n + m)) : addI n m = some (n + m) := if_pos h
theorem subI_some {n m : Int} (h : inI (n - m)) : subI n m = some (n - m) := if_pos h
theorem mulI_some {n m : Int} (h : inI (n * m)) : mulI n m = some (n * m) := if_pos h
theorem addI_one {i : Nat} (h : i < 4611686018427387904) : addI (i : Int) 1 = some ((i + 1 : Nat) : Int) := by
  rw [addI_some (by unfold inI; omega)]; simp
theorem appI_some {α : Type} {xs ys : List α} (h : xs.length + ys.length ≤ 1073741824) : appI xs ys = some (xs ++ ys) := if_pos h
end Go.Gb

/- General part of the proofs: sorting an own slice in place, by the contracts of the library's sort at elements of k cells. -/
namespace Go.Gb
open Go.Proofs Go.Sort Go.RowKit Go.Lib
variable {P : Program} {α : Type}

/-- The cells of a value are given by the value alone. -/
class FlatE (α : Type) [Enc α] where
  enc : α → List Value
  rep : ∀ {k : K} {cs : List Value} {x : α}, Enc.rep k cs x ↔ cs = enc x

instance : FlatE Int := ⟨fun n => [.int .i64 n], Iff.rfl⟩
instance : FlatE Bool := ⟨fun n => [.bool n], Iff.rfl⟩
instance {α β : Type} [Enc α] [Enc β] [FlatE α] [FlatE β] : FlatE (α × β) where
  enc p := FlatE.enc p.1 ++ FlatE.enc p.2
  rep {k cs p} := by
    have l1 : (FlatE.enc p.1).length = Enc.sz α := Enc.len (k := k) (FlatE.rep.2 rfl)
    have l2 : (FlatE.enc p.2).length = Enc.sz β := Enc.len (k := k) (FlatE.rep.2 rfl)
    constructor
    · rintro ⟨_, h1, h2⟩
      rw [← FlatE.rep.1 h1, ← FlatE.rep.1 h2, List.take_append_drop]
    · rintro rfl
      exact ⟨by rw [List.length_append, l1, l2], FlatE.rep.2 (List.take_left' l1), FlatE.rep.2 (List.drop_left' l1)⟩
@[reducible] def FlatE.ofMap {σ β : Type} [Enc β] [FlatE β] (f : σ → β) : @FlatE σ (Enc.ofMap f) :=
  letI : Enc σ := Enc.ofMap f
  ⟨fun x => FlatE.enc (f x), fun {_ _ x} => FlatE.rep (x := f x)⟩
theorem flat_len [Enc α] [FlatE α] (k : K) (x : α) : (FlatE.enc x).length = Enc.sz α := Enc.len (k := k) (FlatE.rep.2 rfl)
theorem flat_one [Enc α] [FlatE α] (k : K) (x : α) : ∀ v ∈ FlatE.enc x, v.oneCell' = true := Enc.one (k := k) (FlatE.rep.2 rfl)

theorem repL_flat [Enc α] [FlatE α] {k : K} : ∀ {xs : List α} {cs : List Value}, RepL k cs xs ↔ cs = (xs.map FlatE.enc).flatten
  | [], cs => by simp [RepL]
  | x :: xs, cs => by
    have hl := flat_len k x
    simp only [RepL, List.map_cons, List.flatten_cons]
    rw [repL_flat (xs := xs)]
    rw [FlatE.rep]
    constructor
    · rintro ⟨h1, h2⟩
      rw [← h1, ← h2, List.take_append_drop]
    · intro h
      subst h
      exact ⟨List.take_left' hl, List.drop_left' hl⟩

theorem flatten_get [Inhabited α] {enc : α → List Value} {n : Nat} (hn : ∀ x, (enc x).length = n) : ∀ (xs : List α) (t : Nat), t < xs.length * n → (xs.map enc).flatten[t]? = (enc (xs[t / n]?.getD default))[t % n]?
  | [], t, h => by simp at h
  | x :: xs, t, h => by
    have hn0 : 0 < n := Nat.pos_of_ne_zero fun e => by subst e; simp at h
    simp only [List.map_cons, List.flatten_cons, List.getElem?_append, hn]
    by_cases ht : t < n
    · rw [if_pos ht, Nat.div_eq_of_lt ht, Nat.mod_eq_of_lt ht]; rfl
    · rw [if_neg ht, flatten_get hn xs (t - n) (by simp only [List.length_cons, Nat.add_mul, Nat.one_mul] at h; omega)]
      have e1 : t / n = (t - n) / n + 1 := by rw [← Nat.add_div_right _ hn0, Nat.sub_add_cancel (Nat.le_of_not_lt ht)]
      have e2 : t % n = (t - n) % n := by rw [← Nat.add_mod_right (t - n) n, Nat.sub_add_cancel (Nat.le_of_not_lt ht)]
      rw [e1, e2, List.getElem?_cons_succ]

theorem flatK_toList [Inhabited α] {enc : α → List Value} {n : Nat} (hn : ∀ x, (enc x).length = n) (d : Array α) : (flatK enc n d).toList = (d.toList.map enc).flatten := by
  refine List.ext_getElem? fun t => ?_
  by_cases ht : t < d.size * n
  · rw [flatten_get hn _ _ (by simpa using ht)]
    have hn0 : 0 < n := Nat.pos_of_ne_zero fun e => by subst e; simp at ht
    have hq : t / n < d.size := (Nat.div_lt_iff_lt_mul hn0).2 ht
    have hm := Nat.mod_lt t hn0
    have h1 := get_flatK enc n d t ht
    rw [getElem!_pos (flatK enc n d) t (by simpa using ht), getElem!_pos d (t / n) hq] at h1
    rw [List.getElem?_eq_getElem (by simpa using ht), Array.getElem_toList, h1, show d.toList[t / n]? = some d[t / n] from by rw [Array.getElem?_toList, Array.getElem?_eq_getElem hq], Option.getD_some, List.getElem?_eq_getElem (by rw [hn]; exact hm), getElem!_pos (enc d[t / n]) (t % n) (by rw [hn]; exact hm)]
  · rw [List.getElem?_eq_none (by simpa using Nat.le_of_not_lt ht), List.getElem?_eq_none]
    rw [show ((d.toList.map enc).flatten).length = d.size * n from ?_]
    · exact Nat.le_of_not_lt ht
    · have : ∀ xs : List α, ((xs.map enc).flatten).length = xs.length * n := by
        intro xs
        induction xs with
        | nil => simp
        | cons x xs ih => simp only [List.map_cons, List.flatten_cons, List.length_append, hn, ih, List.length_cons, Nat.add_mul, Nat.one_mul]; omega
      rw [this]; simp

theorem putCells_toList (off : Nat) (d c : Array Value) (h : off + d.size ≤ c.size) : ((putCells id off d c).toList.drop off).take d.size = d.toList := by
  refine List.ext_getElem? fun t => ?_
  rw [List.getElem?_take]
  split
  · rename_i ht
    rw [List.getElem?_drop, Array.getElem?_toList, putCells, Array.getElem?_mapIdx, Array.getElem?_eq_getElem (by omega), Option.map_some, if_pos (by omega), Nat.add_sub_cancel_left, getElem!_pos d t ht, Array.getElem?_toList, Array.getElem?_eq_getElem ht]
    rfl
  · rename_i ht
    rw [List.getElem?_eq_none (by simpa using Nat.le_of_not_lt ht)]

theorem insInner_size [Inhabited α] (lt : α → α → Bool) (a : Nat) : ∀ (j : Nat) (d : Array α), (insInner lt a j d).size = d.size
  | 0, _ => rfl
  | j + 1, d => by
    simp only [insInner]
    split
    · rw [insInner_size lt a j, size_swp]
    · rfl
theorem insOuter_size [Inhabited α] (lt : α → α → Bool) (a b : Nat) : ∀ (m i : Nat) (d : Array α), b - i = m → (insOuter lt a b i d).size = d.size
  | 0, i, d, hm => by rw [insOuter, if_neg (by omega)]
  | m + 1, i, d, hm => by rw [insOuter, if_pos (by omega), insOuter_size lt a b m (i + 1) _ (by omega), insInner_size]
theorem insertionSort_size [Inhabited α] (lt : α → α → Bool) (d : Array α) (a b : Nat) : (insertionSort lt d a b).size = d.size := insOuter_size lt a b _ _ d rfl

/-- A box that nothing is written to any more: shared from the start. -/
theorem ok_boxR {k : K} {a : Act} {o : Oper} [Enc α] {t : TypeId} {y : Operand} {x : α} (ho : o.op = .box t y) (h : IsV x (a.eval y) k) : Does P o a k (IsRef x) := by
  obtain ⟨cs, hc, hr⟩ := isV_cells h
  have hg := K.alloc_grow k (.cells cs t)
  have hb : Box k.w.heap.size x (k.alloc (.cells cs t)) := box_new hr
  refine does_run (v := .pointer (some ⟨k.w.heap.size, 0, none⟩)) (k' := (k.alloc (.cells cs t)).share k.w.heap.size hb.lt) ?_
    ⟨hg.tape, hg.os, hg.out, hg.size, hg.blk, fun b hs => (K.share_le _ _ hb.lt).up b (hg.up b hs), fun b hlt hs => hs.elim (hg.new b hlt) (fun e => absurd e (by omega)), hg.drawn⟩ hb.share
  simp only [execOp, ho]
  simp [Instr.box, newVar, newRow, newObj, hc, K.alloc, K.share]
  rfl

theorem evalT (a : Act) (t : Nat) : a.eval (.tmp t) = a.get t := rfl
/-- The bits that both numbers have. -/
def andI (n m : Int) : Int := IntKind.i64.wrap ((BitVec.ofInt 64 n &&& BitVec.ofInt 64 m).toNat : Int)
end Go.Gb


set_option linter.unusedVariables false
set_option linter.unusedSimpArgs false
/- General part of the proofs: regions in which moves stand behind operations that write: they may run first. -/
namespace Go.Gb

/-- An operation that looks at no world. -/
def isPure (A : Array Oper) (l : Nat) : Bool := match A[l]? with
  | some o => (match o.op with | .move (.tmp _) => true | .assign (.tmp _) => true | .extract (.tmp _) _ => true | _ => false) && o.guard.isNone
  | none => false
end Go.Gb

/- General part of the proofs: runs, lists of intervals with what holds on each: the canonical form of a function of one number that is constant between finitely many breaks. -/
namespace Go.Gb
section
variable {V : Type} {e : V}

/-- Intervals (from, to) and what holds there. -/
abbrev Runs (V : Type) := List (Int × Int × V)

/-- One more interval at the end: merged with the last one if both are one. -/
def pushR [DecidableEq V] (e : V) (l : Runs V) (a b : Int) (v : V) : Runs V :=
  if v = e then l else match l.getLast? with
    | some (c, d, w) => if d = a ∧ w = v then l.dropLast ++ [(c, b, v)] else l ++ [(a, b, v)]
    | none => [(a, b, v)]
end
end Go.Gb

/- General part of the proofs: reasoning on the mirrored functions, continued: loops over a list as folds, the last element of a list, halving. -/
namespace Go.Gb

end Go.Gb

/- General part of the proofs: own slices in the library's functions: sorted and made compact in place, made with room. -/
namespace Go.Gb
open Go.Proofs Go.Sort Go.RowKit Go.Lib
variable {P : Program}

theorem ownAt {α : Type} [Enc α] {u v : Value} {k : K} {B : Nat} {e : TypeId} {xs : List α} (h : v = u) (g : IsOwn B e xs v k) : OwnAt u B e xs v k := ⟨h, g⟩
/-! What sorting and making compact do, plainly. -/
end Go.Gb

/- General part of the proofs: building runs from cuts; loops that may end early; sums. -/
namespace Go.Gb
section
variable {V : Type} [DecidableEq V] {e : V}

/-- The runs of a function that is constant between neighbouring cuts. -/
def build (e : V) (zs : List Int) (A : Int → V) : Nat → Runs V
  | 0 => []
  | i + 1 => pushR e (build e zs A i) (zs.getD i 0) (zs.getD (i + 1) 0) (A (zs.getD i 0))
end

/-! Sums -/
end Go.Gb

/- General part of the proofs: short forms of the steps. -/
namespace Go.Gb
abbrev IsI (x : Int) : Pred := IsV x
abbrev IsL {α : Type} (x : List α) : Pred := IsV (x.length : Int)
/-- what holds of the slots -/
def Al : List (Nat × Pred) → Act → K → Prop
  | [], _, _ => True
  | (t, R) :: l, a, k => R (a.get t) k ∧ Al l a k
section
variable {P : Program} {a a0 a' : Act} {k k0 k' kk : K} {R : Pred} {o : Oper} {es : List Ent} {F : FP} {n : Nat} {Q : Exit → Act → World → Prop} {A : Array Oper} {m : Nat} {ops : List Oper}
theorem gS {id : Nat} (m : Nat) (es : List Ent) (hn : a0.tmps.size = n) (hchk : chkS n m A.toList es = true)
    (hst : Steps P es a0 k0 (A.toList.take m) es) (hQ : LetsOut Q)
    (hpost : ∀ a k, Post A.toList es m a0 k0 a k → wpOps P A Q (List.range' m (A.size - m)) a k.w) : (Code.region id A false).wp P Q a0 k0.w :=
  regionS es hn hchk hst hQ hpost
theorem cutS {x y : Code} (T : Act → K → Prop)
    (h1 : ∀ Q' : Exit → Act → World → Prop, LetsOut Q' → (∀ a' k', T a' k' → Q' .normal a' k'.w) → x.wp P Q' a k.w)
    (h2 : ∀ a' k', T a' k' → y.wp P Q a' k'.w) : (Code.seq x y).wp P Q a k.w :=
  wp_seq (h1 _ trivial h2)
theorem cutL {x y : Code} (F : FP) (kk : K) (n : Nat) (l : List (Nat × Pred))
    (h1 : ∀ Q' : Exit → Act → World → Prop, LetsOut Q' → (∀ a' k', Bs F kk n a' k' ∧ Al l a' k' → Q' .normal a' k'.w) → x.wp P Q' a k.w)
    (h2 : ∀ a' k', Bs F kk n a' k' ∧ Al l a' k' → y.wp P Q a' k'.w) : (Code.seq x y).wp P Q a k.w :=
  wp_seq (h1 _ trivial h2)
/-- A region, and what is then used of it. -/
theorem stepL {id : Nat} {y : Code} (m : Nat) (es : List Ent) (hm : A.size = m) (H : Bs F kk n a k) (hchk : chkS n m A.toList es = true)
    (hst : Steps P es a k (A.toList.take m) es) (l : List (Nat × Pred)) (hl : ∀ b q, Post A.toList es m a k b q → Al l b q)
    (h2 : ∀ a' k', Bs F kk n a' k' ∧ Al l a' k' → y.wp P Q a' k'.w) : (Code.seq (Code.region id A false) y).wp P Q a k.w := by
  refine wp_seq ?_
  refine regionS es H.s hchk hst trivial fun b q p => ?_
  rw [hm, Nat.sub_self]
  exact tail_done (k := q) (h2 _ _ ⟨Bs.post H p, hl _ _ p⟩)
theorem Post.ke {b : Act} {q : K} [Mono R] (p : Post ops es m a k b q) (t : Nat) (ht : allI (fun i o => i ≥ m || o.dst != some t) 0 ops = true) (h : R (a.get t) k) : R (b.get t) q := keep p t ht h
theorem Post.ou {b : Act} {q : K} {nd : List (Nat × Option Nat)} (p : Post ops es m a k b q) (i d : Nat) (h : (Nat.blt i m, (nth ops i).bind (·.dst), nth es i) = (true, some d, some ⟨some R, nd⟩)) : R (b.get d) q :=
  out p i d nd (Prod.mk.inj h).1 (Prod.mk.inj (Prod.mk.inj h).2).1 (Prod.mk.inj (Prod.mk.inj h).2).2
theorem o1 (nd : List (Nat × Option Nat)) [Mono R] (hg : o.guard = none) (h : ∀ a k, Grow k0 k → Known es a0 a k nd → Does P o a k R) : Ob P es a0 k0 o ⟨some R, nd⟩ := ob1 hg h
theorem mu {t : Nat} [Mono R] (h : (o.guard, o.op) = (none, .move (.tmp t))) (i : R (a0.get t) k0) : Ob P es a0 k0 o ⟨some R, [(t, none)]⟩ :=
  ob1 (Prod.mk.inj h).1 fun _ _ g n => ok_move (Prod.mk.inj h).2 (up i g n.1)
theorem cp {t : Nat} (j : Nat) {nd : List (Nat × Option Nat)} [Mono R] (h : (o.guard, o.op) = (none, .assign (.tmp t))) (hj : nth es j = some ⟨some R, nd⟩) : Ob P es a0 k0 o ⟨some R, [(t, some j)]⟩ :=
  ob1 (Prod.mk.inj h).1 fun a k _ n => ok_assign (Prod.mk.inj h).2 (show R (a.get t) k by have h1 := n.1; rw [hj] at h1; exact h1)
theorem cm {t : Nat} (j : Nat) {nd : List (Nat × Option Nat)} [Mono R] (h : (o.guard, o.op) = (none, .move (.tmp t))) (hj : nth es j = some ⟨some R, nd⟩) : Ob P es a0 k0 o ⟨some R, [(t, some j)]⟩ :=
  ob1 (Prod.mk.inj h).1 fun a k _ n => ok_move (Prod.mk.inj h).2 (show R (a.get t) k by have h1 := n.1; rw [hj] at h1; exact h1)
theorem aI {x : Int} {y : Operand} (h : (o.guard, o.op) = (none, .assign y)) (hy : y = .const (.int .i64 x)) : Ob P es a0 k0 o ⟨some (IsI x), []⟩ := by
  subst hy; exact ob1 (Prod.mk.inj h).1 fun _ _ _ _ => ok_assign (Prod.mk.inj h).2 (isV_int.2 rfl)
theorem cI {x : Int} {v : Value} (h : v = .int .i64 x) : IsV x v k := isV_int.2 h
theorem cB {p : Prop} {x : Bool} {v : Value} (h : v = .bool x) (_ : p) : IsV x v k := isV_bool.2 h
end
section
variable {P : Program} {o : Oper} {a0 : Act} {k0 : K} {R : Pred} {es : List Ent} {nj : List (Nat × Option Nat)} {j : Nat} {m : Bool}
theorem gT (nd : List (Nat × Option Nat)) [Mono R] (hg : o.guard = some (j, true)) (hj : nth es j = some ⟨some (IsV m), nj⟩) (h : m = true → ∀ a k, Grow k0 k → Known es a0 a k nd → Does P o a k R) : Ob P es a0 k0 o ⟨some (Gd (m = true) R), nd⟩ := gdT hg hj h
theorem gF (nd : List (Nat × Option Nat)) [Mono R] (hg : o.guard = some (j, false)) (hj : nth es j = some ⟨some (IsV m), nj⟩) (h : m = false → ∀ a k, Grow k0 k → Known es a0 a k nd → Does P o a k R) : Ob P es a0 k0 o ⟨some (Gd (m = false) R), nd⟩ := gdF hg hj h
theorem mT {t : Nat} [Mono R] (h : (o.guard, o.op) = (some (j, true), .move (.tmp t))) (hj : nth es j = some ⟨some (IsV m), nj⟩) (i : R (a0.get t) k0) : Ob P es a0 k0 o ⟨some (Gd (m = true) R), [(t, none)]⟩ :=
  gdT (Prod.mk.inj h).1 hj fun _ _ _ g n => ok_move (Prod.mk.inj h).2 (up i g n.1)
theorem mF {t : Nat} [Mono R] (h : (o.guard, o.op) = (some (j, false), .move (.tmp t))) (hj : nth es j = some ⟨some (IsV m), nj⟩) (i : R (a0.get t) k0) : Ob P es a0 k0 o ⟨some (Gd (m = false) R), [(t, none)]⟩ :=
  gdF (Prod.mk.inj h).1 hj fun _ _ _ g n => ok_move (Prod.mk.inj h).2 (up i g n.1)
end
end Go.Gb

/- General part of the proofs: pointers to boxes that are handed to calls, and methods that hold one. -/
namespace Go.Gb
end Go.Gb

/- General part of the proofs: shorter forms of single operations. -/
namespace Go.Gb
section
variable {P : Program} {o : Oper} {a0 : Act} {k0 : K} {R S : Pred} {es : List Ent} {α : Type} [Enc α] {nd nd2 : List (Nat × Option Nat)}
theorem known_at {es : List Ent} {a : Act} {k : K} {t j : Nat} {l : List (Nat × Option Nat)} (hj : nth es j = some ⟨some R, nd⟩) (h : Known es a0 a k ((t, some j) :: l)) : R (a.get t) k := by
  have h1 := h.1; rw [hj] at h1; exact h1
theorem e0 {t j : Nat} [Mono R] (h : (o.guard, o.op) = (none, .extract (.tmp t) 0)) (hj : nth es j = some ⟨some (IsTup2 R S), nd⟩) : Ob P es a0 k0 o ⟨some R, [(t, some j)]⟩ :=
  ob1 (Prod.mk.inj h).1 fun _ _ _ n => ok_ext2_0 (Prod.mk.inj h).2 (known_at hj n)
theorem e1 {t j : Nat} [Mono S] (h : (o.guard, o.op) = (none, .extract (.tmp t) 1)) (hj : nth es j = some ⟨some (IsTup2 R S), nd⟩) : Ob P es a0 k0 o ⟨some S, [(t, some j)]⟩ :=
  ob1 (Prod.mk.inj h).1 fun _ _ _ n => ok_ext2_1 (Prod.mk.inj h).2 (known_at hj n)
theorem ld {t j : Nat} {ty : TypeId} {y : α} (h : (o.guard, o.op) = (none, .load ty (.tmp t))) (ht : Ty P ty α) (hj : nth es j = some ⟨some (IsPtr y), nd⟩) : Ob P es a0 k0 o ⟨some (IsV y), [(t, some j)]⟩ :=
  ob1 (Prod.mk.inj h).1 fun _ _ _ n => ok_load (Prod.mk.inj h).2 ht (known_at hj n)
end
end Go.Gb

/- General part of the proofs: shifts and bits. -/
namespace Go.Gb
def shlI (n m : Int) : Option Int := if 0 ≤ m then some (IntKind.i64.wrap (n * 2 ^ min m.toNat 64)) else none
def shrI (n m : Int) : Option Int := if 0 ≤ m then some (n.fdiv (2 ^ min m.toNat 64)) else none
def andnI (n m : Int) : Int := IntKind.i64.wrap ((BitVec.ofInt 64 n &&& ~~~BitVec.ofInt 64 m).toNat : Int)
def orI (n m : Int) : Int := IntKind.i64.wrap ((BitVec.ofInt 64 n ||| BitVec.ofInt 64 m).toNat : Int)
def IK.shl {κ : IntKind} (x : IK κ) (n : Int) : IK κ := ⟨κ.wrap (x.n * 2 ^ n.toNat)⟩
def IK.and {κ : IntKind} (x y : IK κ) : IK κ := ⟨κ.wrap ((BitVec.ofInt κ.bits x.n &&& BitVec.ofInt κ.bits y.n).toNat : Int)⟩
end Go.Gb

/- Arrays of ints that are indexed with a number that is not known before. -/
namespace Go.Gb

end Go.Gb

/- General part of the proofs: slices without room to spare: an append makes a new one. -/
namespace Go.Gb
section
variable {α : Type} [Enc α] {P : Program} {o : Oper} {a : Act} {k : K}
/-- A slice without room to spare. -/
def IsFull (xs : List α) (v : Value) (k : K) : Prop := (∃ ad, v = .slice (some ad) xs.length xs.length) ∧ IsV xs v k
instance (xs : List α) : Pers (IsFull xs) := ⟨fun h ⟨e, r⟩ => ⟨e, Pers.pers h r⟩⟩
end
end Go.Gb

/- General part of the proofs: package-level variables that are laid with data. -/
namespace Go.Gb
section
variable {P : Program} {t e : TypeId} {α β σ : Type} [Enc α] [Enc β]

/-- What is read as this datum is this value. -/
structure Ld (P : Program) (t : TypeId) (α : Type) [Enc α] (d : α → DataW Unit) : Prop where
  ld : ∀ (W : World) (fuel : Nat) (cs : List Value) (p : List MemPlace) (x : α), DataW.trod (fun _ => ()) P W 0 (fun _ => true) false fuel t cs = some (d x, p) → Enc.rep (kOf W) cs x
/-- The fields of a struct, from the offset o on. -/
structure LdF (P : Program) (fs : List Field) (o : Nat) (α : Type) [Enc α] (d : α → List (DataW Unit)) : Prop where
  run : ∀ (W : World) (fuel : Nat) (cs : List Value) (x : α) (xs : List (DataW Unit × List MemPlace)), cs.length = o + Enc.sz α → xs.map (·.1) = d x →
    (∀ (i : Nat) (f : Field), fs[i]? = some f → DataW.trod (fun _ => ()) P W 0 (fun _ => true) false fuel f.type ((cs.drop f.offset).take (P.cellsOf f.type)) = xs[i]?) → Enc.rep (kOf W) (cs.drop o) x
theorem LdF.one {f : Field} {o : Nat} {d : α → DataW Unit} (ho : f.offset = o) (hz : P.cellsOf f.type = Enc.sz α) (h : Ld P f.type α d) : LdF P [f] o α fun x => [d x] := by
  refine ⟨fun W fuel cs x xs hl hx hf => ?_⟩
  have h0 := hf 0 f rfl
  rw [ho, hz, List.take_of_length_le (by simp; omega)] at h0
  match xs, hx with
  | [y], hx =>
    simp only [List.map_cons, List.map_nil, List.cons.injEq, and_true] at hx
    obtain ⟨y1, y2⟩ := y
    dsimp only at hx
    subst hx
    exact h.ld W fuel _ y2 x (by simpa using h0)
  | [], hx => simp at hx
  | _ :: _ :: _, hx => simp at hx
theorem LdF.cons {f : Field} {fs : List Field} {o : Nat} {d : α → DataW Unit} {ds : β → List (DataW Unit)} (ho : f.offset = o) (hz : P.cellsOf f.type = Enc.sz α) (h : Ld P f.type α d) (g : LdF P fs (o + Enc.sz α) β ds) :
    LdF P (f :: fs) o (α × β) fun x => d x.1 :: ds x.2 := by
  refine ⟨fun W fuel cs x xs hl hx hf => ?_⟩
  have hl' : cs.length = o + (Enc.sz α + Enc.sz β) := hl
  have h0 := hf 0 f rfl
  rw [ho, hz] at h0
  match xs, hx with
  | y :: ys, hx =>
    simp only [List.map_cons, List.cons.injEq] at hx
    obtain ⟨y1, y2⟩ := y
    obtain ⟨hx1, hx2⟩ := hx
    dsimp only at hx1
    subst hx1
    have h1 := h.ld W fuel _ y2 x.1 (by simpa using h0)
    have h2 := g.run W fuel cs x.2 ys (by omega) hx2 fun i f' hf' => by
      have := hf (i + 1) f' (by simpa using hf')
      simpa using this
    rw [← List.drop_drop] at h2
    exact ⟨by simp; omega, h1, h2⟩
end
end Go.Gb

/- General part of the proofs: regions in which operations that only look may come behind a store. -/
namespace Go.Gb

/-- All operations behind number m come behind all others. -/
def chkB (m : Nat) (ops : List Oper) : Bool := allI (fun j _ => Nat.ble j m || (List.range j).all fun i => hasBit (masks ops []) j i) 0 ops

end Go.Gb

/- General part of the proofs: parts of data of which nothing is said (slices of a type that holds itself). -/
namespace Go.Gb

/-- A cell of which nothing is said. -/
structure Opq where
  deriving DecidableEq, Inhabited
instance : Enc Opq where
  sz := 1
  agg := false
  rep _ cs _ := ∃ u : Value, cs = [u] ∧ u.oneCell' = true
  len h := by obtain ⟨u, h, _⟩ := h; simp [h]
  mono _ h := h
  one h := by obtain ⟨u, rfl, h⟩ := h; simpa using h
  agg1 _ := rfl
instance : Rg Opq := ⟨fun _ => True, fun _ => 0⟩

end Go.Gb

/- General part of the proofs: strings, and comparisons of small integers. -/
namespace Go.Gb

end Go.Gb

/- General part of the proofs: maps of the call's own, with values of any kind. -/
namespace Go.Gb
section
variable {P : Program} {o : Oper} {a a0 : Act} {k k' k0 : K} {κ α : Type} [DecidableEq κ] [Enc α] {F G : FP} {kv : κ → Value}

/-- A map of the call's own. -/
def MpR (kv : κ → Value) (m : List (κ × α)) : FP → Pred := fun F v k =>
  ∃ b, ∃ T : List (κ × Value × α), v = .map (some b) ∧ m = T.map (fun t => (t.1, t.2.2)) ∧ MapB kv b (T.map fun t => (t.1, t.2.1)) k ∧ (∀ t ∈ T, IsV t.2.2 t.2.1 k) ∧ F = Eq b
omit [DecidableEq κ] in
theorem MapB.nsh' {b : Nat} {l : List (κ × Value)} (h : MapB kv b l k) : ¬ k.sh b := by obtain ⟨h, _⟩ := h; exact h
omit [DecidableEq κ] in
instance (m : List (κ × α)) : Rsc (MpR kv m) where
  keep := fun ⟨b, T, e1, e2, hb, hT, eF⟩ g hs hn => ⟨b, T, e1, e2, hb.keep g (hs b (by rw [eF])), fun t ht => Pers.pers (g.le hn) (hT t ht), eF⟩
  handed := fun ⟨b, T, e1, e2, hb, hT, eF⟩ g hs => ⟨b, T, e1, e2, hb.handed g (hs b (by rw [eF])), fun t ht => Pers.pers g.le (hT t ht), eF⟩
  lt := fun ⟨b, T, e1, e2, hb, hT, eF⟩ c hc => by rw [eF] at hc; subst hc; exact hb.lt
  nsh := fun ⟨b, T, e1, e2, hb, hT, eF⟩ c hc => by rw [eF] at hc; subst hc; exact hb.nsh'
omit [DecidableEq κ] in
theorem MpR.new {v : Value} {b0 : Nat} (h : ∃ b, v = .map (some b) ∧ b0 ≤ b ∧ MapB kv b [] k) : ∃ F, MpR (α := α) kv [] F v k ∧ ∀ c, F c → b0 ≤ c := by
  obtain ⟨b, e1, hb0, hb⟩ := h
  exact ⟨_, ⟨b, [], e1, rfl, hb, fun t ht => by simp at ht, rfl⟩, fun c hc => by subst hc; exact hb0⟩

end
end Go.Gb

/- General part of the proofs: a variable of the library that holds some int. -/
namespace Go.Gb
end Go.Gb


set_option linter.unusedVariables false
set_option linter.unusedSimpArgs false
/- General part of the proofs: an own slice, one part of which is a value that is looked at as it is. -/
namespace Go.Gb

/-- A value, as it is. -/
structure RawV where
  v : Value
instance : Inhabited RawV := ⟨⟨.bool false⟩⟩
instance : Enc RawV where
  sz := 1
  agg := false
  rep _ cs x := cs = [x.v] ∧ x.v.oneCell' = true
  len h := by simp [h.1]
  mono _ h := h
  one h := by obtain ⟨rfl, h⟩ := h; simpa using h
  agg1 _ := rfl
section
variable {α β γ : Type} [Enc α] [Enc β] [Enc γ] {g : α → γ} {f : β → RawV} {same : α → β → Prop} {k k' : K} {v : Value} {e : TypeId} {B : Nat} {F G : FP}
structure RawOf (g : α → γ) (f : β → RawV) (same : α → β → Prop) : Prop where
  sz : Enc.sz α = Enc.sz β
  split : ∀ {k : K} {cs : List Value} {x : α}, Enc.rep k cs x → ∃ y, Enc.rep k cs y ∧ same x y ∧ IsV (g x) (f y).v k
  join : ∀ {k : K} {cs : List Value} {x : α} {y : β}, Enc.rep k cs y → same x y → IsV (g x) (f y).v k → Enc.rep k cs x
def RR (g : α → γ) (f : β → RawV) (same : α → β → Prop) (i : Option Nat) (l : List α) (rs : List β) (k : K) : Prop :=
  rs.length = l.length ∧ ∀ (j : Nat) (x : α) (y : β), l[j]? = some x → rs[j]? = some y → same x y ∧ (some j ≠ i → IsV (g x) (f y).v k)
omit [Enc α] [Enc β] in
theorem RR.le {i : Option Nat} {l : List α} {rs : List β} (h : RR g f same i l rs k) (hk : Le k k') : RR g f same i l rs k' :=
  ⟨h.1, fun j x y h1 h2 => ⟨(h.2 j x y h1 h2).1, fun hn => Pers.pers hk ((h.2 j x y h1 h2).2 hn)⟩⟩
theorem repL_join (R : RawOf g f same) : ∀ {l : List α} {rs : List β} {cs : List Value}, RepL k cs rs → RR g f same none l rs k → RepL k cs l
  | [], [], cs, h, _ => h
  | [], _ :: _, cs, h, hr => by have := hr.1; simp at this
  | _ :: _, [], cs, h, hr => by have := hr.1; simp at this
  | x :: l, y :: rs, cs, h, hr => by
    have h0 := hr.2 0 x y rfl rfl
    refine ⟨R.join (by rw [R.sz]; exact h.1) h0.1 (h0.2 (by simp)), repL_join R (rs := rs) (by rw [R.sz]; exact h.2) ⟨by simpa using hr.1, fun j x' y' h1 h2 => ?_⟩⟩
    have := hr.2 (j + 1) x' y' (by simpa using h1) (by simpa using h2)
    exact ⟨this.1, fun _ => this.2 (by simp)⟩
theorem raw_own (R : RawOf g f same) {l : List α} {rs : List β} (h : IsOwn B e rs v k) (hR : RR g f same none l rs k) : IsOwn B e l v k := by
  rcases h with ⟨rfl, rfl⟩ | ⟨a, rfl, rfl⟩ | ⟨b, off, cap, cur, cs, rfl, h1, h2, h3, h4, h5, h6, h7, h8, h9⟩
  · obtain rfl : l = [] := List.length_eq_zero_iff.1 hR.1.symm
    exact .inl ⟨rfl, rfl⟩
  · obtain rfl : l = [] := List.length_eq_zero_iff.1 hR.1.symm
    exact .inr (.inl ⟨a, rfl, rfl⟩)
  · exact .inr (.inr ⟨b, off, cap, cur, cs, by rw [hR.1], h1, h2, h3, by rw [← hR.1]; exact h4, h5, h6, by rw [R.sz]; exact h7, by rw [← hR.1, R.sz]; exact h8, repL_join R h9 hR⟩)

/-- An own slice, element i of which has the value h in a part. -/
def HO (g : α → γ) (f : β → RawV) (same : α → β → Prop) (e : TypeId) (l : List α) (i : Nat) (h : Value) : Pred := fun v k =>
  ∃ rs : List β, IsOwn 0 e rs v k ∧ RR g f same (some i) l rs k ∧ (rs[i]?).map f = some ⟨h⟩
omit [Enc α] in
theorem HO.ltF {l : List α} {i : Nat} {h : Value} (x : HO g f same e l i h v k) : ∀ b, obF v b → b < k.w.heap.size := let ⟨_, x, _⟩ := x; x.ltF
omit [Enc α] in
theorem HO.nshF {l : List α} {i : Nat} {h : Value} (x : HO g f same e l i h v k) : ∀ b, obF v b → ¬ k.sh b := let ⟨_, x, _⟩ := x; x.nshF
omit [Enc α] in
theorem HO.keep {l : List α} {i : Nat} {h : Value} (x : HO g f same e l i h v k) (c : Chg G k k') (ha : Apart (obF v) G) (hn : ∀ b, G b → ¬ k.sh b) : HO g f same e l i h v k' :=
  let ⟨rs, x, r, q⟩ := x; ⟨rs, x.keep c ha hn, r.le (c.le hn), q⟩
omit [Enc α] in
theorem HO.handed {l : List α} {i : Nat} {h : Value} (x : HO g f same e l i h v k) (c : Handed k k' G) (ha : Apart (obF v) G) : HO g f same e l i h v k' :=
  let ⟨rs, x, r, q⟩ := x; ⟨rs, x.handed c ha, r.le c.le, q⟩
omit [Enc α] in
instance {l : List α} {i : Nat} {h : Value} : Mono (HO g f same e l i h) := ⟨fun c ⟨rs, x, r, q⟩ => ⟨rs, Mono.mono c x, r.le c.le, q⟩⟩
omit [Enc α] in
theorem HO.put {l : List α} {rs : List β} {i : Nat} {h : Value} {x : α} {y y' : β} (ho : IsOwn 0 e (rs.set i y') v k) (hR : RR g f same none l rs k) (hl : l[i]? = some x) (hi : rs[i]? = some y)
    (hs : same x y → same x y') (hf : f y' = ⟨h⟩) : HO g f same e l i h v k := by
  have hlt : i < rs.length := (List.getElem?_eq_some_iff.1 hi).1
  refine ⟨_, ho, ⟨by simp [hR.1], fun j x' z h1 h2 => ?_⟩, by simp [hlt, hf]⟩
  by_cases hj : j = i
  · subst hj
    rw [List.getElem?_set_self hlt] at h2
    obtain rfl := Option.some.inj h2
    rw [hl] at h1
    obtain rfl := Option.some.inj h1
    exact ⟨hs (hR.2 j _ _ hl hi).1, fun hn => absurd rfl hn⟩
  · rw [List.getElem?_set_ne (fun e => hj e.symm)] at h2
    have := hR.2 j x' z h1 h2
    exact ⟨this.1, fun _ => this.2 (by simp)⟩
theorem HO.fill (R : RawOf g f same) {l : List α} {i : Nat} {h : Value} {x x' : α} (o : HO g f same e l i h v k) (hl : l[i]? = some x) (hs : ∀ y, same x y → same x' y) (hv : IsV (g x') h k) : IsOwn 0 e (l.set i x') v k := by
  obtain ⟨rs, ho, hR, hq⟩ := o
  refine raw_own R ho ⟨by simp [hR.1], fun j z y h1 h2 => ?_⟩
  have hlt : i < l.length := (List.getElem?_eq_some_iff.1 hl).1
  by_cases hj : j = i
  · subst hj
    rw [List.getElem?_set_self hlt] at h1
    obtain rfl := Option.some.inj h1
    rw [h2] at hq
    have hq : f y = ⟨h⟩ := by simpa using hq
    exact ⟨hs y (hR.2 j _ y hl h2).1, fun _ => by rw [hq]; exact hv⟩
  · rw [List.getElem?_set_ne (fun e => hj e.symm)] at h1
    have := hR.2 j z y h1 h2
    exact ⟨this.1, fun _ => this.2 (by simpa using hj)⟩
omit [Enc α] in
theorem HO.at {l : List α} {i : Nat} {h : Value} (o : HO g f same e l i h v k) : ∃ (rs : List β) (y : β), IsOwn 0 e rs v k ∧ rs[i]? = some y ∧ f y = ⟨h⟩ ∧ rs.length = l.length := by
  obtain ⟨rs, ho, hR, hq⟩ := o
  obtain ⟨y, hy, hf⟩ := Option.map_eq_some_iff.1 hq
  exact ⟨rs, y, ho, hy, hf, hR.1⟩
end
end Go.Gb

/- General part of the proofs: regions in which operations that only look may come behind the first store, into a box of the call's own. -/
namespace Go.Gb
section
variable {P : Program} {a : Act} {k : K} {α β : Type} [Enc α] [Enc β]

def PersL : List Ent → Prop
  | [] => True
  | ⟨some R, _⟩ :: l => (∀ v k k', Le k k' → R v k → R v k') ∧ PersL l
  | ⟨none, _⟩ :: _ => False
theorem PersL.at : ∀ {es : List Ent} {i : Nat} {R : Option Pred} {nd : List (Nat × Option Nat)}, PersL es → nth es i = some ⟨R, nd⟩ → ∃ R', R = some R' ∧ ∀ v k k', Le k k' → R' v k → R' v k'
  | ⟨some R, _⟩ :: _, 0, _, _, h, e => by
    have e := Option.some.inj e
    injection e with e1 _
    exact ⟨R, e1.symm, h.1⟩
  | ⟨some _, _⟩ :: l, i + 1, _, _, h, e => PersL.at (es := l) (i := i) h.2 e
  | ⟨none, _⟩ :: _, _, _, _, h, _ => h.elim

end
end Go.Gb

/- General part of the proofs: regions in which operations that only look may come behind the first store, into a box that the region makes. -/
namespace Go.Gb
section
variable {P : Program} {a : Act} {k : K} {α : Type} [Enc α]
/-- A new box, whatever is in it. -/
def IsBoxS (α : Type) [Enc α] (B : Nat) : Pred := fun v k => ∃ x : α, IsBox B x v k
instance (B : Nat) : Mono (IsBoxS α B) := ⟨fun g ⟨x, h⟩ => ⟨x, Mono.mono g h⟩⟩
def PersN (ja : Nat) : Nat → List Ent → Prop
  | _, [] => True
  | i, ⟨some R, _⟩ :: l => (i = ja ∨ ∀ v k k', Le k k' → R v k → R v k') ∧ PersN ja (i + 1) l
  | _, ⟨none, _⟩ :: _ => False
theorem PersN.at {ja : Nat} : ∀ {es : List Ent} {n i : Nat} {R : Option Pred} {nd : List (Nat × Option Nat)}, PersN ja n es → nth es i = some ⟨R, nd⟩ → n + i ≠ ja → ∃ R', R = some R' ∧ ∀ v k k', Le k k' → R' v k → R' v k'
  | ⟨some R, _⟩ :: _, n, 0, _, _, h, e, hne => by
    have e := Option.some.inj e
    injection e with e1 _
    exact ⟨R, e1.symm, h.1.resolve_left hne⟩
  | ⟨some _, _⟩ :: l, n, i + 1, _, _, h, e, hne => PersN.at (es := l) (n := n + 1) (i := i) h.2 e (by omega)
  | ⟨none, _⟩ :: _, _, _, _, _, h, _, _ => h.elim

end
end Go.Gb

/- General part of the proofs: regions in which operations that only look may come behind the first store, into a box that the region makes; moves and extracts may also come behind what follows it. -/
namespace Go.Gb
section
variable {P : Program} {a0 : Act} {k0 : K} {es : List Ent}
/-- Operations in front of number m that look at no world. -/
def lateOk (m : Nat) (late : List Nat) (A : Array Oper) : Bool :=
  Region.noSelect A && late.all fun l => isPure A l && Nat.blt l m && (match A[l]? with
    | some o => (binding o).all (fun e => hasBit (masks A.toList []) m e || late.contains e) &&
      allI (fun j oj => Nat.beq j l || hasBit (masks A.toList []) l j || (binding oj).contains l || o.apart A oj) 0 A.toList
    | none => false)
def chkC (m : Nat) (late : List Nat) (ops : List Oper) : Bool := allI (fun j _ => Nat.ble j m || (List.range j).all fun i => hasBit (masks ops []) j i || late.contains i) 0 ops
end
end Go.Gb

/- General part of the proofs: slices that are made with their zero elements. -/
namespace Go.Gb
section
variable {P : Program} {o : Oper} {a : Act} {k : K} {α : Type} [Enc α]
/-- as many zeros -/
def makeI {γ : Type} (n : Int) (z : γ) : Option (List γ) := if 0 ≤ n ∧ n ≤ 1073741824 then some (List.replicate n.toNat z) else none
end
end Go.Gb

/- General part of the proofs: boxes of the call's own, in parts of which lie own slices. -/
namespace Go.Gb

/-- Some cells, as they are. -/
structure RawC (n : Nat) where
  l : List Value
instance (n : Nat) : Enc (RawC n) where
  sz := n
  agg := true
  rep _ cs x := cs = x.l ∧ cs.length = n ∧ ∀ u ∈ cs, u.oneCell' = true
  len h := h.2.1
  mono _ h := h
  one h := h.2.2
  agg1 h := by simp at h
theorem take_set_drop {α : Type} : ∀ (l : List α) (i : Nat) (v : α), i < l.length → l.take i ++ [v] ++ l.drop (i + 1) = l.set i v
  | [], i, v, h => by simp at h
  | a :: l, 0, v, _ => by simp
  | a :: l, i + 1, v, h => by
    have := take_set_drop l i v (by simpa using h)
    simpa using this
def nilSl : Value := .slice none 0 0

/-- A part of a value: a slice from cell off on. -/
structure Hole (α : Type) where
  off : Nat
  γ : Type
  enc : Enc γ
  el : TypeId
  get : α → List γ
  set : α → List γ → α
section
variable {α : Type} [Enc α]
def Hole.own (h : Hole α) (x : α) : Pred := @IsOwn h.γ h.enc 0 h.el (h.get x)
def Hole.val (h : Hole α) (x : α) : Pred := letI := h.enc; IsV (h.get x)
def Hole.upd (h : Hole α) : Prop := letI := h.enc; Upd h.off h.set
def nils : List (Hole α) → List Value → List Value
  | [], cs => cs
  | h :: l, cs => (nils l cs).set h.off nilSl
def nilx : List (Hole α) → α → α
  | [], x => x
  | h :: l, x => h.set (nilx l x) []
omit [Enc α] in
theorem nils_len : ∀ (l : List (Hole α)) (cs : List Value), (nils l cs).length = cs.length
  | [], _ => rfl
  | h :: l, cs => by rw [nils, List.length_set, nils_len l]
omit [Enc α] in
theorem nils_other : ∀ (l : List (Hole α)) (cs : List Value) (o : Nat), (∀ h ∈ l, h.off ≠ o) → (nils l cs)[o]? = cs[o]?
  | [], _, _, _ => rfl
  | h :: l, cs, o, hn => by
    rw [nils, List.getElem?_set_ne (hn h List.mem_cons_self), nils_other l cs o fun g hg => hn g (List.mem_cons_of_mem _ hg)]
/-- the slices in parts are own ones, and apart -/
def Owns (cs : List Value) (x : α) (k : K) : List (Hole α) → FP → Prop
  | [], F => F = noF
  | h :: l, F => ∃ w G, cs[h.off]? = some w ∧ h.own x w k ∧ Owns cs x k l G ∧ Apart (obF w) G ∧ F = fun c => obF w c ∨ G c
variable {cs : List Value} {x : α} {k k' : K} {F G : FP} {v : Value}
omit [Enc α] in
theorem Owns.lt : ∀ {l : List (Hole α)} {F : FP}, Owns cs x k l F → ∀ b, F b → b < k.w.heap.size ∧ ¬ k.sh b
  | [], F, h, b, hb => by rw [show F = noF from h] at hb; exact hb.elim
  | g :: l, F, ⟨w, G, _, h, r, _, e⟩, b, hb => by
    subst e
    rcases hb with hb | hb
    · letI := g.enc; exact ⟨IsOwn.ltF h b hb, IsOwn.nshF h b hb⟩
    · exact Owns.lt r b hb
omit [Enc α] in
theorem Owns.keep (c : Chg G k k') (hn : ∀ b, G b → ¬ k.sh b) : ∀ {l : List (Hole α)} {F : FP}, Owns cs x k l F → Apart F G → Owns cs x k' l F
  | [], F, h, _ => h
  | g :: l, F, ⟨w, H, h0, h, r, ap, e⟩, ha => by
    subst e
    exact ⟨w, H, h0, (letI := g.enc; IsOwn.keep h c (fun b hb => ha b (.inl hb)) hn), r.keep c hn fun b hb => ha b (.inr hb), ap, rfl⟩
omit [Enc α] in
theorem Owns.handed (c : Handed k k' G) : ∀ {l : List (Hole α)} {F : FP}, Owns cs x k l F → Apart F G → Owns cs x k' l F
  | [], F, h, _ => h
  | g :: l, F, ⟨w, H, h0, h, r, ap, e⟩, ha => by
    subst e
    exact ⟨w, H, h0, (letI := g.enc; IsOwn.handed h c (fun b hb => ha b (.inl hb))), r.handed c fun b hb => ha b (.inr hb), ap, rfl⟩

/-- A box of the call's own; in the parts hs lie own slices, what lies in the other ones of all is not told. -/
def BoxH (b : Nat) (all hs : List (Hole α)) (x : α) : FP → Pred := fun F v k =>
  v = .pointer (some ⟨b, 0, none⟩) ∧ ∃ (cs : List Value) (G : FP), Box b (⟨cs⟩ : RawC (Enc.sz α)) k ∧ Enc.rep k (nils all cs) (nilx all x) ∧ Owns cs x k hs G ∧ ¬ G b ∧ F = fun c => b = c ∨ G c
variable {b : Nat} {all hs : List (Hole α)}
theorem BoxH.ptr (h : BoxH b all hs x F v k) : v = .pointer (some ⟨b, 0, none⟩) := h.1
theorem BoxH.has (h : BoxH b all hs x F v k) : F b := by
  obtain ⟨_, cs, G, _, _, _, _, e⟩ := h
  rw [e]; exact .inl rfl
theorem BoxH.sub (h : BoxH b all hs x F v k) : ∀ c, b = c → F c := fun c e => e ▸ h.has
instance : Rsc (BoxH b all hs x) where
  keep := fun {F G v k k'} ⟨e, cs, H, hb, hr, ho, hn, eF⟩ g ha hns => by
    subst eF
    exact ⟨e, cs, H, hb.keep g (ha b (.inl rfl)) hns, Enc.mono (g.le hns) hr, ho.keep g hns (fun c hc => ha c (.inr hc)), hn, rfl⟩
  handed := fun {F G v k k'} ⟨e, cs, H, hb, hr, ho, hn, eF⟩ g ha => by
    subst eF
    exact ⟨e, cs, H, hb.handed g (ha b (.inl rfl)), Enc.mono g.le hr, ho.handed g (fun c hc => ha c (.inr hc)), hn, rfl⟩
  lt := fun {F v k} ⟨e, cs, H, hb, hr, ho, hn, eF⟩ c hc => by
    subst eF
    rcases hc with rfl | hc
    · exact hb.lt
    · exact (ho.lt c hc).1
  nsh := fun {F v k} ⟨e, cs, H, hb, hr, ho, hn, eF⟩ c hc => by
    subst eF
    rcases hc with rfl | hc
    · exact hb.own
    · exact (ho.lt c hc).2
theorem Box.raw (h : Box b x k) : ∃ cs, Box b (⟨cs⟩ : RawC (Enc.sz α)) k ∧ Enc.rep k cs x := by
  obtain ⟨ho, arr, t, hh, hr⟩ := h
  exact ⟨arr.toList, ⟨ho, arr, t, hh, rfl, Enc.len hr, Enc.one hr⟩, hr⟩
theorem Box.unraw (h : Box b (⟨cs⟩ : RawC (Enc.sz α)) k) (hr : Enc.rep k cs x) : Box b x k := by
  obtain ⟨ho, arr, t, hh, e, _, _⟩ := h
  exact ⟨ho, arr, t, hh, by rw [show arr.toList = cs from e]; exact hr⟩
/-- the parts may be written to -/
def Upds : List (Hole α) → Prop
  | [] => True
  | h :: l => h.upd ∧ Upds l
theorem rep_nils : ∀ {all : List (Hole α)}, Upds all → ∀ {cs : List Value} {x : α}, Enc.rep k cs x → Enc.rep k (nils all cs) (nilx all x)
  | [], _, _, _, h => h
  | g :: l, ⟨hu, hl⟩, cs, x, h => by
    have ih := rep_nils hl h
    letI := g.enc
    obtain ⟨hle, hr⟩ := hu k _ [nilSl] _ [] ih ⟨nilSl, rfl, .inl ⟨rfl, rfl⟩⟩
    have hl := Enc.len ih
    have e : (nils l cs).take g.off ++ [nilSl] ++ (nils l cs).drop (g.off + [nilSl].length) = (nils l cs).set g.off nilSl := take_set_drop _ _ _ (by
      have : g.off + 1 ≤ Enc.sz α := hle
      omega)
    rw [e] at hr
    exact hr
/-- a box, some parts of which may be own slices -/
theorem Box.open (h : Box b x k) (hu : Upds all) (hv : v = .pointer (some ⟨b, 0, none⟩)) : BoxH b all [] x (Eq b) v k := by
  obtain ⟨cs, h1, h2⟩ := h.raw
  exact ⟨hv, cs, noF, h1, rep_nils hu h2, rfl, fun f => f, by funext c; exact propext ⟨fun e => .inl e, fun e => e.elim id False.elim⟩⟩

/-- What stands in a cell of a block. -/
def HdAt (b off : Nat) : Pred := fun v k => b < k.w.heap.size ∧ ∃ arr t fr, k.w.heap[b]? = some (.cells arr t fr) ∧ arr.toList[off]? = some v
instance {b off : Nat} : Mono (HdAt b off) := ⟨fun g ⟨hb, arr, t, fr, h, e⟩ => ⟨Nat.lt_of_lt_of_le hb g.size, arr, t, fr, by rw [g.blk b hb]; exact h, e⟩⟩
theorem Box.hdAt {off : Nat} {n : Nat} {w u : Value} (h : Box b (⟨cs⟩ : RawC n) k) (hw : cs[off]? = some w) (hu : HdAt b off u k) : u = w := by
  obtain ⟨ho, arr, t, hh, e, _, _⟩ := h
  obtain ⟨_, arr', t', fr', hh', e'⟩ := hu
  rw [hh] at hh'
  simp only [Option.some.injEq, Obj.cells.injEq] at hh'
  obtain ⟨rfl, _⟩ := hh'
  rw [show arr.toList = cs from e, hw] at e'
  exact (Option.some.inj e').symm
/-- the slice in a part is taken out -/
theorem BoxH.take {g : Hole α} {u : Value} (h : BoxH b all (g :: hs) x F v k) (hu : HdAt b g.off u k) : ∃ F', BoxH b all hs x F' v k ∧ g.own x u k ∧ Apart (obF u) F' ∧ (∀ c, F' c → F c) ∧ (∀ c, obF u c → F c) := by
  obtain ⟨e, cs, G, hb, hr, ⟨w, H, h0, h1, h2, ha, eG⟩, hn, eF⟩ := h
  obtain rfl := hb.hdAt h0 hu
  subst eG eF
  refine ⟨_, ⟨e, cs, H, hb, hr, h2, fun hc => hn (.inr hc), rfl⟩, h1, fun c hc hc' => ?_, fun c hc => hc.imp id .inr, fun c hc => .inr (.inl hc)⟩
  rcases hc' with rfl | hc'
  · exact hn (.inl hc)
  · exact ha c hc hc'
theorem BoxH.swap {g h : Hole α} (y : BoxH b all (g :: h :: hs) x F v k) : BoxH b all (h :: g :: hs) x F v k := by
  obtain ⟨e, cs, G, hb, hr, ⟨w, H, h0, h1, ⟨w', H', g0, g1, g2, ga, eH⟩, ha, eG⟩, hn, eF⟩ := y
  subst eH eG eF
  refine ⟨e, cs, _, hb, hr, ⟨w', _, g0, g1, ⟨w, H', h0, h1, g2, fun c hc hc' => ha c hc (.inr hc'), rfl⟩, fun c hc hc' => ?_, rfl⟩, ?_, ?_⟩
  · rcases hc' with hc' | hc'
    · exact ha c hc' (.inl hc)
    · exact ga c hc hc'
  · rintro (h | h | h)
    · exact hn (.inr (.inl h))
    · exact hn (.inl h)
    · exact hn (.inr (.inr h))
  · funext c
    refine propext ⟨?_, ?_⟩
    · rintro (h | h | h | h)
      · exact .inl h
      · exact .inr (.inr (.inl h))
      · exact .inr (.inl h)
      · exact .inr (.inr (.inr h))
    · rintro (h | h | h | h)
      · exact .inl h
      · exact .inr (.inr (.inl h))
      · exact .inr (.inl h)
      · exact .inr (.inr (.inr h))
/-- all that is needed to tell a box again -/
def CloseOk (x : α) : List (Hole α) → Prop
  | [] => True
  | h :: l => h.upd ∧ h.set (h.set (nilx l x) []) (h.get x) = nilx l x ∧ (∀ g ∈ l, g.off ≠ h.off) ∧ CloseOk x l
theorem rep_fill : ∀ {all : List (Hole α)}, CloseOk x all → ∀ {cs : List Value}, (∀ h ∈ all, ∃ w, cs[h.off]? = some w ∧ h.val x w k) → Enc.rep k (nils all cs) (nilx all x) → Enc.rep k cs x
  | [], _, cs, _, h => h
  | g :: l, ⟨hu, he, hne, hl⟩, cs, hv, h => by
    refine rep_fill hl (fun h hh => hv h (List.mem_cons_of_mem _ hh)) ?_
    obtain ⟨w, hw, hwv⟩ := hv g List.mem_cons_self
    letI := g.enc
    obtain ⟨u, rfl, hu1⟩ : ∃ u, w = u ∧ SliceRep k u (g.get x) := ⟨w, rfl, isV_list.1 hwv⟩
    obtain ⟨hle, hr⟩ := hu k _ [w] _ (g.get x) h ⟨w, rfl, hu1⟩
    have hlen := Enc.len h
    have e : (nils (g :: l) cs).take g.off ++ [w] ++ (nils (g :: l) cs).drop (g.off + [w].length) = (nils (g :: l) cs).set g.off w := take_set_drop _ _ _ (by
      have : g.off + 1 ≤ Enc.sz α := hle
      omega)
    rw [e] at hr
    rw [show g.set (nilx (g :: l) x) (g.get x) = nilx l x from he] at hr
    have e2 : (nils (g :: l) cs).set g.off w = nils l cs := by
      rw [nils, List.set_set]
      refine List.ext_getElem? fun i => ?_
      by_cases hi : i = g.off
      · subst hi
        rw [nils_other l cs _ hne, hw, List.getElem?_set_self (by rw [nils_len]; exact (List.getElem?_eq_some_iff.1 hw).1)]
      · rw [List.getElem?_set_ne (fun e => hi e.symm)]
    rw [e2] at hr
    exact hr
omit [Enc α] in
/-- the slices are handed over -/
theorem Owns.give : ∀ {l : List (Hole α)} {k : K} {F : FP}, Owns cs x k l F → ∃ k' : K, Handed k k' F ∧ ∀ h ∈ l, ∃ w, cs[h.off]? = some w ∧ h.val x w k'
  | [], k, F, h => ⟨k, ⟨rfl, ⟨fun _ _ => rfl, fun _ h => h⟩, fun b h => .inl h⟩, fun h hh => by simp at hh⟩
  | g :: l, k, F, ⟨w, G, h0, h1, h2, ha, eF⟩ => by
    subst eF
    obtain ⟨k1, c1, hv⟩ : ∃ k' : K, Handed k k' (obF w) ∧ g.val x w k' := by letI := g.enc; exact IsOwn.give h1
    obtain ⟨k2, c2, hr⟩ := (h2.handed c1 ha.symm).give
    refine ⟨k2, ⟨c2.w.trans c1.w, ?_, fun b hb => ?_⟩, fun h hh => ?_⟩
    · exact ⟨fun b hb => (c2.le.blk b (c1.le.up b hb)).trans (c1.le.blk b hb), fun b hb => c2.le.up b (c1.le.up b hb)⟩
    · rcases c2.sh b hb with hb | hb
      · exact (c1.sh b hb).imp id .inl
      · exact .inr (.inr hb)
    · rcases List.mem_cons.1 hh with rfl | hh
      · exact ⟨w, h0, by letI := h.enc; exact Pers.pers (R := IsV (h.get x)) c2.le hv⟩
      · exact hr h hh
/-- a box again: its slices are handed over -/
theorem BoxH.close (h : BoxH b all hs x F v k) (hc : CloseOk x all) (hm : ∀ g ∈ all, g ∈ hs) : ∃ k' : K, Handed k k' F ∧ Box b x k' := by
  obtain ⟨e, cs, G, hb, hr, ho, hn, eF⟩ := h
  obtain ⟨k', hk, hv⟩ := ho.give
  subst eF
  refine ⟨k', ⟨hk.w, hk.le, fun c hc => (hk.sh c hc).imp id .inr⟩, ?_⟩
  exact (hb.handed hk hn).unraw (rep_fill hc (fun g hg => hv g (hm g hg)) (Enc.mono hk.le hr))
end

section
variable {P : Program} {o : Oper} {a : Act} {k : K} {α : Type} [Enc α] {b : Nat} {all hs : List (Hole α)} {x : α} {F G : FP} {v : Value}
/-- a value in some cells of which the nil slice stands -/
def IsVN (offs : List Nat) (x : α) : Pred := fun v k => ∃ cs, v = .agg cs.toArray ∧ Enc.agg α = true ∧ Enc.rep k cs x ∧ ∀ o ∈ offs, cs[o]? = some nilSl
instance {offs : List Nat} {x : α} : Pers (IsVN offs x) := ⟨fun h ⟨cs, e, ha, r, hn⟩ => ⟨cs, e, ha, Enc.mono h r, hn⟩⟩
theorem IsVN.isV {offs : List Nat} {x : α} {v : Value} {k : K} (h : IsVN offs x v k) : IsV x v k := by
  obtain ⟨cs, e, ha, r, _⟩ := h
  exact ⟨cs, by rw [ha]; exact e, r⟩
end
end Go.Gb

/- General part of the proofs: variables that hold a function. -/
namespace Go.Gb
variable {P : Program} {o : Oper} {a : Act} {k : K}
section
variable {α β γ δ : Type} [Enc α] [Enc β] [Enc γ] [Enc δ] {v : Value}
theorem IsFn1.one {g : α → Option β} (h : IsFn1 P g v k) : v.oneCell' = true := by obtain ⟨f, fi, c, rfl, _⟩ := h; rfl
theorem IsFn2.one {g : α → β → Option γ} (h : IsFn2 P g v k) : v.oneCell' = true := by obtain ⟨f, fi, c, rfl, _⟩ := h; rfl
theorem IsFn2T.one {g : α → β → Option (γ × δ)} (h : IsFn2T P g v k) : v.oneCell' = true := by obtain ⟨f, fi, c, rfl, _⟩ := h; rfl
end
end Go.Gb

/- General part of the proofs: regions whose operations, in any order, use up what others of them have made. -/
namespace Go.Gb

/-- What is told of an operation: of the value in slot vs, and the blocks behind it; what it looks at, and which operations' results it uses up. -/
structure EntL where
  R : FP → Pred
  vs : Nat
  need : List (Nat × Option Nat)
  cons : List Nat

/-- What lasts while blocks from B on are written to. -/
class RscB (B : Nat) (R : FP → Pred) : Prop where
  keep : ∀ {F G : FP} {v : Value} {k k' : K}, R F v k → Chg G k k' → Apart F G → (∀ b, G b → ¬ k.sh b) → (∀ b, G b → B ≤ b) → B ≤ k.w.heap.size → R F v k'
  lt : ∀ {F : FP} {v : Value} {k : K}, R F v k → ∀ b, F b → b < k.w.heap.size ∧ ¬ k.sh b
instance {B : Nat} {R : FP → Pred} [Rsc R] : RscB B R := ⟨fun h c ha hn _ _ => Rsc.keep h c ha hn, fun h b hb => ⟨Rsc.lt h b hb, Rsc.nsh h b hb⟩⟩
def KnownL (es : List EntL) (a0 a : Act) (k : K) : List (Nat × Option Nat) → Prop
  | [] => True
  | (t, some j) :: xs => (match nth es j with | some e => ∃ F, e.R F (a.get t) k | none => True) ∧ KnownL es a0 a k xs
  | (t, none) :: xs => a.get t = a0.get t ∧ KnownL es a0 a k xs
def TakenL (es : List EntL) (a : Act) (k : K) : List Nat → FP → Prop
  | [], G => G = noF
  | j :: l, G => ∃ F H, (match nth es j with | some e => e.R F (a.get e.vs) k | none => False) ∧ TakenL es a k l H ∧ G = fun b => F b ∨ H b
/-- An operation may write to the blocks in G, and yields this. -/
def DoesL (P : Program) (o : Oper) (a : Act) (k : K) (G : FP) (R : FP → Pred) (vs : Nat) : Prop :=
  ∀ (next : Act → World → Prop) (Q : Exit → Act → World → Prop), LetsOut Q →
    (∀ v k' F, Chg G k k' → (∀ b, F b → G b ∨ k.w.heap.size ≤ b) → R F ((a.put o.dst v).get vs) k' → next (a.put o.dst v) k'.w) → o.wp P a k.w next Q
def ObL (P : Program) (es : List EntL) (a0 : Act) (k0 : K) (o : Oper) (e : EntL) : Prop :=
  RscB k0.w.heap.size e.R ∧ ∀ a k G, a.tmps.size = a0.tmps.size → Grow k0 k → KnownL es a0 a k e.need → TakenL es a k e.cons G → DoesL P o a k G e.R e.vs
def StepsL (P : Program) (es : List EntL) (a0 : Act) (k0 : K) : List Oper → List EntL → Prop
  | o :: os, e :: rest => ObL P es a0 k0 o e ∧ StepsL P es a0 k0 os rest
  | _, _ => True
theorem StepsL.at {P : Program} {es : List EntL} {a0 : Act} {k0 : K} : ∀ {os : List Oper} {rs : List EntL}, StepsL P es a0 k0 os rs → ∀ i o e, nth os i = some o → nth rs i = some e → ObL P es a0 k0 o e
  | [], _, _, i, o, e, h, _ => by simp [nth] at h
  | _ :: _, [], _, i, o, e, _, h => by simp [nth] at h
  | _ :: _, _ :: _, h, 0, o, e, h1, h2 => by
    simp only [nth, Option.some.injEq] at h1 h2
    subst h1 h2; exact h.1
  | _ :: _, _ :: _, h, i + 1, o, e, h1, h2 => h.2.at i o e (by simpa [nth] using h1) (by simpa [nth] using h2)
section
variable {P : Program} {a0 : Act} {k0 : K} {es : List EntL} {A : Array Oper} {n : Nat}
/-- what holds behind such a region -/
structure PostR (A : Array Oper) (es : List EntL) (a0 : Act) (k0 : K) (Fs : Nat → FP) (a : Act) (k : K) : Prop where
  grow : Grow k0 k
  size : a.tmps.size = a0.tmps.size
  defers : a.defers = a0.defers
  out : ∀ i e, nth es i = some e → es.all (fun x => !(x.cons.contains i)) = true → e.R (Fs i) (a.get e.vs) k
  apart : ∀ i j, i ≠ j → Apart (Fs i) (Fs j)
  own : ∀ i b, Fs i b → k0.w.heap.size ≤ b ∧ b < k.w.heap.size ∧ ¬ k.sh b
  old : ∀ t, A.toList.all (fun o => o.dst != some t) = true → a.get t = a0.get t
end
end Go.Gb

/- General part of the proofs: operations that use up what others have made. -/
namespace Go.Gb
instance : FlatE ByteArray := ⟨fun s => [.string s], Iff.rfl⟩
instance (priority := low) {α : Type} [Enc α] [FlatE α] {x : α} : Flat (IsV x) := ⟨fun ⟨cs, e, r⟩ => ⟨cs, e, FlatE.rep.2 (FlatE.rep.1 r)⟩⟩
section
variable {P : Program} {o : Oper} {a : Act} {k : K} {d : Nat} {α β : Type} [Enc α] [Enc β] {G : FP} {es : List EntL}
variable {a0 : Act} {k0 : K} {A : Array Oper} {Fs : Nat → FP}
theorem PostR.box (p : PostR A es a0 k0 Fs a k) (i : Nat) {x : α} {vs : Nat} {nd : List (Nat × Option Nat)} {cn : List Nat} (h : nth es i = some ⟨BoxR x, vs, nd, cn⟩) (hu : es.all (fun x => !(x.cons.contains i)) = true) : IsBox k0.w.heap.size x (a.get vs) k := by
  obtain ⟨b, e, hF, hb⟩ := p.out i _ h hu
  exact ⟨b, e, (p.own i b (by rw [hF])).1, hb⟩
theorem PostR.slice (p : PostR A es a0 k0 Fs a k) (i : Nat) {e : TypeId} {xs : List α} {vs : Nat} {nd : List (Nat × Option Nat)} {cn : List Nat} (h : nth es i = some ⟨OwnR e xs, vs, nd, cn⟩) (hu : es.all (fun x => !(x.cons.contains i)) = true) : IsOwn k0.w.heap.size e xs (a.get vs) k := by
  obtain ⟨hF, hb⟩ := p.out i _ h hu
  rcases hb with hb | hb | ⟨b, off, cap, cur, cs, e1, _, h2, h3, h4, h5, h6⟩
  · exact .inl hb
  · exact .inr (.inl hb)
  · exact .inr (.inr ⟨b, off, cap, cur, cs, e1, (p.own i b (by rw [hF, e1]; simp [obF, ob, Nat.ne_of_gt h5])).1, h2, h3, h4, h5, h6⟩)
end
end Go.Gb

/- General part of the proofs: a function that calls itself through a variable, and adds to a list in another one. -/
namespace Go.Gb
section
variable {P : Program} {o : Oper} {a : Act} {k k' k0 : K} {α β γ : Type} [Enc α] [Enc β] [Enc γ] {F G : FP} {v : Value} {b : Nat} {all hs : List (Hole α)} {x : α} {R : Pred}
theorem BoxH.at (h : BoxH b all hs x F v k) : BoxH b all hs x F (.pointer (some ⟨b, 0, none⟩)) k := by
  have := h.ptr
  subst this; exact h
end
end Go.Gb

/- General part of the proofs: function values and pointers to shared places as data. -/
namespace Go.Gb
section
variable {P : Program} {o : Oper} {a a0 : Act} {k k' k0 : K} {α β γ : Type} [Enc α] [Enc β] [Enc γ]

/-- A function value without parameters that computes g. -/
def IsFn0 (P : Program) (g : Unit → Option β) : Pred := fun v k =>
  ∃ f first captured, v = .func (.func f) first captured ∧ (∀ args w, (callFunc f args).run P w = .ok (.enter f args) w) ∧
    ∀ k', Le k k' → ∀ y, g () = some y → Calls P f (first ++ captured) k'.w (Ret k' (IsV y))
instance (g : Unit → Option β) : Pers (IsFn0 P g) := ⟨fun h ⟨f, fi, c, e, hc, r⟩ => ⟨f, fi, c, e, hc, fun k' hk => r k' (h.trans hk)⟩⟩
theorem IsFn0.one {v : Value} {g : Unit → Option β} (h : IsFn0 P g v k) : v.oneCell' = true := by obtain ⟨f, fi, c, rfl, _⟩ := h; rfl
theorem IsRef.one {v : Value} {x : α} (h : IsRef x v k) : v.oneCell' = true := by obtain ⟨ad, rfl, _⟩ := h; rfl
/-- A value that a persistent predicate tells of, as data. -/
@[reducible] def predEnc (σ : Type) (R : σ → Pred) (hp : ∀ x, Pers (R x)) (h1 : ∀ x v k, R x v k → v.oneCell' = true) : Enc σ where
  sz := 1
  agg := false
  rep k cs x := ∃ v, cs = [v] ∧ R x v k
  len h := by obtain ⟨v, rfl, _⟩ := h; rfl
  mono hl h := by obtain ⟨v, e, h⟩ := h; exact ⟨v, e, (hp _).pers hl h⟩
  one h := by
    obtain ⟨v, rfl, h⟩ := h
    simpa using h1 _ _ _ h
  agg1 _ := rfl
@[reducible] def rfEnc (α : Type) [Enc α] : Enc α := predEnc α (fun x => IsRef x) (fun _ => inferInstance) fun _ _ _ => IsRef.one
@[reducible] def f0Enc (P : Program) (β : Type) [Enc β] : Enc (Unit → Option β) := predEnc _ (IsFn0 P) (fun _ => inferInstance) fun _ _ _ => IsFn0.one
@[reducible] def f1Enc (P : Program) (α β : Type) [Enc α] [Enc β] : Enc (α → Option β) := predEnc _ (IsFn1 P) (fun _ => inferInstance) fun _ _ _ => IsFn1.one
@[reducible] def f2Enc (P : Program) (α β γ : Type) [Enc α] [Enc β] [Enc γ] : Enc (α → β → Option γ) := predEnc _ (IsFn2 P) (fun _ => inferInstance) fun _ _ _ => IsFn2.one
end
end Go.Gb

/- General part of the proofs: sums that may wrap. -/
namespace Go.Gb
section
variable {P : Program} {o : Oper} {a : Act} {k : K} {t u : TypeId} {x y : Operand} {n m r : Int}
def addW (n m : Int) : Option Int := some (IntKind.i64.wrap (n + m))
def subW (n m : Int) : Option Int := some (IntKind.i64.wrap (n - m))
end
end Go.Gb

/- General part of the proofs: an own slice that another operation made grows. -/
namespace Go.Gb
end Go.Gb

/- General part of the proofs: arrays of any elements, indexed with a number. -/
namespace Go.Gb
end Go.Gb


