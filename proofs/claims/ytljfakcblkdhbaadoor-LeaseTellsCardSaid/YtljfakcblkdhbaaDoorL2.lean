/- The general part of the proofs (no program in sight): worlds with shared blocks, regions, operations, calls, loops, what comes in as data, part 2 -/
import Derived.Test.YtljfakcblkdhbaaDoorL1
set_option linter.unusedVariables false
set_option linter.unusedSimpArgs false
/- General part of the proofs: separation, handing over, arrays, comparisons. -/
namespace Go.Gb
section
variable {P:Program} {o:Oper} {a a0:Act} {k k' k0:K} {R S:Pred} {α β:Type} [Enc α] [Enc β]

/-- Behind the handing over of a slice. -/
structure Shared (k k' : K) (r:Option Nat):Prop where
  w:k'.w = k.w
  le:Le k k'
  sh : ∀ b,k'.sh b → k.sh b ∨ r = some b
theorem IsOwn.hand {B:Nat} {e:TypeId} {xs:List α} {v:Value} (h:IsOwn B e xs v k) (hg:Grow k0 k) (hB:k0.w.heap.size ≤ B) :
    ∃ k' : K,Shared k k' (ob v)∧Grow k0 k'∧IsV xs v k':=by
  obtain ⟨k', hw, hle, hg', hv, hs⟩ := h.share hg hB
  exact ⟨k', ⟨hw, hle, hs⟩, hg', hv⟩
theorem Box.hand {b:Nat} {x:α} (h:Box b x k) (hb:b < k.w.heap.size) (hg:Grow k0 k) (hn:k0.w.heap.size ≤ b) :
    ∃ k' : K,Shared k k' (some b)∧Grow k0 k'∧IsRef x (.pointer (some ⟨b,0,none⟩)) k':=
  ⟨k.share b hb,⟨rfl,K.share_le k b hb,fun i hi=>hi.imp id (fun e=>by rw [e])⟩,hg.share hb hn,h.share⟩
theorem IsOwn.nsh {B:Nat} {e:TypeId} {xs:List α} {v:Value} (h:IsOwn B e xs v k) : ∀ b,ob v = some b → ¬ k.sh b:=fun b hb=>(h.lt b hb).2.2
theorem IsOwn.lo {B:Nat} {e:TypeId} {xs:List α} {v:Value} (h:IsOwn B e xs v k) : ∀ b,ob v = some b → B ≤ b:=fun b hb=>(h.lt b hb).1

/-- Two resources are apart. -/
def Sep (r s:Option Nat):Prop:=∀ b,r = some b → s ≠ some b
theorem Sep.symm {r s:Option Nat} (h:Sep r s):Sep s r:=fun b e f=>h b f e
theorem Sep.box {r:Option Nat} {b:Nat} (h:Sep r (some b)):r ≠ some b:=fun e=>h b e rfl
theorem ok_moveOA {x:Operand} {u:Value} {B:Nat} {e:TypeId} {xs:List α} (ho:o.op = .move x ∨ o.op = .assign x) (h:OwnAt u B e xs (a.eval x) k):Does P o a k (OwnAt u B e xs):=by
  rcases ho with ho | ho
  · exact ok_move ho h
  · exact ok_assign ho h

theorem cells_agg (cs:Array Value):(Value.agg cs).cells = cs:=rfl
theorem hd1 {x y:Value} (h:[x] = [y]):x = y:=by simpa using h

/-! arrays as pairs -/
theorem ok_slice00 {t e:TypeId} {x:Operand} {xs:List α} {lo:Option Operand} (ho:o.op = .slice t x lo (some (.const (.int .i64 0))) (some (.const (.int .i64 0))))
    (hlo:lo = none ∨ lo = some (.const (.int .i64 0))) (hu:P.underlying t = some (.slice e)) (ht:(P.info? e).map (·.size) = some (Enc.sz α)) (hx:Readable xs (a.eval x) k):Does P o a k IsE0:=by
  have hsz : ∀ w,(sizeOf e).run P w = .ok (Enc.sz α) w:=fun w=>run_sizeOf ht
  have b1 : ∀ (c:BoundsCode) (y:Nat) (w:World),(Instr.sliceBound (.int .i64 0) y c).run P w = .ok 0 w:=fun c y w=>by
    simpa using run_sliceBound (P:=P) (i:=0) (y:=y) (c:=c) (w:=w) (by omega) (by omega)
  have ev : ∀ v:Value,a.eval (.const v) = v:=fun v=>rfl
  rcases hx with ⟨e1,rfl⟩ | ⟨ad,cap,cs,e1,_⟩
  · refine does_pure (v := .slice none 0 0) ?_ (.inl rfl)
    rcases hlo with rfl | rfl <;>
    · simp only [execOp, ho, e1]
      simp [Instr.sliceAt,Instr.slice,run_underlying hu,Instr.sliceBounds,b1,hsz,ev]
  · refine does_pure (v := .slice (some ad) 0 0) ?_ (.inr ⟨ad, rfl⟩)
    rcases hlo with rfl | rfl <;>
    · simp only [execOp, ho, e1]
      simp [Instr.sliceAt,Instr.slice,run_underlying hu,Instr.sliceBounds,b1,hsz,ev]

/-! comparisons -/
theorem ok_eqS {t u:TypeId} {x y:Operand} {b c:ByteArray} (ho:o.op = .binOp .eql t x y u) (hx:IsV b (a.eval x) k) (hy:IsV c (a.eval y) k):Does P o a k (IsV (b.toList == c.toList)):=by
  have hx:=isV_str.1 hx; have hy:=isV_str.1 hy
  refine does_pure (v:=.bool (b.toList == c.toList)) ?_ (isV_bool.2 rfl)
  simp only [execOp,ho,hx,hy]
  simp [eqGuard,binOp,Op.stringOp]
theorem ok_neS {t u:TypeId} {x y:Operand} {b c:ByteArray} (ho:o.op = .binOp .neq t x y u) (hx:IsV b (a.eval x) k) (hy:IsV c (a.eval y) k):Does P o a k (IsV (!(b.toList == c.toList))):=by
  have hx:=isV_str.1 hx; have hy:=isV_str.1 hy
  refine does_pure (v:=.bool (!(b.toList == c.toList))) ?_ (isV_bool.2 rfl)
  simp only [execOp,ho,hx,hy]
  simp [eqGuard,binOp,Op.stringOp]

/-- Values of this type are compared part by part. -/
def EqOk (P:Program) (t:TypeId) (α:Type) [Enc α] [DecidableEq α]:Prop:=
  P.eqGuardType P.depth t = false∧∀ (k:K) (x y:α) (u v:Value),IsV x u k → IsV y v k → (∃ cs,u = .agg cs)∧(∃ cs,v = .agg cs)∧∀ w,(Op.equal t u v).run P w = .ok (decide (x = y)) w
theorem ok_eqA [DecidableEq α] {t u:TypeId} {x y:Operand} {p q:α} (ho:o.op = .binOp .eql t x y u) (he:EqOk P t α) (hx:IsV p (a.eval x) k) (hy:IsV q (a.eval y) k) :
    Does P o a k (IsV (decide (p = q))):=by
  obtain ⟨hgd,he⟩:=he
  obtain ⟨⟨cs,e1⟩,⟨ds,e2⟩,hr⟩:=he k p q _ _ hx hy
  refine does_pure (v:=.bool (decide (p = q))) ?_ (isV_bool.2 rfl)
  rw [e1,e2] at hr
  simp only [execOp,ho,e1,e2]
  simp [eqGuard,binOp,hr,hgd]
theorem ok_neA [DecidableEq α] {t u:TypeId} {x y:Operand} {p q:α} (ho:o.op = .binOp .neq t x y u) (he:EqOk P t α) (hx:IsV p (a.eval x) k) (hy:IsV q (a.eval y) k) :
    Does P o a k (IsV (!decide (p = q))):=by
  obtain ⟨hgd,he⟩:=he
  obtain ⟨⟨cs,e1⟩,⟨ds,e2⟩,hr⟩:=he k p q _ _ hx hy
  refine does_pure (v:=.bool (!decide (p = q))) ?_ (isV_bool.2 rfl)
  rw [e1,e2] at hr
  simp only [execOp,ho,e1,e2]
  simp [eqGuard,binOp,hr,hgd]
end
end Go.Gb

/- General part of the proofs: what is written, told by the blocks that may be written to. -/
namespace Go.Gb

/-- A set of blocks. -/
abbrev FP:=Nat → Prop
def noF:FP:=fun _=>False
/-- The block of a slice's array. -/
def obF (v:Value):FP:=fun b=>ob v = some b

/-- At most these blocks have been written to, or handed over; there may be new ones. -/
structure Chg (F:FP) (k k' : K):Prop where
  tape:k'.w.tape = k.w.tape
  os:k'.w.os = k.w.os
  out:k'.w.output = k.w.output
  size:k.w.heap.size ≤ k'.w.heap.size
  blk : ∀ b,b < k.w.heap.size → ¬ F b → k'.w.heap[b]? = k.w.heap[b]?
  up : ∀ b,k.sh b → k'.sh b
  new : ∀ b,b < k.w.heap.size → k'.sh b → k.sh b ∨ F b
  drawn:k.w.drawn ≤ k'.w.drawn

theorem Chg.refl (F:FP) (k:K):Chg F k k:=⟨rfl,rfl,rfl,Nat.le_refl _,fun _ _ _=>rfl,fun _ h=>h,fun _ _ h=>.inl h,Nat.le_refl _⟩
theorem Chg.of {F:FP} {k k' : K} (h:Grow k k'):Chg F k k':=⟨h.tape,h.os,h.out,h.size,fun b hb _=>h.blk b hb,h.up,fun b hb hs=>.inl (h.new b hb hs),h.drawn⟩
theorem Chg.grow {k k' : K} (h:Chg noF k k'):Grow k k':=⟨h.tape,h.os,h.out,h.size,fun b hb=>h.blk b hb (fun f=>f),h.up,fun b hb hs=>(h.new b hb hs).elim id False.elim,h.drawn⟩
theorem Chg.new' {F:FP} {k k' : K} (h:Chg F k k') (b:Nat) (hb:b < k.w.heap.size) (hF : ¬ F b) (hs:k'.sh b):k.sh b:=(h.new b hb hs).elim id (fun f=>(hF f).elim)
/-- The blocks may be written to: they are in F, or newer than k. -/
def Wr (F:FP) (k:K) (G:FP):Prop:=∀ b,G b → F b ∨ k.w.heap.size ≤ b
theorem Chg.step {F G:FP} {a b c:K} (h:Chg F a b) (g:Chg G b c) (hw:Wr F a G):Chg F a c:=
  ⟨g.tape.trans h.tape,g.os.trans h.os,g.out.trans h.out,Nat.le_trans h.size g.size,
    fun i hi hF=>(g.blk i (Nat.lt_of_lt_of_le hi h.size) (fun hG=>(hw i hG).elim hF (by omega))).trans (h.blk i hi hF),
    fun i hi=>g.up i (h.up i hi),fun i hi hs=>(g.new i (Nat.lt_of_lt_of_le hi h.size) hs).elim (h.new i hi) (fun hG=>.inr ((hw i hG).elim id (by omega))),Nat.le_trans h.drawn g.drawn⟩
theorem Chg.then {F:FP} {a b c:K} (h:Chg F a b) (g:Grow b c):Chg F a c:=h.step (Chg.of (F:=noF) g) (fun _ f=>f.elim)
theorem Chg.le {F:FP} {k k' : K} (h:Chg F k k') (hF : ∀ b,F b → ¬ k.sh b):Le k k':=
  ⟨fun b hb=>h.blk b (k.lt b hb) (fun f=>hF b f hb),h.up⟩
theorem Wr.none {F:FP} {k:K}:Wr F k noF:=fun _ f=>f.elim
theorem Wr.up {F G:FP} {k k' : K} (h:Wr F k G) (hs:k'.w.heap.size ≤ k.w.heap.size):Wr F k' G:=fun b hb=>(h b hb).imp id (fun h=>by omega)
/-- What is newer than a later world, is newer. -/
theorem Wr.new {F F' G:FP} {k k' : K} (hc:Chg F' k k') (h : ∀ b,G b → k'.w.heap.size ≤ b):Wr F k G:=fun b hb=>.inr (Nat.le_trans hc.size (h b hb))

/-- Two sets of blocks are apart. -/
def Apart (F G:FP):Prop:=∀ b,F b → ¬ G b
theorem Apart.symm {F G:FP} (h:Apart F G):Apart G F:=fun b g f=>h b f g
theorem Apart.new {F G:FP} {n:Nat} (hF : ∀ b,F b → b < n) (hG : ∀ b,G b → n ≤ b):Apart F G:=fun b f g=>by have:=hF b f; have:=hG b g; omega
theorem Apart.app {F G G' : FP} {n:Nat} (h:Apart F G) (hF : ∀ b,F b → b < n) (hG : ∀ b,G' b → G b ∨ n ≤ b):Apart F G':=fun b f g=>by
  rcases hG b g with g | g
  · exact h b f g
  · have:=hF b f; omega

/-- Behind the handing over of some blocks. -/
structure Handed (k k' : K) (F:FP):Prop where
  w:k'.w = k.w
  le:Le k k'
  sh : ∀ b,k'.sh b → k.sh b ∨ F b
theorem Chg.hand {F G:FP} {k0 k k' : K} (h:Chg F k0 k) (g:Handed k k' G) (hn:Wr F k0 G):Chg F k0 k':=
  ⟨by rw [g.w]; exact h.tape,by rw [g.w]; exact h.os,by rw [g.w]; exact h.out,by rw [g.w]; exact h.size,by rw [g.w]; exact h.blk,fun b hb=>g.le.up b (h.up b hb),
    fun b hb hs=>(g.sh b hs).elim (h.new b hb) (fun f=>(hn b f).elim .inr (fun h=>by omega)),by rw [g.w]; exact h.drawn⟩

section
variable {P:Program} {o:Oper} {a a0:Act} {k k' k0:K} {R S:Pred} {α β:Type} [Enc α] [Enc β] {F G:FP}

/-- What belongs to the call alone: a value and the blocks behind it. -/
class Rsc (R:FP → Pred):Prop where
  keep : ∀ {F G v k k'},R F v k → Chg G k k' → Apart F G → (∀ b,G b → ¬ k.sh b) → R F v k'
  handed : ∀ {F G v k k'},R F v k → Handed k k' G → Apart F G → R F v k'
  lt : ∀ {F v k},R F v k → ∀ b,F b → b < k.w.heap.size
  nsh : ∀ {F v k},R F v k → ∀ b,F b → ¬ k.sh b
theorem Rsc.grow {R:FP → Pred} [Rsc R] {v:Value} (h:R F v k) (g:Grow k k'):R F v k':=Rsc.keep h (Chg.of (F:=noF) g) (fun _ _ f=>f) (fun _ f=>f.elim)
instance {R:FP → Pred} [Rsc R]:Mono (R F):=⟨fun g h=>Rsc.grow h g⟩

/-- A box of the call's own. -/
def BoxR (x:α):FP → Pred:=fun F v k=>∃ b,v = .pointer (some ⟨b,0,none⟩)∧F = Eq b∧Box b x k
theorem Box.keep {b:Nat} {x:α} (h:Box b x k) (g:Chg G k k') (hG : ¬ G b) (hn : ∀ b,G b → ¬ k.sh b):Box b x k':=by
  have hle:=g.le hn
  have hlt:=h.lt
  obtain ⟨ho,arr,t,h,r⟩:=h
  exact ⟨fun hs=>ho (g.new' b hlt hG hs),arr,t,by rw [g.blk b hlt hG]; exact h,Enc.mono hle r⟩
theorem Box.handed {b:Nat} {x:α} (h:Box b x k) (g:Handed k k' G) (hG : ¬ G b):Box b x k':=by
  have hle:=g.le
  obtain ⟨ho,arr,t,h,r⟩:=h
  exact ⟨fun hs=>(g.sh b hs).elim ho hG,arr,t,by rw [g.w]; exact h,Enc.mono hle r⟩
instance (x:α):Rsc (BoxR x) where
  keep:=fun ⟨b,e,eF,h⟩ g hs hn=>⟨b,e,eF,h.keep g (hs b (by rw [eF])) hn⟩
  handed:=fun ⟨b,e,eF,h⟩ g hs=>⟨b,e,eF,h.handed g (hs b (by rw [eF]))⟩
  lt:=fun ⟨b,e,eF,h⟩ c hc=>by rw [eF] at hc; rw [← hc]; exact h.lt
  nsh:=fun ⟨b,e,eF,h⟩ c hc=>by rw [eF] at hc; rw [← hc]; exact h.own

/-- A slice of the call's own. -/
def OwnR (e:TypeId) (xs:List α):FP → Pred:=fun F v k=>F = obF v∧IsOwn 0 e xs v k
theorem IsOwn.keep {B:Nat} {e:TypeId} {xs:List α} {v:Value} (h:IsOwn B e xs v k) (g:Chg G k k') (hs:Apart (obF v) G) (hn : ∀ b,G b → ¬ k.sh b):IsOwn B e xs v k':=by
  have hle:=g.le hn
  rcases h with r | r | ⟨b', off, cap, cur, cs, rfl, hB, ho, hh, hc, h0, r⟩
  · exact .inl r
  · exact .inr (.inl r)
  · have hlt : b' < k.w.heap.size := (Array.getElem?_eq_some_iff.1 hh).1
    have hne:=hs b' (by simp [obF,ob,Nat.ne_of_gt h0])
    exact .inr (.inr ⟨b', off, cap, cur, cs, rfl, hB, fun hs' => ho (g.new' b' hlt hne hs'), by rw [g.blk b' hlt hne]; exact hh, hc, h0, r.1, r.2.1, r.2.2.1, r.2.2.2.mono hle⟩)
theorem IsOwn.handed {B:Nat} {e:TypeId} {xs:List α} {v:Value} (h:IsOwn B e xs v k) (g:Handed k k' G) (hs:Apart (obF v) G):IsOwn B e xs v k':=by
  have hle:=g.le
  rcases h with r | r | ⟨b', off, cap, cur, cs, rfl, hB, ho, hh, hc, h0, r⟩
  · exact .inl r
  · exact .inr (.inl r)
  · have hne := hs b' (by simp [obF, ob, Nat.ne_of_gt h0])
    exact .inr (.inr ⟨b', off, cap, cur, cs, rfl, hB, fun hs' => (g.sh b' hs').elim ho hne, by rw [g.w]; exact hh, hc, h0, r.1, r.2.1, r.2.2.1, r.2.2.2.mono hle⟩)
instance (e:TypeId) (xs:List α):Rsc (OwnR e xs) where
  keep:=fun ⟨eF,h⟩ g hs hn=>⟨eF,h.keep g (eF ▸ hs) hn⟩
  handed:=fun ⟨eF,h⟩ g hs=>⟨eF,h.handed g (eF ▸ hs)⟩
  lt:=fun ⟨eF,h⟩ b hb=>(h.lt b (by rw [eF] at hb; exact hb)).2.1
  nsh:=fun ⟨eF,h⟩ b hb=>(h.lt b (by rw [eF] at hb; exact hb)).2.2

theorem hand_box {x:α} {v:Value} (h:BoxR x F v k) : ∃ k' : K,Handed k k' F∧IsRef x v k':=by
  obtain ⟨b,rfl,rfl,h⟩:=h
  exact ⟨k.share b h.lt,⟨rfl,K.share_le k b h.lt,fun i hi=>hi.imp id Eq.symm⟩,h.share⟩
theorem hand_own {e:TypeId} {xs:List α} {v:Value} (h:OwnR e xs F v k) : ∃ k' : K,Handed k k' F∧IsV xs v k':=by
  obtain ⟨rfl,h⟩:=h
  obtain ⟨k', hs, _, hv⟩ := h.hand (k0 := ⟨⟨#[], k.w.tape, 0, k.w.os, k.w.output⟩, fun _ => False, fun _ f => f.elim⟩)
    ⟨rfl,rfl,rfl,Nat.zero_le _,fun b hb=>absurd hb (Nat.not_lt_zero b),fun _ f=>f.elim,fun b hb=>absurd hb (Nat.not_lt_zero b),Nat.zero_le _⟩ (Nat.le_refl _)
  exact ⟨k', ⟨hs.w, hs.le, hs.sh⟩, hv⟩

/-! the operations behind the others -/
theorem tail_storeB {A:Array Oper} {i off b:Nat} {rest:List Nat} {Q:Exit → Act → World → Prop} {t:TypeId} {p y:Operand} {x:α} {z:β} {set:α → β → α}
    (ho:nth A.toList i = some o) (hg:o.guard = none) (hop:o.op = .store t p y) (hd:o.dst = none) (hs:(P.info? t).map (·.size) = some (Enc.sz β)) (hu:Upd off set)
    (hp:IsAdr b off (a.eval p) k) (hb:Box b x k) (hv:IsV z (a.eval y) k)
    (h : ∀ k', Chg (Eq b) k k' → Box b (set x z) k' → wpOps P A Q rest a k'.w) : wpOps P A Q (i :: rest) a k.w :=
  tail_store ho hg hop hd hs hu hp hb hv fun k' hon hz=>h k' ⟨hon.tape,hon.os,hon.out,Nat.le_of_eq hon.size.symm,fun c _ hc=>hon.blk c (fun e=>hc e.symm),fun c hc=>by rw [hon.sh]; exact hc,fun c _ hc=>by rw [hon.sh] at hc; exact .inl hc,hon.drawn⟩ hz

theorem tail_storeS {A:Array Oper} {i m off:Nat} {e:TypeId} {rest:List Nat} {Q:Exit → Act → World → Prop} {t:TypeId} {p y:Operand} {u:Value} {xs:List α} {x:α} {z:β} {set:α → β → α}
    (ho:nth A.toList i = some o) (hg:o.guard = none) (hop:o.op = .store t p y) (hd:o.dst = none) (hs:(P.info? t).map (·.size) = some (Enc.sz β)) (hu:Upd off set)
    (hp:IsAdrO u (m * Enc.sz α + off) (a.eval p) k) (hb:IsOwn 0 e xs u k) (hm:xs[m]? = some x) (hv:IsV z (a.eval y) k)
    (h : ∀ k' : K,Chg (obF u) k k' → IsOwn 0 e (xs.set m (set x z)) u k' → wpOps P A Q rest a k'.w):wpOps P A Q (i::rest) a k.w:=
  tail_storeO ho hg hop hd hs hu hp hb hm hv fun b k' hob hon hz=>h k' ⟨hon.tape,hon.os,hon.out,Nat.le_of_eq hon.size.symm,fun c _ hc=>hon.blk c (fun e=>hc (by rw [obF,hob,e])),fun c hc=>by rw [hon.sh]; exact hc,fun c _ hc=>by rw [hon.sh] at hc; exact .inl hc,hon.drawn⟩ hz

theorem Grown.chg {r:Option Nat} (h:Grown k k' r):Chg (fun b=>r = some b) k k':=
  ⟨h.tape,h.os,h.out,h.size,fun b hb hr=>h.blk b hb (fun e=>hr e.symm),fun b hb=>by rw [h.sh]; exact hb,fun b _ hb=>by rw [h.sh] at hb; exact .inl hb,h.drawn⟩

theorem tail_appendS {A:Array Oper} {i d:Nat} {rest:List Nat} {Q:Exit → Act → World → Prop} {t e:TypeId} {x y:Operand} {xs ys zs:List α}
    (ho:nth A.toList i = some o) (hgd:o.guard = none) (hop:o.op = .call { callee:=.builtin .append,args:=#[x,y],argTypes:=#[t,t] }) (hd:o.dst = some d) (hda:d < a.tmps.size)
    (hu:P.underlying t = some (.slice e)) (he:ElemOk P e α) (hv:IsOwn 0 e xs (a.eval x) k) (hy:Readable ys (a.eval y) k) (hz:appI xs ys = some zs)
    (h : ∀ (a' : Act) (k' : K),a'.tmps.size = a.tmps.size → a'.defers = a.defers → (∀ t,t ≠ d → a'.get t = a.get t) → Chg (obF (a.eval x)) k k' → IsOwn 0 e zs (a'.get d) k' →
      (∀ b,obF (a'.get d) b → obF (a.eval x) b ∨ k.w.heap.size ≤ b) → wpOps P A Q rest a' k'.w):wpOps P A Q (i::rest) a k.w:=
  tail_append ho hgd hop hd hda hu he (Nat.zero_le _) hv hy hz fun a' k' h1 h2 h3 h4 h5 h6=>h a' k' h1 h2 h3 h4.chg h5 h6

/-- What a call does that may write to the blocks in F. -/
def RetC (F:FP) (k:K) (R:Pred):Ending → World → Prop
  | .returned v,w'=>∃ k' : K,k'.w = w'∧Chg F k k'∧R v k'
  | .outgrown,_=>False
  | .panicked _,_=>False

theorem tail_call {A:Array Oper} {i d:Nat} {rest:List Nat} {Q:Exit → Act → World → Prop} {f:FuncId} {as_:List Operand} {ts:Array TypeId}
    (ho:nth A.toList i = some o) (hgd:o.guard = none) (hop:o.op = .call { callee:=.value (.func f),args:=as_.toArray,argTypes:=ts }) (hd:o.dst = some d) (hda:d < a.tmps.size)
    (hc : ∀ args w,(callFunc f args).run P w = .ok (.enter f args) w) (_hQ:LetsOut Q) (hcall:Calls P f (as_.map a.eval).toArray k.w (RetC F k R))
    (h : ∀ (a' : Act) (k' : K),a'.tmps.size = a.tmps.size → a'.defers = a.defers → (∀ t,t ≠ d → a'.get t = a.get t) → Chg F k k' → R (a'.get d) k' → wpOps P A Q rest a' k'.w):wpOps P A Q (i::rest) a k.w:=by
  rw [wpOps_cons]
  rw [nth_toList] at ho
  unfold wpOp
  simp only [ho,Region.wanted,hgd,if_true]
  refine .inl ?_
  unfold Oper.wp
  have hr:(execOp a.eval o).run P k.w = .ok (.enter f (as_.map a.eval).toArray) k.w:=by
    simp [execOp,hop,resolve,invoke,Deferred.ofValue,Act.eval,hc]
  rw [hr]
  refine Calls.mono hcall fun e w' he=>?_
  cases e with
  | returned v =>
    obtain ⟨k', rfl, hg, hv⟩ := he
    simp only [hd]
    have hgd' : (a.put (some d) v).get d = v:=by rw [get_put _ _ _ _ hda]; simp
    refine h _ k' (put_size _ _ _) (put_defers' _ _ _) ?_ hg (by rw [hgd']; exact hv)
    intro t ht
    rw [get_put _ _ _ _ hda,if_neg (Ne.symm ht)]
  | panicked c=>exact he.elim
  | outgrown=>exact he.elim
theorem Ret.ofC {f:FuncId} {as_:Array Value} {w:World} (h:Calls P f as_ w (RetC noF k R)):Calls P f as_ w (Ret k R):=h.mono fun e w' he=>by
  cases e with
  | returned v => obtain ⟨k', e1, hg, hv⟩ := he; exact ⟨k', e1, hg.grow, hv⟩
  | panicked c=>exact he
  | outgrown=>exact he
end
end Go.Gb

/- General part of the proofs: the way in and out of functions that write to what they are handed; slots of the call's own. -/
namespace Go.Gb
section
variable {P:Program} {o:Oper} {a a0:Act} {k k' k0:K} {R S T:Pred} {α β:Type} [Enc α] [Enc β] {F G:FP}

theorem bodyPost_ret' {fn:Func} {v:Value} (hd:a.defers = []) (hv:(results fn a.tmps).run P k'.w = .ok v k'.w) (hg:Chg F k k') (hR:R v k'):bodyPost P fn (RetC F k R) .ret a k'.w:=
  ⟨hd, v, hv, k', rfl, hg, hR⟩
theorem letsOutC {fn:Func}:LetsOut (bodyPost P fn (RetC F k R)):=trivial
theorem enterC {f:FuncId} {fn:Func} {c:Code} {args:Array Value} {n:Nat} (hf:P.funcs[f]? = some fn) (hb:fn.body = some c) (hn:fn.ntmps = n) (hl:args.size ≤ n)
    (h : ∀ a:Act,a.tmps.size = n → a.defers = [] → ArgsAre a 0 args.toList → c.wp P (bodyPost P fn (RetC F k R)) a k.w):Calls P f args k.w (RetC F k R):=by
  refine calls_of_wp hf hb (h _ ?_ rfl ?_)
  · simp [hn]; omega
  · have key : ∀ (vs : List Value) (i : Nat), args.toList.drop i = vs → ArgsAre { tmps := args ++ Array.replicate (fn.ntmps - args.size) undef, defers := [] } i vs := by
      intro vs
      induction vs with
      | nil=>intro i _; trivial
      | cons v vs ih =>
        intro i hi
        have hlt:i < args.size:=by
          rcases Nat.lt_or_ge i args.size with h | h
          · exact h
          · rw [List.drop_eq_nil_of_le (by simpa using h)] at hi; simp at hi
        refine ⟨?_,ih (i + 1) (by rw [← List.drop_drop,hi]; rfl)⟩
        rw [List.drop_eq_getElem_cons (by simpa using hlt)] at hi
        simp only [List.cons.injEq] at hi
        simp only [Act.get,Array.getD_eq_getD_getElem?]
        rw [Array.getElem?_append_left hlt]
        simp [hlt,← hi.1]
    exact key _ 0 rfl
theorem retC1 {fn:Func} {r:ResultVar} (hr:fn.results = #[r]) (hd:a.defers = []) (hg:Chg F k k') (h:ResOk P a k' r R):bodyPost P fn (RetC F k R) .ret a k'.w:=by
  obtain ⟨v,hv,hR⟩:=resOk_run h
  refine ⟨hd, v, ?_, k', rfl, hg, hR⟩
  simp only [results_eq,hr]
  simp [hv]
theorem retC2 {fn:Func} {r s:ResultVar} (hr:fn.results = #[r,s]) (hd:a.defers = []) (hg:Chg F k k') (h:ResOk P a k' r R) (g:ResOk P a k' s S) :
    bodyPost P fn (RetC F k (IsTup2 R S)) .ret a k'.w:=by
  obtain ⟨v,hv,hR⟩:=resOk_run h
  obtain ⟨u,hu,hS⟩:=resOk_run g
  refine ⟨hd, .tuple #[v, u], ?_, k', rfl, hg, v, u, rfl, hR, hS⟩
  simp only [results_eq,hr]
  simp [hv,hu]
/-- The blocks are newer than the world k. -/
def Lo (k:K) (G:FP):Prop:=∀ b,G b → k.w.heap.size ≤ b
theorem Lo.wr (h:Lo k G):Wr F k G:=fun b hb=>.inr (h b hb)
theorem Lo.chg (h:Lo k' G) (g:Chg F k k'):Lo k G:=fun b hb=>Nat.le_trans g.size (h b hb)
theorem Lo.app {G' : FP} (h:Lo k G) (g:Chg F k k') (hG : ∀ b,G' b → G b ∨ k'.w.heap.size ≤ b):Lo k G':=fun b hb=>(hG b hb).elim (h b) (fun h=>Nat.le_trans g.size h)
theorem Wr.app {G' : FP} (h:Wr F k G) (g:Chg F k k') (hG : ∀ b,G' b → G b ∨ k'.w.heap.size ≤ b):Wr F k G':=fun b hb=>(hG b hb).elim (h b) (fun h=>.inr (Nat.le_trans g.size h))
theorem Lo.eq {b:Nat} (h:k.w.heap.size ≤ b):Lo k (Eq b):=fun _ e=>e ▸ h
theorem Box.ltF {b:Nat} {x:α} (h:Box b x k) : ∀ c,b = c → c < k.w.heap.size:=fun _ e=>e ▸ h.lt
theorem Box.nshF {b:Nat} {x:α} (h:Box b x k) : ∀ c,b = c → ¬ k.sh c:=fun _ e=>e ▸ h.own
theorem IsOwn.ltF {B:Nat} {e:TypeId} {xs:List α} {v:Value} (h:IsOwn B e xs v k) : ∀ b,obF v b → b < k.w.heap.size:=fun b hb=>(h.lt b hb).2.1
theorem IsOwn.nshF {B:Nat} {e:TypeId} {xs:List α} {v:Value} (h:IsOwn B e xs v k) : ∀ b,obF v b → ¬ k.sh b:=fun b hb=>(h.lt b hb).2.2
theorem IsOwn.loF {e:TypeId} {xs:List α} {v:Value} (h:IsOwn k0.w.heap.size e xs v k):Lo k0 (obF v):=fun b hb=>(h.lt b hb).1
theorem IsOwn.give {B:Nat} {e:TypeId} {xs:List α} {v:Value} (h:IsOwn B e xs v k) : ∃ k' : K,Handed k k' (obF v)∧IsV xs v k':=
  hand_own ⟨rfl,h.weaken (Nat.zero_le _)⟩
theorem Box.give {b:Nat} {x:α} (h:Box b x k) : ∃ k' : K,Handed k k' (Eq b)∧IsRef x (.pointer (some ⟨b,0,none⟩)) k':=
  hand_box ⟨b,rfl,rfl,h⟩
theorem IsE0.own0 {e:TypeId} {v:Value} (h:IsE0 v k):IsOwn (α:=α) 0 e [] v k:=h.own
theorem IsE0.noOb {v:Value} (h:IsE0 v k) : ∀ b,¬ obF v b:=fun b hb=>by rw [obF,h.ob] at hb; simp at hb
theorem IsE0.lo {v:Value} (h:IsE0 v k):Lo k0 (obF v):=fun b hb=>(h.noOb b hb).elim
theorem IsE0.apart {v:Value} (h:IsE0 v k):Apart (obF v) G:=fun b hb=>(h.noOb b hb).elim
end

/-- How far a call has come. -/
structure Bs (F:FP) (k0:K) (n:Nat) (a:Act) (k:K):Prop where
  g:Chg F k0 k
  s:a.tmps.size = n
  d:a.defers = []
section
variable {P:Program} {F:FP} {a a' : Act} {k k' k0:K} {n m:Nat} {ops:List Oper} {es:List Ent}
theorem Bs.post (h:Bs F k0 n a k) (p:Post ops es m a k a' k'):Bs F k0 n a' k':=⟨h.g.then p.grow,p.size.trans h.s,p.defers.trans h.d⟩
theorem cutFe {c:Code} {Q:Exit → Act → World → Prop} {τ ρ:Type} (f:Flow τ ρ) (T:τ → Act → K → Prop) (X:Nat → τ → Act → K → Prop) (Rt:ρ → Act → K → Prop)
    (h1 : ∀ Q' : Exit → Act → World → Prop, LetsOut Q' → (∀ s' a' k', f = .go s' → T s' a' k' → Q' .normal a' k'.w) →
      (∀ i s' a' k', f = .ex i s' → X i s' a' k' → Q' (.exit i) a' k'.w) → (∀ r a' k', f = .ret r → Rt r a' k' → Q' .ret a' k'.w) → c.wp P Q' a k.w)
    (hQ : LetsOut Q) (h4 : ∀ r a' k', f = .ret r → Rt r a' k' → Q .ret a' k'.w) (h2 : ∀ s' a' k', f = .go s' → T s' a' k' → Q .normal a' k'.w)
    (h3 : ∀ i s' a' k', f = .ex i s' → X i s' a' k' → Q (.exit i) a' k'.w) : c.wp P Q a k.w :=
  h1 Q hQ h2 h3 h4
end
end Go.Gb

/- General part of the proofs: function values. -/
namespace Go.Gb
section
variable {P:Program} {o:Oper} {a a0:Act} {k k' k0:K} {α β γ δ:Type} [Enc α] [Enc β] [Enc γ] [Enc δ]

/-- A function value that computes g. -/
def IsFn1 (P:Program) (g:α → Option β):Pred:=fun v k=>
  ∃ f first captured,v = .func (.func f) first captured∧(∀ args w,(callFunc f args).run P w = .ok (.enter f args) w) ∧
    ∀ k', Le k k' → ∀ x vx y, IsV x vx k' → g x = some y → Calls P f (first ++ #[vx] ++ captured) k'.w (Ret k' (IsV y))
def IsFn2 (P:Program) (g:α → β → Option γ):Pred:=fun v k=>
  ∃ f first captured,v = .func (.func f) first captured∧(∀ args w,(callFunc f args).run P w = .ok (.enter f args) w) ∧
    ∀ k', Le k k' → ∀ x vx y vy z, IsV x vx k' → IsV y vy k' → g x y = some z → Calls P f (first ++ #[vx, vy] ++ captured) k'.w (Ret k' (IsV z))
/-- with two results -/
def IsFn2T (P:Program) (g:α → β → Option (γ × δ)):Pred:=fun v k=>
  ∃ f first captured,v = .func (.func f) first captured∧(∀ args w,(callFunc f args).run P w = .ok (.enter f args) w) ∧
    ∀ k', Le k k' → ∀ x vx y vy z, IsV x vx k' → IsV y vy k' → g x y = some z → Calls P f (first ++ #[vx, vy] ++ captured) k'.w (Ret k' (IsTup2 (IsV z.1) (IsV z.2)))
instance (g:α → Option β):Pers (IsFn1 P g):=⟨fun h ⟨f,fi,c,e,hc,r⟩=>⟨f,fi,c,e,hc,fun k' hk=>r k' (h.trans hk)⟩⟩
instance (g:α → β → Option γ):Pers (IsFn2 P g):=⟨fun h ⟨f,fi,c,e,hc,r⟩=>⟨f,fi,c,e,hc,fun k' hk=>r k' (h.trans hk)⟩⟩
instance (g:α → β → Option (γ × δ)):Pers (IsFn2T P g):=⟨fun h ⟨f,fi,c,e,hc,r⟩=>⟨f,fi,c,e,hc,fun k' hk=>r k' (h.trans hk)⟩⟩

theorem ok_makeFunc {R:Pred} {fn:Fn} {first captured:List Operand} (ho:o.op = .makeFunc fn first.toArray captured.toArray)
    (h:R (.func fn (first.map a.eval).toArray (captured.map a.eval).toArray) k):Does P o a k R:=
  does_pure (v:=.func fn (first.map a.eval).toArray (captured.map a.eval).toArray) (by simp [execOp,ho,Instr.makeFunc]) h

theorem does_enter {R:Pred} {f:FuncId} {args:Array Value} (hr:(execOp a.eval o).run P k.w = .ok (.enter f args) k.w) (h:Calls P f args k.w (Ret k R)):Does P o a k R:=by
  intro next Q hQ hn
  unfold Oper.wp
  rw [hr]
  refine Calls.mono h fun e w' he=>?_
  cases e with
  | returned v =>
    obtain ⟨k', rfl, hg, hv⟩ := he
    exact hn v k' hg hv
  | panicked c=>exact he.elim
  | outgrown=>exact he.elim

theorem ok_callF1 {g:α → Option β} {fx x:Operand} {ts:Array TypeId} {p:α} {r:β} (ho:o.op = .call { callee:=.value fx,args:=#[x],argTypes:=ts })
    (hf:IsFn1 P g (a.eval fx) k) (hx:IsV p (a.eval x) k) (h:g p = some r):Does P o a k (IsV r):=by
  obtain ⟨f,fi,c,e,hc,hr⟩:=hf
  refine does_enter (f:=f) (args:=fi ++ #[a.eval x] ++ c) ?_ (hr k (Le.refl k) _ _ _ hx h)
  simp [execOp,ho,resolve,invoke,Deferred.ofValue,e,hc]
theorem ok_callF2 {g:α → β → Option γ} {fx x y:Operand} {ts:Array TypeId} {p:α} {q:β} {r:γ} (ho:o.op = .call { callee:=.value fx,args:=#[x,y],argTypes:=ts })
    (hf:IsFn2 P g (a.eval fx) k) (hx:IsV p (a.eval x) k) (hy:IsV q (a.eval y) k) (h:g p q = some r):Does P o a k (IsV r):=by
  obtain ⟨f,fi,c,e,hc,hr⟩:=hf
  refine does_enter (f:=f) (args:=fi ++ #[a.eval x,a.eval y] ++ c) ?_ (hr k (Le.refl k) _ _ _ _ _ hx hy h)
  simp [execOp,ho,resolve,invoke,Deferred.ofValue,e,hc]
end
end Go.Gb

/- General part of the proofs: other integer types, nil tests, results that belong to the caller. -/
namespace Go.Gb

/-- An integer of another type. -/
structure IK (κ:IntKind) where
  n:Int
  deriving DecidableEq
instance {κ:IntKind}:Inhabited (IK κ):=⟨⟨0⟩⟩
instance {κ:IntKind}:Enc (IK κ) where
  sz:=1
  agg:=false
  rep _ cs x:=cs = [.int κ x.n]
  len h:=by simp [h]
  mono _ h:=h
  one h:=by subst h; simp [Value.oneCell']
  agg1 _:=rfl
def IK.shr {κ:IntKind} (x:IK κ) (n:Int):IK κ:=⟨x.n.fdiv (2 ^ n.toNat)⟩
def IK.add {κ:IntKind} (x y:IK κ):IK κ:=⟨κ.wrap (x.n + y.n)⟩
def IK.sub {κ:IntKind} (x y:IK κ):IK κ:=⟨κ.wrap (x.n - y.n)⟩
def IK.mul {κ:IntKind} (x y:IK κ):IK κ:=⟨κ.wrap (x.n * y.n)⟩

theorem isV_ik {κ:IntKind} {x:IK κ} {v:Value} {k:K}:IsV x v k ↔ v = .int κ x.n:=
  ⟨fun ⟨_,e,r⟩=>by rw [e,r]; rfl,fun e=>⟨[.int κ x.n],e,rfl⟩⟩

section
variable {P:Program} {o:Oper} {a a0:Act} {k k' k0:K} {R S:Pred} {α β:Type} [Enc α] [Enc β]

theorem run_convert {t u:TypeId} {κ κ' : IntKind} {n:Int} {w:World} (ht:(P.underlying t).isSome = true) (hu:P.underlying u = some (.int κ')):(convert t u (.int κ n)).run P w = .ok (.int κ' (κ'.wrap n)) w:=by
  obtain ⟨d,hd⟩:=Option.isSome_iff_exists.1 ht
  simp [convert,run_underlying hd,run_underlying hu,Conv.intToInt]
section
variable {t u v:TypeId} {x y:Operand} {κ κ' : IntKind}
theorem ok_conv_ik {n:Int} (ho:o.op = .convert t u x) (ht:(P.underlying t).isSome = true) (hu:P.underlying u = some (.int κ')) (hx:IsV n (a.eval x) k):Does P o a k (IsV (IK.mk (κ'.wrap n):IK κ')):=by
  have hx:=isV_int.1 hx
  refine does_pure (v:=.int κ' (κ'.wrap n)) ?_ (isV_ik.2 rfl)
  simp only [execOp,ho,hx]
  simp [run_convert (P:=P) (κ:=.i64) (n:=n) ht hu]
theorem ok_conv_kk {n:IK κ} (ho:o.op = .convert t u x) (ht:(P.underlying t).isSome = true) (hu:P.underlying u = some (.int κ')) (hx:IsV n (a.eval x) k):Does P o a k (IsV (IK.mk (κ'.wrap n.n):IK κ')):=by
  have hx:=isV_ik.1 hx
  refine does_pure (v:=.int κ' (κ'.wrap n.n)) ?_ (isV_ik.2 rfl)
  simp only [execOp,ho,hx]
  simp [run_convert (P:=P) (κ:=κ) (n:=n.n) ht hu]
end

section
variable {t u:TypeId} {x y:Operand} {κ κ' : IntKind} {n m:IK κ}
theorem ok_addK (ho:o.op = .binOp .add t x y u) (hx:IsV n (a.eval x) k) (hy:IsV m (a.eval y) k):Does P o a k (IsV (n.add m)):=by
  have hx:=isV_ik.1 hx; have hy:=isV_ik.1 hy
  refine does_pure (v:=.int κ (κ.wrap (n.n + m.n))) ?_ (isV_ik.2 rfl)
  simp only [execOp,ho,hx,hy]
  simp [eqGuard,binOp,Op.intArith]
theorem ok_subK (ho:o.op = .binOp .sub t x y u) (hx:IsV n (a.eval x) k) (hy:IsV m (a.eval y) k):Does P o a k (IsV (n.sub m)):=by
  have hx:=isV_ik.1 hx; have hy:=isV_ik.1 hy
  refine does_pure (v:=.int κ (κ.wrap (n.n - m.n))) ?_ (isV_ik.2 rfl)
  simp only [execOp,ho,hx,hy]
  simp [eqGuard,binOp,Op.intArith]
theorem ok_mulK (ho:o.op = .binOp .mul t x y u) (hx:IsV n (a.eval x) k) (hy:IsV m (a.eval y) k):Does P o a k (IsV (n.mul m)):=by
  have hx:=isV_ik.1 hx; have hy:=isV_ik.1 hy
  refine does_pure (v:=.int κ (κ.wrap (n.n * m.n))) ?_ (isV_ik.2 rfl)
  simp only [execOp,ho,hx,hy]
  simp [eqGuard,binOp,Op.intArith]
end

/-- Of a test whether a slice is nil. -/
def IsNT (xs:List α):Pred:=fun v _=>∃ b,v = .bool b∧(b = true → xs = [])
instance (xs:List α):Pers (IsNT xs):=⟨fun _ h=>h⟩
theorem ok_eqNil {t e u:TypeId} {x:Operand} {xs:List α} (ho:o.op = .binOp .eql t x (.const (.slice none 0 0)) u) (hu:P.underlying t = some (.slice e)) (hx:Readable xs (a.eval x) k):Does P o a k (IsNT xs):=by
  have ev:a.eval (.const (.slice none 0 0)) = .slice none 0 0:=rfl
  have hr : ∀ (ad:Option Addr) (n c:Nat),(Op.equal t (.slice ad n c) (.slice none 0 0)).run P k.w = .ok ad.isNone k.w:=fun ad n c=>by
    show (Op.equalIn (9999 + 1) t _ _).run P k.w = _
    rw [Op.equalIn]
    cases ad <;> simp [run_underlying hu]
  rcases hx with ⟨e1,rfl⟩ | ⟨ad,cap,cs,e1,_⟩
  · refine does_pure (v := .bool true) ?_ ⟨true, rfl, fun _ => rfl⟩
    simp only [execOp,ho,e1,ev]
    simp [eqGuard,binOp,hr]
  · refine does_pure (v := .bool false) ?_ ⟨false, rfl, fun h => by simp at h⟩
    simp only [execOp,ho,e1,ev]
    simp [eqGuard,binOp,hr]

theorem enterK {F:FP} {f:FuncId} {fn:Func} {c:Code} {args:Array Value} {n:Nat} (hf:P.funcs[f]? = some fn) (hb:fn.body = some c) (hn:fn.ntmps = n) (hl:args.size ≤ n)
    (h : ∀ (a:Act) (q:K),q = k → a.tmps.size = n → a.defers = [] → ArgsAre a 0 args.toList → c.wp P (bodyPost P fn (RetC F k R)) a q.w):Calls P f args k.w (RetC F k R):=
  enterC hf hb hn hl fun a hs hd ha=>h a k rfl hs hd ha
end
end Go.Gb

/- General part of the proofs: operations of any kind behind the others; slices of the call's own that are only read by a call; pointers to elements. -/
namespace Go.Gb
section
variable {P:Program} {o:Oper} {a a0:Act} {k k' k0:K} {R S T:Pred} {α β:Type} [Enc α] [Enc β]

instance [Pers R] [Pers S]:Pers (IsTup2 R S):=⟨fun h ⟨x,y,e,a,b⟩=>⟨x,y,e,Pers.pers h a,Pers.pers h b⟩⟩
instance [Pers R] [Pers S] [Pers T]:Pers (IsTup3 R S T):=⟨fun h ⟨x,y,z,e,a,b,c⟩=>⟨x,y,z,e,Pers.pers h a,Pers.pers h b,Pers.pers h c⟩⟩

theorem tail_does {A:Array Oper} {i d:Nat} {rest:List Nat} {Q:Exit → Act → World → Prop}
    (ho:nth A.toList i = some o) (hgd:o.guard = none) (hd:o.dst = some d) (hda:d < a.tmps.size) (hQ:LetsOut Q) (hD:Does P o a k R)
    (h : ∀ (a' : Act) (k' : K),a'.tmps.size = a.tmps.size → a'.defers = a.defers → (∀ t,t ≠ d → a'.get t = a.get t) → Grow k k' → R (a'.get d) k' → wpOps P A Q rest a' k'.w):wpOps P A Q (i::rest) a k.w:=by
  rw [wpOps_cons]
  rw [nth_toList] at ho
  unfold wpOp
  simp only [ho,Region.wanted,hgd,if_true]
  refine .inl (hD _ _ hQ fun v k' hg hv=>?_)
  rw [hd]
  have hgd' : (a.put (some d) v).get d = v:=by rw [get_put _ _ _ _ hda]; simp
  refine h _ k' (put_size _ _ _) (put_defers' _ _ _) ?_ hg (by rw [hgd']; exact hv)
  intro t ht
  rw [get_put _ _ _ _ hda,if_neg (Ne.symm ht)]
theorem Rsc.mono {F:FP} {R:FP → Pred} [Rsc R] {v:Value} (g:Grow k k') (h:R F v k):R F v k':=Rsc.grow h g

/-- A value that says nothing of memory. -/
class Flat (R:Pred):Prop where
  flat : ∀ {v k k'},R v k → R v k'
instance {x:Int}:Flat (IsV x):=⟨fun h=>isV_int.2 (isV_int.1 h)⟩
instance {x:Bool}:Flat (IsV x):=⟨fun h=>isV_bool.2 (isV_bool.1 h)⟩
instance {x:ByteArray}:Flat (IsV x):=⟨fun h=>isV_str.2 (isV_str.1 h)⟩
instance {κ:IntKind} {x:IK κ}:Flat (IsV x):=⟨fun h=>isV_ik.2 (isV_ik.1 h)⟩
instance [Flat R] [Flat S]:Flat (IsTup2 R S):=⟨fun ⟨x,y,e,a,b⟩=>⟨x,y,e,Flat.flat a,Flat.flat b⟩⟩
instance [Flat R] [Flat S] [Flat T]:Flat (IsTup3 R S T):=⟨fun ⟨x,y,z,e,a,b,c⟩=>⟨x,y,z,e,Flat.flat a,Flat.flat b,Flat.flat c⟩⟩
end
end Go.Gb

/- General part of the proofs: copying into a slice of the call's own. -/
namespace Go.Gb

end Go.Gb

/- General part of the proofs: maps of the call's own. -/
namespace Go.Gb

theorem beqBytes (a b:ByteArray):(a == b) = decide (a = b):=by
  cases a with | mk a=>cases b with | mk b=>
  show (a == b) = _
  by_cases h:a = b <;> simp [h]

/-- The place and the value of a key in a list of entries. -/
def fnd {κ β:Type} [DecidableEq κ]:List (κ × β) → κ → Nat → Option (Nat × β)
  | [],_,_=>none
  | (a,v)::l,n,i=>if n = a then some (i,v) else fnd l n (i + 1)
def getK {κ β:Type} [DecidableEq κ]:List (κ × β) → κ → Option β
  | [],_=>none
  | (a,v)::l,n=>if n = a then some v else getK l n
def setK {κ β:Type} [DecidableEq κ]:List (κ × β) → κ → β → List (κ × β)
  | [],n,v=>[(n,v)]
  | (a,u)::l,n,v=>if n = a then (a,v)::l else (a,u)::setK l n v

theorem fnd_get {κ β:Type} [DecidableEq κ] : ∀ (l:List (κ × β)) (n:κ) (i:Nat),(fnd l n i).map (·.2) = getK l n
  | [],_,_=>rfl
  | (a, v) :: l, n, i => by
    simp only [fnd,getK]
    split
    · rfl
    · exact fnd_get l n (i + 1)
theorem fnd_none {κ β:Type} [DecidableEq κ] : ∀ (l:List (κ × β)) (n:κ) (i:Nat) (v:β),fnd l n i = none → setK l n v = l ++ [(n,v)]
  | [],_,_,_,_=>rfl
  | (a, u) :: l, n, i, v, h => by
    simp only [fnd] at h
    split at h
    · simp at h
    · rename_i hne
      simp only [setK,if_neg hne,fnd_none l n (i + 1) v h,List.cons_append]
theorem fnd_some {κ β:Type} [DecidableEq κ] : ∀ (l:List (κ × β)) (n:κ) (i j:Nat) (u v:β),fnd l n i = some (j,u) → i ≤ j∧j - i < l.length∧l[j - i]? = some (n,u)∧setK l n v = l.set (j - i) (n,v)
  | [],_,_,_,_,_,h=>by simp [fnd] at h
  | (a, u') :: l, n, i, j, u, v, h => by
    simp only [fnd] at h
    split at h
    · rename_i he
      simp only [Option.some.injEq,Prod.mk.injEq] at h
      obtain ⟨rfl,rfl⟩:=h
      subst he
      simp [setK]
    · rename_i hne
      obtain ⟨h1,h2,h3,h4⟩:=fnd_some l n (i + 1) j u v h
      have e:j - i = (j - (i + 1)) + 1:=by omega
      refine ⟨by omega,by simp; omega,by rw [e]; simpa using h3,?_⟩
      rw [e,List.set_cons_succ,← h4]
      simp only [setK,if_neg hne]

/-- How keys of a Go type stand for values of a Lean type. -/
structure KeyOk (P:Program) (kt:TypeId) {κ:Type} [DecidableEq κ] (kv:κ → Value):Prop where
  find : ∀ (l:List (κ × Value)) (es:List MapEntry) (n:κ) (w:World),es.map (fun e=>(e.key,e.val)) = l.map (fun p=>(kv p.1,p.2)) → (Instr.findKey kt (kv n) es).run P w = .ok (fnd l n 0) w
  check : ∀ (e:Bool) (n:κ) (w:World),(Instr.checkKey e 10000 kt (kv n)).run P w = .ok () w
  same : ∀ n:κ,Instr.sameBits 10000 (kv n) (kv n) = true

theorem keyStr {P:Program} {kt:TypeId} (hu:P.underlying kt = some .string):KeyOk P kt Value.string where
  find l es n w h:=by
    refine MapKept.run_findKey hu ?_
    have key : ∀ (l:List (ByteArray × Value)) (es:List MapEntry) (i:Nat),es.map (fun e=>(e.key,e.val)) = l.map (fun p=>(Value.string p.1,p.2)) → Instr.findNow .string (.string n) es i = some (fnd l n i):=by
      intro l
      induction l with
      | nil=>intro es i h; simp at h; subst h; rfl
      | cons p l ih =>
        intro es i h
        cases es with
        | nil=>simp at h
        | cons e es =>
          simp only [List.map_cons,List.cons.injEq,Prod.mk.injEq] at h
          obtain ⟨⟨h1,h2⟩,h3⟩:=h
          obtain ⟨a,v⟩:=p
          simp only [Instr.findNow,h1,Instr.sameNow,fnd]
          by_cases hna:n = a
          · simp [hna,h2,beqBytes]
          · simp [hna,beqBytes,ih es (i + 1) h3]
    exact key l es 0 h
  check e n w:=by
    unfold Instr.checkKey
    simp [run_underlying hu]
  same n:=by simp [Instr.sameBits,beqBytes]

/-- Block b is a map of the call's own with these entries. -/
structure MapB {κ:Type} (kv:κ → Value) (b:Nat) (l:List (κ × Value)) (k:K):Prop where
  own : ¬ k.sh b
  is : ∃ es clk,k.w.heap[b]? = some (.map es clk)∧es.toList.map (fun e=>(e.key,e.val)) = l.map (fun p=>(kv p.1,p.2))

section
variable {P:Program} {o:Oper} {a a0:Act} {k k' k0:K} {R S T:Pred} {κ:Type} [DecidableEq κ] {kv:κ → Value} {F G:FP}

omit [DecidableEq κ] in
theorem MapB.lt {b:Nat} {l:List (κ × Value)} (h:MapB kv b l k):b < k.w.heap.size:=by
  obtain ⟨_,es,clk,h,_⟩:=h
  exact (Array.getElem?_eq_some_iff.1 h).1
omit [DecidableEq κ] in
theorem MapB.keep {b:Nat} {l:List (κ × Value)} (h:MapB kv b l k) (g:Chg G k k') (hG : ¬ G b):MapB kv b l k':=by
  have hlt:=h.lt
  obtain ⟨ho,es,clk,h,r⟩:=h
  exact ⟨fun hs=>ho (g.new' b hlt hG hs),es,clk,by rw [g.blk b hlt hG]; exact h,r⟩
omit [DecidableEq κ] in
theorem MapB.handed {b:Nat} {l:List (κ × Value)} (h:MapB kv b l k) (g:Handed k k' G) (hG : ¬ G b):MapB kv b l k':=by
  obtain ⟨ho,es,clk,h,r⟩:=h
  exact ⟨fun hs=>(g.sh b hs).elim ho hG,es,clk,by rw [g.w]; exact h,r⟩

/-- Just this value. -/
def Is (u:Value):Pred:=fun v _=>v = u
instance (u:Value):Pers (Is u):=⟨fun _ h=>h⟩
instance (u:Value):Flat (Is u):=⟨fun h=>h⟩

theorem run_lookupM {t kt et:TypeId} {b:Nat} {l:List (κ × Value)} {n:κ} {z:Value} {c:Bool} (KO:KeyOk P kt kv) (hu:P.underlying t = some (.map kt et)) (hz : ∀ w,(zeroValue et).run P w = .ok z w) (h:MapB kv b l k) :
    (Instr.lookup t (.map (some b)) (kv n) c).run P k.w = .ok (if c then .tuple #[(getK l n).getD z,.bool (getK l n).isSome] else (getK l n).getD z) k.w:=by
  obtain ⟨_,es,clk,hh,hr⟩:=h
  have hf:=KO.find l es.toList n k.w hr
  have hg:=fnd_get l n 0
  rw [← hg]
  have hgo:=MapKept.run_getObj_map (P:=P) hh
  cases hfd:fnd l n 0 with
  | none=>rw [hfd] at hf; cases c <;> simp [Instr.lookup,run_underlying hu,hgo,KO.check,hf,hz]
  | some p=>rw [hfd] at hf; cases c <;> simp [Instr.lookup,run_underlying hu,hgo,KO.check,hf]

theorem ok_lookupM {t kt et:TypeId} {x y:Operand} {b:Nat} {l:List (κ × Value)} {n:κ} {z:Value} (ho:o.op = .lookup t x y false) (KO:KeyOk P kt kv) (hu:P.underlying t = some (.map kt et)) (hz : ∀ w,(zeroValue et).run P w = .ok z w)
    (hx:a.eval x = .map (some b)) (hy:a.eval y = kv n) (h:MapB kv b l k):Does P o a k (Is ((getK l n).getD z)):=by
  refine does_pure (v:=(getK l n).getD z) ?_ rfl
  have:=run_lookupM (n:=n) (c:=false) KO hu hz h
  simp only [execOp,ho,hx,hy]
  simp at this
  simp [this]

theorem map_modify {κ:Type} {kv:κ → Value} {es:Array MapEntry} {l:List (κ × Value)} {j:Nat} {n:κ} {v:Value} (hr:es.toList.map (fun e=>(e.key,e.val)) = l.map (fun p=>(kv p.1,p.2))) :
    (es.modify j fun e=>{ e with key:=kv n,val:=v }).toList.map (fun e=>(e.key,e.val)) = (l.set j (n,v)).map (fun p=>(kv p.1,p.2)):=by
  rw [Array.toList_modify]
  have key : ∀ (es:List MapEntry) (l:List (κ × Value)) (j:Nat),es.map (fun e=>(e.key,e.val)) = l.map (fun p=>(kv p.1,p.2)) →
      (es.modify j fun e=>{ e with key:=kv n,val:=v }).map (fun e=>(e.key,e.val)) = (l.set j (n,v)).map (fun p=>(kv p.1,p.2)):=by
    intro es
    induction es with
    | nil => intro l j h; cases l with
      | nil=>simp
      | cons p l=>simp at h
    | cons e es ih =>
      intro l j h
      cases l with
      | nil=>simp at h
      | cons p l =>
        simp only [List.map_cons,List.cons.injEq] at h
        cases j with
        | zero=>simp [h.2]
        | succ j=>simp [h.1,ih l j h.2]
  exact key _ _ _ hr

/-- A store into a map of the call's own, behind all other operations. -/
theorem tail_mapUpdate {A:Array Oper} {i:Nat} {rest:List Nat} {Q:Exit → Act → World → Prop} {t kt et:TypeId} {x y z:Operand} {b:Nat} {l:List (κ × Value)} {n:κ}
    (ho:nth A.toList i = some o) (hg:o.guard = none) (hop:o.op = .mapUpdate t x y z) (hd:o.dst = none) (KO:KeyOk P kt kv) (hu:P.underlying t = some (.map kt et))
    (hx:a.eval x = .map (some b)) (hy:a.eval y = kv n) (h:MapB kv b l k)
    (next : ∀ k', Chg (Eq b) k k' → k'.w.heap.size = k.w.heap.size → MapB kv b (setK l n (a.eval z)) k' → wpOps P A Q rest a k'.w) : wpOps P A Q (i :: rest) a k.w := by
  obtain ⟨hown,es,clk,hh,hr⟩:=h
  have hf:=KO.find l es.toList n k.w hr
  have hlt:b < k.w.heap.size:=(Array.getElem?_eq_some_iff.1 hh).1
  have fin : ∀ (es' : Array MapEntry) (clk' : Nat),es'.toList.map (fun e=>(e.key,e.val)) = (setK l n (a.eval z)).map (fun p=>(kv p.1,p.2)) →
      wpOps P A Q rest a { k.w with heap:=k.w.heap.setIfInBounds b (.map es' clk') }:=by
    intro es' clk' he
    let k' : K:=⟨{ k.w with heap:=k.w.heap.setIfInBounds b (.map es' clk') },k.sh,fun i hi=>by have:=k.lt i hi; simpa using this⟩
    refine next k' ⟨rfl, rfl, rfl, by simp [k'], fun c _ hc => (MapKept.heap_set hh).2 c (fun e => hc e.symm), fun _ h => h, fun _ _ h => .inl h, Nat.le_refl _⟩ (by simp [k']) ⟨hown, es', clk', (MapKept.heap_set hh).1, he⟩
  rw [wpOps_cons]
  rw [nth_toList] at ho
  unfold wpOp
  simp only [ho,Region.wanted,hg,if_true]
  refine .inl ?_
  unfold Oper.wp
  have hgo:=MapKept.run_getObj_map (P:=P) hh
  cases hfd:fnd l n 0 with
  | none =>
    rw [hfd] at hf
    have hx' : (execOp a.eval o).run P k.w = .ok .skip { k.w with heap:=k.w.heap.setIfInBounds b (.map (es.push { key:=kv n,val:=a.eval z,born:=clk }) (clk + 1)) }:=by
      simp only [execOp,hop,hx,hy]
      simp [Instr.mapUpdate,run_underlying hu,hgo,KO.check,hf,MapKept.run_setObj_map (P:=P) _ hh]
    rw [hx']
    have:=fin (es.push { key:=kv n,val:=a.eval z,born:=clk }) (clk + 1) (by rw [fnd_none _ _ _ _ hfd]; simp [hr])
    simpa [Oper.upon,hd,Act.put] using this
  | some p =>
    obtain ⟨j,u⟩:=p
    rw [hfd] at hf
    obtain ⟨_,h2,h3,h4⟩:=fnd_some l n 0 j u (a.eval z) hfd
    simp only [Nat.sub_zero] at h2 h3 h4
    have hkey:((es[j]?).map (·.key)).getD (kv n) = kv n:=by
      have h5:(es.toList.map (fun e=>(e.key,e.val)))[j]? = some (kv n,u):=by rw [hr]; simp [h3]
      simp only [List.getElem?_map,Array.getElem?_toList,Option.map_eq_some_iff,Prod.mk.injEq] at h5
      obtain ⟨e,he,hk,_⟩:=h5
      simp [he,hk]
    have hx' : (execOp a.eval o).run P k.w = .ok .skip { k.w with heap:=k.w.heap.setIfInBounds b (.map (es.modify j fun e=>{ e with key:=kv n,val:=a.eval z }) clk) }:=by
      simp only [execOp,hop,hx,hy]
      simp [Instr.mapUpdate,run_underlying hu,hgo,KO.check,hf,hkey,Instr.keyThatStays,KO.same,MapKept.run_setObj_map (P:=P) _ hh]
    rw [hx']
    have:=fin (es.modify j fun e=>{ e with key:=kv n,val:=a.eval z }) clk (by rw [h4]; exact map_modify hr)
    simpa [Oper.upon,hd,Act.put] using this

end
end Go.Gb
namespace Go.Gb
end Go.Gb
namespace Go.Gb
end Go.Gb

/- General part of the proofs: maps of the call's own with slices of the call's own as values. -/
namespace Go.Gb
section
variable {P:Program} {o:Oper} {a a0:Act} {k k' k0:K} {κ α:Type} [DecidableEq κ] [Enc α] {kv:κ → Value} {F G:FP}

/-- the nil slice -/
def nilS:Value:=.slice none 0 0

def keysV (T:List (κ × Value × List α)):List (κ × Value):=T.map fun t=>(t.1,t.2.1)
def keysX (T:List (κ × Value × List α)):List (κ × List α):=T.map fun t=>(t.1,t.2.2)

/-- The slices but that of key n are the call's own, apart from each other. -/
structure Others (e:TypeId) (T:List (κ × Value × List α)) (n:κ) (k:K):Prop where
  nodup:(T.map (·.1)).Nodup
  own : ∀ t ∈ T,t.1 ≠ n → IsOwn 0 e t.2.2 t.2.1 k
  ap : ∀ s ∈ T,∀ t ∈ T,s.1 ≠ n → t.1 ≠ n → s.1 ≠ t.1 → Apart (obF s.2.1) (obF t.2.1)
def othF (T:List (κ × Value × List α)) (n:κ):FP:=fun c=>∃ t ∈ T,t.1 ≠ n∧obF t.2.1 c

theorem getK_map {γ δ:Type} (f:γ → δ) : ∀ (T:List (κ × γ)) (n:κ),getK (T.map fun t=>(t.1,f t.2)) n = (getK T n).map f
  | [],_=>rfl
  | (a, v) :: T, n => by
    simp only [List.map_cons,getK]
    split
    · rfl
    · exact getK_map f T n
theorem setK_map {γ δ:Type} (f:γ → δ) : ∀ (T:List (κ × γ)) (n:κ) (v:γ),setK (T.map fun t=>(t.1,f t.2)) n (f v) = (setK T n v).map fun t=>(t.1,f t.2)
  | [],_,_=>rfl
  | (a, u) :: T, n, v => by
    simp only [List.map_cons,setK]
    split
    · rfl
    · simp [setK_map f T n v]
theorem getK_mem {γ:Type} : ∀ {T:List (κ × γ)} {n:κ} {v:γ},getK T n = some v → (n,v) ∈ T
  | [],_,_,h=>by simp [getK] at h
  | (a, u) :: T, n, v, h => by
    simp only [getK] at h
    split at h
    · rename_i e; subst e; simp at h; subst h; simp
    · exact List.mem_cons_of_mem _ (getK_mem h)
theorem getK_none {γ:Type} : ∀ {T:List (κ × γ)} {n:κ},getK T n = none → ∀ t ∈ T,t.1 ≠ n
  | [],_,_,t,ht=>by simp at ht
  | (a, u) :: T, n, h, t, ht => by
    simp only [getK] at h
    split at h
    · simp at h
    · rename_i hne
      rcases List.mem_cons.1 ht with rfl | ht
      · exact fun e=>hne e.symm
      · exact getK_none h t ht
theorem setK_mem {γ:Type} : ∀ {T:List (κ × γ)} {n:κ} {v:γ} {t:κ × γ},(T.map (·.1)).Nodup → t ∈ setK T n v → t = (n,v) ∨ (t ∈ T∧t.1 ≠ n)
  | [],_,_,t,_,h=>by simp [setK] at h; exact .inl h
  | (a, u) :: T, n, v, t, hn, h => by
    simp only [List.map_cons,List.nodup_cons] at hn
    simp only [setK] at h
    split at h
    · rename_i e
      subst e
      rcases List.mem_cons.1 h with rfl | h
      · exact .inl rfl
      · exact .inr ⟨List.mem_cons_of_mem _ h,fun e=>hn.1 (by rw [← e]; exact List.mem_map_of_mem h)⟩
    · rename_i hne
      rcases List.mem_cons.1 h with rfl | h
      · exact .inr ⟨by simp,fun e=>hne e.symm⟩
      · rcases setK_mem hn.2 h with h | h
        · exact .inl h
        · exact .inr ⟨List.mem_cons_of_mem _ h.1,h.2⟩
theorem setK_keys {γ:Type} : ∀ (T:List (κ × γ)) (n:κ) (v:γ),(T.map (·.1)).Nodup → ((setK T n v).map (·.1)).Nodup
  | [],_,_,_=>by simp [setK]
  | (a, u) :: T, n, v, hn => by
    simp only [List.map_cons,List.nodup_cons] at hn
    simp only [setK]
    split
    · simp only [List.map_cons,List.nodup_cons]; exact hn
    · rename_i hne
      simp only [List.map_cons,List.nodup_cons]
      refine ⟨fun h=>?_,setK_keys T n v hn.2⟩
      obtain ⟨t,ht,he⟩:=List.mem_map.1 h
      rcases setK_mem hn.2 ht with h | h
      · rw [h] at he; exact hne he
      · exact hn.1 (by rw [← he]; exact List.mem_map_of_mem h.1)
theorem setK_same {γ:Type} : ∀ {T:List (κ × γ)} {n:κ} {v:γ},getK T n = some v → setK T n v = T
  | [],_,_,h=>by simp [getK] at h
  | (a, u) :: T, n, v, h => by
    simp only [getK] at h
    simp only [setK]
    split at h
    · rename_i e; subst e; simp at h; subst h; simp
    · rename_i hne; rw [if_neg hne,setK_same h]

/-- A map with slices of the call's own; the slice of key n, which is u, is left out. -/
def HoleR (kv:κ → Value) (e:TypeId) (m:List (κ × List α)) (n:κ) (b:Nat) (u:Value):FP → Pred:=fun F v k=>
  ∃ T:List (κ × Value × List α),v = .map (some b)∧m = keysX T∧MapB kv b (keysV T) k∧Others e T n k∧(getK (keysV T) n).getD nilS = u∧F = fun c=>c = b ∨ othF T n c
/-- A map with slices of the call's own. -/
def SlR (kv:κ → Value) (e:TypeId) (m:List (κ × List α)):FP → Pred:=fun F v k=>
  ∃ b,∃ T:List (κ × Value × List α),v = .map (some b)∧m = keysX T∧MapB kv b (keysV T) k∧(T.map (·.1)).Nodup∧(∀ t ∈ T,IsOwn 0 e t.2.2 t.2.1 k) ∧
    (∀ s ∈ T,∀ t ∈ T,s.1 ≠ t.1 → Apart (obF s.2.1) (obF t.2.1))∧F = fun c=>c = b ∨ ∃ t ∈ T,obF t.2.1 c

omit [DecidableEq κ] in
theorem own_map {B b:Nat} {e:TypeId} {xs:List α} {v:Value} {l:List (κ × Value)} (h:IsOwn B e xs v k) (g:MapB kv b l k) : ¬ obF v b:=by
  intro hb
  obtain ⟨_,es,clk,hm,_⟩:=g
  rcases h with ⟨rfl, _⟩ | ⟨ad, rfl, _⟩ | ⟨b', off, cap, cur, cs, rfl, hB, ho, hh, hc, h0, r⟩
  · simp [obF,ob] at hb
  · simp [obF,ob] at hb
  · simp [obF, ob, Nat.ne_of_gt h0] at hb
    subst hb
    rw [hm] at hh; simp at hh

instance (m:List (κ × List α)) (e:TypeId) (n:κ) (b:Nat) (u:Value):Rsc (HoleR kv e m n b u) where
  keep:=fun ⟨T,e1,e2,hb,ho,hu,eF⟩ g hs hn=>⟨T,e1,e2,hb.keep g (hs b (by rw [eF]; exact .inl rfl)),
    ⟨ho.nodup,fun t ht hne=>(ho.own t ht hne).keep g (fun c hc=>hs c (by rw [eF]; exact .inr ⟨t,ht,hne,hc⟩)) hn,ho.ap⟩,hu,eF⟩
  handed:=fun ⟨T,e1,e2,hb,ho,hu,eF⟩ g hs=>⟨T,e1,e2,hb.handed g (hs b (by rw [eF]; exact .inl rfl)),
    ⟨ho.nodup,fun t ht hne=>(ho.own t ht hne).handed g (fun c hc=>hs c (by rw [eF]; exact .inr ⟨t,ht,hne,hc⟩)),ho.ap⟩,hu,eF⟩
  lt:=fun ⟨T,e1,e2,hb,ho,hu,eF⟩ c hc=>by
    rw [eF] at hc
    rcases hc with rfl | ⟨t,ht,hne,hc⟩
    · exact hb.lt
    · exact (ho.own t ht hne).ltF c hc
  nsh:=fun ⟨T,e1,e2,hb,ho,hu,eF⟩ c hc=>by
    rw [eF] at hc
    rcases hc with rfl | ⟨t,ht,hne,hc⟩
    · exact hb.own
    · exact (ho.own t ht hne).nshF c hc
instance (m:List (κ × List α)) (e:TypeId):Rsc (SlR kv e m) where
  keep:=fun ⟨b,T,e1,e2,hb,hd,ho,ha,eF⟩ g hs hn=>⟨b,T,e1,e2,hb.keep g (hs b (by rw [eF]; exact .inl rfl)),hd,
    fun t ht=>(ho t ht).keep g (fun c hc=>hs c (by rw [eF]; exact .inr ⟨t,ht,hc⟩)) hn,ha,eF⟩
  handed:=fun ⟨b,T,e1,e2,hb,hd,ho,ha,eF⟩ g hs=>⟨b,T,e1,e2,hb.handed g (hs b (by rw [eF]; exact .inl rfl)),hd,
    fun t ht=>(ho t ht).handed g (fun c hc=>hs c (by rw [eF]; exact .inr ⟨t,ht,hc⟩)),ha,eF⟩
  lt:=fun ⟨b,T,e1,e2,hb,hd,ho,ha,eF⟩ c hc=>by
    rw [eF] at hc
    rcases hc with rfl | ⟨t,ht,hc⟩
    · exact hb.lt
    · exact (ho t ht).ltF c hc
  nsh:=fun ⟨b,T,e1,e2,hb,hd,ho,ha,eF⟩ c hc=>by
    rw [eF] at hc
    rcases hc with rfl | ⟨t,ht,hc⟩
    · exact hb.own
    · exact (ho t ht).nshF c hc

theorem SlR.make {e:TypeId} {T:List (κ × Value × List α)} {b:Nat} {n:κ} {u:Value} {xs:List α} (ho:Others e T n k) (hb:MapB kv b (setK (keysV T) n u) k) (hx:IsOwn 0 e xs u k) (ha:Apart (othF T n) (obF u)) :
    SlR kv e (setK (keysX T) n xs) (fun c=>(c = b ∨ othF T n c) ∨ obF u c) (.map (some b)) k:=by
  refine ⟨b,setK T n (u,xs),rfl,?_,?_,setK_keys T n _ ho.nodup,?_,?_,?_⟩
  · unfold keysX; exact setK_map (fun t:Value × List α=>t.2) T n (u,xs)
  · unfold keysV at hb ⊢
    rw [← setK_map (fun t:Value × List α=>t.1) T n (u,xs)]
    exact hb
  · intro t ht
    rcases setK_mem ho.nodup ht with rfl | ⟨h1,h2⟩
    · exact hx
    · exact ho.own t h1 h2
  · intro s hs t ht hst
    rcases setK_mem ho.nodup hs with rfl | ⟨h1,h2⟩
    · rcases setK_mem ho.nodup ht with rfl | ⟨h3, h4⟩
      · exact absurd rfl hst
      · exact Apart.symm fun c hc=>ha c ⟨t,h3,h4,hc⟩
    · rcases setK_mem ho.nodup ht with rfl | ⟨h3, h4⟩
      · exact fun c hc=>ha c ⟨s,h1,h2,hc⟩
      · exact ho.ap s h1 t h3 h2 h4 hst
  · funext c
    refine propext ⟨?_,?_⟩
    · rintro ((rfl | ⟨t, ht, hne, hc⟩) | hc)
      · exact .inl rfl
      · refine .inr ⟨t, ?_, hc⟩
        have key : ∀ (T:List (κ × Value × List α)),t ∈ T → t ∈ setK T n (u,xs):=by
          intro T
          induction T with
          | nil=>simp
          | cons x T ih =>
            intro h
            obtain ⟨a,y⟩:=x
            simp only [setK]
            rcases List.mem_cons.1 h with rfl | h
            · rw [if_neg (Ne.symm hne)]; simp
            · split
              · exact List.mem_cons_of_mem _ h
              · exact List.mem_cons_of_mem _ (ih h)
        exact key T ht
      · refine .inr ⟨(n, u, xs), ?_, hc⟩
        have key : ∀ (T:List (κ × Value × List α)),(n,u,xs) ∈ setK T n (u,xs):=by
          intro T
          induction T with
          | nil=>simp [setK]
          | cons x T ih =>
            obtain ⟨a,y⟩:=x
            simp only [setK]
            split
            · rename_i e; simp [e]
            · exact List.mem_cons_of_mem _ ih
        exact key T
    · rintro (rfl | ⟨t, ht, hc⟩)
      · exact .inl (.inl rfl)
      · rcases setK_mem ho.nodup ht with rfl | ⟨h3, h4⟩
        · exact .inr hc
        · exact .inl (.inr ⟨t,h3,h4,hc⟩)

/-- What becomes of the map when the slice at key n has other elements. -/
def backK {γ:Type} (m:List (κ × γ)) (n:κ) (xs:γ):List (κ × γ):=if (getK m n).isNone then m else setK m n xs
/-- The slice that was taken out is put back, with other elements. -/
theorem HoleR.close {m:List (κ × List α)} {e:TypeId} {n:κ} {b:Nat} {u v:Value} {xs:List α} (h:HoleR kv e m n b u F v k) (hx:IsOwn 0 e xs u k) (ha:Apart F (obF u)) :
    ∃ G,SlR kv e (backK m n xs) G v k∧(∀ c,G c → F c ∨ obF u c):=by
  obtain ⟨T,e1,e2,hb,ho,hu,eF⟩:=h
  subst eF
  cases hg:getK (keysV T) n with
  | some w =>
    rw [hg] at hu
    simp only [Option.getD_some] at hu
    subst hu
    have hset:setK (keysV T) n w = keysV T:=setK_same hg
    have hgm:(getK m n).isNone = false:=by
      rw [e2]
      unfold keysV at hg
      unfold keysX
      rw [getK_map (fun t:Value × List α=>t.1)] at hg
      rw [getK_map (fun t:Value × List α=>t.2)]
      cases hT:getK T n with
      | none=>rw [hT] at hg; simp at hg
      | some t=>rfl
    refine ⟨_,?_,fun c hc=>hc⟩
    unfold backK
    rw [if_neg (by rw [hgm]; decide),e1,e2]
    exact SlR.make ho (by rw [hset]; exact hb) hx fun c hc=>ha c (.inr hc)
  | none =>
    rw [hg] at hu
    simp only [Option.getD_none] at hu
    subst hu
    have hgm:getK m n = none:=by
      rw [e2]
      unfold keysV at hg
      unfold keysX
      rw [getK_map (fun t:Value × List α=>t.1)] at hg
      rw [getK_map (fun t:Value × List α=>t.2)]
      simp at hg ⊢
      exact hg
    have hne : ∀ t ∈ T,t.1 ≠ n:=by
      unfold keysV at hg
      rw [getK_map (fun t:Value × List α=>t.1)] at hg
      simp at hg
      exact getK_none hg
    have hbk:backK m n xs = m:=by unfold backK; rw [if_pos (by rw [hgm]; rfl)]
    rw [hbk]
    refine ⟨_,⟨b,T,e1,e2,hb,ho.nodup,fun t ht=>ho.own t ht (hne t ht),fun s hs t ht hst=>ho.ap s hs t ht (hne s hs) (hne t ht) hst,rfl⟩,?_⟩
    rintro c (rfl | ⟨t,ht,hc⟩)
    · exact .inl (.inl rfl)
    · exact .inl (.inr ⟨t,ht,hne t ht,hc⟩)

end
end Go.Gb

/- General part of the proofs: maps that nothing writes to any more. -/
namespace Go.Gb

/-- A map, as a list of its entries. -/
structure GMap (κ α:Type) where
  l:List (κ × α)
  deriving Inhabited
/-- What the map has at a key. -/
def GMap.get {κ α:Type} [DecidableEq κ] (m:GMap κ α) (n:κ):Option α:=getK m.l n

class KeyV (κ:Type) where
  kv:κ → Value
instance:KeyV Int:=⟨Value.int .i64⟩
instance:KeyV ByteArray:=⟨Value.string⟩

/-- A map that nothing writes to. -/
def MapRep {κ α:Type} [KeyV κ] [Enc α] (k:K) (v:Value) (m:GMap κ α):Prop:=
  (v = .map none∧m.l = []) ∨ ∃ b es clk,∃ T:List (κ × Value × α),v = .map (some b)∧k.sh b∧k.w.heap[b]? = some (.map es clk)∧m.l = T.map (fun t=>(t.1,t.2.2)) ∧
    es.toList.map (fun e=>(e.key,e.val)) = (T.map fun t=>(t.1,t.2.1)).map (fun p=>(KeyV.kv p.1,p.2))∧∀ t ∈ T,IsV t.2.2 t.2.1 k
instance {κ α:Type} [KeyV κ] [Enc α]:Enc (GMap κ α) where
  sz:=1
  agg:=false
  rep k cs m:=∃ v,cs = [v]∧MapRep k v m
  len h:=by obtain ⟨v,rfl,_⟩:=h; rfl
  mono h r:=by
    obtain ⟨v,rfl,r⟩:=r
    refine ⟨v,rfl,?_⟩
    rcases r with r | ⟨b,es,clk,T,e1,hs,hh,e2,e3,hT⟩
    · exact .inl r
    · exact .inr ⟨b,es,clk,T,e1,h.up _ hs,by rw [h.blk _ hs]; exact hh,e2,e3,fun t ht=>Pers.pers h (hT t ht)⟩
  one h:=by
    obtain ⟨v,rfl,r⟩:=h
    rcases r with ⟨rfl,_⟩ | ⟨b,es,clk,T,rfl,_⟩ <;> simp [Value.oneCell']
  agg1 _:=rfl

theorem isV_map {κ α:Type} [KeyV κ] [Enc α] {m:GMap κ α} {v:Value} {k:K}:IsV m v k ↔ MapRep k v m:=
  ⟨fun ⟨_,e,u,h,r⟩=>by subst h; subst e; exact r,fun r=>⟨[v],rfl,v,rfl,r⟩⟩

section
variable {P:Program} {o:Oper} {a a0:Act} {k k' k0:K} {κ α:Type} [DecidableEq κ] [KeyV κ] [Enc α] {F G:FP}

/-- Many blocks are handed over at once. -/
def K.shareF (k:K) (F:FP) (hF : ∀ b,F b → b < k.w.heap.size):K:=⟨k.w,fun i=>k.sh i ∨ F i,fun i hi=>hi.elim (k.lt i) (hF i)⟩
theorem handed_F (k:K) (F:FP) (hF : ∀ b,F b → b < k.w.heap.size):Handed k (k.shareF F hF) F:=⟨rfl,⟨fun _ _=>rfl,fun _ h=>.inl h⟩,fun _ h=>h⟩

theorem IsOwn.shareF {B:Nat} {e:TypeId} {xs:List α} {v:Value} (h:IsOwn B e xs v k) (hh:Handed k k' G) (hG : ∀ b,obF v b → k'.sh b):IsV xs v k':=by
  rcases h with r | ⟨ad,rfl,rfl⟩ | ⟨b,off,cap,cur,cs,rfl,hBb,ho,hb,hc,h0,hm,hs,ht,hr⟩
  · exact isV_list.2 (.inl r)
  · exact isV_list.2 (.inr (.inl ⟨ad,rfl,rfl⟩))
  · subst ht
    refine isV_list.2 (.inr (.inr ⟨_,cap,_,rfl,hc,hG b (by simp [obF,ob,Nat.ne_of_gt h0]),hr.mono hh.le,?_⟩))
    rw [hh.w]
    exact cellsAt_row (n:=xs.length * Enc.sz α) hb (by have:=Nat.mul_le_mul_right (Enc.sz α) hc; omega)

omit [DecidableEq κ] in
theorem SlR.give {m : List (κ × List α)} {e : TypeId} {v : Value} (h : SlR KeyV.kv e m F v k) : ∃ k', Handed k k' F ∧ IsV (GMap.mk m) v k' := by
  have hlt:=Rsc.lt h
  obtain ⟨b,T,e1,e2,hb,hd,ho,ha,eF⟩:=h
  have hh:=handed_F k F hlt
  obtain ⟨_,es,clk,hm,hr⟩:=hb
  refine ⟨_,hh,isV_map.2 (.inr ⟨b,es,clk,T,e1,.inr (by rw [eF]; exact .inl rfl),hm,e2,hr,fun t ht=>(ho t ht).shareF hh fun c hc=>.inr (by rw [eF]; exact .inr ⟨t,ht,hc⟩)⟩)⟩
omit [DecidableEq κ] in
theorem SlR.new {e:TypeId} {v:Value} {b0:Nat} (h : ∃ b,v = .map (some b)∧b0 ≤ b∧MapB (KeyV.kv (κ:=κ)) b [] k) : ∃ F,SlR (α:=α) (KeyV.kv (κ:=κ)) e [] F v k∧∀ c,F c → b0 ≤ c:=by
  obtain ⟨b,e1,hb0,hb⟩:=h
  refine ⟨_,⟨b,[],e1,rfl,hb,by simp,fun t ht=>by simp at ht,fun s hs=>by simp at hs,rfl⟩,?_⟩
  rintro c (rfl | ⟨t,ht,_⟩)
  · exact hb0
  · simp at ht

end
end Go.Gb

/- General part of the proofs: parts of slices of the call's own. -/
namespace Go.Gb
section
variable {P:Program} {o:Oper} {a a0:Act} {k k' k0:K} {α:Type} [Enc α] {F G:FP}

/-- A slice of the call's own, which lies in the array of slice u. -/
def OwnSub (u:Value) (B:Nat) (e:TypeId) (xs:List α):Pred:=fun v k=>IsOwn B e xs v k∧∀ b,obF v b → obF u b
instance (u:Value) (B:Nat) (e:TypeId) (xs:List α):Mono (OwnSub u B e xs):=⟨fun h ⟨r,s⟩=>⟨Mono.mono h r,s⟩⟩

theorem run_sliceO {t e:TypeId} {v:Value} {B:Nat} {xs ys:List α} {lo hi:Int} (lov hiv:Option Value) (hlo:lov = some (.int .i64 lo) ∨ (lov = none∧lo = 0)) (hhi:hiv = some (.int .i64 hi) ∨ (hiv = none∧hi = xs.length))
    (hu:P.underlying t = some (.slice e)) (ht:(P.info? e).map (·.size) = some (Enc.sz α)) (hv:IsOwn B e xs v k) (h:sliceI xs lo hi = some ys) :
    ∃ v', (Instr.sliceAt t v lov hiv none).run P k.w = .ok v' k.w ∧ OwnSub v B e ys v' k := by
  obtain ⟨⟨h0,h1,h2⟩,rfl⟩:=of_ite h
  have hsz : ∀ w,(sizeOf e).run P w = .ok (Enc.sz α) w:=fun w=>run_sizeOf ht
  have hlen:((xs.take hi.toNat).drop lo.toNat).length = hi.toNat - lo.toNat:=by simp; omega
  have hb : ∀ (len cap:Nat) (w:World),len = xs.length → len ≤ cap → (Instr.sliceBounds true len cap lov hiv none).run P w = .ok (lo.toNat,hi.toNat,cap) w:=by
    intro len cap w hl hc
    subst hl
    have b1:=run_sliceBound (P:=P) (i:=hi) (y:=cap) (c:=.sliceAcap) (w:=w) (by omega) (by omega)
    have b2:=run_sliceBound (P:=P) (i:=lo) (y:=hi.toNat) (c:=.sliceB) (w:=w) h0 (by omega)
    rcases hlo with rfl | ⟨rfl,rfl⟩ <;> rcases hhi with rfl | ⟨rfl,rfl⟩
    · simp [Instr.sliceBounds,b1,b2]
    · have b3 := run_sliceBound (P := P) (i := lo) (y := xs.length) (c := .sliceB) (w := w) h0 (by omega)
      simp [Instr.sliceBounds,b3]
    · simp [Instr.sliceBounds,b1]
    · simp [Instr.sliceBounds]
  rcases hv with ⟨rfl, rfl⟩ | ⟨ad, rfl, rfl⟩ | ⟨b, off, cap, cur, cs, rfl, hB, ho, hh, hc, h0', hmx, hcs, hcells, hr⟩
  · simp only [List.length_nil, Int.natCast_zero] at h2
    have e1:lo.toNat = 0:=by omega
    have e2:hi.toNat = 0:=by omega
    have:=hb 0 0 k.w rfl (Nat.le_refl _)
    refine ⟨.slice none 0 0,?_,.inl ⟨rfl,by simp⟩,fun _ h=>h⟩
    simp [Instr.sliceAt,Instr.slice,run_underlying hu,this,hsz,e1,e2]
  · simp only [List.length_nil, Int.natCast_zero] at h2
    have e1:lo.toNat = 0:=by omega
    have e2:hi.toNat = 0:=by omega
    have:=hb 0 0 k.w rfl (Nat.le_refl _)
    refine ⟨.slice (some ad) 0 0,?_,.inr (.inl ⟨ad,rfl,by simp⟩),fun _ h=>h⟩
    simp [Instr.sliceAt,Instr.slice,run_underlying hu,this,hsz,e1,e2]
  · have hbb := hb xs.length cap k.w rfl hc
    by_cases hcl:cap = lo.toNat
    · have hnil : (xs.take hi.toNat).drop lo.toNat = [] := List.eq_nil_of_length_eq_zero (by rw [hlen]; omega)
      refine ⟨.slice (some ⟨b,off,none⟩) 0 0,?_,.inr (.inl ⟨_,rfl,hnil⟩),fun c hc=>by simp [obF,ob] at hc⟩
      have e3:hi.toNat - cap = 0:=by omega
      simp [Instr.sliceAt,Instr.slice,run_underlying hu,hbb,hsz,← hcl,e3]
    · have hadd : (⟨b, off, none⟩ : Addr).add (lo.toNat * Enc.sz α) = ⟨b, off + lo.toNat * Enc.sz α, none⟩ := by
        unfold Addr.add
        split
        · rename_i h; rw [h]; simp
        · rfl
      have hm3:lo.toNat * Enc.sz α + (cap - lo.toNat) * Enc.sz α = cap * Enc.sz α:=by rw [← Nat.add_mul,Nat.add_sub_cancel' (by omega)]
      refine ⟨.slice (some ⟨b,off + lo.toNat * Enc.sz α,none⟩) (hi.toNat - lo.toNat) (cap - lo.toNat),?_,
        .inr (.inr ⟨b,off + lo.toNat * Enc.sz α,cap - lo.toNat,cur,_,by rw [hlen],hB,ho,hh,by rw [hlen]; omega,by omega,by omega,by omega,rfl,?_⟩),?_⟩
      · have : ¬ cap = lo.toNat := hcl
        simp [Instr.sliceAt,Instr.slice,run_underlying hu,hbb,hsz,hcl,hadd]
      · have hr2 := RepL.drop lo.toNat (RepL.take hi.toNat hr)
        rw [hlen]
        have e5:((cur.toList.drop (off + lo.toNat * Enc.sz α)).take ((hi.toNat - lo.toNat) * Enc.sz α)) = (cs.take (hi.toNat * Enc.sz α)).drop (lo.toNat * Enc.sz α):=by
          have hm1:hi.toNat * Enc.sz α ≤ xs.length * Enc.sz α:=Nat.mul_le_mul_right _ (by omega)
          rw [← hcells,List.take_take,Nat.min_eq_left hm1,List.drop_take,List.drop_drop,Nat.sub_mul]
        rw [e5]
        exact hr2
      · intro c hc
        simp only [obF,ob] at hc ⊢
        rw [if_neg (by omega)] at hc ⊢
        exact hc

section
variable {t e:TypeId} {x y z:Operand} {xs ys:List α} {lo hi:Int} {B:Nat} {u:Value}
theorem ok_sliceO_hi (ho:o.op = .slice t x none (some z) none) (hu:P.underlying t = some (.slice e)) (ht:(P.info? e).map (·.size) = some (Enc.sz α))
    (hx:OwnAt u B e xs (a.eval x) k) (hz:IsV hi (a.eval z) k) (h:sliceI xs 0 hi = some ys):Does P o a k (OwnSub u B e ys):=by
  have hz:=isV_int.1 hz
  obtain ⟨rfl,hx⟩:=hx
  obtain ⟨v,hr,hv⟩:=run_sliceO (P:=P) none (some (.int .i64 hi)) (.inr ⟨rfl,rfl⟩) (.inl rfl) hu ht hx h
  refine does_pure (v:=v) ?_ hv
  simp [execOp,ho,hz,hr]
end
end
end Go.Gb
namespace Go.Gb
theorem does_imp {P : Program} {o : Oper} {a : Act} {k : K} {R S : Pred} (h : Does P o a k R) (hi : ∀ v k', Grow k k' → R v k' → S v k') : Does P o a k S :=
  fun next Q hQ hn=>h next Q hQ fun v k' hg hv=>hn v k' hg (hi v k' hg hv)
end Go.Gb

/- General part of the proofs: what comes in as data stands for values of Lean; the row of a law. -/
namespace Go.Gb

/-- The world, all of whose blocks are shared. -/
def kOf (W:World):K:=⟨W,fun b=>b < W.heap.size,fun _ h=>h⟩

/-- What integers that come in are. -/
class Rg (α:Type) where
  rg:α → Prop
  /-- how many values lie in lists in it -/
  bk:α → Nat
instance:Rg Int:=⟨inI,fun _=>0⟩
instance:Rg Bool:=⟨fun _=>True,fun _=>0⟩
instance:Rg ByteArray:=⟨fun b=>b.size ≤ maxLen,fun _=>0⟩
def bkL {α:Type} (f:α → Nat):List α → Nat
  | []=>0
  | x::l=>f x + 1 + bkL f l
theorem bkL_append {α:Type} (f:α → Nat) : ∀ l m:List α,bkL f (l ++ m) = bkL f l + bkL f m
  | [],m=>by simp [bkL]
  | x::l,m=>by simp only [List.cons_append,bkL,bkL_append f l m]; omega
mutual
/-- how much a reading holds -/
def bulkD {H:Type}:DataW H → Nat
  | .lit (.string bytes)=>bytes.length + 1
  | .lit _=>1
  | .nil=>1
  | .ptr d=>bulkD d + 1
  | .slice elems spare=>bulkDs elems + bulkDs spare + 1
  | .agg parts=>bulkDs parts + 1
  | .iface _ d=>bulkD d + 1
  | .map entries=>bulkEs entries + 1
  | .held _=>1
def bulkDs {H:Type}:List (DataW H) → Nat
  | []=>0
  | d::r=>bulkD d + bulkDs r
def bulkEs {H:Type}:List (Lit × DataW H) → Nat
  | []=>0
  | x::r=>bulkEn x + bulkEs r
def bulkEn {H:Type}:Lit × DataW H → Nat
  | (.string bytes,d)=>bytes.length + bulkD d + 1
  | (_,d)=>bulkD d + 1
end
theorem bulk1 {H:Type} (d:DataW H):1 ≤ bulkD d:=by
  cases d with
  | lit l=>cases l <;> simp [bulkD]
  | _=>simp [bulkD]
theorem bulkDs_append {H:Type} : ∀ l r:List (DataW H),bulkDs (l ++ r) = bulkDs l + bulkDs r
  | [],r=>by simp [bulkDs]
  | x::l,r=>by simp only [List.cons_append,bulkDs,bulkDs_append l r]; omega
/-- a list takes less than 2^47 bytes -/
def reachLen:Nat:=140737488351232
instance {α:Type} [Rg α]:Rg (List α):=⟨fun l=>l.length ≤ reachLen∧∀ x ∈ l,Rg.rg x,bkL Rg.bk⟩
instance {α β:Type} [Rg α] [Rg β]:Rg (α × β):=⟨fun p=>Rg.rg p.1∧Rg.rg p.2,fun p=>Rg.bk p.1 + Rg.bk p.2⟩
@[reducible] def Rg.ofMap {σ β:Type} [Rg β] (f:σ → β):Rg σ:=⟨fun x=>Rg.rg (f x),fun x=>Rg.bk (f x)⟩

def RdC (P:Program) (t:TypeId) (α:Type) [Enc α] [Rg α]:Prop:=
  ∀ {H:Type} (enc:TypeId × Value → H) (W:World) (fuel:Nat) (cs:List Value) (x:DataW H × List MemPlace),
    DataW.trod enc P W 0 (fun _=>true) true fuel t cs = some x → (∀ n ∈ DataW.weights P t x.1,n ≤ reachBytes) → ∃ y:α,Enc.rep (kOf W) cs y∧Rg.rg y∧Rg.bk y + 1 ≤ bulkD x.1
theorem weights_all {H:Type} {P:Program} {e:TypeId} {d:DataW H} {n:Nat} (hn:n ∈ DataW.weights P e d) : ∀ {l:List (DataW H)},d ∈ l → n ∈ DataW.weightsAll P e l
  | x :: l, h => by
    simp only [DataW.weightsAll,List.mem_append]
    rcases List.mem_cons.1 h with rfl | h
    · exact .inl hn
    · exact .inr (weights_all hn h)
/-- What is read as data at this Go type stands for a value of the Lean type. -/
structure Rd (P:Program) (t:TypeId) (α:Type) [Enc α] [Rg α]:Prop where
  rd:RdC P t α
  sh : ∀ (W:World) (r:Reach) (base:Nat) (v:Value),Value.okWide P W r base t v → v = mkV (Enc.agg α) v.cells.toList

section
variable {P:Program} {t e:TypeId} {α β σ:Type} [Enc α] [Enc β] [Rg α] [Rg β]

theorem rd_int (hu:P.underlying t = some (.int .i64)):Rd P t Int where
  rd {H} enc W fuel cs x h _:=by
    obtain ⟨n,rfl,_,hw⟩:=DataW.trod_int hu h
    refine ⟨n,rfl,?_,bulk1 _⟩
    simp [Lit.wf,IntKind.min,IntKind.max,IntKind.bits,IntKind.signed] at hw
    exact hw
  sh W r base v h:=by
    obtain ⟨n,rfl⟩:=WideShapes.okWide_int hu h
    rfl
theorem rd_string (hu:P.underlying t = some .string):Rd P t ByteArray where
  rd {H} enc W fuel cs x h _:=by
    obtain ⟨n,rfl,_,hw⟩:=DataW.trod_string hu h
    exact ⟨n,rfl,hw,bulk1 _⟩
  sh W r base v h:=by
    obtain ⟨n,rfl⟩:=WideShapes.okWide_string hu h
    rfl

theorem cell_at {W:World} {a:Addr} {u:Value} (h:W.cell? a = some u):a.spot = none∧∃ arr t fr,W.heap[a.block]? = some (.cells arr t fr)∧arr[a.off]? = some u:=by
  unfold World.cell? at h
  cases hh:W.heap[a.block]? with
  | none=>rw [hh] at h; simp at h
  | some o =>
    rw [hh] at h
    cases o with
    | cells arr t fr =>
      simp only at h
      split at h
      · simp at h
      · rename_i hs
        refine ⟨by simpa using hs,arr,t,fr,rfl,h⟩
    | _=>simp at h

theorem add_eq {a:Addr} (ha:a.spot = none) (i:Nat):a.add i = ⟨a.block,a.off + i,none⟩:=by
  unfold Addr.add
  split
  · rename_i h; subst h; cases a; simp_all
  · rfl

theorem cells_row {W:World} {a:Addr} {n i:Nat} {l:List Value} {arr:Array Value} {t:TypeId} {fr:Nat × Nat} (ha:a.spot = none) (hh:W.heap[a.block]? = some (.cells arr t fr)) (hn:0 < n) (h:W.cells? 0 (a.add i) n = some l) :
    a.off + i + n ≤ arr.size∧l = (arr.toList.drop (a.off + i)).take n:=by
  obtain ⟨_,hl,hc⟩:=World.cells?_some h
  rw [add_eq ha] at hc
  have hcell : ∀ j,j < n → arr[a.off + i + j]? = l[j]?:=by
    intro j hj
    have hj':=hc j hj
    rw [add_eq rfl,List.getElem?_eq_getElem (by omega)] at hj'
    obtain ⟨_, arr', t', fr', hh', hj2⟩ := cell_at hj'
    simp only at hh'
    rw [hh] at hh'
    simp only [Option.some.injEq,Obj.cells.injEq] at hh'
    obtain ⟨rfl,_⟩:=hh'
    rw [hj2,List.getElem?_eq_getElem (by omega)]
  have hlast:=hcell (n - 1) (by omega)
  rw [List.getElem?_eq_getElem (show n - 1 < l.length by omega)] at hlast
  have hlt:=(Array.getElem?_eq_some_iff.1 hlast).1
  refine ⟨by omega,List.ext_getElem? fun j=>?_⟩
  by_cases hj:j < n
  · rw [List.getElem?_take, if_pos hj, List.getElem?_drop, ← hcell j hj]
    simp
  · rw [List.getElem?_eq_none (by omega),List.getElem?_eq_none (by simp; omega)]

theorem rd_slice (hu:P.underlying t = some (.slice e)) (hz:P.cellsOf e = Enc.sz α) (h0:0 < Enc.sz α) (hby:Nat.ble 1 (P.bytesOf e) = true) (he:Rd P e α):Rd P t (List α) where
  rd {H} enc W fuel cs x h hwt:=by
    rcases DataW.trod_slice hu h with ⟨rfl,_⟩ | ⟨a,len,cap,elems,rest,n,_,rfl,rfl,_,hlc,hcm,hel,hE,hR,_⟩
    · exact ⟨[],⟨_,rfl,.inl ⟨rfl,rfl⟩⟩,⟨by simp,fun x hx=>by simp at hx⟩,bulk1 _⟩
    · rw [hz] at hE hR
      obtain ⟨hrl,hR⟩:=hR rfl
      simp only [DataW.weights,hu] at hwt
      have hlen:len ≤ reachLen:=by
        have h1:=hwt _ (List.mem_cons_self ..)
        rw [List.length_map,List.length_map,hel] at h1
        have h2:=Nat.le_of_ble_eq_true hby
        have h3:(len + rest.length) * 1 ≤ (len + rest.length) * P.bytesOf e:=Nat.mul_le_mul_left _ h2
        show len ≤ 140737488351232
        have h4:reachBytes = 140737488351232:=rfl
        omega
      by_cases hc0:cap = 0
      · obtain rfl : len = 0 := by omega
        exact ⟨[],⟨_,rfl,.inr (.inl ⟨a,by rw [hc0],rfl⟩)⟩,⟨by simp,fun x hx=>by simp at hx⟩,bulk1 _⟩
      · -- the block
        obtain ⟨l0,hl0⟩ : ∃ l0,W.cells? 0 (a.add 0) (Enc.sz α) = some l0:=by
          by_cases hl:0 < len
          · have := hE 0 hl
            rw [List.getElem?_eq_getElem (by omega),Nat.zero_mul,Option.bind_eq_some_iff] at this
            obtain ⟨l0,h,_⟩:=this
            exact ⟨l0,h⟩
          · have := hR 0 (by omega)
            rw [List.getElem?_eq_getElem (by omega),show (len + 0) * Enc.sz α = 0 by rw [show len = 0 by omega]; simp,Option.bind_eq_some_iff] at this
            obtain ⟨l0,h,_⟩:=this
            exact ⟨l0,h⟩
        have ha0:a.add 0 = a:=by simp [Addr.add]
        obtain ⟨_,hll,hlc0⟩:=World.cells?_some hl0
        have h00:=hlc0 0 h0
        rw [ha0,ha0,List.getElem?_eq_getElem (by omega)] at h00
        obtain ⟨hsp, arr, t', fr, hh, _⟩ := cell_at h00
        have hlt:a.block < W.heap.size:=(Array.getElem?_eq_some_iff.1 hh).1
        have key : ∀ m,m ≤ len → ∃ xs:List α,xs.length = m∧RepL (kOf W) ((arr.toList.drop a.off).take (m * Enc.sz α)) xs∧(∀ x ∈ xs,Rg.rg x)∧(m = 0 ∨ a.off + m * Enc.sz α ≤ arr.size)∧bkL Rg.bk xs ≤ bulkDs ((elems.take m).map (·.1)):=by
          intro m
          induction m with
          | zero=>intro _; exact ⟨[],rfl,by simp [RepL],fun x hx=>by simp at hx,.inl rfl,Nat.zero_le _⟩
          | succ m ih =>
            intro hm
            obtain ⟨xs,h1,h2,h3,h4,h5⟩:=ih (by omega)
            have:=hE m (by omega)
            rw [List.getElem?_eq_getElem (by omega),Option.bind_eq_some_iff] at this
            obtain ⟨l,hl,htr⟩:=this
            obtain ⟨hsz,rfl⟩:=cells_row hsp hh h0 hl
            obtain ⟨y,hy,hyr,hyb⟩:=he.rd enc W n _ _ htr fun w hw=>hwt w (List.mem_cons_of_mem _ (List.mem_append_left _ (weights_all hw (List.mem_map.2 ⟨_,List.getElem_mem (show m < elems.length by omega),rfl⟩))))
            refine ⟨xs ++ [y],by simp [h1],?_,?_,.inr (by rw [Nat.add_mul,Nat.one_mul]; omega),by
              rw [bkL_append,List.take_succ_eq_append_getElem (show m < elems.length by omega),List.map_append,bulkDs_append]
              simp only [bkL,List.map_cons,List.map_nil,bulkDs]
              omega⟩
            · have e1 : (arr.toList.drop a.off).take ((m + 1) * Enc.sz α) = (arr.toList.drop a.off).take (m * Enc.sz α) ++ (arr.toList.drop (a.off + m * Enc.sz α)).take (Enc.sz α) := by
                rw [Nat.add_mul,Nat.one_mul,List.take_add,List.drop_drop]
              rw [e1]
              have hly:=Enc.len hy
              refine h2.append ⟨?_,?_⟩
              · rw [List.take_of_length_le (by omega)]; exact hy
              · simp only [RepL]; rw [List.drop_eq_nil_of_le (by omega)]
            · intro x hx
              rcases List.mem_append.1 hx with hx | hx
              · exact h3 x hx
              · simp at hx; rw [hx]; exact hyr
        obtain ⟨xs,h1,h2,h3,h4,h5⟩:=key len (Nat.le_refl _)
        subst h1
        refine ⟨xs, ⟨_, rfl, .inr (.inr ⟨a, cap, _, rfl, hlc, hlt, h2, hsp, arr, t', fr, hh, ?_, ?_⟩)⟩, ⟨hlen, h3⟩, by
          rw [List.take_of_length_le (by omega)] at h5
          show bkL Rg.bk xs + 1 ≤ bulkDs _ + bulkDs _ + 1
          omega⟩
        · have hc1 := (Array.getElem?_eq_some_iff.1 (show arr[a.off]? = some _ from by assumption)).1
          rw [h2.len]
          rcases h4 with h4 | h4
          · rw [h4,Nat.zero_mul]; omega
          · exact h4
        · intro j hj
          rw [List.getElem?_take,if_pos (by rw [h2.len] at hj; exact hj),List.getElem?_drop]
          simp
  sh W r base v h:=by
    obtain ⟨a,l,c,rfl⟩:=WideShapes.okWide_slice hu h
    rfl

/-- The fields of a struct, from the offset o on. -/
structure RdF (P:Program) (fs:List Field) (o:Nat) (α:Type) [Enc α] [Rg α]:Prop where
  run : ∀ {H:Type} (enc:TypeId × Value → H) (W:World) (fuel:Nat) (cs:List Value) (ds:List (DataW H)),cs.length = o + Enc.sz α → ds.length = fs.length →
    (∀ (i:Nat) (f:Field) (d:DataW H),fs[i]? = some f → ds[i]? = some d → ∃ ps,DataW.trod enc P W 0 (fun _=>true) true fuel f.type ((cs.drop f.offset).take (P.cellsOf f.type)) = some (d,ps)∧∀ n ∈ DataW.weights P f.type d,n ≤ reachBytes) → ∃ y:α,Enc.rep (kOf W) (cs.drop o) y∧Rg.rg y∧Rg.bk y ≤ bulkDs ds
theorem RdF.one {f:Field} {o:Nat} (ho:f.offset = o) (hz:P.cellsOf f.type = Enc.sz α) (h:Rd P f.type α):RdF P [f] o α:=by
  refine ⟨?_⟩
  intro H enc W fuel cs ds hl hd hf
  obtain ⟨d,rfl⟩:=List.length_eq_one_iff.1 hd
  obtain ⟨x,hx,hxw⟩:=hf 0 f d rfl rfl
  rw [ho,hz,List.take_of_length_le (by simp; omega)] at hx
  obtain ⟨y,h1,h2,h3⟩:=h.rd enc W fuel _ _ hx hxw
  have h3:Rg.bk y + 1 ≤ bulkD d:=h3
  exact ⟨y,h1,h2,by simp only [bulkDs]; omega⟩
theorem RdF.cons {f:Field} {fs:List Field} {o:Nat} (ho:f.offset = o) (hz:P.cellsOf f.type = Enc.sz α) (h:Rd P f.type α) (g:RdF P fs (o + Enc.sz α) β):RdF P (f::fs) o (α × β):=by
  refine ⟨?_⟩
  intro H enc W fuel cs ds hl hd hf
  cases ds with
  | nil=>simp at hd
  | cons d ds=>
  obtain ⟨x,hx,hxw⟩:=hf 0 f d rfl rfl
  rw [ho,hz] at hx
  have hl' : cs.length = o + (Enc.sz α + Enc.sz β):=hl
  obtain ⟨y,hy,hyr,hyb⟩:=h.rd enc W fuel _ _ hx hxw
  obtain ⟨z, hz', hzr, hzb⟩ := g.run enc W fuel cs ds (by omega) (by simpa using hd) (fun i f' d' h1 h2 => hf (i + 1) f' d' (by simpa using h1) (by simpa using h2))
  rw [← List.drop_drop] at hz'
  exact ⟨(y,z),⟨by simp; omega,hy,hz'⟩,⟨hyr,hzr⟩,by show Rg.bk y + Rg.bk z ≤ bulkD d + bulkDs ds; have hyb:Rg.bk y + 1 ≤ bulkD d:=hyb; omega⟩

theorem rd_struct [Enc σ] [Rg σ] {fs:Array Field} {f:σ → β} (g:β → σ) (hu:P.underlying t = some (.struct fs)) (hz:P.cellsOf t = Enc.sz β) (hag:Enc.agg σ = true)
    (hr : ∀ k cs y,Enc.rep (α:=β) k cs y → Enc.rep (α:=σ) k cs (g y)) (hrg : ∀ y:β,Rg.rg y → Rg.rg (g y)) (h:RdF P fs.toList 0 β) (_hf : ∀ y,f (g y) = y) (hbk : ∀ y:β,Rg.bk (g y) = Rg.bk y:=by intro _; rfl):Rd P t σ where
  rd {H} enc W fuel cs x hx hwt:=by
    obtain ⟨xs,n,_,rfl,hl,hxl,he⟩:=DataW.trod_struct hu hx
    simp only [DataW.weights,hu] at hwt
    obtain ⟨y,hy,hyr,hyb⟩:=h.run enc W n cs (xs.map (·.1)) (by omega) (by simpa using hxl) (fun i f d h1 h2=>by
      have hi:i < fs.size:=by simpa using (List.getElem?_eq_some_iff.1 h1).1
      have hf:fs[i]? = some f:=by simpa using h1
      have:=he i f hf
      rw [List.getElem?_eq_getElem (by omega)] at this
      have hd:xs[i].1 = d:=by
        rw [List.getElem?_map,List.getElem?_eq_getElem (by omega)] at h2
        exact Option.some.inj h2
      refine ⟨xs[i].2,by rw [this,← hd],fun w hw=>?_⟩
      rw [← hd] at hw
      exact hwt w (DataW.weights_mem_each (j:=i) (t:=f.type) (d:=xs[i].1) (by simp [h1]) (by rw [List.getElem?_map,List.getElem?_eq_getElem (by omega)]; rfl) w hw))
    exact ⟨g y,hr _ _ _ (by simpa using hy),hrg _ hyr,by rw [hbk]; show Rg.bk y + 1 ≤ bulkDs _ + 1; omega⟩
  sh W r base v h:=by
    obtain ⟨cs,rfl,_⟩:=WideShapes.okWide_struct hu h
    rw [hag]
    simp [mkV,Value.cells]
end
end Go.Gb

/- General part of the proofs: from a law's contract to its row. -/
namespace Go.Gb
section
variable {H:Type} {enc:TypeId × Value → H} {P:Program} {fn:Func} {s:ChangeSpec} {W:World}

theorem grow_kept {k' : K} {may:MemPlace → Prop} (hg:Grow (kOf W) k'):W.keptBut k'.w may:=by
  refine ⟨hg.os,hg.out,fun i hi=>?_⟩
  have:=hg.blk i hi
  rw [this]
  show (match W.heap[i]?,W.heap[i]? with
    | some (.cells c t fr),some (.cells c' t' fr')=>t' = t∧fr' = fr∧c'.size = c.size∧∀ j:Nat,¬ may (.cell i j) → c'[j]? = c[j]?
    | some (.map es clock),some (.map es' clock')=>may (.map i) ∨ (es' = es∧clock' = clock)
    | o,o'=>o' = o)
  cases W.heap[i]? with
  | none=>rfl
  | some o=>cases o <;> simp

theorem grow_below {k' : K} (hg:Grow (kOf W) k'):RowKit.Below W.heap.size W k'.w:=⟨hg.os,hg.tape,hg.out,hg.size,hg.blk⟩

theorem trodAll_stays (hl:laidOutB P = true) {k' : K} (hg:Grow (kOf W) k') : ∀ {ts:List TypeId} {vs:List Value} {ds:List (DataW H)} {ps:List MemPlace},
    ts.all (fun t=>P.readableRec t && decide (t < P.types.size)) = true → DataW.TrodAll enc P W 0 (fun _=>true) true ts vs ds ps → (∀ p ∈ ps,p.block < W.heap.size) →
    DataW.TrodAll enc P k'.w 0 (fun b=>decide (b < W.heap.size)) true ts vs ds ps
  | [], vs, ds, ps, _, h, _ => by
    obtain ⟨rfl,rfl,rfl⟩:=ChangeShapes.trodAll_nil h
    exact rfl
  | t :: ts, vs, ds, ps, hr, h, hlt => by
    obtain ⟨v, vs', d, ds', p, q, rfl, rfl, rfl, h1, h2⟩ := ChangeShapes.trodAll_cons h
    simp only [List.all_cons,Bool.and_eq_true,decide_eq_true_eq] at hr
    exact ⟨p,q,RowKit.Below.trod hl hr.1.1 hr.1.2 h1 (grow_below hg) (fun x hx=>hlt x (by simp [hx])),trodAll_stays hl hg hr.2 h2 (fun x hx=>hlt x (by simp [hx])),rfl⟩

theorem post_law {apart:Bool} {args:Array Value} {ds gs:List (DataW H)} {before:List MemPlace} {tb:TypeId} {k' : K} (hW:DataW.Whole enc P fn.params.toList s.vars apart W args.toList ds gs before)
    (hl:laidOutB P = true) (hts:fn.params.toList.all (fun t=>P.readableRec t && decide (t < P.types.size)) = true) (hvars:s.vars = []) (hrt:fn.resultTypes = #[tb]) (hb:P.underlying tb = some .bool)
    (hsp:s.fn H (ds ++ gs) = { results:=[.lit (.bool true)],args:=ds }) (hg:Grow (kOf W) k'):s.post enc P fn apart true false false W args (.bool true) k'.w:=by
  have hlt:=hW.lt
  have hW':=hW
  obtain ⟨p,q,hA,hV,rfl,hfz,hnd⟩:=hW
  rw [hvars] at hV
  obtain ⟨rfl,rfl⟩:=ChangeShapes.trodVars_none hV
  refine ⟨ds, [], p ++ [], [], p, [], hW', ?_, ?_, ?_, World.keptBut_mono (fun x hx => ⟨hx, .inr (.inl (by simpa using hx))⟩) (grow_kept hg), fun h => by simp at h⟩
  · rw [hsp, hrt]
    refine ⟨[],[],⟨1,?_⟩,rfl,rfl⟩
    simp [DataW.trod,Value.cells,hb]
  · rw [hsp]
    exact trodAll_stays hl hg hts hA (fun x hx=>hlt x (by simp [hx]))
  · rw [hsp, hvars]
    exact rfl

theorem isV_of {P:Program} {t:TypeId} {α:Type} [Enc α] [Rg α] (hr:Rd P t α) {v:Value} {d:DataW H} {ps:List MemPlace} (h:DataW.Trod enc P W 0 (fun _=>true) true t v d ps) {r:Reach} {base:Nat} (hok:Value.okWide P W r base t v) (hwt : ∀ n ∈ DataW.weights P t d,n ≤ reachBytes) :
    ∃ y:α,IsV y v (kOf W)∧Rg.rg y:=by
  obtain ⟨n,hn⟩:=h
  obtain ⟨y,hy,hg,_⟩:=hr.rd enc W n _ _ hn hwt
  exact ⟨y,⟨_,hr.sh W r base v hok,hy⟩,hg⟩
theorem law_calls {f:FuncId} {args:Array Value} {Q:Ending → World → Prop} (h:Calls P f args (kOf W).w (Ret (kOf W) (IsV true))) (hq : ∀ k' : K,Grow (kOf W) k' → Q (.returned (.bool true)) k'.w):Calls P f args W Q:=
  h.mono fun e w' he=>by
    cases e with
    | returned v =>
      obtain ⟨k', rfl, hg, hv⟩ := he
      rw [isV_bool.1 hv]
      exact hq k' hg
    | panicked c=>exact he.elim
    | outgrown=>exact he.elim
end
end Go.Gb

/- General part of the proofs: reasoning on the mirrored functions. -/
namespace Go.Gb

def Flow.ends {σ ρ:Type}:Flow σ ρ → Prop
  | .go _=>False
  | _=>True

/-- A loop with a counter that goes up to N. -/
theorem loop_up {σ ρ:Type} {body:σ → Option (Flow σ ρ)} (Inv:Nat → σ → Prop) (N:Nat) (Post:Flow σ ρ → Prop)
    (step : ∀ i s, i < N → Inv i s → (∃ s', body s = some (.go s') ∧ Inv (i + 1) s') ∨ (∃ f, body s = some f ∧ f.ends ∧ Post f))
    (done : ∀ s,Inv N s → ∃ f,body s = some f∧f.ends∧Post f) (s0:σ) (h0:Inv 0 s0) (fuel:Nat) (hf:N < fuel) : ∃ f,iterL body fuel s0 = some f∧f.ends∧Post f:=by
  have key : ∀ m i s,i + m = N → Inv i s → ∀ fuel,m < fuel → ∃ f,iterL body fuel s = some f∧f.ends∧Post f:=by
    intro m
    induction m with
    | zero =>
      intro i s hi hs fuel hf
      obtain ⟨f,hb,he,hp⟩:=done s (by rwa [show N = i by omega])
      obtain ⟨fuel,rfl⟩ : ∃ m,fuel = m + 1:=⟨fuel - 1,by omega⟩
      refine ⟨f,?_,he,hp⟩
      simp only [iterL,hb]
      cases f <;> simp_all [Flow.ends]
    | succ m ih =>
      intro i s hi hs fuel hf
      obtain ⟨fuel,rfl⟩ : ∃ m,fuel = m + 1:=⟨fuel - 1,by omega⟩
      rcases step i s (by omega) hs with ⟨s', hb, hs'⟩ | ⟨f, hb, he, hp⟩
      · obtain ⟨f, h, he, hp⟩ := ih (i + 1) s' (by omega) hs' fuel (by omega)
        refine ⟨f,?_,he,hp⟩
        simp only [iterL,hb,h]
      · refine ⟨f, ?_, he, hp⟩
        simp only [iterL,hb]
        cases f <;> simp_all [Flow.ends]
  exact key N 0 s0 (by omega) h0 fuel hf

/-- A loop with a measure that gets less. -/
theorem loop_down {σ ρ:Type} {body:σ → Option (Flow σ ρ)} (Inv:σ → Prop) (μ:σ → Nat) (Post:Flow σ ρ → Prop)
    (step : ∀ s, Inv s → (∃ s', body s = some (.go s') ∧ Inv s' ∧ μ s' < μ s) ∨ (∃ f, body s = some f ∧ f.ends ∧ Post f))
    (s0:σ) (h0:Inv s0) (fuel:Nat) (hf:μ s0 < fuel) : ∃ f,iterL body fuel s0 = some f∧f.ends∧Post f:=by
  induction fuel generalizing s0 with
  | zero=>omega
  | succ fuel ih =>
    rcases step s0 h0 with ⟨s', hb, hs', hm⟩ | ⟨f, hb, he, hp⟩
    · obtain ⟨f, h, he, hp⟩ := ih s' hs' (by omega)
      refine ⟨f,?_,he,hp⟩
      simp only [iterL,hb,h]
    · refine ⟨f, ?_, he, hp⟩
      simp only [iterL,hb]
      cases f <;> simp_all [Flow.ends]

theorem getI_nat {α:Type} {l:List α} {i:Nat} (h:i < l.length):getI l (i:Int) = some l[i]:=by
  unfold getI
  rw [if_pos (by omega),Int.toNat_natCast,List.getElem?_eq_getElem h]
theorem appI_some {α:Type} {xs ys:List α} (h:xs.length + ys.length ≤ 1073741824):appI xs ys = some (xs ++ ys):=if_pos h
end Go.Gb

/- General part of the proofs: sorting an own slice in place, by the contracts of the library's sort at elements of k cells. -/
namespace Go.Gb
open Go.Proofs Go.Sort Go.RowKit Go.Lib
variable {P:Program} {α:Type}

/-- The cells of a value are given by the value alone. -/
class FlatE (α:Type) [Enc α] where
  enc:α → List Value
  rep : ∀ {k:K} {cs:List Value} {x:α},Enc.rep k cs x ↔ cs = enc x

instance:FlatE Int:=⟨fun n=>[.int .i64 n],Iff.rfl⟩
instance:FlatE Bool:=⟨fun n=>[.bool n],Iff.rfl⟩
instance {α β:Type} [Enc α] [Enc β] [FlatE α] [FlatE β]:FlatE (α × β) where
  enc p:=FlatE.enc p.1 ++ FlatE.enc p.2
  rep {k cs p}:=by
    have l1:(FlatE.enc p.1).length = Enc.sz α:=Enc.len (k:=k) (FlatE.rep.2 rfl)
    have l2:(FlatE.enc p.2).length = Enc.sz β:=Enc.len (k:=k) (FlatE.rep.2 rfl)
    constructor
    · rintro ⟨_, h1, h2⟩
      rw [← FlatE.rep.1 h1,← FlatE.rep.1 h2,List.take_append_drop]
    · rintro rfl
      exact ⟨by rw [List.length_append,l1,l2],FlatE.rep.2 (List.take_left' l1),FlatE.rep.2 (List.drop_left' l1)⟩
@[reducible] def FlatE.ofMap {σ β:Type} [Enc β] [FlatE β] (f:σ → β) : @FlatE σ (Enc.ofMap f):=
  letI:Enc σ:=Enc.ofMap f
  ⟨fun x=>FlatE.enc (f x),fun {_ _ x}=>FlatE.rep (x:=f x)⟩
theorem flat_len [Enc α] [FlatE α] (k:K) (x:α):(FlatE.enc x).length = Enc.sz α:=Enc.len (k:=k) (FlatE.rep.2 rfl)
theorem flat_one [Enc α] [FlatE α] (k:K) (x:α) : ∀ v ∈ FlatE.enc x,v.oneCell' = true:=Enc.one (k:=k) (FlatE.rep.2 rfl)

theorem repL_flat [Enc α] [FlatE α] {k:K} : ∀ {xs:List α} {cs:List Value},RepL k cs xs ↔ cs = (xs.map FlatE.enc).flatten
  | [],cs=>by simp [RepL]
  | x :: xs, cs => by
    have hl:=flat_len k x
    simp only [RepL,List.map_cons,List.flatten_cons]
    rw [repL_flat (xs:=xs)]
    rw [FlatE.rep]
    constructor
    · rintro ⟨h1, h2⟩
      rw [← h1,← h2,List.take_append_drop]
    · intro h
      subst h
      exact ⟨List.take_left' hl,List.drop_left' hl⟩

theorem flatten_get [Inhabited α] {enc:α → List Value} {n:Nat} (hn : ∀ x,(enc x).length = n) : ∀ (xs:List α) (t:Nat),t < xs.length * n → (xs.map enc).flatten[t]? = (enc (xs[t / n]?.getD default))[t % n]?
  | [],t,h=>by simp at h
  | x :: xs, t, h => by
    have hn0:0 < n:=Nat.pos_of_ne_zero fun e=>by subst e; simp at h
    simp only [List.map_cons,List.flatten_cons,List.getElem?_append,hn]
    by_cases ht:t < n
    · rw [if_pos ht,Nat.div_eq_of_lt ht,Nat.mod_eq_of_lt ht]; rfl
    · rw [if_neg ht, flatten_get hn xs (t - n) (by simp only [List.length_cons, Nat.add_mul, Nat.one_mul] at h; omega)]
      have e1:t / n = (t - n) / n + 1:=by rw [← Nat.add_div_right _ hn0,Nat.sub_add_cancel (Nat.le_of_not_lt ht)]
      have e2:t % n = (t - n) % n:=by rw [← Nat.add_mod_right (t - n) n,Nat.sub_add_cancel (Nat.le_of_not_lt ht)]
      rw [e1,e2,List.getElem?_cons_succ]

theorem flatK_toList [Inhabited α] {enc:α → List Value} {n:Nat} (hn : ∀ x,(enc x).length = n) (d:Array α):(flatK enc n d).toList = (d.toList.map enc).flatten:=by
  refine List.ext_getElem? fun t=>?_
  by_cases ht:t < d.size * n
  · rw [flatten_get hn _ _ (by simpa using ht)]
    have hn0:0 < n:=Nat.pos_of_ne_zero fun e=>by subst e; simp at ht
    have hq:t / n < d.size:=(Nat.div_lt_iff_lt_mul hn0).2 ht
    have hm:=Nat.mod_lt t hn0
    have h1:=get_flatK enc n d t ht
    rw [getElem!_pos (flatK enc n d) t (by simpa using ht),getElem!_pos d (t / n) hq] at h1
    rw [List.getElem?_eq_getElem (by simpa using ht),Array.getElem_toList,h1,show d.toList[t / n]? = some d[t / n] from by rw [Array.getElem?_toList,Array.getElem?_eq_getElem hq],Option.getD_some,List.getElem?_eq_getElem (by rw [hn]; exact hm),getElem!_pos (enc d[t / n]) (t % n) (by rw [hn]; exact hm)]
  · rw [List.getElem?_eq_none (by simpa using Nat.le_of_not_lt ht), List.getElem?_eq_none]
    rw [show ((d.toList.map enc).flatten).length = d.size * n from ?_]
    · exact Nat.le_of_not_lt ht
    · have : ∀ xs : List α, ((xs.map enc).flatten).length = xs.length * n := by
        intro xs
        induction xs with
        | nil=>simp
        | cons x xs ih=>simp only [List.map_cons,List.flatten_cons,List.length_append,hn,ih,List.length_cons,Nat.add_mul,Nat.one_mul]; omega
      rw [this]; simp

theorem putCells_toList (off:Nat) (d c:Array Value) (h:off + d.size ≤ c.size):((putCells id off d c).toList.drop off).take d.size = d.toList:=by
  refine List.ext_getElem? fun t=>?_
  rw [List.getElem?_take]
  split
  · rename_i ht
    rw [List.getElem?_drop,Array.getElem?_toList,putCells,Array.getElem?_mapIdx,Array.getElem?_eq_getElem (by omega),Option.map_some,if_pos (by omega),Nat.add_sub_cancel_left,getElem!_pos d t ht,Array.getElem?_toList,Array.getElem?_eq_getElem ht]
    rfl
  · rename_i ht
    rw [List.getElem?_eq_none (by simpa using Nat.le_of_not_lt ht)]

/-- An own slice, sorted in place. -/
theorem sort_own [Inhabited α] [Enc α] [FlatE α] {f:FuncId} {FV:Value} {S:Array α → Array α} (hS : ∀ d,(S d).size = d.size) {e:TypeId} {xs:List α} {v0:Value} {k0:K}
    (hnone : ∀ p cap w,Calls P f #[.slice p 0 cap,FV] w fun e w'=>e = .returned (.tuple #[])∧w' = w)
    (hc : ∀ blk off cap (w:World),HoldsK FlatE.enc (Enc.sz α) w blk off xs.toArray → blk < w.heap.size →
      Calls P f #[.slice (some ⟨blk,off,none⟩) xs.toArray.size cap,FV] w fun e w'=>e = .returned (.tuple #[])∧∃ n os,w' = sortWorldK FlatE.enc (Enc.sz α) w blk off n (S xs.toArray) os)
    (i0:IsOwn 0 e xs v0 k0):Calls P f #[v0,FV] k0.w (RetC (obF v0) k0 fun _ k'=>IsOwn 0 e (S xs.toArray).toList v0 k'):=by
  have hS0:xs = [] → (S xs.toArray).toList = []:=fun h=>by
    have:=hS xs.toArray
    rw [h] at this ⊢
    simpa using this
  have hz : ∀ p cap,v0 = .slice p 0 cap → xs = [] → Calls P f #[v0,FV] k0.w (RetC (obF v0) k0 fun _ k'=>IsOwn 0 e (S xs.toArray).toList v0 k'):=by
    intro p cap hv hx
    subst hv
    refine (hnone p cap k0.w).mono ?_
    rintro e' w' ⟨rfl,rfl⟩
    refine ⟨k0,rfl,Chg.refl _ k0,?_⟩
    rw [hS0 hx]
    rw [hx] at i0
    exact i0
  rcases i0 with ⟨hv,hx⟩ | ⟨a,hv,hx⟩ | ⟨b,off,cap,cur,cs,rfl,hB,ho,hh,hc1,hc0,hcm,hfit,hcs,hrep⟩
  · exact hz _ _ hv hx
  · exact hz _ _ hv hx
  · have hlt : b < k0.w.heap.size := (Array.getElem?_eq_some_iff.1 hh).1
    have hn:=flat_len (α:=α) k0
    have hroom:off + xs.length * Enc.sz α ≤ cur.size:=Nat.le_trans (Nat.add_le_add_left (Nat.mul_le_mul_right _ hc1) _) hfit
    have hcl:cs = (flatK FlatE.enc (Enc.sz α) xs.toArray).toList:=by rw [flatK_toList hn]; exact repL_flat.1 hrep
    have hH:HoldsK FlatE.enc (Enc.sz α) k0.w b off xs.toArray:=by
      intro j hj
      rw [size_flatK] at hj
      simp only [List.size_toArray] at hj
      refine ⟨?_,by simp [World.frozen?,hh]⟩
      have h1:cs[j]? = cur[off + j]?:=by rw [← hcs,List.getElem?_take,if_pos hj,List.getElem?_drop,Array.getElem?_toList]
      rw [hcl,Array.getElem?_toList] at h1
      simp only [World.cell?,hh,← h1]
      rw [getElem!_pos _ j (by simpa using hj),Array.getElem?_eq_getElem (by simpa using hj)]
      rfl
    have hcall:=hc b off cap k0.w hH hlt
    rw [show xs.toArray.size = xs.length from List.size_toArray] at hcall
    refine hcall.mono ?_
    rintro e' w' ⟨rfl,n,os,hw⟩
    have hsz:k0.w.heap.size ≤ w'.heap.size:=by rw [hw]; unfold sortWorldK putRowK; simp
    have hblk : ∀ x,x < k0.w.heap.size → x ≠ b → w'.heap[x]? = k0.w.heap[x]?:=by
      intro x hx hxb
      rw [hw]
      unfold sortWorldK putRowK putRow mapBlock
      rw [heap_grow_old _ _ (by simpa using hx)]
      simp [Array.getElem?_modify,hxb.symm]
    have hrow:w'.heap[b]? = some (.cells (putCells id off (flatK FlatE.enc (Enc.sz α) (S xs.toArray)) cur) e (0,0)):=by
      rw [hw]
      unfold sortWorldK putRowK putRow mapBlock
      rw [heap_grow_old _ _ (by simpa using hlt)]
      simp [Array.getElem?_modify,hh,onCells]
    have hSl:(S xs.toArray).toList.length = xs.length:=by simp [hS]
    let k' : K := ⟨w', k0.sh, fun x hx => Nat.lt_of_lt_of_le (k0.lt x hx) hsz⟩
    refine ⟨k', rfl, ⟨by rw [show k'.w = w' from rfl, hw]; rfl, by rw [show k'.w = w' from rfl, hw]; rfl, by rw [show k'.w = w' from rfl, hw]; rfl, hsz, fun x hx hF => hblk x hx fun e' => hF (by simp [obF, ob, e', Nat.ne_of_gt hc0]), fun _ h => h, fun _ _ h => .inl h, by rw [show k'.w = w' from rfl, hw]; exact Nat.le_add_right _ _⟩,
      .inr (.inr ⟨b,off,cap,_,_,by rw [hSl],hB,ho,hrow,by rw [hSl]; exact hc1,hc0,hcm,by simpa [putCells] using hfit,rfl,?_⟩)⟩
    rw [repL_flat,← flatK_toList hn,hSl]
    have hsz2:(flatK FlatE.enc (Enc.sz α) (S xs.toArray)).size = xs.length * Enc.sz α:=by rw [size_flatK,hS]; simp
    rw [← hsz2]
    exact putCells_toList off _ cur (by rw [hsz2]; exact hroom)

/-- A box that nothing is written to any more: shared from the start. -/
theorem ok_boxR {k:K} {a:Act} {o:Oper} [Enc α] {t:TypeId} {y:Operand} {x:α} (ho:o.op = .box t y) (h:IsV x (a.eval y) k):Does P o a k (IsRef x):=by
  obtain ⟨cs,hc,hr⟩:=isV_cells h
  have hg:=K.alloc_grow k (.cells cs t)
  have hb:Box k.w.heap.size x (k.alloc (.cells cs t)):=box_new hr
  refine does_run (v:=.pointer (some ⟨k.w.heap.size,0,none⟩)) (k':=(k.alloc (.cells cs t)).share k.w.heap.size hb.lt) ?_
    ⟨hg.tape,hg.os,hg.out,hg.size,hg.blk,fun b hs=>(K.share_le _ _ hb.lt).up b (hg.up b hs),fun b hlt hs=>hs.elim (hg.new b hlt) (fun e=>absurd e (by omega)),hg.drawn⟩ hb.share
  simp only [execOp,ho]
  simp [Instr.box,newVar,newRow,newObj,hc,K.alloc,K.share]
  rfl

/-- The bits that both numbers have. -/
def andI (n m:Int):Int:=IntKind.i64.wrap ((BitVec.ofInt 64 n &&& BitVec.ofInt 64 m).toNat:Int)
theorem ok_and {k:K} {a:Act} {o:Oper} {t u:TypeId} {x y:Operand} {n m:Int} (ho:o.op = .binOp .and t x y u) (hx:IsV n (a.eval x) k) (hy:IsV m (a.eval y) k):Does P o a k (IsV (andI n m)):=by
  have hx:=isV_int.1 hx; have hy:=isV_int.1 hy
  refine does_pure (v:=.int .i64 (andI n m)) ?_ (isV_int.2 rfl)
  simp only [execOp,ho,hx,hy]
  simp [eqGuard,binOp,Op.intBits,andI]
  rfl
end Go.Gb


