/- The general part of the proofs (no program in sight): worlds with shared blocks, regions, operations, calls, loops, what comes in as data, part 2 -/
import Derived.Test.YtegglcdhfnjhcaaGreatL1
set_option linter.unusedVariables false
set_option linter.unusedSimpArgs false
set_option linter.unusedSectionVars false
namespace Go.Gb
section
variable {P:Program} {o:Oper} {a a0:Act} {k k' k0:K} {R S:Pred} {α β:Type} [Enc α] [Enc β]

structure Ij (k k' : K) (r:Option Nat):Prop where
 w:k'.w = k.w
 le:Le k k'
 sh : ∀ b,k'.sh b → k.sh b ∨ r = some b
theorem ay.hand {B:Nat} {e:TypeId} {xs:List α} {v:Value} (h:ay B e xs v k) (hg:bN k0 k) (hB:k0.w.heap.size ≤ B) :
  ∃ k' : K,Ij k k' (ob v)∧bN k0 k'∧IsV xs v k':=by
 obtain ⟨k', hw, hle, hg', hv, hs⟩ := h.share hg hB
 exact ⟨k', ⟨hw, hle, hs⟩, hg', hv⟩
theorem oz {x:Operand} {u:Value} {B:Nat} {e:TypeId} {xs:List α} (ho:o.op = .move x ∨ o.op = .assign x) (h:qy u B e xs (a.eval x) k):bg P o a k (qy u B e xs):=by
 rcases ho with ho | ho
 ·exact cV ho h
 ·exact bL ho h

theorem sa (cs:Array Value):(Value.agg cs).cells = cs:=rfl
theorem hd1 {x y:Value} (h:[x] = [y]):x = y:=by simpa using h

theorem BT {t e:TypeId} {x:Operand} {xs:List α} {lo:Option Operand} (ho:o.op = .slice t x lo (some (.const (.int .i64 0))) (some (.const (.int .i64 0))))
  (hlo:lo = none ∨ lo = some (.const (.int .i64 0))) (hu:P.underlying t = some (.slice e)) (ht:(P.info? e).map (·.size) = some (Enc.sz α)) (hx:dE xs (a.eval x) k):bg P o a k cO:=by
 have hsz : ∀ w,(sizeOf e).run P w = .ok (Enc.sz α) w:=fun w=>run_sizeOf ht
 have b1 : ∀ (c:BoundsCode) (y:Nat) (w:World),(Instr.sliceBound (.int .i64 0) y c).run P w = .ok 0 w:=fun c y w=>by
  simpa using run_sliceBound (P:=P) (i:=0) (y:=y) (c:=c) (w:=w) (by omega) (by omega)
 have ev : ∀ v:Value,a.eval (.const v) = v:=fun v=>rfl
 rcases hx with ⟨e1,rfl⟩ | ⟨ad,cap,cs,e1,_⟩
 ·refine az (v := .slice none 0 0) ?_ (.inl rfl)
  rcases hlo with rfl | rfl <;>
  ·simp only [execOp, ho, e1]
   simp [Instr.sliceAt,Instr.slice,run_underlying hu,Instr.sliceBounds,b1,hsz,ev]
 ·refine az (v := .slice (some ad) 0 0) ?_ (.inr ⟨ad, rfl⟩)
  rcases hlo with rfl | rfl <;>
  ·simp only [execOp, ho, e1]
   simp [Instr.sliceAt,Instr.slice,run_underlying hu,Instr.sliceBounds,b1,hsz,ev]

theorem H6 {t u:TypeId} {x y:Operand} {b c:ByteArray} (ho:o.op = .binOp .eql t x y u) (hx:IsV b (a.eval x) k) (hy:IsV c (a.eval y) k):bg P o a k (IsV (b.toList == c.toList)):=by
 have hx:=oQ.1 hx; have hy:=oQ.1 hy
 refine az (v:=.bool (b.toList == c.toList)) ?_ (bx.2 rfl)
 simp only [execOp,ho,hx,hy]
 simp [eqGuard,binOp,Op.stringOp]
theorem IT {t u:TypeId} {x y:Operand} {b c:ByteArray} (ho:o.op = .binOp .neq t x y u) (hx:IsV b (a.eval x) k) (hy:IsV c (a.eval y) k):bg P o a k (IsV (!(b.toList == c.toList))):=by
 have hx:=oQ.1 hx; have hy:=oQ.1 hy
 refine az (v:=.bool (!(b.toList == c.toList))) ?_ (bx.2 rfl)
 simp only [execOp,ho,hx,hy]
 simp [eqGuard,binOp,Op.stringOp]

def tR (P:Program) (t:TypeId) (α:Type) [Enc α] [DecidableEq α]:Prop:=
 P.eqGuardType P.depth t = false∧∀ (k:K) (x y:α) (u v:Value),IsV x u k → IsV y v k → (∃ cs,u = .agg cs)∧(∃ cs,v = .agg cs)∧∀ w,(Op.equal t u v).run P w = .ok (decide (x = y)) w
theorem Ic [DecidableEq α] {t u:TypeId} {x y:Operand} {p q:α} (ho:o.op = .binOp .eql t x y u) (he:tR P t α) (hx:IsV p (a.eval x) k) (hy:IsV q (a.eval y) k) :
  bg P o a k (IsV (decide (p = q))):=by
 obtain ⟨hgd,he⟩:=he
 obtain ⟨⟨cs,e1⟩,⟨ds,e2⟩,hr⟩:=he k p q _ _ hx hy
 refine az (v:=.bool (decide (p = q))) ?_ (bx.2 rfl)
 rw [e1,e2] at hr
 simp only [execOp,ho,e1,e2]
 simp [eqGuard,binOp,hr,hgd]
theorem Iv [DecidableEq α] {t u:TypeId} {x y:Operand} {p q:α} (ho:o.op = .binOp .neq t x y u) (he:tR P t α) (hx:IsV p (a.eval x) k) (hy:IsV q (a.eval y) k) :
  bg P o a k (IsV (!decide (p = q))):=by
 obtain ⟨hgd,he⟩:=he
 obtain ⟨⟨cs,e1⟩,⟨ds,e2⟩,hr⟩:=he k p q _ _ hx hy
 refine az (v:=.bool (!decide (p = q))) ?_ (bx.2 rfl)
 rw [e1,e2] at hr
 simp only [execOp,ho,e1,e2]
 simp [eqGuard,binOp,hr,hgd]
end
end Go.Gb

namespace Go.Gb

abbrev FP:=Nat → Prop
def noF:FP:=fun _=>False
def obF (v:Value):FP:=fun b=>ob v = some b

structure Chg (F:FP) (k k' : K):Prop where
 tape:k'.w.tape = k.w.tape
 os:k'.w.os = k.w.os
 out:k'.w.output = k.w.output
 size:k.w.heap.size ≤ k'.w.heap.size
 blk : ∀ b,b < k.w.heap.size → ¬ F b → k'.w.heap[b]? = k.w.heap[b]?
 up : ∀ b,k.sh b → k'.sh b
 new : ∀ b,b < k.w.heap.size → k'.sh b → k.sh b ∨ F b
 drawn:k.w.drawn ≤ k'.w.drawn

theorem Chg.refl (F:FP) (k:K):Chg F k k:=⟨rfl,rfl,rfl,Nat.le_refl _,fun _ _ _=>rfl,fun _ h=>h,fun _ _ h=>.inl h,Nat.le_refl _⟩
theorem Chg.of {F:FP} {k k' : K} (h:bN k k'):Chg F k k':=⟨h.tape,h.os,h.out,h.size,fun b hb _=>h.blk b hb,h.up,fun b hb hs=>.inl (h.new b hb hs),h.drawn⟩
theorem Chg.grow {k k' : K} (h:Chg noF k k'):bN k k':=⟨h.tape,h.os,h.out,h.size,fun b hb=>h.blk b hb (fun f=>f),h.up,fun b hb hs=>(h.new b hb hs).elim id False.elim,h.drawn⟩
theorem Chg.JV {F:FP} {k k' : K} (h:Chg F k k') (b:Nat) (hb:b < k.w.heap.size) (hF : ¬ F b) (hs:k'.sh b):k.sh b:=(h.new b hb hs).elim id (fun f=>(hF f).elim)
def Wr (F:FP) (k:K) (G:FP):Prop:=∀ b,G b → F b ∨ k.w.heap.size ≤ b
theorem Chg.step {F G:FP} {a b c:K} (h:Chg F a b) (g:Chg G b c) (hw:Wr F a G):Chg F a c:=
 ⟨g.tape.trans h.tape,g.os.trans h.os,g.out.trans h.out,Nat.le_trans h.size g.size,
  fun i hi hF=>(g.blk i (Nat.lt_of_lt_of_le hi h.size) (fun hG=>(hw i hG).elim hF (by omega))).trans (h.blk i hi hF),
  fun i hi=>g.up i (h.up i hi),fun i hi hs=>(g.new i (Nat.lt_of_lt_of_le hi h.size) hs).elim (h.new i hi) (fun hG=>.inr ((hw i hG).elim id (by omega))),Nat.le_trans h.drawn g.drawn⟩
theorem Chg.then {F:FP} {a b c:K} (h:Chg F a b) (g:bN b c):Chg F a c:=h.step (Chg.of (F:=noF) g) (fun _ f=>f.elim)
theorem Chg.le {F:FP} {k k' : K} (h:Chg F k k') (hF : ∀ b,F b → ¬ k.sh b):Le k k':=
 ⟨fun b hb=>h.blk b (k.lt b hb) (fun f=>hF b f hb),h.up⟩
def ai (F G:FP):Prop:=∀ b,F b → ¬ G b
theorem ai.symm {F G:FP} (h:ai F G):ai G F:=fun b g f=>h b f g
theorem ai.new {F G:FP} {n:Nat} (hF : ∀ b,F b → b < n) (hG : ∀ b,G b → n ≤ b):ai F G:=fun b f g=>by have:=hF b f; have:=hG b g; omega
theorem ai.app {F G G' : FP} {n:Nat} (h:ai F G) (hF : ∀ b,F b → b < n) (hG : ∀ b,G' b → G b ∨ n ≤ b):ai F G':=fun b f g=>by
 rcases hG b g with g | g
 ·exact h b f g
 ·have:=hF b f; omega

structure Handed (k k' : K) (F:FP):Prop where
 w:k'.w = k.w
 le:Le k k'
 sh : ∀ b,k'.sh b → k.sh b ∨ F b
theorem Chg.hand {F G:FP} {k0 k k' : K} (h:Chg F k0 k) (g:Handed k k' G) (hn:Wr F k0 G):Chg F k0 k':=
 ⟨by rw [g.w]; exact h.tape,by rw [g.w]; exact h.os,by rw [g.w]; exact h.out,by rw [g.w]; exact h.size,by rw [g.w]; exact h.blk,fun b hb=>g.le.up b (h.up b hb),
  fun b hb hs=>(g.sh b hs).elim (h.new b hb) (fun f=>(hn b f).elim .inr (fun h=>by omega)),by rw [g.w]; exact h.drawn⟩

section
variable {P:Program} {o:Oper} {a a0:Act} {k k' k0:K} {R S:Pred} {α β:Type} [Enc α] [Enc β] {F G:FP}

class Rsc (R:FP → Pred):Prop where
 keep : ∀ {F G v k k'},R F v k → Chg G k k' → ai F G → (∀ b,G b → ¬ k.sh b) → R F v k'
 handed : ∀ {F G v k k'},R F v k → Handed k k' G → ai F G → R F v k'
 lt : ∀ {F v k},R F v k → ∀ b,F b → b < k.w.heap.size
 nsh : ∀ {F v k},R F v k → ∀ b,F b → ¬ k.sh b
theorem Rsc.grow {R:FP → Pred} [Rsc R] {v:Value} (h:R F v k) (g:bN k k'):R F v k':=Rsc.keep h (Chg.of (F:=noF) g) (fun _ _ f=>f) (fun _ f=>f.elim)
instance {R:FP → Pred} [Rsc R]:dX (R F):=⟨fun g h=>Rsc.grow h g⟩

def sL (x:α):FP → Pred:=fun F v k=>∃ b,v = .pointer (some ⟨b,0,none⟩)∧F = Eq b∧Box b x k
theorem Box.keep {b:Nat} {x:α} (h:Box b x k) (g:Chg G k k') (hG : ¬ G b) (hn : ∀ b,G b → ¬ k.sh b):Box b x k':=by
 have hle:=g.le hn
 have hlt:=h.lt
 obtain ⟨ho,arr,t,h,r⟩:=h
 exact ⟨fun hs=>ho (g.JV b hlt hG hs),arr,t,by rw [g.blk b hlt hG]; exact h,Enc.mono hle r⟩
theorem Box.handed {b:Nat} {x:α} (h:Box b x k) (g:Handed k k' G) (hG : ¬ G b):Box b x k':=by
 have hle:=g.le
 obtain ⟨ho,arr,t,h,r⟩:=h
 exact ⟨fun hs=>(g.sh b hs).elim ho hG,arr,t,by rw [g.w]; exact h,Enc.mono hle r⟩
instance (x:α):Rsc (sL x) where
  keep:=fun ⟨b,e,eF,h⟩ g hs hn=>⟨b,e,eF,h.keep g (hs b (by rw [eF])) hn⟩
  handed:=fun ⟨b,e,eF,h⟩ g hs=>⟨b,e,eF,h.handed g (hs b (by rw [eF]))⟩
  lt:=fun ⟨b,e,eF,h⟩ c hc=>by rw [eF] at hc; rw [← hc]; exact h.lt
  nsh:=fun ⟨b,e,eF,h⟩ c hc=>by rw [eF] at hc; rw [← hc]; exact h.own

def rI (e:TypeId) (xs:List α):FP → Pred:=fun F v k=>F = obF v∧ay 0 e xs v k
theorem ay.keep {B:Nat} {e:TypeId} {xs:List α} {v:Value} (h:ay B e xs v k) (g:Chg G k k') (hs:ai (obF v) G) (hn : ∀ b,G b → ¬ k.sh b):ay B e xs v k':=by
 have hle:=g.le hn
 rcases h with r | r | ⟨b', off, cap, cur, cs, rfl, hB, ho, hh, hc, h0, r⟩
 ·exact .inl r
 ·exact .inr (.inl r)
 ·have hlt : b' < k.w.heap.size := (Array.getElem?_eq_some_iff.1 hh).1
  have hne:=hs b' (by simp [obF,ob,Nat.ne_of_gt h0])
  exact .inr (.inr ⟨b', off, cap, cur, cs, rfl, hB, fun hs' => ho (g.JV b' hlt hne hs'), by rw [g.blk b' hlt hne]; exact hh, hc, h0, r.1, r.2.1, r.2.2.1, r.2.2.2.mono hle⟩)
theorem ay.handed {B:Nat} {e:TypeId} {xs:List α} {v:Value} (h:ay B e xs v k) (g:Handed k k' G) (hs:ai (obF v) G):ay B e xs v k':=by
 have hle:=g.le
 rcases h with r | r | ⟨b', off, cap, cur, cs, rfl, hB, ho, hh, hc, h0, r⟩
 ·exact .inl r
 ·exact .inr (.inl r)
 ·have hne := hs b' (by simp [obF, ob, Nat.ne_of_gt h0])
  exact .inr (.inr ⟨b', off, cap, cur, cs, rfl, hB, fun hs' => (g.sh b' hs').elim ho hne, by rw [g.w]; exact hh, hc, h0, r.1, r.2.1, r.2.2.1, r.2.2.2.mono hle⟩)
instance (e:TypeId) (xs:List α):Rsc (rI e xs) where
  keep:=fun ⟨eF,h⟩ g hs hn=>⟨eF,h.keep g (eF ▸ hs) hn⟩
  handed:=fun ⟨eF,h⟩ g hs=>⟨eF,h.handed g (eF ▸ hs)⟩
  lt:=fun ⟨eF,h⟩ b hb=>(h.lt b (by rw [eF] at hb; exact hb)).2.1
  nsh:=fun ⟨eF,h⟩ b hb=>(h.lt b (by rw [eF] at hb; exact hb)).2.2

theorem EC {x:α} {v:Value} (h:sL x F v k) : ∃ k' : K,Handed k k' F∧aL x v k':=by
 obtain ⟨b,rfl,rfl,h⟩:=h
 exact ⟨k.share b h.lt,⟨rfl,K.pM k b h.lt,fun i hi=>hi.imp id Eq.symm⟩,h.share⟩
theorem Em {e:TypeId} {xs:List α} {v:Value} (h:rI e xs F v k) : ∃ k' : K,Handed k k' F∧IsV xs v k':=by
 obtain ⟨rfl,h⟩:=h
 obtain ⟨k', hs, _, hv⟩ := h.hand (k0 := ⟨⟨#[], k.w.tape, 0, k.w.os, k.w.output⟩, fun _ => False, fun _ f => f.elim⟩)
  ⟨rfl,rfl,rfl,Nat.zero_le _,fun b hb=>absurd hb (Nat.not_lt_zero b),fun _ f=>f.elim,fun b hb=>absurd hb (Nat.not_lt_zero b),Nat.zero_le _⟩ (Nat.le_refl _)
 exact ⟨k', ⟨hs.w, hs.le, hs.sh⟩, hv⟩

theorem bC {A:Array Oper} {i off b:Nat} {rest:List Nat} {Q:Exit → Act → World → Prop} {t:TypeId} {p y:Operand} {x:α} {z:β} {set:α → β → α}
  (ho:nth A.toList i = some o) (hg:o.guard = none) (hop:o.op = .store t p y) (hd:o.dst = none) (hs:(P.info? t).map (·.size) = some (Enc.sz β)) (hu:Upd off set)
  (hp:jG b off (a.eval p) k) (hb:Box b x k) (hv:IsV z (a.eval y) k)
  (h : ∀ k', Chg (Eq b) k k' → Box b (set x z) k' → wpOps P A Q rest a k'.w) : wpOps P A Q (i :: rest) a k.w :=
 Bz ho hg hop hd hs hu hp hb hv fun k' hon hz=>h k' ⟨hon.tape,hon.os,hon.out,Nat.le_of_eq hon.size.symm,fun c _ hc=>hon.blk c (fun e=>hc e.symm),fun c hc=>by rw [hon.sh]; exact hc,fun c _ hc=>by rw [hon.sh] at hc; exact .inl hc,hon.drawn⟩ hz

theorem A9 {A:Array Oper} {i m off:Nat} {e:TypeId} {rest:List Nat} {Q:Exit → Act → World → Prop} {t:TypeId} {p y:Operand} {u:Value} {xs:List α} {x:α} {z:β} {set:α → β → α}
  (ho:nth A.toList i = some o) (hg:o.guard = none) (hop:o.op = .store t p y) (hd:o.dst = none) (hs:(P.info? t).map (·.size) = some (Enc.sz β)) (hu:Upd off set)
  (hp:sX u (m * Enc.sz α + off) (a.eval p) k) (hb:ay 0 e xs u k) (hm:xs[m]? = some x) (hv:IsV z (a.eval y) k)
  (h : ∀ k' : K,Chg (obF u) k k' → ay 0 e (xs.set m (set x z)) u k' → wpOps P A Q rest a k'.w):wpOps P A Q (i::rest) a k.w:=
 A8 ho hg hop hd hs hu hp hb hm hv fun b k' hob hon hz=>h k' ⟨hon.tape,hon.os,hon.out,Nat.le_of_eq hon.size.symm,fun c _ hc=>hon.blk c (fun e=>hc (by rw [obF,hob,e])),fun c hc=>by rw [hon.sh]; exact hc,fun c _ hc=>by rw [hon.sh] at hc; exact .inl hc,hon.drawn⟩ hz

theorem Grown.chg {r:Option Nat} (h:Grown k k' r):Chg (fun b=>r = some b) k k':=
 ⟨h.tape,h.os,h.out,h.size,fun b hb hr=>h.blk b hb (fun e=>hr e.symm),fun b hb=>by rw [h.sh]; exact hb,fun b _ hb=>by rw [h.sh] at hb; exact .inl hb,h.drawn⟩

theorem cX {A:Array Oper} {i d:Nat} {rest:List Nat} {Q:Exit → Act → World → Prop} {t e:TypeId} {x y:Operand} {xs ys zs:List α}
  (ho:nth A.toList i = some o) (hgd:o.guard = none) (hop:o.op = .call { callee:=.builtin .append,args:=#[x,y],argTypes:=#[t,t] }) (hd:o.dst = some d) (hda:d < a.tmps.size)
  (hu:P.underlying t = some (.slice e)) (he:dN P e α) (hv:ay 0 e xs (a.eval x) k) (hy:dE ys (a.eval y) k) (hz:cg xs ys = some zs)
  (h : ∀ (a' : Act) (k' : K),a'.tmps.size = a.tmps.size → a'.defers = a.defers → (∀ t,t ≠ d → a'.get t = a.get t) → Chg (obF (a.eval x)) k k' → ay 0 e zs (a'.get d) k' →
   (∀ b,obF (a'.get d) b → obF (a.eval x) b ∨ k.w.heap.size ≤ b) → wpOps P A Q rest a' k'.w):wpOps P A Q (i::rest) a k.w:=
 tail_append ho hgd hop hd hda hu he (Nat.zero_le _) hv hy hz fun a' k' h1 h2 h3 h4 h5 h6=>h a' k' h1 h2 h3 h4.chg h5 h6

def dw (F:FP) (k:K) (R:Pred):Ending → World → Prop
 | .returned v,w'=>∃ k' : K,k'.w = w'∧Chg F k k'∧R v k'
 | .outgrown,_=>False
 | .panicked _,_=>False

theorem Ret.ofC {f:FuncId} {as_:Array Value} {w:World} (h:Calls P f as_ w (dw noF k R)):Calls P f as_ w (Ret k R):=h.mono fun e w' he=>by
 cases e with
 | returned v => obtain ⟨k', e1, hg, hv⟩ := he; exact ⟨k', e1, hg.grow, hv⟩
 | panicked c=>exact he
 | outgrown=>exact he
end
end Go.Gb

namespace Go.Gb
section
variable {P:Program} {o:Oper} {a a0:Act} {k k' k0:K} {R S T:Pred} {α β:Type} [Enc α] [Enc β] {F G:FP}

theorem nW {fn:Func} {v:Value} (hd:a.defers = []) (hv:(results fn a.tmps).run P k'.w = .ok v k'.w) (hg:Chg F k k') (hR:R v k'):bodyPost P fn (dw F k R) .ret a k'.w:=
 ⟨hd, v, hv, k', rfl, hg, hR⟩
theorem fc {fn:Func}:LetsOut (bodyPost P fn (dw F k R)):=trivial
theorem Ix {f:FuncId} {fn:Func} {c:Code} {args:Array Value} {n:Nat} (hf:P.funcs[f]? = some fn) (hb:fn.body = some c) (hn:fn.ntmps = n) (hl:args.size ≤ n)
  (h : ∀ a:Act,a.tmps.size = n → a.defers = [] → mq a 0 args.toList → c.wp P (bodyPost P fn (dw F k R)) a k.w):Calls P f args k.w (dw F k R):=by
 refine calls_of_wp hf hb (h _ ?_ rfl ?_)
 ·simp [hn]; omega
 ·have key : ∀ (vs : List Value) (i : Nat), args.toList.drop i = vs → mq { tmps := args ++ Array.replicate (fn.ntmps - args.size) undef, defers := [] } i vs := by
   intro vs
   induction vs with
   | nil=>intro i _; trivial
   | cons v vs ih =>
    intro i hi
    have hlt:i < args.size:=by
     rcases Nat.lt_or_ge i args.size with h | h
     ·exact h
     ·rw [List.drop_eq_nil_of_le (by simpa using h)] at hi; simp at hi
    refine ⟨?_,ih (i + 1) (by rw [← List.drop_drop,hi]; rfl)⟩
    rw [List.drop_eq_getElem_cons (by simpa using hlt)] at hi
    simp only [List.cons.injEq] at hi
    simp only [Act.get,Array.getD_eq_getD_getElem?]
    rw [Array.getElem?_append_left hlt]
    simp [hlt,← hi.1]
  exact key _ 0 rfl
theorem iT {fn:Func} {r:ResultVar} (hr:fn.results = #[r]) (hd:a.defers = []) (hg:Chg F k k') (h:pd P a k' r R):bodyPost P fn (dw F k R) .ret a k'.w:=by
 obtain ⟨v,hv,hR⟩:=qj h
 refine ⟨hd, v, ?_, k', rfl, hg, hR⟩
 simp only [qK,hr]
 simp [hv]
theorem CN {fn:Func} {r s:ResultVar} (hr:fn.results = #[r,s]) (hd:a.defers = []) (hg:Chg F k k') (h:pd P a k' r R) (g:pd P a k' s S) :
  bodyPost P fn (dw F k (dv R S)) .ret a k'.w:=by
 obtain ⟨v,hv,hR⟩:=qj h
 obtain ⟨u,hu,hS⟩:=qj g
 refine ⟨hd, .tuple #[v, u], ?_, k', rfl, hg, v, u, rfl, hR, hS⟩
 simp only [qK,hr]
 simp [hv,hu]
def Lo (k:K) (G:FP):Prop:=∀ b,G b → k.w.heap.size ≤ b
theorem Lo.wr (h:Lo k G):Wr F k G:=fun b hb=>.inr (h b hb)
theorem Lo.chg (h:Lo k' G) (g:Chg F k k'):Lo k G:=fun b hb=>Nat.le_trans g.size (h b hb)
theorem Lo.app {G' : FP} (h:Lo k G) (g:Chg F k k') (hG : ∀ b,G' b → G b ∨ k'.w.heap.size ≤ b):Lo k G':=fun b hb=>(hG b hb).elim (h b) (fun h=>Nat.le_trans g.size h)
theorem Wr.app {G' : FP} (h:Wr F k G) (g:Chg F k k') (hG : ∀ b,G' b → G b ∨ k'.w.heap.size ≤ b):Wr F k G':=fun b hb=>(hG b hb).elim (h b) (fun h=>.inr (Nat.le_trans g.size h))
theorem Lo.eq {b:Nat} (h:k.w.heap.size ≤ b):Lo k (Eq b):=fun _ e=>e ▸ h
theorem Box.ltF {b:Nat} {x:α} (h:Box b x k) : ∀ c,b = c → c < k.w.heap.size:=fun _ e=>e ▸ h.lt
theorem Box.kN {b:Nat} {x:α} (h:Box b x k) : ∀ c,b = c → ¬ k.sh c:=fun _ e=>e ▸ h.own
theorem ay.ltF {B:Nat} {e:TypeId} {xs:List α} {v:Value} (h:ay B e xs v k) : ∀ b,obF v b → b < k.w.heap.size:=fun b hb=>(h.lt b hb).2.1
theorem ay.kN {B:Nat} {e:TypeId} {xs:List α} {v:Value} (h:ay B e xs v k) : ∀ b,obF v b → ¬ k.sh b:=fun b hb=>(h.lt b hb).2.2
theorem ay.loF {e:TypeId} {xs:List α} {v:Value} (h:ay k0.w.heap.size e xs v k):Lo k0 (obF v):=fun b hb=>(h.lt b hb).1
theorem ay.fZ {B:Nat} {e:TypeId} {xs:List α} {v:Value} (h:ay B e xs v k) : ∃ k' : K,Handed k k' (obF v)∧IsV xs v k':=
 Em ⟨rfl,h.weaken (Nat.zero_le _)⟩
theorem Box.fZ {b:Nat} {x:α} (h:Box b x k) : ∃ k' : K,Handed k k' (Eq b)∧aL x (.pointer (some ⟨b,0,none⟩)) k':=
 EC ⟨b,rfl,rfl,h⟩
theorem cO.DS {e:TypeId} {v:Value} (h:cO v k):ay (α:=α) 0 e [] v k:=h.own
theorem cO.Ik {v:Value} (h:cO v k) : ∀ b,¬ obF v b:=fun b hb=>by rw [obF,h.ob] at hb; simp at hb
theorem cO.lo {v:Value} (h:cO v k):Lo k0 (obF v):=fun b hb=>(h.Ik b hb).elim
end

structure Bs (F:FP) (k0:K) (n:Nat) (a:Act) (k:K):Prop where
 g:Chg F k0 k
 s:a.tmps.size = n
 d:a.defers = []
section
variable {P:Program} {F:FP} {a a' : Act} {k k' k0:K} {n m:Nat} {ops:List Oper} {es:List Ent}
theorem Bs.post (h:Bs F k0 n a k) (p:jU ops es m a k a' k'):Bs F k0 n a' k':=⟨h.g.then p.grow,p.size.trans h.s,p.defers.trans h.d⟩
theorem nM {c:Code} {Q:Exit → Act → World → Prop} {τ ρ:Type} (f:aN τ ρ) (T:τ → Act → K → Prop) (X:Nat → τ → Act → K → Prop) (Rt:ρ → Act → K → Prop)
  (h1 : ∀ Q' : Exit → Act → World → Prop, LetsOut Q' → (∀ s' a' k', f = .go s' → T s' a' k' → Q' .normal a' k'.w) →
   (∀ i s' a' k', f = .ex i s' → X i s' a' k' → Q' (.exit i) a' k'.w) → (∀ r a' k', f = .ret r → Rt r a' k' → Q' .ret a' k'.w) → c.wp P Q' a k.w)
  (hQ : LetsOut Q) (h4 : ∀ r a' k', f = .ret r → Rt r a' k' → Q .ret a' k'.w) (h2 : ∀ s' a' k', f = .go s' → T s' a' k' → Q .normal a' k'.w)
  (h3 : ∀ i s' a' k', f = .ex i s' → X i s' a' k' → Q (.exit i) a' k'.w) : c.wp P Q a k.w :=
 h1 Q hQ h2 h3 h4
end
end Go.Gb

namespace Go.Gb
section
variable {P:Program} {o:Oper} {a a0:Act} {k k' k0:K} {α β γ δ:Type} [Enc α] [Enc β] [Enc γ] [Enc δ]

def qD (P:Program) (g:α → Option β):Pred:=fun v k=>
 ∃ f first captured,v = .func (.func f) first captured∧(∀ args w,(callFunc f args).run P w = .ok (.enter f args) w) ∧
  ∀ k', Le k k' → ∀ x vx y, IsV x vx k' → g x = some y → Calls P f (first ++ #[vx] ++ captured) k'.w (Ret k' (IsV y))
def tp (P:Program) (g:α → β → Option γ):Pred:=fun v k=>
 ∃ f first captured,v = .func (.func f) first captured∧(∀ args w,(callFunc f args).run P w = .ok (.enter f args) w) ∧
  ∀ k', Le k k' → ∀ x vx y vy z, IsV x vx k' → IsV y vy k' → g x y = some z → Calls P f (first ++ #[vx, vy] ++ captured) k'.w (Ret k' (IsV z))
instance (g:α → Option β):aA (qD P g):=⟨fun h ⟨f,fi,c,e,hc,r⟩=>⟨f,fi,c,e,hc,fun k' hk=>r k' (h.trans hk)⟩⟩
instance (g:α → β → Option γ):aA (tp P g):=⟨fun h ⟨f,fi,c,e,hc,r⟩=>⟨f,fi,c,e,hc,fun k' hk=>r k' (h.trans hk)⟩⟩
theorem pD {R:Pred} {fn:Fn} {first captured:List Operand} (ho:o.op = .makeFunc fn first.toArray captured.toArray)
  (h:R (.func fn (first.map a.eval).toArray (captured.map a.eval).toArray) k):bg P o a k R:=
 az (v:=.func fn (first.map a.eval).toArray (captured.map a.eval).toArray) (by simp [execOp,ho,Instr.makeFunc]) h

theorem qH {R:Pred} {f:FuncId} {args:Array Value} (hr:(execOp a.eval o).run P k.w = .ok (.enter f args) k.w) (h:Calls P f args k.w (Ret k R)):bg P o a k R:=by
 intro next Q hQ hn
 unfold Oper.wp
 rw [hr]
 refine Calls.mono h fun e w' he=>?_
 cases e with
 | returned v =>
  obtain ⟨k', rfl, hg, hv⟩ := he
  exact hn v k' hg hv
 | panicked c=>exact he.elim
 | outgrown=>exact he.elim

theorem Dr {g:α → Option β} {fx x:Operand} {ts:Array TypeId} {p:α} {r:β} (ho:o.op = .call { callee:=.value fx,args:=#[x],argTypes:=ts })
  (hf:qD P g (a.eval fx) k) (hx:IsV p (a.eval x) k) (h:g p = some r):bg P o a k (IsV r):=by
 obtain ⟨f,fi,c,e,hc,hr⟩:=hf
 refine qH (f:=f) (args:=fi ++ #[a.eval x] ++ c) ?_ (hr k (Le.refl k) _ _ _ hx h)
 simp [execOp,ho,resolve,invoke,Deferred.ofValue,e,hc]
theorem Dy {g:α → β → Option γ} {fx x y:Operand} {ts:Array TypeId} {p:α} {q:β} {r:γ} (ho:o.op = .call { callee:=.value fx,args:=#[x,y],argTypes:=ts })
  (hf:tp P g (a.eval fx) k) (hx:IsV p (a.eval x) k) (hy:IsV q (a.eval y) k) (h:g p q = some r):bg P o a k (IsV r):=by
 obtain ⟨f,fi,c,e,hc,hr⟩:=hf
 refine qH (f:=f) (args:=fi ++ #[a.eval x,a.eval y] ++ c) ?_ (hr k (Le.refl k) _ _ _ _ _ hx hy h)
 simp [execOp,ho,resolve,invoke,Deferred.ofValue,e,hc]
end
end Go.Gb

namespace Go.Gb

structure IK (κ:IntKind) where
 n:Int
 deriving DecidableEq
instance {κ:IntKind}:Inhabited (IK κ):=⟨⟨0⟩⟩
instance {κ:IntKind}:Enc (IK κ) where
  sz:=1
  agg:=false
  rep _ cs x:=cs = [.int κ x.n]
  len h:=by simp [h]
  mono _ h:=h
  one h:=by subst h; simp [Value.oneCell']
  agg1 _:=rfl
def IK.shr {κ:IntKind} (x:IK κ) (n:Int):IK κ:=⟨x.n.fdiv (2 ^ n.toNat)⟩
def IK.add {κ:IntKind} (x y:IK κ):IK κ:=⟨κ.wrap (x.n + y.n)⟩
def IK.sub {κ:IntKind} (x y:IK κ):IK κ:=⟨κ.wrap (x.n - y.n)⟩
def IK.mul {κ:IntKind} (x y:IK κ):IK κ:=⟨κ.wrap (x.n * y.n)⟩

theorem dO {κ:IntKind} {x:IK κ} {v:Value} {k:K}:IsV x v k ↔ v = .int κ x.n:=
 ⟨fun ⟨_,e,r⟩=>by rw [e,r]; rfl,fun e=>⟨[.int κ x.n],e,rfl⟩⟩

section
variable {P:Program} {o:Oper} {a a0:Act} {k k' k0:K} {R S:Pred} {α β:Type} [Enc α] [Enc β]

theorem tC {t u:TypeId} {κ κ' : IntKind} {n:Int} {w:World} (ht:(P.underlying t).isSome = true) (hu:P.underlying u = some (.int κ')):(convert t u (.int κ n)).run P w = .ok (.int κ' (κ'.wrap n)) w:=by
 obtain ⟨d,hd⟩:=Option.isSome_iff_exists.1 ht
 simp [convert,run_underlying hd,run_underlying hu,Conv.intToInt]
section
variable {t u v:TypeId} {x y:Operand} {κ κ' : IntKind}
theorem BZ {n:Int} (ho:o.op = .convert t u x) (ht:(P.underlying t).isSome = true) (hu:P.underlying u = some (.int κ')) (hx:IsV n (a.eval x) k):bg P o a k (IsV (IK.mk (κ'.wrap n):IK κ')):=by
 have hx:=aB.1 hx
 refine az (v:=.int κ' (κ'.wrap n)) ?_ (dO.2 rfl)
 simp only [execOp,ho,hx]
 simp [tC (P:=P) (κ:=.i64) (n:=n) ht hu]
theorem Bv {n:IK κ} (ho:o.op = .convert t u x) (ht:(P.underlying t).isSome = true) (hu:P.underlying u = some (.int κ')) (hx:IsV n (a.eval x) k):bg P o a k (IsV (IK.mk (κ'.wrap n.n):IK κ')):=by
 have hx:=dO.1 hx
 refine az (v:=.int κ' (κ'.wrap n.n)) ?_ (dO.2 rfl)
 simp only [execOp,ho,hx]
 simp [tC (P:=P) (κ:=κ) (n:=n.n) ht hu]
end

section
variable {t u:TypeId} {x y:Operand} {κ κ' : IntKind} {n m:IK κ}
theorem GX (ho:o.op = .binOp .add t x y u) (hx:IsV n (a.eval x) k) (hy:IsV m (a.eval y) k):bg P o a k (IsV (n.add m)):=by
 have hx:=dO.1 hx; have hy:=dO.1 hy
 refine az (v:=.int κ (κ.wrap (n.n + m.n))) ?_ (dO.2 rfl)
 simp only [execOp,ho,hx,hy]
 simp [eqGuard,binOp,Op.intArith]
theorem FY (ho:o.op = .binOp .sub t x y u) (hx:IsV n (a.eval x) k) (hy:IsV m (a.eval y) k):bg P o a k (IsV (n.sub m)):=by
 have hx:=dO.1 hx; have hy:=dO.1 hy
 refine az (v:=.int κ (κ.wrap (n.n - m.n))) ?_ (dO.2 rfl)
 simp only [execOp,ho,hx,hy]
 simp [eqGuard,binOp,Op.intArith]
theorem GF (ho:o.op = .binOp .mul t x y u) (hx:IsV n (a.eval x) k) (hy:IsV m (a.eval y) k):bg P o a k (IsV (n.mul m)):=by
 have hx:=dO.1 hx; have hy:=dO.1 hy
 refine az (v:=.int κ (κ.wrap (n.n * m.n))) ?_ (dO.2 rfl)
 simp only [execOp,ho,hx,hy]
 simp [eqGuard,binOp,Op.intArith]
end

def Df (xs:List α):Pred:=fun v _=>∃ b,v = .bool b∧(b = true → xs = [])
instance (xs:List α):aA (Df xs):=⟨fun _ h=>h⟩
theorem rP {t e u:TypeId} {x:Operand} {xs:List α} (ho:o.op = .binOp .eql t x (.const (.slice none 0 0)) u) (hu:P.underlying t = some (.slice e)) (hx:dE xs (a.eval x) k):bg P o a k (Df xs):=by
 have ev:a.eval (.const (.slice none 0 0)) = .slice none 0 0:=rfl
 have hr : ∀ (ad:Option Addr) (n c:Nat),(Op.equal t (.slice ad n c) (.slice none 0 0)).run P k.w = .ok ad.isNone k.w:=fun ad n c=>by
  show (Op.equalIn (9999 + 1) t _ _).run P k.w = _
  rw [Op.equalIn]
  cases ad <;> simp [run_underlying hu]
 rcases hx with ⟨e1,rfl⟩ | ⟨ad,cap,cs,e1,_⟩
 ·refine az (v := .bool true) ?_ ⟨true, rfl, fun _ => rfl⟩
  simp only [execOp,ho,e1,ev]
  simp [eqGuard,binOp,hr]
 ·refine az (v := .bool false) ?_ ⟨false, rfl, fun h => by simp at h⟩
  simp only [execOp,ho,e1,ev]
  simp [eqGuard,binOp,hr]

theorem ay.raise {B:Nat} {e:TypeId} {xs:List α} {v:Value} (h:ay B e xs v k) (hl:Lo k0 (obF v)):ay k0.w.heap.size e xs v k:=by
 rcases h with r | r | ⟨b', off, cap, cur, cs, rfl, hB, ho, hh, hc, h0, r⟩
 ·exact .inl r
 ·exact .inr (.inl r)
 ·exact .inr (.inr ⟨b', off, cap, cur, cs, rfl, hl b' (by simp [obF, ob, Nat.ne_of_gt h0]), ho, hh, hc, h0, r⟩)
theorem vr {f:FuncId} {args:Array Value} {e:TypeId} {xs:List α} (h:Calls P f args k.w (Ret k (ay k.w.heap.size e xs))):Calls P f args k.w (Ret k (IsV xs)):=h.mono fun en w' he=>by
 cases en with
 | returned v =>
  obtain ⟨k', rfl, hg, hv⟩ := he
  obtain ⟨k2,hs,hg2,hv2⟩:=hv.hand hg (Nat.le_refl _)
  exact ⟨k2,hs.w,hg2,hv2⟩
 | panicked c=>exact he
 | outgrown=>exact he
theorem oP {f:FuncId} {args:Array Value} {e:TypeId} {xs:List α} {B:Nat} (hB:B ≤ k.w.heap.size) (h:Calls P f args k.w (Ret k (ay k.w.heap.size e xs))):Calls P f args k.w (Ret k (ay B e xs)):=h.mono fun en w' he=>by
 cases en with
 | returned v =>
  obtain ⟨k', rfl, hg, hv⟩ := he
  exact ⟨k', rfl, hg, hv.weaken hB⟩
 | panicked c=>exact he
 | outgrown=>exact he
theorem iN {F:FP} {f:FuncId} {fn:Func} {c:Code} {args:Array Value} {n:Nat} (hf:P.funcs[f]? = some fn) (hb:fn.body = some c) (hn:fn.ntmps = n) (hl:args.size ≤ n)
  (h : ∀ (a:Act) (q:K),q = k → a.tmps.size = n → a.defers = [] → mq a 0 args.toList → c.wp P (bodyPost P fn (dw F k R)) a q.w):Calls P f args k.w (dw F k R):=
 Ix hf hb hn hl fun a hs hd ha=>h a k rfl hs hd ha
end
end Go.Gb

namespace Go.Gb
section
variable {P:Program} {o:Oper} {a a0:Act} {k k' k0:K} {R S T:Pred} {α β:Type} [Enc α] [Enc β]

instance [aA R] [aA S]:aA (dv R S):=⟨fun h ⟨x,y,e,a,b⟩=>⟨x,y,e,aA.pers h a,aA.pers h b⟩⟩
theorem gI {A:Array Oper} {i d:Nat} {rest:List Nat} {Q:Exit → Act → World → Prop}
  (ho:nth A.toList i = some o) (hgd:o.guard = none) (hd:o.dst = some d) (hda:d < a.tmps.size) (hQ:LetsOut Q) (hD:bg P o a k R)
  (h : ∀ (a' : Act) (k' : K),a'.tmps.size = a.tmps.size → a'.defers = a.defers → (∀ t,t ≠ d → a'.get t = a.get t) → bN k k' → R (a'.get d) k' → wpOps P A Q rest a' k'.w):wpOps P A Q (i::rest) a k.w:=by
 rw [wpOps_cons]
 rw [aV] at ho
 unfold wpOp
 simp only [ho,Region.wanted,hgd,if_true]
 refine .inl (hD _ _ hQ fun v k' hg hv=>?_)
 rw [hd]
 have hgd' : (a.put (some d) v).get d = v:=by rw [ew _ _ _ _ hda]; simp
 refine h _ k' (lP _ _ _) (gf _ _ _) ?_ hg (by rw [hgd']; exact hv)
 intro t ht
 rw [ew _ _ _ _ hda,if_neg (Ne.symm ht)]
class Flat (R:Pred):Prop where
 flat : ∀ {v k k'},R v k → R v k'
instance {x:Int}:Flat (IsV x):=⟨fun h=>aB.2 (aB.1 h)⟩
instance {x:Bool}:Flat (IsV x):=⟨fun h=>bx.2 (bx.1 h)⟩
instance {x:ByteArray}:Flat (IsV x):=⟨fun h=>oQ.2 (oQ.1 h)⟩
instance {κ:IntKind} {x:IK κ}:Flat (IsV x):=⟨fun h=>dO.2 (dO.1 h)⟩
instance [Flat R] [Flat S]:Flat (dv R S):=⟨fun ⟨x,y,e,a,b⟩=>⟨x,y,e,Flat.flat a,Flat.flat b⟩⟩
end
end Go.Gb

namespace Go.Gb

end Go.Gb

namespace Go.Gb

section
variable {P:Program} {o:Oper} {a a0:Act} {k k' k0:K} {R S T:Pred} {κ:Type} [DecidableEq κ] {kv:κ → Value} {F G:FP}

end
end Go.Gb
namespace Go.Gb
end Go.Gb
namespace Go.Gb
end Go.Gb

namespace Go.Gb
section
variable {P:Program} {o:Oper} {a a0:Act} {k k' k0:K} {κ α:Type} [DecidableEq κ] [Enc α] {kv:κ → Value} {F G:FP}

end
end Go.Gb

namespace Go.Gb

structure JU (κ α:Type) where
 l:List (κ × α)
 deriving Inhabited
class DM (κ:Type) where
 kv:κ → Value
instance:DM Int:=⟨Value.int .i64⟩
instance:DM ByteArray:=⟨Value.string⟩

def HS {κ α:Type} [DM κ] [Enc α] (k:K) (v:Value) (m:JU κ α):Prop:=
 (v = .map none∧m.l = []) ∨ ∃ b es clk,∃ T:List (κ × Value × α),v = .map (some b)∧k.sh b∧k.w.heap[b]? = some (.map es clk)∧m.l = T.map (fun t=>(t.1,t.2.2)) ∧
  es.toList.map (fun e=>(e.key,e.val)) = (T.map fun t=>(t.1,t.2.1)).map (fun p=>(DM.kv p.1,p.2))∧∀ t ∈ T,IsV t.2.2 t.2.1 k
instance {κ α:Type} [DM κ] [Enc α]:Enc (JU κ α) where
  sz:=1
  agg:=false
  rep k cs m:=∃ v,cs = [v]∧HS k v m
  len h:=by obtain ⟨v,rfl,_⟩:=h; rfl
  mono h r:=by
    obtain ⟨v,rfl,r⟩:=r
    refine ⟨v,rfl,?_⟩
    rcases r with r | ⟨b,es,clk,T,e1,hs,hh,e2,e3,hT⟩
    · exact .inl r
    · exact .inr ⟨b,es,clk,T,e1,h.up _ hs,by rw [h.blk _ hs]; exact hh,e2,e3,fun t ht=>aA.pers h (hT t ht)⟩
  one h:=by
    obtain ⟨v,rfl,r⟩:=h
    rcases r with ⟨rfl,_⟩ | ⟨b,es,clk,T,rfl,_⟩ <;> simp [Value.oneCell']
  agg1 _:=rfl

section
variable {P:Program} {o:Oper} {a a0:Act} {k k' k0:K} {κ α:Type} [DecidableEq κ] [DM κ] [Enc α] {F G:FP}

end
end Go.Gb

namespace Go.Gb
section
variable {P:Program} {o:Oper} {a a0:Act} {k k' k0:K} {α:Type} [Enc α] {F G:FP}

end
end Go.Gb
namespace Go.Gb
theorem fY {P : Program} {o : Oper} {a : Act} {k : K} {R S : Pred} (h : bg P o a k R) (hi : ∀ v k', bN k k' → R v k' → S v k') : bg P o a k S :=
 fun next Q hQ hn=>h next Q hQ fun v k' hg hv=>hn v k' hg (hi v k' hg hv)
end Go.Gb

namespace Go.Gb

def kOf (W:World):K:=⟨W,fun b=>b < W.heap.size,fun _ h=>h⟩

class Rg (α:Type) where
 rg:α → Prop
instance:Rg Int:=⟨inI⟩
instance:Rg Bool:=⟨fun _=>True⟩
instance:Rg ByteArray:=⟨fun b=>b.size ≤ maxLen⟩
def Ah:Nat:=140737488351232
instance {α:Type} [Rg α]:Rg (List α):=⟨fun l=>l.length ≤ Ah∧∀ x ∈ l,Rg.rg x⟩
instance {α β:Type} [Rg α] [Rg β]:Rg (α × β):=⟨fun p=>Rg.rg p.1∧Rg.rg p.2⟩
@[reducible] def Rg.ofMap {σ β:Type} [Rg β] (f:σ → β):Rg σ:=⟨fun x=>Rg.rg (f x)⟩

def RdC (P:Program) (t:TypeId) (α:Type) [Enc α] [Rg α]:Prop:=
 ∀ {H:Type} (enc:TypeId × Value → H) (W:World) (fuel:Nat) (cs:List Value) (x:DataW H × List MemPlace),
  DataW.trod enc P W 0 (fun _=>true) true fuel t cs = some x → (∀ n ∈ DataW.weights P t x.1,n ≤ reachBytes) → ∃ y:α,Enc.rep (kOf W) cs y∧Rg.rg y
theorem th {H:Type} {P:Program} {e:TypeId} {d:DataW H} {n:Nat} (hn:n ∈ DataW.weights P e d) : ∀ {l:List (DataW H)},d ∈ l → n ∈ DataW.weightsAll P e l
 | x :: l, h => by
  simp only [DataW.weightsAll,List.mem_append]
  rcases List.mem_cons.1 h with rfl | h
  ·exact .inl hn
  ·exact .inr (th hn h)
structure Rd (P:Program) (t:TypeId) (α:Type) [Enc α] [Rg α]:Prop where
 rd:RdC P t α
 sh : ∀ (W:World) (r:Reach) (base:Nat) (v:Value),Value.okWide P W r base t v → v = mkV (Enc.agg α) v.cells.toList

section
variable {P:Program} {t e:TypeId} {α β σ:Type} [Enc α] [Enc β] [Rg α] [Rg β]

theorem HQ (hu:P.underlying t = some (.int .i64)):Rd P t Int where
 rd {H} enc W fuel cs x h _:=by
  obtain ⟨n,rfl,_,hw⟩:=DataW.trod_int hu h
  refine ⟨n,rfl,?_⟩
  simp [Lit.wf,IntKind.min,IntKind.max,IntKind.bits,IntKind.signed] at hw
  exact hw
 sh W r base v h:=by
  obtain ⟨n,rfl⟩:=WideShapes.okWide_int hu h
  rfl
theorem F6 (hu:P.underlying t = some .bool):Rd P t Bool where
 rd {H} enc W fuel cs x h _:=by
  obtain ⟨n,rfl,_⟩:=DataW.trod_bool hu h
  exact ⟨n,rfl,trivial⟩
 sh W r base v h:=by
  obtain ⟨n,rfl⟩:=WideShapes.okWide_bool hu h
  rfl
theorem Dv (hu:P.underlying t = some .string):Rd P t ByteArray where
 rd {H} enc W fuel cs x h _:=by
  obtain ⟨n,rfl,_,hw⟩:=DataW.trod_string hu h
  exact ⟨n,rfl,hw⟩
 sh W r base v h:=by
  obtain ⟨n,rfl⟩:=WideShapes.okWide_string hu h
  rfl

theorem CM {W:World} {a:Addr} {u:Value} (h:W.cell? a = some u):a.spot = none∧∃ arr t fr,W.heap[a.block]? = some (.cells arr t fr)∧arr[a.off]? = some u:=by
 unfold World.cell? at h
 cases hh:W.heap[a.block]? with
 | none=>rw [hh] at h; simp at h
 | some o =>
  rw [hh] at h
  cases o with
  | cells arr t fr =>
   simp only at h
   split at h
   ·simp at h
   ·rename_i hs
    refine ⟨by simpa using hs,arr,t,fr,rfl,h⟩
  | _=>simp at h

theorem add_eq {a:Addr} (ha:a.spot = none) (i:Nat):a.add i = ⟨a.block,a.off + i,none⟩:=by
 unfold Addr.add
 split
 ·rename_i h; subst h; cases a; simp_all
 ·rfl

theorem D7 {W:World} {a:Addr} {n i:Nat} {l:List Value} {arr:Array Value} {t:TypeId} {fr:Nat × Nat} (ha:a.spot = none) (hh:W.heap[a.block]? = some (.cells arr t fr)) (hn:0 < n) (h:W.cells? 0 (a.add i) n = some l) :
  a.off + i + n ≤ arr.size∧l = (arr.toList.drop (a.off + i)).take n:=by
 obtain ⟨_,hl,hc⟩:=World.cells?_some h
 rw [add_eq ha] at hc
 have hcell : ∀ j,j < n → arr[a.off + i + j]? = l[j]?:=by
  intro j hj
  have hj':=hc j hj
  rw [add_eq rfl,List.getElem?_eq_getElem (by omega)] at hj'
  obtain ⟨_, arr', t', fr', hh', hj2⟩ := CM hj'
  simp only at hh'
  rw [hh] at hh'
  simp only [Option.some.injEq,Obj.cells.injEq] at hh'
  obtain ⟨rfl,_⟩:=hh'
  rw [hj2,List.getElem?_eq_getElem (by omega)]
 have hlast:=hcell (n - 1) (by omega)
 rw [List.getElem?_eq_getElem (show n - 1 < l.length by omega)] at hlast
 have hlt:=(Array.getElem?_eq_some_iff.1 hlast).1
 refine ⟨by omega,List.ext_getElem? fun j=>?_⟩
 by_cases hj:j < n
 ·rw [List.getElem?_take, if_pos hj, List.getElem?_drop, ← hcell j hj]
  simp
 ·rw [List.getElem?_eq_none (by omega),List.getElem?_eq_none (by simp; omega)]

theorem cP (hu:P.underlying t = some (.slice e)) (hz:P.cellsOf e = Enc.sz α) (h0:0 < Enc.sz α) (hby:Nat.ble 1 (P.bytesOf e) = true) (he:Rd P e α):Rd P t (List α) where
  rd {H} enc W fuel cs x h hwt:=by
    rcases DataW.trod_slice hu h with ⟨rfl,_⟩ | ⟨a,len,cap,elems,rest,n,_,rfl,rfl,_,hlc,hcm,hel,hE,hR,_⟩
    · exact ⟨[],⟨_,rfl,.inl ⟨rfl,rfl⟩⟩,⟨by simp,fun x hx=>by simp at hx⟩⟩
    · rw [hz] at hE hR
      obtain ⟨hrl,hR⟩:=hR rfl
      simp only [DataW.weights,hu] at hwt
      have hlen:len ≤ Ah:=by
        have h1:=hwt _ (List.mem_cons_self ..)
        rw [List.length_map,List.length_map,hel] at h1
        have h2:=Nat.le_of_ble_eq_true hby
        have h3:(len + rest.length) * 1 ≤ (len + rest.length) * P.bytesOf e:=Nat.mul_le_mul_left _ h2
        show len ≤ 140737488351232
        have h4:reachBytes = 140737488351232:=rfl
        omega
      by_cases hc0:cap = 0
      · obtain rfl : len = 0 := by omega
        exact ⟨[],⟨_,rfl,.inr (.inl ⟨a,by rw [hc0],rfl⟩)⟩,⟨by simp,fun x hx=>by simp at hx⟩⟩
      · -- the block
        obtain ⟨l0,hl0⟩ : ∃ l0,W.cells? 0 (a.add 0) (Enc.sz α) = some l0:=by
          by_cases hl:0 < len
          · have := hE 0 hl
            rw [List.getElem?_eq_getElem (by omega),Nat.zero_mul,Option.bind_eq_some_iff] at this
            obtain ⟨l0,h,_⟩:=this
            exact ⟨l0,h⟩
          · have := hR 0 (by omega)
            rw [List.getElem?_eq_getElem (by omega),show (len + 0) * Enc.sz α = 0 by rw [show len = 0 by omega]; simp,Option.bind_eq_some_iff] at this
            obtain ⟨l0,h,_⟩:=this
            exact ⟨l0,h⟩
        have ha0:a.add 0 = a:=by simp [Addr.add]
        obtain ⟨_,hll,hlc0⟩:=World.cells?_some hl0
        have h00:=hlc0 0 h0
        rw [ha0,ha0,List.getElem?_eq_getElem (by omega)] at h00
        obtain ⟨hsp, arr, t', fr, hh, _⟩ := CM h00
        have hlt:a.block < W.heap.size:=(Array.getElem?_eq_some_iff.1 hh).1
        have key : ∀ m,m ≤ len → ∃ xs:List α,xs.length = m∧ch (kOf W) ((arr.toList.drop a.off).take (m * Enc.sz α)) xs∧(∀ x ∈ xs,Rg.rg x)∧(m = 0 ∨ a.off + m * Enc.sz α ≤ arr.size):=by
          intro m
          induction m with
          | zero=>intro _; exact ⟨[],rfl,by simp [ch],fun x hx=>by simp at hx,.inl rfl⟩
          | succ m ih =>
            intro hm
            obtain ⟨xs,h1,h2,h3,h4⟩:=ih (by omega)
            have:=hE m (by omega)
            rw [List.getElem?_eq_getElem (by omega),Option.bind_eq_some_iff] at this
            obtain ⟨l,hl,htr⟩:=this
            obtain ⟨hsz,rfl⟩:=D7 hsp hh h0 hl
            obtain ⟨y,hy,hyr⟩:=he.rd enc W n _ _ htr fun w hw=>hwt w (List.mem_cons_of_mem _ (List.mem_append_left _ (th hw (List.mem_map.2 ⟨_,List.getElem_mem (show m < elems.length by omega),rfl⟩))))
            refine ⟨xs ++ [y],by simp [h1],?_,?_,.inr (by rw [Nat.add_mul,Nat.one_mul]; omega)⟩
            · have e1 : (arr.toList.drop a.off).take ((m + 1) * Enc.sz α) = (arr.toList.drop a.off).take (m * Enc.sz α) ++ (arr.toList.drop (a.off + m * Enc.sz α)).take (Enc.sz α) := by
                rw [Nat.add_mul,Nat.one_mul,List.take_add,List.drop_drop]
              rw [e1]
              have hly:=Enc.len hy
              refine h2.append ⟨?_,?_⟩
              · rw [List.take_of_length_le (by omega)]; exact hy
              · simp only [ch]; rw [List.drop_eq_nil_of_le (by omega)]
            · intro x hx
              rcases List.mem_append.1 hx with hx | hx
              · exact h3 x hx
              · simp at hx; rw [hx]; exact hyr
        obtain ⟨xs,h1,h2,h3,h4⟩:=key len (Nat.le_refl _)
        subst h1
        refine ⟨xs, ⟨_, rfl, .inr (.inr ⟨a, cap, _, rfl, hlc, hlt, h2, hsp, arr, t', fr, hh, ?_, ?_⟩)⟩, ⟨hlen, h3⟩⟩
        · have hc1 := (Array.getElem?_eq_some_iff.1 (show arr[a.off]? = some _ from by assumption)).1
          rw [h2.len]
          rcases h4 with h4 | h4
          · rw [h4,Nat.zero_mul]; omega
          · exact h4
        · intro j hj
          rw [List.getElem?_take,if_pos (by rw [h2.len] at hj; exact hj),List.getElem?_drop]
          simp
  sh W r base v h:=by
    obtain ⟨a,l,c,rfl⟩:=WideShapes.okWide_slice hu h
    rfl

structure RdF (P:Program) (fs:List Field) (o:Nat) (α:Type) [Enc α] [Rg α]:Prop where
 run : ∀ {H:Type} (enc:TypeId × Value → H) (W:World) (fuel:Nat) (cs:List Value),cs.length = o + Enc.sz α →
  (∀ f ∈ fs,∃ x:DataW H × List MemPlace,DataW.trod enc P W 0 (fun _=>true) true fuel f.type ((cs.drop f.offset).take (P.cellsOf f.type)) = some x∧∀ n ∈ DataW.weights P f.type x.1,n ≤ reachBytes) → ∃ y:α,Enc.rep (kOf W) (cs.drop o) y∧Rg.rg y
theorem RdF.one {f:Field} {o:Nat} (ho:f.offset = o) (hz:P.cellsOf f.type = Enc.sz α) (h:Rd P f.type α):RdF P [f] o α:=by
 refine ⟨?_⟩
 intro H enc W fuel cs hl hf
 obtain ⟨x,hx,hxw⟩:=hf f (by simp)
 rw [ho,hz,List.take_of_length_le (by simp; omega)] at hx
 exact h.rd enc W fuel _ x hx hxw
theorem RdF.cons {f:Field} {fs:List Field} {o:Nat} (ho:f.offset = o) (hz:P.cellsOf f.type = Enc.sz α) (h:Rd P f.type α) (g:RdF P fs (o + Enc.sz α) β):RdF P (f::fs) o (α × β):=by
 refine ⟨?_⟩
 intro H enc W fuel cs hl hf
 obtain ⟨x,hx,hxw⟩:=hf f (by simp)
 rw [ho,hz] at hx
 have hl' : cs.length = o + (Enc.sz α + Enc.sz β):=hl
 obtain ⟨y,hy,hyr⟩:=h.rd enc W fuel _ x hx hxw
 obtain ⟨z, hz', hzr⟩ := g.run enc W fuel cs (by omega) (fun f' hf' => hf f' (List.mem_cons_of_mem _ hf'))
 rw [← List.drop_drop] at hz'
 exact ⟨(y,z),⟨by simp; omega,hy,hz'⟩,hyr,hzr⟩

theorem bR [Enc σ] [Rg σ] {fs:Array Field} {f:σ → β} (g:β → σ) (hu:P.underlying t = some (.struct fs)) (hz:P.cellsOf t = Enc.sz β) (hag:Enc.agg σ = true)
  (hr : ∀ k cs y,Enc.rep (α:=β) k cs y → Enc.rep (α:=σ) k cs (g y)) (hrg : ∀ y:β,Rg.rg y → Rg.rg (g y)) (h:RdF P fs.toList 0 β) (_hf : ∀ y,f (g y) = y):Rd P t σ where
 rd {H} enc W fuel cs x hx hwt:=by
  obtain ⟨xs,n,_,rfl,hl,hxl,he⟩:=DataW.trod_struct hu hx
  simp only [DataW.weights,hu] at hwt
  obtain ⟨y,hy,hyr⟩:=h.run enc W n cs (by omega) (fun f hf=>by
   obtain ⟨i,hi,rfl⟩:=List.getElem_of_mem hf
   have hi' : i < fs.size:=by simpa using hi
   have:=he i fs[i] (by simp [hi'])
   rw [List.getElem?_eq_getElem (by omega)] at this
   exact ⟨_,by simpa using this,fun w hw=>hwt w (DataW.weights_mem_each (j:=i) (t:=fs[i].type) (d:=xs[i].1) (by simp [hi']) (by rw [List.getElem?_map,List.getElem?_eq_getElem (by omega)]; rfl) w (by simpa using hw))⟩)
  exact ⟨g y,hr _ _ _ (by simpa using hy),hrg _ hyr⟩
 sh W r base v h:=by
  obtain ⟨cs,rfl,_⟩:=WideShapes.okWide_struct hu h
  rw [hag]
  simp [mkV,Value.cells]
end
end Go.Gb

namespace Go.Gb
section
variable {H:Type} {enc:TypeId × Value → H} {P:Program} {fn:Func} {s:ChangeSpec} {W:World}

theorem Dk {k' : K} {may:MemPlace → Prop} (hg:bN (kOf W) k'):W.keptBut k'.w may:=by
 refine ⟨hg.os,hg.out,fun i hi=>?_⟩
 have:=hg.blk i hi
 rw [this]
 show (match W.heap[i]?,W.heap[i]? with
  | some (.cells c t fr),some (.cells c' t' fr')=>t' = t∧fr' = fr∧c'.size = c.size∧∀ j:Nat,¬ may (.cell i j) → c'[j]? = c[j]?
  | some (.map es clock),some (.map es' clock')=>may (.map i) ∨ (es' = es∧clock' = clock)
  | o,o'=>o' = o)
 cases W.heap[i]? with
 | none=>rfl
 | some o=>cases o <;> simp

theorem B1 {k' : K} (hg:bN (kOf W) k'):RowKit.Below W.heap.size W k'.w:=⟨hg.os,hg.tape,hg.out,hg.size,hg.blk⟩

theorem qB (hl:laidOutB P = true) {k' : K} (hg:bN (kOf W) k') : ∀ {ts:List TypeId} {vs:List Value} {ds:List (DataW H)} {ps:List MemPlace},
  ts.all (fun t=>P.readableRec t && decide (t < P.types.size)) = true → DataW.TrodAll enc P W 0 (fun _=>true) true ts vs ds ps → (∀ p ∈ ps,p.block < W.heap.size) →
  DataW.TrodAll enc P k'.w 0 (fun b=>decide (b < W.heap.size)) true ts vs ds ps
 | [], vs, ds, ps, _, h, _ => by
  obtain ⟨rfl,rfl,rfl⟩:=ChangeShapes.trodAll_nil h
  exact rfl
 | t :: ts, vs, ds, ps, hr, h, hlt => by
  obtain ⟨v, vs', d, ds', p, q, rfl, rfl, rfl, h1, h2⟩ := ChangeShapes.trodAll_cons h
  simp only [List.all_cons,Bool.and_eq_true,decide_eq_true_eq] at hr
  exact ⟨p,q,RowKit.Below.trod hl hr.1.1 hr.1.2 h1 (B1 hg) (fun x hx=>hlt x (by simp [hx])),qB hl hg hr.2 h2 (fun x hx=>hlt x (by simp [hx])),rfl⟩

theorem EY {apart:Bool} {args:Array Value} {ds gs:List (DataW H)} {before:List MemPlace} {tb:TypeId} {k' : K} (hW:DataW.Whole enc P fn.params.toList s.vars apart W args.toList ds gs before)
  (hl:laidOutB P = true) (hts:fn.params.toList.all (fun t=>P.readableRec t && decide (t < P.types.size)) = true) (hvars:s.vars = []) (hrt:fn.resultTypes = #[tb]) (hb:P.underlying tb = some .bool)
  (hsp:s.fn H (ds ++ gs) = { results:=[.lit (.bool true)],args:=ds }) (hg:bN (kOf W) k'):s.post enc P fn apart true false false W args (.bool true) k'.w:=by
 have hlt:=hW.lt
 have hW':=hW
 obtain ⟨p,q,hA,hV,rfl,hfz,hnd⟩:=hW
 rw [hvars] at hV
 obtain ⟨rfl,rfl⟩:=ChangeShapes.trodVars_none hV
 refine ⟨ds, [], p ++ [], [], p, [], hW', ?_, ?_, ?_, World.keptBut_mono (fun x hx => ⟨hx, .inr (.inl (by simpa using hx))⟩) (Dk hg), fun h => by simp at h⟩
 ·rw [hsp, hrt]
  refine ⟨[],[],⟨1,?_⟩,rfl,rfl⟩
  simp [DataW.trod,Value.cells,hb]
 ·rw [hsp]
  exact qB hl hg hts hA (fun x hx=>hlt x (by simp [hx]))
 ·rw [hsp, hvars]
  exact rfl

theorem uF {P:Program} {t:TypeId} {α:Type} [Enc α] [Rg α] (hr:Rd P t α) {v:Value} {d:DataW H} {ps:List MemPlace} (h:DataW.Trod enc P W 0 (fun _=>true) true t v d ps) {r:Reach} {base:Nat} (hok:Value.okWide P W r base t v) (hwt : ∀ n ∈ DataW.weights P t d,n ≤ reachBytes) :
  ∃ y:α,IsV y v (kOf W)∧Rg.rg y:=by
 obtain ⟨n,hn⟩:=h
 obtain ⟨y,hy,hg⟩:=hr.rd enc W n _ _ hn hwt
 exact ⟨y,⟨_,hr.sh W r base v hok,hy⟩,hg⟩

theorem DX {f:FuncId} {args:Array Value} {Q:Ending → World → Prop} (h:Calls P f args (kOf W).w (Ret (kOf W) (IsV true))) (hq : ∀ k' : K,bN (kOf W) k' → Q (.returned (.bool true)) k'.w):Calls P f args W Q:=
 h.mono fun e w' he=>by
  cases e with
  | returned v =>
   obtain ⟨k', rfl, hg, hv⟩ := he
   rw [bx.1 hv]
   exact hq k' hg
  | panicked c=>exact he.elim
  | outgrown=>exact he.elim
end
end Go.Gb

namespace Go.Gb

def aN.ends {σ ρ:Type}:aN σ ρ → Prop
 | .go _=>False
 | _=>True

theorem aG {σ ρ:Type} {body:σ → Option (aN σ ρ)} (Inv:Nat → σ → Prop) (N:Nat) (jU:aN σ ρ → Prop)
  (step : ∀ i s, i < N → Inv i s → (∃ s', body s = some (.go s') ∧ Inv (i + 1) s') ∨ (∃ f, body s = some f ∧ f.ends ∧ jU f))
  (done : ∀ s,Inv N s → ∃ f,body s = some f∧f.ends∧jU f) (s0:σ) (h0:Inv 0 s0) (fuel:Nat) (hf:N < fuel) : ∃ f,ah body fuel s0 = some f∧f.ends∧jU f:=by
 have key : ∀ m i s,i + m = N → Inv i s → ∀ fuel,m < fuel → ∃ f,ah body fuel s = some f∧f.ends∧jU f:=by
  intro m
  induction m with
  | zero =>
   intro i s hi hs fuel hf
   obtain ⟨f,hb,he,hp⟩:=done s (by rwa [show N = i by omega])
   obtain ⟨fuel,rfl⟩ : ∃ m,fuel = m + 1:=⟨fuel - 1,by omega⟩
   refine ⟨f,?_,he,hp⟩
   simp only [ah,hb]
   cases f <;> simp_all [aN.ends]
  | succ m ih =>
   intro i s hi hs fuel hf
   obtain ⟨fuel,rfl⟩ : ∃ m,fuel = m + 1:=⟨fuel - 1,by omega⟩
   rcases step i s (by omega) hs with ⟨s', hb, hs'⟩ | ⟨f, hb, he, hp⟩
   ·obtain ⟨f, h, he, hp⟩ := ih (i + 1) s' (by omega) hs' fuel (by omega)
    refine ⟨f,?_,he,hp⟩
    simp only [ah,hb,h]
   ·refine ⟨f, ?_, he, hp⟩
    simp only [ah,hb]
    cases f <;> simp_all [aN.ends]
 exact key N 0 s0 (by omega) h0 fuel hf

theorem wI {σ ρ:Type} {body:σ → Option (aN σ ρ)} (Inv:σ → Prop) (μ:σ → Nat) (jU:aN σ ρ → Prop)
  (step : ∀ s, Inv s → (∃ s', body s = some (.go s') ∧ Inv s' ∧ μ s' < μ s) ∨ (∃ f, body s = some f ∧ f.ends ∧ jU f))
  (s0:σ) (h0:Inv s0) (fuel:Nat) (hf:μ s0 < fuel) : ∃ f,ah body fuel s0 = some f∧f.ends∧jU f:=by
 induction fuel generalizing s0 with
 | zero=>omega
 | succ fuel ih =>
  rcases step s0 h0 with ⟨s', hb, hs', hm⟩ | ⟨f, hb, he, hp⟩
  ·obtain ⟨f, h, he, hp⟩ := ih s' hs' (by omega)
   refine ⟨f,?_,he,hp⟩
   simp only [ah,hb,h]
  ·refine ⟨f, ?_, he, hp⟩
   simp only [ah,hb]
   cases f <;> simp_all [aN.ends]

theorem ae {α:Type} {l:List α} {i:Nat} (h:i < l.length):au l (i:Int) = some l[i]:=by
 unfold au
 rw [if_pos (by omega),Int.toNat_natCast,List.getElem?_eq_getElem h]
theorem sH {α:Type} {l:List α} {i:Int} (h0:0 ≤ i) (h:i < l.length):au l i = some (l[i.toNat]'(by omega)):=by
 unfold au
 rw [if_pos h0,List.getElem?_eq_getElem]
theorem aZ {n m:Int} (h:inI (n + m)):aD n m = some (n + m):=if_pos h
theorem ba {n m:Int} (h:inI (n - m)):bZ n m = some (n - m):=if_pos h
theorem gJ {n m:Int} (h:inI (n * m)):qs n m = some (n * m):=if_pos h
theorem ag {i:Nat} (h:i < 4611686018427387904):aD (i:Int) 1 = some ((i + 1:Nat):Int):=by
 rw [aZ (by unfold inI; omega)]; simp
theorem aF {α:Type} {xs ys:List α} (h:xs.length + ys.length ≤ 1073741824):cg xs ys = some (xs ++ ys):=if_pos h
theorem eW {α:Type} {xs:List α} {lo hi:Int} (h0:0 ≤ lo) (h1:lo ≤ hi) (h2:hi ≤ xs.length):gQ xs lo hi = some ((xs.take hi.toNat).drop lo.toNat):=if_pos ⟨h0,h1,h2⟩
end Go.Gb

namespace Go.Gb
open Go.Proofs Go.Sort Go.RowKit Go.Lib
variable {P:Program} {α:Type}

class cf (α:Type) [Enc α] where
 enc:α → List Value
 rep : ∀ {k:K} {cs:List Value} {x:α},Enc.rep k cs x ↔ cs = enc x

instance:cf Int:=⟨fun n=>[.int .i64 n],Iff.rfl⟩
instance:cf Bool:=⟨fun n=>[.bool n],Iff.rfl⟩
instance {α β:Type} [Enc α] [Enc β] [cf α] [cf β]:cf (α × β) where
  enc p:=cf.enc p.1 ++ cf.enc p.2
  rep {k cs p}:=by
    have l1:(cf.enc p.1).length = Enc.sz α:=Enc.len (k:=k) (cf.rep.2 rfl)
    have l2:(cf.enc p.2).length = Enc.sz β:=Enc.len (k:=k) (cf.rep.2 rfl)
    constructor
    · rintro ⟨_, h1, h2⟩
      rw [← cf.rep.1 h1,← cf.rep.1 h2,List.take_append_drop]
    · rintro rfl
      exact ⟨by rw [List.length_append,l1,l2],cf.rep.2 (List.take_left' l1),cf.rep.2 (List.drop_left' l1)⟩
@[reducible] def cf.ofMap {σ β:Type} [Enc β] [cf β] (f:σ → β) : @cf σ (Enc.ofMap f):=
 letI:Enc σ:=Enc.ofMap f
 ⟨fun x=>cf.enc (f x),fun {_ _ x}=>cf.rep (x:=f x)⟩
theorem Ar [Enc α] [cf α] (k:K) (x:α):(cf.enc x).length = Enc.sz α:=Enc.len (k:=k) (cf.rep.2 rfl)
theorem Eb [Enc α] [cf α] (k:K) (x:α) : ∀ v ∈ cf.enc x,v.oneCell' = true:=Enc.one (k:=k) (cf.rep.2 rfl)

theorem qd [Enc α] [cf α] {k:K} : ∀ {xs:List α} {cs:List Value},ch k cs xs ↔ cs = (xs.map cf.enc).flatten
 | [],cs=>by simp [ch]
 | x :: xs, cs => by
  have hl:=Ar k x
  simp only [ch,List.map_cons,List.flatten_cons]
  rw [qd (xs:=xs)]
  rw [cf.rep]
  constructor
  ·rintro ⟨h1, h2⟩
   rw [← h1,← h2,List.take_append_drop]
  ·intro h
   subst h
   exact ⟨List.take_left' hl,List.drop_left' hl⟩

theorem tD [Inhabited α] {enc:α → List Value} {n:Nat} (hn : ∀ x,(enc x).length = n) : ∀ (xs:List α) (t:Nat),t < xs.length * n → (xs.map enc).flatten[t]? = (enc (xs[t / n]?.getD default))[t % n]?
 | [],t,h=>by simp at h
 | x :: xs, t, h => by
  have hn0:0 < n:=Nat.pos_of_ne_zero fun e=>by subst e; simp at h
  simp only [List.map_cons,List.flatten_cons,List.getElem?_append,hn]
  by_cases ht:t < n
  ·rw [if_pos ht,Nat.div_eq_of_lt ht,Nat.mod_eq_of_lt ht]; rfl
  ·rw [if_neg ht, tD hn xs (t - n) (by simp only [List.length_cons, Nat.add_mul, Nat.one_mul] at h; omega)]
   have e1:t / n = (t - n) / n + 1:=by rw [← Nat.add_div_right _ hn0,Nat.sub_add_cancel (Nat.le_of_not_lt ht)]
   have e2:t % n = (t - n) % n:=by rw [← Nat.add_mod_right (t - n) n,Nat.sub_add_cancel (Nat.le_of_not_lt ht)]
   rw [e1,e2,List.getElem?_cons_succ]

theorem rp [Inhabited α] {enc:α → List Value} {n:Nat} (hn : ∀ x,(enc x).length = n) (d:Array α):(flatK enc n d).toList = (d.toList.map enc).flatten:=by
 refine List.ext_getElem? fun t=>?_
 by_cases ht:t < d.size * n
 ·rw [tD hn _ _ (by simpa using ht)]
  have hn0:0 < n:=Nat.pos_of_ne_zero fun e=>by subst e; simp at ht
  have hq:t / n < d.size:=(Nat.div_lt_iff_lt_mul hn0).2 ht
  have hm:=Nat.mod_lt t hn0
  have h1:=get_flatK enc n d t ht
  rw [getElem!_pos (flatK enc n d) t (by simpa using ht),getElem!_pos d (t / n) hq] at h1
  rw [List.getElem?_eq_getElem (by simpa using ht),Array.getElem_toList,h1,show d.toList[t / n]? = some d[t / n] from by rw [Array.getElem?_toList,Array.getElem?_eq_getElem hq],Option.getD_some,List.getElem?_eq_getElem (by rw [hn]; exact hm),getElem!_pos (enc d[t / n]) (t % n) (by rw [hn]; exact hm)]
 ·rw [List.getElem?_eq_none (by simpa using Nat.le_of_not_lt ht), List.getElem?_eq_none]
  rw [show ((d.toList.map enc).flatten).length = d.size * n from ?_]
  ·exact Nat.le_of_not_lt ht
  ·have : ∀ xs : List α, ((xs.map enc).flatten).length = xs.length * n := by
    intro xs
    induction xs with
    | nil=>simp
    | cons x xs ih=>simp only [List.map_cons,List.flatten_cons,List.length_append,hn,ih,List.length_cons,Nat.add_mul,Nat.one_mul]; omega
   rw [this]; simp

theorem tO (off:Nat) (d c:Array Value) (h:off + d.size ≤ c.size):((putCells id off d c).toList.drop off).take d.size = d.toList:=by
 refine List.ext_getElem? fun t=>?_
 rw [List.getElem?_take]
 split
 ·rename_i ht
  rw [List.getElem?_drop,Array.getElem?_toList,putCells,Array.getElem?_mapIdx,Array.getElem?_eq_getElem (by omega),Option.map_some,if_pos (by omega),Nat.add_sub_cancel_left,getElem!_pos d t ht,Array.getElem?_toList,Array.getElem?_eq_getElem ht]
  rfl
 ·rename_i ht
  rw [List.getElem?_eq_none (by simpa using Nat.le_of_not_lt ht)]

theorem FA [Inhabited α] [Enc α] [cf α] {f:FuncId} {FV:Value} {S:Array α → Array α} (hS : ∀ d,(S d).size = d.size) {e:TypeId} {xs:List α} {v0:Value} {k0:K}
  (hnone : ∀ p cap w,Calls P f #[.slice p 0 cap,FV] w fun e w'=>e = .returned (.tuple #[])∧w' = w)
  (hc : ∀ blk off cap (w:World),HoldsK cf.enc (Enc.sz α) w blk off xs.toArray → blk < w.heap.size →
   Calls P f #[.slice (some ⟨blk,off,none⟩) xs.toArray.size cap,FV] w fun e w'=>e = .returned (.tuple #[])∧∃ n os,w' = sortWorldK cf.enc (Enc.sz α) w blk off n (S xs.toArray) os)
  (i0:ay 0 e xs v0 k0):Calls P f #[v0,FV] k0.w (dw (obF v0) k0 fun _ k'=>ay 0 e (S xs.toArray).toList v0 k'):=by
 have hS0:xs = [] → (S xs.toArray).toList = []:=fun h=>by
  have:=hS xs.toArray
  rw [h] at this ⊢
  simpa using this
 have hz : ∀ p cap,v0 = .slice p 0 cap → xs = [] → Calls P f #[v0,FV] k0.w (dw (obF v0) k0 fun _ k'=>ay 0 e (S xs.toArray).toList v0 k'):=by
  intro p cap hv hx
  subst hv
  refine (hnone p cap k0.w).mono ?_
  rintro e' w' ⟨rfl,rfl⟩
  refine ⟨k0,rfl,Chg.refl _ k0,?_⟩
  rw [hS0 hx]
  rw [hx] at i0
  exact i0
 rcases i0 with ⟨hv,hx⟩ | ⟨a,hv,hx⟩ | ⟨b,off,cap,cur,cs,rfl,hB,ho,hh,hc1,hc0,hcm,hfit,hcs,hrep⟩
 ·exact hz _ _ hv hx
 ·exact hz _ _ hv hx
 ·have hlt : b < k0.w.heap.size := (Array.getElem?_eq_some_iff.1 hh).1
  have hn:=Ar (α:=α) k0
  have hroom:off + xs.length * Enc.sz α ≤ cur.size:=Nat.le_trans (Nat.add_le_add_left (Nat.mul_le_mul_right _ hc1) _) hfit
  have hcl:cs = (flatK cf.enc (Enc.sz α) xs.toArray).toList:=by rw [rp hn]; exact qd.1 hrep
  have hH:HoldsK cf.enc (Enc.sz α) k0.w b off xs.toArray:=by
   intro j hj
   rw [size_flatK] at hj
   simp only [List.size_toArray] at hj
   refine ⟨?_,by simp [World.frozen?,hh]⟩
   have h1:cs[j]? = cur[off + j]?:=by rw [← hcs,List.getElem?_take,if_pos hj,List.getElem?_drop,Array.getElem?_toList]
   rw [hcl,Array.getElem?_toList] at h1
   simp only [World.cell?,hh,← h1]
   rw [getElem!_pos _ j (by simpa using hj),Array.getElem?_eq_getElem (by simpa using hj)]
   rfl
  have hcall:=hc b off cap k0.w hH hlt
  rw [show xs.toArray.size = xs.length from List.size_toArray] at hcall
  refine hcall.mono ?_
  rintro e' w' ⟨rfl,n,os,hw⟩
  have hsz:k0.w.heap.size ≤ w'.heap.size:=by rw [hw]; unfold sortWorldK putRowK; simp
  have hblk : ∀ x,x < k0.w.heap.size → x ≠ b → w'.heap[x]? = k0.w.heap[x]?:=by
   intro x hx hxb
   rw [hw]
   unfold sortWorldK putRowK putRow mapBlock
   rw [heap_grow_old _ _ (by simpa using hx)]
   simp [Array.getElem?_modify,hxb.symm]
  have hrow:w'.heap[b]? = some (.cells (putCells id off (flatK cf.enc (Enc.sz α) (S xs.toArray)) cur) e (0,0)):=by
   rw [hw]
   unfold sortWorldK putRowK putRow mapBlock
   rw [heap_grow_old _ _ (by simpa using hlt)]
   simp [Array.getElem?_modify,hh,onCells]
  have hSl:(S xs.toArray).toList.length = xs.length:=by simp [hS]
  let k' : K := ⟨w', k0.sh, fun x hx => Nat.lt_of_lt_of_le (k0.lt x hx) hsz⟩
  refine ⟨k', rfl, ⟨by rw [show k'.w = w' from rfl, hw]; rfl, by rw [show k'.w = w' from rfl, hw]; rfl, by rw [show k'.w = w' from rfl, hw]; rfl, hsz, fun x hx hF => hblk x hx fun e' => hF (by simp [obF, ob, e', Nat.ne_of_gt hc0]), fun _ h => h, fun _ _ h => .inl h, by rw [show k'.w = w' from rfl, hw]; exact Nat.le_add_right _ _⟩,
   .inr (.inr ⟨b,off,cap,_,_,by rw [hSl],hB,ho,hrow,by rw [hSl]; exact hc1,hc0,hcm,by simpa [putCells] using hfit,rfl,?_⟩)⟩
  rw [qd,← rp hn,hSl]
  have hsz2:(flatK cf.enc (Enc.sz α) (S xs.toArray)).size = xs.length * Enc.sz α:=by rw [size_flatK,hS]; simp
  rw [← hsz2]
  exact tO off _ cur (by rw [hsz2]; exact hroom)

theorem js {k:K} {a:Act} {o:Oper} [Enc α] {t:TypeId} {y:Operand} {x:α} (ho:o.op = .box t y) (h:IsV x (a.eval y) k):bg P o a k (aL x):=by
 obtain ⟨cs,hc,hr⟩:=mK h
 have hg:=K.fq k (.cells cs t)
 have hb:Box k.w.heap.size x (k.alloc (.cells cs t)):=tV hr
 refine fF (v:=.pointer (some ⟨k.w.heap.size,0,none⟩)) (k':=(k.alloc (.cells cs t)).share k.w.heap.size hb.lt) ?_
  ⟨hg.tape,hg.os,hg.out,hg.size,hg.blk,fun b hs=>(K.pM _ _ hb.lt).up b (hg.up b hs),fun b hlt hs=>hs.elim (hg.new b hlt) (fun e=>absurd e (by omega)),hg.drawn⟩ hb.share
 simp only [execOp,ho]
 simp [Instr.box,newVar,newRow,newObj,hc,K.alloc,K.share]
 rfl

theorem JN (a:Act) (t:Nat):a.eval (.tmp t) = a.get t:=rfl
def Gf (n m:Int):Int:=IntKind.i64.wrap ((BitVec.ofInt 64 n &&& BitVec.ofInt 64 m).toNat:Int)
theorem Iw {k:K} {a:Act} {o:Oper} {t u:TypeId} {x y:Operand} {n m:Int} (ho:o.op = .binOp .and t x y u) (hx:IsV n (a.eval x) k) (hy:IsV m (a.eval y) k):bg P o a k (IsV (Gf n m)):=by
 have hx:=aB.1 hx; have hy:=aB.1 hy
 refine az (v:=.int .i64 (Gf n m)) ?_ (aB.2 rfl)
 simp only [execOp,ho,hx,hy]
 simp [eqGuard,binOp,Op.intBits,Gf]
 rfl
end Go.Gb


