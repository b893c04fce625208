/- The general part of the proofs (no program in sight): worlds with shared blocks, regions, operations, calls, loops, what comes in as data, part 3 -/
import Derived.Test.YtljfakcblkdhbaaDoorL2
set_option linter.unusedVariables false
set_option linter.unusedSimpArgs false
/- General part of the proofs: regions in which moves stand behind operations that write: they may run first. -/
namespace Go.Gb

/-- Only the way out at the end. -/
def QN (Q:Exit → Act → World → Prop):Exit → Act → World → Prop:=fun e a w=>match e with
  | .normal=>Q .normal a w
  | _=>False

def isMv (A:Array Oper) (l:Nat):Bool:=match A[l]? with
  | some o=>(match o.op with | .move (.tmp _)=>true | .assign (.tmp _)=>true | _=>false) && o.guard.isNone && o.after.isEmpty && o.dst.isSome
  | none=>false
/-- Where a move goes, and where it comes from. -/
def mvOf (A:Array Oper) (l:Nat):Nat × Nat:=match A[l]? with
  | some o=>(o.dst.getD 0,match o.op with | .move (.tmp s)=>s | .assign (.tmp s)=>s | _=>0)
  | none=>(0,0)
def lateAct (A:Array Oper):List Nat → Act → Act
  | [],a=>a
  | l::r,a=>lateAct A r (a.put (some (mvOf A l).1) (a.get (mvOf A l).2))
def listL:Array Bool → List Nat → Array Bool
  | b,[]=>b
  | b,l::r=>listL (b.setIfInBounds l true) r
def chkLate (A:Array Oper):Array Bool → List Nat → Bool
  | _,[]=>true
  | b,l::r=>isMv A l && Region.free .any A b l && (Region.ready .any A b).contains l && chkLate A (b.setIfInBounds l true) r
/-- An operation that looks at no world. -/
def isPure (A:Array Oper) (l:Nat):Bool:=match A[l]? with
  | some o=>(match o.op with | .move (.tmp _)=>true | .assign (.tmp _)=>true | .extract (.tmp _) _=>true | _=>false) && o.guard.isNone
  | none=>false
def chkT (A:Array Oper):Array Bool → List Nat → Bool
  | b,[]=>Region.ready .any A b == []
  | b,i::r=>(Region.ready .any A b == [i] || (isPure A i && Region.free .any A b i && (Region.ready .any A b).contains i)) && chkT A (b.setIfInBounds i true) r
def fullL (A:Array Oper) (m:Nat) (late:List Nat):Array Bool:=(Array.range A.size).map fun j=>decide (j < m) || late.contains j

section
variable {P:Program} {A:Array Oper} {Q:Exit → Act → World → Prop}
theorem isMv_spec {l:Nat} (h:isMv A l = true) : ∃ o,A[l]? = some o∧o.guard = none∧o.after = #[]∧o.dst = some (mvOf A l).1∧∀ a:Act,∀ w,(execOp a.eval o).run P w = .ok (.value (a.get (mvOf A l).2)) w:=by
  unfold isMv at h
  cases hA:A[l]? with
  | none=>rw [hA] at h; simp at h
  | some o =>
    rw [hA] at h
    simp only [Bool.and_eq_true,Option.isNone_iff_eq_none,Array.isEmpty_iff] at h
    obtain ⟨⟨⟨h1,h2⟩,h3⟩,h4⟩:=h
    obtain ⟨d,hd⟩:=Option.isSome_iff_exists.1 h4
    refine ⟨o,rfl,h2,h3,by simp [mvOf,hA,hd],fun a w=>?_⟩
    cases hop:o.op with
    | move x =>
      cases x with
      | tmp s=>simp [execOp,hop,mvOf,hA,Act.eval,Act.get]
      | _=>rw [hop] at h1; simp at h1
    | assign x =>
      cases x with
      | tmp s=>simp [execOp,hop,mvOf,hA,Act.eval,Act.get]
      | _=>rw [hop] at h1; simp at h1
    | _=>rw [hop] at h1; simp at h1

theorem take_late (hs:Region.noSelect A = true) (hQ : ∀ c a w,¬ Q (.panic c) a w) : ∀ (late:List Nat) (listed:Array Bool) (a:Act) (w:World) (fuel:Nat),chkLate A listed late = true →
    wpAny P .any A Q fuel (listL listed late) (lateAct A late a) w → wpAny P .any A Q (fuel + late.length) listed a w
  | [],_,_,_,_,_,h=>h
  | l :: r, listed, a, w, fuel, hc, h => by
    simp only [chkLate,Bool.and_eq_true] at hc
    obtain ⟨⟨⟨h1,h2⟩,h3⟩,h4⟩:=hc
    obtain ⟨o,ho,hg,_,hd,hv⟩:=isMv_spec (P:=P) h1
    have ih:=take_late hs hQ r (listed.setIfInBounds l true) (a.put (some (mvOf A l).1) (a.get (mvOf A l).2)) w fuel h4 h
    rw [← hd] at ih
    exact wpAny_take ho hs h2 h3 (fun c a w hq=>absurd hq (hQ c _ w)) (.inl ⟨by unfold Region.wanted; rw [hg],hv a⟩) ih

theorem isPure_spec {l : Nat} (h : isPure A l = true) : ∃ o, A[l]? = some o ∧ o.guard = none ∧ ∀ a : Act, (∃ v, ∀ w, (execOp a.eval o).run P w = .ok (.value v) w) ∨ (∀ w, ∃ x w', (execOp a.eval o).run P w = .halt x w' ∧ ∀ c, x ≠ .panic c) := by
  unfold isPure at h
  cases hA:A[l]? with
  | none=>rw [hA] at h; simp at h
  | some o =>
    rw [hA] at h
    simp only [Bool.and_eq_true,Option.isNone_iff_eq_none] at h
    obtain ⟨h1,h2⟩:=h
    refine ⟨o,rfl,h2,fun a=>?_⟩
    cases hop:o.op with
    | move x=>exact .inl ⟨a.eval x,fun w=>by simp [execOp,hop]⟩
    | assign x=>exact .inl ⟨a.eval x,fun w=>by simp [execOp,hop]⟩
    | extract x ix =>
      cases hv:a.eval x with
      | tuple vs =>
        cases hx:vs[ix]? with
        | some y=>exact .inl ⟨y,fun w=>by simp [execOp,hop,hv,Instr.extract,hx]⟩
        | none=>exact .inr fun w=>by simp [execOp,hop,hv,Instr.extract,hx]
      | _=>exact .inr fun w=>by simp [execOp,hop,hv,Instr.extract]
    | _=>rw [hop] at h1; simp at h1

theorem tail_ord (hs:Region.noSelect A = true) (hQ : ∀ c a w,¬ Q (.panic c) a w) (hO : ∀ a w,¬ Q .outgrown a w) : ∀ (ord:List Nat) (listed:Array Bool) (a:Act) (w:World),chkT A listed ord = true → wpOps P A Q ord a w → wpAny P .any A Q ord.length listed a w
  | [], listed, a, w, hc, h => by
    simp only [chkT,beq_iff_eq] at hc
    exact ⟨hc,by simpa [wpOps] using h⟩
  | i :: r, listed, a, w, hc, h => by
    simp only [chkT,Bool.and_eq_true,Bool.or_eq_true,beq_iff_eq] at hc
    obtain ⟨hc | hc,hr⟩:=hc
    · refine ⟨fun hn => (by rw [hc] at hn; simp at hn), fun j hj => ?_⟩
      rw [hc,List.mem_singleton] at hj
      subst hj
      rw [wpOps_cons] at h
      exact wpOp_mono (fun a' w' h'=>tail_ord hs hQ hO r _ a' w' hr h') h
    · obtain ⟨⟨h1, h2⟩, h3⟩ := hc
      obtain ⟨o,ho,hg,hp⟩:=isPure_spec (P:=P) h1
      have hw : ∀ a:Act,Region.wanted o (yielded A a.tmps) = true:=fun a=>by unfold Region.wanted; rw [hg]
      rw [wpOps_cons] at h
      unfold wpOp at h
      rw [ho] at h
      simp only [hw,if_true] at h
      have h := h.resolve_right fun hx => by obtain ⟨_, b, w', hb⟩ := hx; exact hO b w' hb
      unfold Oper.wp at h
      rcases hp a with ⟨v,hv⟩ | hx
      · rw [hv w] at h
        exact wpAny_take ho hs h2 h3 (fun c a w hq=>absurd hq (hQ c _ w)) (.inl ⟨hw a,hv⟩) (tail_ord hs hQ hO r _ _ w hr h)
      · obtain ⟨x, w', hr', hnp⟩ := hx w
        rw [hr'] at h
        cases x <;> simp only [Oper.upon] at h
        · exact absurd rfl (hnp _)
theorem lateAct_size : ∀ (late:List Nat) (a:Act),(lateAct A late a).tmps.size = a.tmps.size
  | [],_=>rfl
  | l::r,a=>by rw [lateAct,lateAct_size r,put_size]
theorem lateAct_defers : ∀ (late:List Nat) (a:Act),(lateAct A late a).defers = a.defers
  | [],_=>rfl
  | l::r,a=>by rw [lateAct,lateAct_defers r,put_defers']
theorem lateAct_old {t n:Nat} : ∀ (late:List Nat) (a:Act),a.tmps.size = n → (∀ l ∈ late,(mvOf A l).1 < n) → (∀ l ∈ late,(mvOf A l).1 ≠ t) → (lateAct A late a).get t = a.get t
  | [],_,_,_,_=>rfl
  | l :: r, a, hn, h1, h2 => by
    rw [lateAct,lateAct_old (n:=n) r _ (by rw [put_size]; exact hn) (fun l' hl=>h1 l' (List.mem_cons_of_mem _ hl)) (fun l' hl=>h2 l' (List.mem_cons_of_mem _ hl)),get_put _ _ _ _ (by rw [hn]; exact h1 l List.mem_cons_self),if_neg (h2 l List.mem_cons_self)]
theorem lateAct_new {n:Nat} : ∀ (late:List Nat) (a:Act),a.tmps.size = n → (∀ l ∈ late,(mvOf A l).1 < n) → late.Nodup →
    (∀ l ∈ late,∀ l' ∈ late,(mvOf A l).2 ≠ (mvOf A l').1∧(l = l' ∨ (mvOf A l).1 ≠ (mvOf A l').1)) → ∀ l ∈ late,(lateAct A late a).get (mvOf A l).1 = a.get (mvOf A l).2
  | [],_,_,_,_,_,l,hl=>nomatch hl
  | x :: r, a, hn, h1, hnd, h2, l, hl => by
    obtain ⟨hx,hnd'⟩:=List.nodup_cons.1 hnd
    have hxn:=h1 x List.mem_cons_self
    rw [lateAct]
    rcases List.mem_cons.1 hl with rfl | hlr
    · rw [lateAct_old (n := n) r _ (by rw [put_size]; exact hn) (fun l' hl => h1 l' (List.mem_cons_of_mem _ hl)) (fun l' hl' => ?_), get_put _ _ _ _ (by rw [hn]; exact hxn), if_pos rfl]
      rcases (h2 l List.mem_cons_self l' (List.mem_cons_of_mem _ hl')).2 with e | e
      · subst e; exact absurd hl' hx
      · exact fun e'=>e e'.symm
    · rw [lateAct_new (n:=n) r _ (by rw [put_size]; exact hn) (fun l' hl=>h1 l' (List.mem_cons_of_mem _ hl)) hnd' (fun l1 hl1 l2 hl2=>h2 l1 (List.mem_cons_of_mem _ hl1) l2 (List.mem_cons_of_mem _ hl2)) l hlr,
        get_put _ _ _ _ (by rw [hn]; exact hxn),if_neg fun e=>(h2 l hl x List.mem_cons_self).1 e.symm]
theorem listL_size : ∀ (late:List Nat) (b:Array Bool),(listL b late).size = b.size
  | [],_=>rfl
  | l::r,b=>by rw [listL,listL_size r]; simp
theorem listL_get : ∀ (late:List Nat) (b:Array Bool) (j:Nat),(∀ l ∈ late,l < b.size) → ((listL b late).getD j false = true ↔ b.getD j false = true ∨ j ∈ late)
  | [],b,j,_=>by simp [listL]
  | l :: r, b, j, h => by
    rw [listL,listL_get r _ j (fun x hx=>by simpa using h x (List.mem_cons_of_mem _ hx))]
    have hl:=h l List.mem_cons_self
    by_cases e:j = l
    · subst e; simp [Array.getD_eq_getD_getElem?,hl]
    · rw [getD_set_ne _ (fun e'=>e e'.symm)]; simp [e]
end

section
variable {P:Program} {a0:Act} {k0:K} {es:List Ent}
theorem known_base {a0' a:Act} {k:K} : ∀ (need:List (Nat × Option Nat)),(∀ t,(t,none) ∈ need → a0'.get t = a0.get t) → Known es a0' a k need → Known es a0 a k need
  | [],_,_=>trivial
  | (t,some j)::xs,h,hk=>⟨hk.1,known_base xs (fun t ht=>h t (List.mem_cons_of_mem _ ht)) hk.2⟩
  | (t,none)::xs,h,hk=>⟨hk.1.trans (h t List.mem_cons_self),known_base xs (fun t ht=>h t (List.mem_cons_of_mem _ ht)) hk.2⟩
theorem ob_base {a0' : Act} {o:Oper} {e:Ent} (h : ∀ t,(t,none) ∈ e.need → a0'.get t = a0.get t) (ho:Ob P es a0 k0 o e):Ob P es a0' k0 o e:=by
  unfold Ob at *
  cases hR:e.R with
  | none=>rw [hR] at ho; exact ho
  | some R =>
    rw [hR] at ho
    refine ⟨ho.1,ho.2.imp (fun g=>⟨fun a k hg hk=>g.1 a k hg (known_base _ h hk),g.2⟩) ?_⟩
    rintro ⟨j,w,Rj,nd,h1,h2,h3,h4⟩
    exact ⟨j,w,Rj,nd,h1,h2,fun a k v hg hk=>h3 a k v hg (known_base _ h hk),h4⟩
theorem steps_base {a0' : Act} : ∀ {os:List Oper} {es' : List Ent},(∀ i o e,nth os i = some o → nth es' i = some e → ∀ t,(t,none) ∈ e.need → a0'.get t = a0.get t) → Steps P es a0 k0 os es' → Steps P es a0' k0 os es'
  | [],_,_,_=>trivial
  | _::_,[],_,_=>trivial
  | o :: os, e :: es', h, hs => ⟨ob_base (h 0 o e rfl rfl) hs.1, steps_base (fun i o e ho he => h (i + 1) o e ho he) hs.2⟩

end
end Go.Gb

/- General part of the proofs: runs, lists of intervals with what holds on each: the canonical form of a function of one number that is constant between finitely many breaks. -/
namespace Go.Gb
section
variable {V:Type} {e:V}

/-- Intervals (from, to) and what holds there. -/
abbrev Runs (V:Type):=List (Int × Int × V)

/-- One more interval at the end: merged with the last one if both are one. -/
def pushR [DecidableEq V] (e:V) (l:Runs V) (a b:Int) (v:V):Runs V:=
  if v = e then l else match l.getLast? with
    | some (c,d,w)=>if d = a∧w = v then l.dropLast ++ [(c,b,v)] else l ++ [(a,b,v)]
    | none=>[(a,b,v)]
end
end Go.Gb

/- General part of the proofs: reasoning on the mirrored functions, continued: loops over a list as folds, the last element of a list, halving. -/
namespace Go.Gb

end Go.Gb

/- General part of the proofs: own slices in the library's functions: sorted and made compact in place, made with room. -/
namespace Go.Gb
open Go.Proofs Go.Sort Go.RowKit Go.Lib
variable {P:Program}

/-- What growing makes of a world. -/
theorem grow_world {k k' : K} (h : Grow k k') : ∃ q os', k'.w = grow (k.w.drewN q) os' := by
  refine ⟨k'.w.drawn - k.w.drawn,k'.w.heap.extract k.w.heap.size k'.w.heap.size,?_⟩
  have e1:k'.w.heap = k.w.heap ++ k'.w.heap.extract k.w.heap.size k'.w.heap.size:=by
    have hs:=h.size
    refine Array.ext_getElem? fun i=>?_
    rw [Array.getElem?_append]
    split
    · rename_i hi
      exact h.blk i hi
    · rename_i hi
      rw [Array.getElem?_extract]
      split
      · congr 1; omega
      · rw [Array.getElem?_eq_none]; omega
  have e2:k'.w.drawn = k.w.drawn + (k'.w.drawn - k.w.drawn):=by have:=h.drawn; omega
  have h1:=h.tape; have h2:=h.os; have h3:=h.out
  unfold grow World.drewN
  revert e1 e2 h1 h2 h3
  generalize k'.w = w'
  generalize k.w = w
  obtain ⟨a,b,c,d,e⟩:=w
  obtain ⟨a', b', c', d', e'⟩ := w'
  dsimp only
  rintro h1 h2 h3 h4 h5
  rw [World.mk.injEq]
  exact ⟨h1,h3,h2,h4,h5⟩
theorem ret_cmp {f : FuncId} {args : Array Value} {k : K} {r : Int} (h : Calls P f args k.w (Ret k (IsV r))) : Calls P f args k.w fun e w' => e = .returned (.int .i64 r) ∧ ∃ q os', w' = grow (k.w.drewN q) os' := h.mono fun e w' he => by
  cases e with
  | returned v =>
    obtain ⟨k', rfl, hg, hv⟩ := he
    exact ⟨by rw [isV_int.1 hv],grow_world hg⟩
  | panicked c=>exact he.elim
  | outgrown=>exact he.elim
/-- A world with nothing shared. -/
def kFree (w:World):K:=⟨w,fun _=>False,fun _ h=>h.elim⟩
theorem isV_flat {α:Type} [Enc α] [FlatE α] (h:Enc.agg α = true) (x:α) (k:K):IsV x (.agg (FlatE.enc x).toArray) k:=⟨FlatE.enc x,by rw [h]; rfl,FlatE.rep.2 rfl⟩

/-! What sorting and making compact do, plainly. -/
end Go.Gb

/- General part of the proofs: building runs from cuts; loops that may end early; sums. -/
namespace Go.Gb
section
variable {V:Type} [DecidableEq V] {e:V}

/-- The runs of a function that is constant between neighbouring cuts. -/
def build (e:V) (zs:List Int) (A:Int → V):Nat → Runs V
  | 0=>[]
  | i + 1=>pushR e (build e zs A i) (zs.getD i 0) (zs.getD (i + 1) 0) (A (zs.getD i 0))
end

/-! Sums -/
end Go.Gb

/- General part of the proofs: short forms of the steps. -/
namespace Go.Gb
abbrev IsI (x:Int):Pred:=IsV x
abbrev IsL {α:Type} (x:List α):Pred:=IsV (x.length:Int)
/-- what holds of the slots -/
def Al:List (Nat × Pred) → Act → K → Prop
  | [],_,_=>True
  | (t,R)::l,a,k=>R (a.get t) k∧Al l a k
section
variable {P:Program} {a a0 a' : Act} {k k0 k' kk:K} {R:Pred} {o:Oper} {es:List Ent} {F:FP} {n:Nat} {Q:Exit → Act → World → Prop} {A:Array Oper} {m:Nat} {ops:List Oper}
theorem gS {id:Nat} (m:Nat) (es:List Ent) (hn:a0.tmps.size = n) (hchk:chkS n m A.toList es = true)
    (hst:Steps P es a0 k0 (A.toList.take m) es) (hQ:LetsOut Q)
    (hpost : ∀ a k,Post A.toList es m a0 k0 a k → wpOps P A Q (List.range' m (A.size - m)) a k.w):(Code.region id A false).wp P Q a0 k0.w:=
  regionS es hn hchk hst hQ hpost
/-- A region, and what is then used of it. -/
theorem stepL {id:Nat} {y:Code} (m:Nat) (es:List Ent) (hm:A.size = m) (H:Bs F kk n a k) (hchk:chkS n m A.toList es = true)
    (hst:Steps P es a k (A.toList.take m) es) (l:List (Nat × Pred)) (hl : ∀ b q,Post A.toList es m a k b q → Al l b q)
    (h2 : ∀ a' k', Bs F kk n a' k' ∧ Al l a' k' → y.wp P Q a' k'.w) : (Code.seq (Code.region id A false) y).wp P Q a k.w := by
  refine wp_seq ?_
  refine regionS es H.s hchk hst trivial fun b q p=>?_
  rw [hm,Nat.sub_self]
  exact tail_done (k:=q) (h2 _ _ ⟨Bs.post H p,hl _ _ p⟩)
theorem Post.ke {b:Act} {q:K} [Mono R] (p:Post ops es m a k b q) (t:Nat) (ht:allI (fun i o=>i ≥ m || o.dst != some t) 0 ops = true) (h:R (a.get t) k):R (b.get t) q:=keep p t ht h
theorem Post.ou {b:Act} {q:K} {nd:List (Nat × Option Nat)} (p:Post ops es m a k b q) (i d:Nat) (h:(Nat.blt i m,(nth ops i).bind (·.dst),nth es i) = (true,some d,some ⟨some R,nd⟩)):R (b.get d) q:=
  out p i d nd (Prod.mk.inj h).1 (Prod.mk.inj (Prod.mk.inj h).2).1 (Prod.mk.inj (Prod.mk.inj h).2).2
theorem o1 (nd:List (Nat × Option Nat)) [Mono R] (hg:o.guard = none) (h : ∀ a k,Grow k0 k → Known es a0 a k nd → Does P o a k R):Ob P es a0 k0 o ⟨some R,nd⟩:=ob1 hg h
theorem mu {t:Nat} [Mono R] (h:(o.guard,o.op) = (none,.move (.tmp t))) (i:R (a0.get t) k0):Ob P es a0 k0 o ⟨some R,[(t,none)]⟩:=
  ob1 (Prod.mk.inj h).1 fun _ _ g n=>ok_move (Prod.mk.inj h).2 (up i g n.1)
theorem cp {t:Nat} (j:Nat) {nd:List (Nat × Option Nat)} [Mono R] (h:(o.guard,o.op) = (none,.assign (.tmp t))) (hj:nth es j = some ⟨some R,nd⟩):Ob P es a0 k0 o ⟨some R,[(t,some j)]⟩:=
  ob1 (Prod.mk.inj h).1 fun a k _ n=>ok_assign (Prod.mk.inj h).2 (show R (a.get t) k by have h1:=n.1; rw [hj] at h1; exact h1)
theorem cm {t:Nat} (j:Nat) {nd:List (Nat × Option Nat)} [Mono R] (h:(o.guard,o.op) = (none,.move (.tmp t))) (hj:nth es j = some ⟨some R,nd⟩):Ob P es a0 k0 o ⟨some R,[(t,some j)]⟩:=
  ob1 (Prod.mk.inj h).1 fun a k _ n=>ok_move (Prod.mk.inj h).2 (show R (a.get t) k by have h1:=n.1; rw [hj] at h1; exact h1)
theorem aI {x:Int} {y:Operand} (h:(o.guard,o.op) = (none,.assign y)) (hy:y = .const (.int .i64 x)):Ob P es a0 k0 o ⟨some (IsI x),[]⟩:=by
  subst hy; exact ob1 (Prod.mk.inj h).1 fun _ _ _ _=>ok_assign (Prod.mk.inj h).2 (isV_int.2 rfl)
theorem cI {x:Int} {v:Value} (h:v = .int .i64 x):IsV x v k:=isV_int.2 h
theorem cB {p:Prop} {x:Bool} {v:Value} (h:v = .bool x) (_:p):IsV x v k:=isV_bool.2 h
end
section
variable {P:Program} {o:Oper} {a0:Act} {k0:K} {R:Pred} {es:List Ent} {nj:List (Nat × Option Nat)} {j:Nat} {m:Bool}
theorem gT (nd:List (Nat × Option Nat)) [Mono R] (hg:o.guard = some (j,true)) (hj:nth es j = some ⟨some (IsV m),nj⟩) (h:m = true → ∀ a k,Grow k0 k → Known es a0 a k nd → Does P o a k R):Ob P es a0 k0 o ⟨some (Gd (m = true) R),nd⟩:=gdT hg hj h
theorem gF (nd:List (Nat × Option Nat)) [Mono R] (hg:o.guard = some (j,false)) (hj:nth es j = some ⟨some (IsV m),nj⟩) (h:m = false → ∀ a k,Grow k0 k → Known es a0 a k nd → Does P o a k R):Ob P es a0 k0 o ⟨some (Gd (m = false) R),nd⟩:=gdF hg hj h
theorem mT {t:Nat} [Mono R] (h:(o.guard,o.op) = (some (j,true),.move (.tmp t))) (hj:nth es j = some ⟨some (IsV m),nj⟩) (i:R (a0.get t) k0):Ob P es a0 k0 o ⟨some (Gd (m = true) R),[(t,none)]⟩:=
  gdT (Prod.mk.inj h).1 hj fun _ _ _ g n=>ok_move (Prod.mk.inj h).2 (up i g n.1)
theorem mF {t:Nat} [Mono R] (h:(o.guard,o.op) = (some (j,false),.move (.tmp t))) (hj:nth es j = some ⟨some (IsV m),nj⟩) (i:R (a0.get t) k0):Ob P es a0 k0 o ⟨some (Gd (m = false) R),[(t,none)]⟩:=
  gdF (Prod.mk.inj h).1 hj fun _ _ _ g n=>ok_move (Prod.mk.inj h).2 (up i g n.1)
end
end Go.Gb

/- General part of the proofs: pointers to boxes that are handed to calls, and methods that hold one. -/
namespace Go.Gb
section
variable {P:Program} {o:Oper} {a a' : Act} {k k' k0:K} {R:Pred} {α:Type} [Enc α] {F:FP}
theorem ok_nilCheckV {x:Operand} (ho:o.op = .nilCheck x) (hv : ∃ ad,a.eval x = .pointer (some ad)) (h:R (a.eval x) k):Does P o a k R:=by
  obtain ⟨ad,e⟩:=hv
  exact does_pure (v:=a.eval x) (by simp [execOp,ho,e]) h
theorem ok_nilCheckR {x:Operand} {y:α} (ho:o.op = .nilCheck x) (h:IsRef y (a.eval x) k):Does P o a k (IsRef y):=ok_nilCheckV ho (let ⟨ad,e,_⟩:=h; ⟨ad,e⟩) h
end
end Go.Gb

/- General part of the proofs: shorter forms of single operations. -/
namespace Go.Gb
section
variable {P:Program} {o:Oper} {a0:Act} {k0:K} {R S:Pred} {es:List Ent} {α:Type} [Enc α] {nd nd2:List (Nat × Option Nat)}
theorem known_at {es:List Ent} {a:Act} {k:K} {t j:Nat} {l:List (Nat × Option Nat)} (hj:nth es j = some ⟨some R,nd⟩) (h:Known es a0 a k ((t,some j)::l)):R (a.get t) k:=by
  have h1:=h.1; rw [hj] at h1; exact h1
theorem e0 {t j:Nat} [Mono R] (h:(o.guard,o.op) = (none,.extract (.tmp t) 0)) (hj:nth es j = some ⟨some (IsTup2 R S),nd⟩):Ob P es a0 k0 o ⟨some R,[(t,some j)]⟩:=
  ob1 (Prod.mk.inj h).1 fun _ _ _ n=>ok_ext2_0 (Prod.mk.inj h).2 (known_at hj n)
theorem e1 {t j:Nat} [Mono S] (h:(o.guard,o.op) = (none,.extract (.tmp t) 1)) (hj:nth es j = some ⟨some (IsTup2 R S),nd⟩):Ob P es a0 k0 o ⟨some S,[(t,some j)]⟩:=
  ob1 (Prod.mk.inj h).1 fun _ _ _ n=>ok_ext2_1 (Prod.mk.inj h).2 (known_at hj n)
theorem ld {t j:Nat} {ty:TypeId} {y:α} (h:(o.guard,o.op) = (none,.load ty (.tmp t))) (ht:Ty P ty α) (hj:nth es j = some ⟨some (IsPtr y),nd⟩):Ob P es a0 k0 o ⟨some (IsV y),[(t,some j)]⟩:=
  ob1 (Prod.mk.inj h).1 fun _ _ _ n=>ok_load (Prod.mk.inj h).2 ht (known_at hj n)
end
end Go.Gb

/- General part of the proofs: shifts and bits. -/
namespace Go.Gb
def shlI (n m:Int):Option Int:=if 0 ≤ m then some (IntKind.i64.wrap (n * 2 ^ min m.toNat 64)) else none
def shrI (n m:Int):Option Int:=if 0 ≤ m then some (n.fdiv (2 ^ min m.toNat 64)) else none
def andnI (n m:Int):Int:=IntKind.i64.wrap ((BitVec.ofInt 64 n &&& ~~~BitVec.ofInt 64 m).toNat:Int)
def orI (n m:Int):Int:=IntKind.i64.wrap ((BitVec.ofInt 64 n ||| BitVec.ofInt 64 m).toNat:Int)
def IK.shl {κ:IntKind} (x:IK κ) (n:Int):IK κ:=⟨κ.wrap (x.n * 2 ^ n.toNat)⟩
def IK.and {κ:IntKind} (x y:IK κ):IK κ:=⟨κ.wrap ((BitVec.ofInt κ.bits x.n &&& BitVec.ofInt κ.bits y.n).toNat:Int)⟩
section
variable {P:Program} {o:Oper} {a:Act} {k:K} {t u:TypeId} {x y:Operand} {n m r:Int} {κ:IntKind} {p q:IK κ}
theorem ok_shl (ho : o.op = .binOp .shl t x y u) (hx : IsV n (a.eval x) k) (hy : ∃ κ', a.eval y = .int κ' m) (h : shlI n m = some r) : Does P o a k (IsV r) := by
  obtain ⟨h0,rfl⟩:=of_ite h
  have hx := isV_int.1 hx; obtain ⟨κ', hy⟩ := hy
  refine does_pure (v:=.int .i64 (IntKind.i64.wrap (n * 2 ^ min m.toNat 64))) ?_ (isV_int.2 rfl)
  simp only [execOp,ho,hx,hy]
  have h2 : ¬ m < 0:=by omega
  simp [eqGuard,binOp,Op.shift,h2]
  rfl
theorem ok_shr (ho : o.op = .binOp .shr t x y u) (hx : IsV n (a.eval x) k) (hy : ∃ κ', a.eval y = .int κ' m) (h : shrI n m = some r) : Does P o a k (IsV r) := by
  obtain ⟨h0,rfl⟩:=of_ite h
  have hx := isV_int.1 hx; obtain ⟨κ', hy⟩ := hy
  refine does_pure (v:=.int .i64 (n.fdiv (2 ^ min m.toNat 64))) ?_ (isV_int.2 rfl)
  simp only [execOp,ho,hx,hy]
  have h2 : ¬ m < 0:=by omega
  simp [eqGuard,binOp,Op.shift,h2]
  rfl
theorem ok_andn (ho:o.op = .binOp .andNot t x y u) (hx:IsV n (a.eval x) k) (hy:IsV m (a.eval y) k):Does P o a k (IsV (andnI n m)):=by
  have hx:=isV_int.1 hx; have hy:=isV_int.1 hy
  refine does_pure (v:=.int .i64 (andnI n m)) ?_ (isV_int.2 rfl)
  simp only [execOp,ho,hx,hy]
  simp [eqGuard,binOp,Op.intBits,andnI]
  rfl
theorem ok_or (ho:o.op = .binOp .or t x y u) (hx:IsV n (a.eval x) k) (hy:IsV m (a.eval y) k):Does P o a k (IsV (orI n m)):=by
  have hx:=isV_int.1 hx; have hy:=isV_int.1 hy
  refine does_pure (v:=.int .i64 (orI n m)) ?_ (isV_int.2 rfl)
  simp only [execOp,ho,hx,hy]
  simp [eqGuard,binOp,Op.intBits,orI]
  rfl
theorem ok_shrKI (ho : o.op = .binOp .shr t x y u) (hx : IsV p (a.eval x) k) (hy : ∃ κ', a.eval y = .int κ' m) (h0 : 0 ≤ m) (h1 : m.toNat ≤ κ.bits) : Does P o a k (IsV (p.shr m)) := by
  have hx := isV_ik.1 hx; obtain ⟨κ', hy⟩ := hy
  refine does_pure (v:=.int κ (p.n.fdiv (2 ^ m.toNat))) ?_ (isV_ik.2 rfl)
  simp only [execOp,ho,hx,hy]
  have h2 : ¬ m < 0:=by omega
  simp [eqGuard,binOp,Op.shift,h2,Nat.min_eq_left h1]
theorem ok_shlKI (ho : o.op = .binOp .shl t x y u) (hx : IsV p (a.eval x) k) (hy : ∃ κ', a.eval y = .int κ' m) (h0 : 0 ≤ m) (h1 : m.toNat ≤ κ.bits) : Does P o a k (IsV (p.shl m)) := by
  have hx := isV_ik.1 hx; obtain ⟨κ', hy⟩ := hy
  refine does_pure (v:=.int κ (κ.wrap (p.n * 2 ^ m.toNat))) ?_ (isV_ik.2 rfl)
  simp only [execOp,ho,hx,hy]
  have h2 : ¬ m < 0:=by omega
  simp [eqGuard,binOp,Op.shift,h2,Nat.min_eq_left h1]
theorem ok_andK (ho:o.op = .binOp .and t x y u) (hx:IsV p (a.eval x) k) (hy:IsV q (a.eval y) k):Does P o a k (IsV (p.and q)):=by
  have hx:=isV_ik.1 hx; have hy:=isV_ik.1 hy
  refine does_pure (v:=.int κ (p.and q).n) ?_ (isV_ik.2 rfl)
  simp only [execOp,ho,hx,hy]
  simp [eqGuard,binOp,Op.intBits,IK.and]
end
end Go.Gb

/- Arrays of ints that are indexed with a number that is not known before. -/
namespace Go.Gb

end Go.Gb

/- General part of the proofs: slices without room to spare: an append makes a new one. -/
namespace Go.Gb
section
variable {α:Type} [Enc α] {P:Program} {o:Oper} {a:Act} {k:K}
/-- A slice without room to spare. -/
def IsFull (xs:List α) (v:Value) (k:K):Prop:=(∃ ad,v = .slice (some ad) xs.length xs.length)∧IsV xs v k
instance (xs:List α):Pers (IsFull xs):=⟨fun h ⟨e,r⟩=>⟨e,Pers.pers h r⟩⟩
theorem run_append_full {t ty e:TypeId} {xs ys zs:List α} {v y:Value} (hu:P.underlying t = some (.slice e)) (he:ElemOk P e α)
    (hv:IsFull xs v k) (hy:Readable ys y k) (hz:appI xs ys = some zs) :
    ∃ v' k', (Builtin.append_ #[t, t] ty #[v, y]).run P k.w = .ok v' k'.w ∧ Grow k k' ∧ IsV zs v' k' := by
  obtain ⟨hlen,rfl⟩:=of_ite hz
  obtain ⟨i,z,hi,hiz,hsz,hzs,hpos,hby⟩:=he
  obtain ⟨⟨ad0,rfl⟩,hv⟩:=hv
  by_cases hm:ys = []
  · subst hm
    have hys : ∃ b c,y = .slice b 0 c:=by
      rcases hy with ⟨rfl,_⟩ | ⟨ad,cap,cs,rfl,_⟩
      · exact ⟨_,_,rfl⟩
      · exact ⟨_,_,rfl⟩
    exact ⟨_,k,append_none t ty ⟨e,hu,by simp [hi]⟩ _ y k.w ⟨_,_,_,rfl,Nat.le_refl _⟩ hys,Grow.refl k,by rw [List.append_nil]; exact hv⟩
  · rcases hy with ⟨_, rfl⟩ | ⟨ad, c, news, rfl, hyc, hyr, hya⟩
    · exact absurd rfl hm
    have hya:=hya.resolve_left hm
    have hyl:=hyr.len
    have hpl:0 < ys.length:=List.length_pos_iff.2 hm
    have hnews : ∀ j u,news[j]? = some u → k.w.cell? (ad.add j) = some u:=hya.cell
    have hl:news.length = ys.length * i.size:=by rw [hsz]; exact hyl
    have hold : ∃ olds,RepL k olds xs∧∀ j u,olds[j]? = some u → k.w.cell? (ad0.add j) = some u:=by
      rcases hv.rd with ⟨h,_⟩ | ⟨ad1,c1,cs,h,_,hr,hc⟩
      · simp at h
      · simp only [Value.slice.injEq, Option.some.injEq] at h
        obtain ⟨rfl,_,_⟩:=h
        refine ⟨cs,hr,fun j u hj=>?_⟩
        rcases hc with rfl | hc
        · have := hr.len
          simp at this
          subst this
          simp at hj
        · exact hc.cell j u hj
    obtain ⟨olds,hr,holds⟩:=hold
    have hol:=hr.len
    have hrun:=run_append_grow (P:=P) k.w t ty e i z hu hi hiz ad0 xs.length xs.length olds (by rw [hsz]; exact hol) holds ad ys.length c news hl hnews (by omega) (by omega) (growslice_fits (by omega) (by
      have:(xs.length + ys.length) * i.bytes ≤ 1073741824 * 65536:=Nat.mul_le_mul hlen hby
      omega))
    have hge:=grownCap_ge k.w (xs.length + ys.length) xs.length e
    have hcm:grownCap k.w (xs.length + ys.length) xs.length e ≤ maxLen:=grownCap_le_maxLen k.w _ xs.length e (by unfold maxLen; omega)
    generalize grownCap k.w (xs.length + ys.length) xs.length e = cap at hge hcm hrun
    let k' : K:=⟨_,k.sh,fun b hb=>by
      have:=k.lt b hb
      show b < (k.w.drew.alloc (.cells (olds.toArray ++ news.toArray ++ Builtin.zeroCells z.cells (cap - (xs.length + ys.length))) e)).heap.size
      simp; omega⟩
    have hblk : ∀ b,b < k.w.heap.size → k'.w.heap[b]? = k.w.heap[b]?:=fun b hb=>(World.grownBy_alloc k.w.drew _ none).block b hb (by simp)
    have hle:Le k k':=⟨fun b hb=>hblk b (k.lt b hb),fun b hb=>hb⟩
    have hg:Grown k k' none:=⟨rfl,rfl,rfl,by simp [k'],fun b hb _=>hblk b hb,rfl,Nat.le_succ _⟩
    have hown:IsOwn k.w.heap.size e (xs ++ ys) (.slice (some ⟨k.w.heap.size,0,none⟩) (xs.length + ys.length) cap) k':=by
      refine .inr (.inr ⟨k.w.heap.size,0,cap,_,_,by rw [List.length_append],Nat.le_refl _,fun hs=>Nat.lt_irrefl _ (k.lt _ hs),
        heap_alloc_new k.w.drew _,by rw [List.length_append]; exact hge,by omega,hcm,?_,rfl,?_⟩)
      · have e1 : olds.length + news.length = (xs.length + ys.length) * Enc.sz α := by rw [hol, hyl, Nat.add_mul]
        simp only [Array.size_append,List.size_toArray,size_zeroCells,hzs]
        rw [e1,← Nat.add_mul,Nat.zero_add]
        exact Nat.mul_le_mul_right _ (by omega)
      · have e1 : (xs ++ ys).length * Enc.sz α = (olds ++ news).length := by rw [List.length_append, List.length_append, hol, hyl, Nat.add_mul]
        rw [e1]
        simp only [Array.toList_append,List.drop_zero]
        rw [List.take_left]
        exact (hr.append hyr).mono hle
    obtain ⟨k2,e2,_,hg2,hv2,_⟩:=hown.share hg.grow (Nat.le_refl _)
    exact ⟨_,k2,by rw [e2]; exact hrun,hg2,hv2⟩
theorem ok_appendF {t e:TypeId} {x y:Operand} {xs ys zs:List α} (ho:o.op = .call { callee:=.builtin .append,args:=#[x,y],argTypes:=#[t,t] })
    (hu:P.underlying t = some (.slice e)) (he:ElemOk P e α) (hx:IsFull xs (a.eval x) k) (hy:Readable ys (a.eval y) k) (hz:appI xs ys = some zs) :
    Does P o a k (IsV zs):=by
  obtain ⟨v', k', hr, hg, hv⟩ := run_append_full (P := P) (t := t) (ty := o.type) hu he hx hy hz
  refine does_run (v:=v') (k':=k') ?_ hg hv
  simp [execOp,ho,resolve,invoke,builtin,hr]
theorem ok_buildSliceF {t e n:Nat} {ps:List (Nat × Operand)} {xs:List α} (ho:o.op = .buildSlice t n ps.toArray) (hu:P.underlying t = some (.slice e)) (he:ElemOk P e α)
    (hn:n = xs.length) (h0:0 < n) (hlim:n * Enc.sz α ≤ 16777216) (h:Parts a k 0 ps xs):Does P o a k (IsFull xs):=by
  have h':=h
  obtain ⟨i,z,hi,hiz,hsz,hzs,hpos,hby⟩:=he
  have hn':=hn
  subst hn
  obtain ⟨cs,hr,hf⟩:=fill_parts (z:=z.cells.toList) (by simpa using hzs) ps xs 0 [] h (by simp)
  have hf:=hf ((List.range (xs.length * Enc.sz α)).map fun j=>z.cells[j % z.cells.size]!) (by simp)
  simp only [List.nil_append] at hf
  have hrun:(Instr.buildSlice t xs.length (ps.map fun p=>(p.1,a.eval p.2)).toArray).run P k.w = .ok (.slice (some ⟨k.w.heap.size,0,none⟩) xs.length xs.length) (k.alloc (.cells cs.toArray e)).w:=by
    have hne:xs.length * Enc.sz α ≠ 0:=Nat.pos_iff_ne_zero.1 (Nat.mul_pos h0 hpos)
    have hnl : ¬ (xs.length * Enc.sz α > 2 ^ 24):=by omega
    have harr:(Array.range (xs.length * Enc.sz α)).map (fun j=>z.cells[j % z.cells.size]!) = ((List.range (xs.length * Enc.sz α)).map fun j=>z.cells[j % z.cells.size]!).toArray:=by
      simp [← List.toArray_range]
    simp only [Instr.buildSlice,Sem.run_bind,run_underlying hu,Result.andThen_ok,run_sizeOf (P:=P) (w:=k.w) (show (P.info? e).map (·.size) = some (Enc.sz α) by simp [hi,hsz])]
    simp [hnl,hne,zeroValue,typeInfo,hi,hiz,harr,hf,newRow,newObj,K.alloc]
    rfl
  obtain ⟨v, k', hr2, hg, hown⟩ := run_buildSlice (P := P) hu ⟨i, z, hi, hiz, hsz, hzs, hpos, hby⟩ rfl h0 hlim h'
  rw [hrun] at hr2
  simp only [Result.ok.injEq] at hr2
  obtain ⟨rfl,_⟩:=hr2
  obtain ⟨k2,e2,_,hg2,hv2,_⟩:=hown.share hg (Nat.le_refl _)
  have hrun' : (Instr.buildSlice t xs.length (ps.map fun p=>(p.1,a.eval p.2)).toArray).run P k.w = .ok (.slice (some ⟨k.w.heap.size,0,none⟩) xs.length xs.length) k2.w:=by
    rw [hrun,e2]; congr 1
  refine does_run (v:=.slice (some ⟨k.w.heap.size,0,none⟩) xs.length xs.length) (k':=k2) ?_ hg2 ⟨⟨_,rfl⟩,hv2⟩
  simp only [execOp,ho,List.map_toArray]
  simp [hrun']
end
end Go.Gb

/- General part of the proofs: package-level variables that are laid with data. -/
namespace Go.Gb
section
variable {P:Program} {t e:TypeId} {α β σ:Type} [Enc α] [Enc β]

/-- What is read as this datum is this value. -/
structure Ld (P:Program) (t:TypeId) (α:Type) [Enc α] (d:α → DataW Unit):Prop where
  ld : ∀ (W:World) (fuel:Nat) (cs:List Value) (p:List MemPlace) (x:α),DataW.trod (fun _=>()) P W 0 (fun _=>true) false fuel t cs = some (d x,p) → Enc.rep (kOf W) cs x
theorem ld_int (hu:P.underlying t = some (.int .i64)):Ld P t Int fun n=>.lit (.int .i64 n):=by
  refine ⟨fun W fuel cs p x h=>?_⟩
  obtain ⟨n,rfl,hx,_⟩:=DataW.trod_int hu h
  simp only [Prod.mk.injEq,DataW.lit.injEq,Lit.int.injEq,true_and] at hx
  rw [hx.1]; rfl
/-- The fields of a struct, from the offset o on. -/
structure LdF (P:Program) (fs:List Field) (o:Nat) (α:Type) [Enc α] (d:α → List (DataW Unit)):Prop where
  run : ∀ (W:World) (fuel:Nat) (cs:List Value) (x:α) (xs:List (DataW Unit × List MemPlace)),cs.length = o + Enc.sz α → xs.map (·.1) = d x →
    (∀ (i:Nat) (f:Field),fs[i]? = some f → DataW.trod (fun _=>()) P W 0 (fun _=>true) false fuel f.type ((cs.drop f.offset).take (P.cellsOf f.type)) = xs[i]?) → Enc.rep (kOf W) (cs.drop o) x
theorem LdF.one {f:Field} {o:Nat} {d:α → DataW Unit} (ho:f.offset = o) (hz:P.cellsOf f.type = Enc.sz α) (h:Ld P f.type α d):LdF P [f] o α fun x=>[d x]:=by
  refine ⟨fun W fuel cs x xs hl hx hf=>?_⟩
  have h0:=hf 0 f rfl
  rw [ho,hz,List.take_of_length_le (by simp; omega)] at h0
  match xs,hx with
  | [y], hx =>
    simp only [List.map_cons,List.map_nil,List.cons.injEq,and_true] at hx
    obtain ⟨y1,y2⟩:=y
    dsimp only at hx
    subst hx
    exact h.ld W fuel _ y2 x (by simpa using h0)
  | [],hx=>simp at hx
  | _::_::_,hx=>simp at hx
theorem LdF.cons {f:Field} {fs:List Field} {o:Nat} {d:α → DataW Unit} {ds:β → List (DataW Unit)} (ho:f.offset = o) (hz:P.cellsOf f.type = Enc.sz α) (h:Ld P f.type α d) (g:LdF P fs (o + Enc.sz α) β ds) :
    LdF P (f::fs) o (α × β) fun x=>d x.1::ds x.2:=by
  refine ⟨fun W fuel cs x xs hl hx hf=>?_⟩
  have hl' : cs.length = o + (Enc.sz α + Enc.sz β):=hl
  have h0:=hf 0 f rfl
  rw [ho,hz] at h0
  match xs,hx with
  | y :: ys, hx =>
    simp only [List.map_cons,List.cons.injEq] at hx
    obtain ⟨y1,y2⟩:=y
    obtain ⟨hx1,hx2⟩:=hx
    dsimp only at hx1
    subst hx1
    have h1:=h.ld W fuel _ y2 x.1 (by simpa using h0)
    have h2:=g.run W fuel cs x.2 ys (by omega) hx2 fun i f' hf'=>by
      have:=hf (i + 1) f' (by simpa using hf')
      simpa using this
    rw [← List.drop_drop] at h2
    exact ⟨by simp; omega,h1,h2⟩
theorem ld_struct [Enc σ] {fs:Array Field} {d:β → List (DataW Unit)} (f:σ → β) (hu:P.underlying t = some (.struct fs)) (hz:P.cellsOf t = Enc.sz β)
    (hr : ∀ k cs y,Enc.rep (α:=β) k cs (f y) → Enc.rep (α:=σ) k cs y) (h:LdF P fs.toList 0 β d):Ld P t σ fun x=>.agg (d (f x)):=by
  refine ⟨fun W fuel cs p x hx=>?_⟩
  obtain ⟨xs,n,_,he,hl,hxl,hf⟩:=DataW.trod_struct hu hx
  simp only [Prod.mk.injEq,DataW.agg.injEq] at he
  refine hr _ _ _ ?_
  have:=h.run W n cs (f x) xs (by omega) he.1.symm fun i f' hf'=>hf i f' (by simpa using hf')
  simpa using this

theorem ref_of_laid {n:String} {g:Nat} {d:α → DataW Unit} {x:α} {W:World} {r:List (String × DataW Unit)} {ps:List MemPlace} (hn:P.globalNamed n = some g) (ht:(P.globals[g]?).map (·.type) = some t)
    (hz:P.cellsOf t = Enc.sz α) (hd:Ld P t α d) (h:DataW.LaidVars P W ((n,d x)::r) ps):IsRef x (.pointer (some ⟨g,0,none⟩)) (kOf W)∧∃ qs,DataW.LaidVars P W r qs:=by
  obtain ⟨g', t', cs, fuel, p, q, hn', ht', hv, htr, hr, _⟩ := h
  obtain rfl:=Option.some.inj (hn.symm.trans hn')
  obtain rfl:=Option.some.inj (ht.symm.trans ht')
  refine ⟨?_,q,hr⟩
  have hrep:=hd.ld W fuel cs.toList p x htr
  simp only [World.var?,hn,Option.bind_some] at hv
  split at hv
  · rename_i c ty fr hb
    obtain rfl:=Option.some.inj hv
    exact ⟨_,rfl,(Array.getElem?_eq_some_iff.1 hb).1,c.toList,hrep,rfl,c,ty,fr,hb,by simp,fun j hj=>by simp⟩
  · simp at hv
end
end Go.Gb

/- General part of the proofs: regions in which operations that only look may come behind a store. -/
namespace Go.Gb

/-- All operations behind number m come behind all others. -/
def chkB (m:Nat) (ops:List Oper):Bool:=allI (fun j _=>Nat.ble j m || (List.range j).all fun i=>hasBit (masks ops []) j i) 0 ops

theorem count_set {listed:Array Bool} {i:Nat} (hi:i < listed.size) (h:listed.getD i false = false) :
    (listed.toList.filter (· = false)).length = ((listed.setIfInBounds i true).toList.filter (· = false)).length + 1:=by
  have h0:listed[i] = false:=by simpa [Array.getD_eq_getD_getElem?,Array.getElem?_eq_getElem hi] using h
  have hsplit:listed.toList = listed.toList.take i ++ false::listed.toList.drop (i + 1):=by
    have h1:=List.take_append_drop i listed.toList
    have h2:listed.toList.drop i = listed.toList[i]'(by simpa using hi)::listed.toList.drop (i + 1):=List.drop_eq_getElem_cons (by simpa using hi)
    rw [Array.getElem_toList,h0] at h2
    exact (h1.symm.trans (by rw [h2]))
  have hset:(listed.setIfInBounds i true).toList = listed.toList.take i ++ true::listed.toList.drop (i + 1):=by
    rw [Array.toList_setIfInBounds,List.set_eq_take_append_cons_drop,if_pos (by simpa using hi)]
  have e1:=congrArg (fun l=>(l.filter (· = false)).length) hsplit
  have e2:=congrArg (fun l=>(l.filter (· = false)).length) hset
  simp only [List.filter_append,List.length_append,List.filter_cons] at e1 e2
  simp at e1 e2 ⊢
  omega

section
variable {P:Program} {a0:Act} {k0:K} {es:List Ent}
theorem tail_anyB {A:Array Oper} {m:Nat} {Q:Exit → Act → World → Prop} (hedge:allI (fun i o=>(binding o).all (· < i)) 0 A.toList = true) (htail:chkB m A.toList = true) :
    ∀ (fuel i:Nat) (listed:Array Bool) (a:Act) (w:World),m + 1 ≤ i → i + fuel = A.size → listed.size = A.size → (∀ j,listed.getD j false = true ↔ j < i) →
      wpOps P A Q (List.range' i fuel) a w → wpAny P .any A Q fuel listed a w:=by
  have hready : ∀ (i:Nat) (listed:Array Bool),m + 1 ≤ i → listed.size = A.size → (∀ j,listed.getD j false = true ↔ j < i) → ∀ j,j ∈ Region.ready .any A listed ↔ (j = i∧i < A.size):=by
    intro i listed hmi hls hD j
    simp only [Region.ready,List.mem_filter,List.mem_range,Bool.and_eq_true,Bool.not_eq_true']
    have hT : ∀ j,j < A.size → listed.getD j true = listed.getD j false:=by
      intro j hj; simp [Array.getD_eq_getD_getElem?,Array.getElem?_eq_getElem (show j < listed.size by omega)]
    constructor
    · rintro ⟨hjA, hj1, hj2⟩
      rw [hT j hjA] at hj1
      have hji : ¬ j < i:=fun h=>by rw [(hD j).2 h] at hj1; simp at hj1
      rcases Nat.lt_or_ge i j with hlt | hge
      · exfalso
        have ho:nth A.toList j = some A[j]:=by rw [nth_toList]; simp [hjA]
        have hc:=allI_spec htail j _ ho
        simp only [Nat.zero_add,Bool.or_eq_true,Nat.ble_eq] at hc
        have hc:=hc.resolve_left (by omega)
        have hbit:=List.all_eq_true.1 hc i (by simp; omega)
        have hdown : ∀ x o', nth A.toList x = some o' → x < i → ∀ e ∈ binding o', e < i := by
          intro x o' hx hxi e he
          have:=allI_spec hedge x o' hx
          simp only [Nat.zero_add,List.all_eq_true,decide_eq_true_eq] at this
          have:=this e he
          omega
        have:=hasBit_spec (L:=A.toList) (D:=(· < i)) hdown (j:=j) (i:=i) ?_ hbit
        · omega
        · intro o' ho' e he
          rw [ho,Option.some.injEq] at ho'
          subst ho'
          have hA:A[j]? = some A[j]:=by simp [hjA]
          rw [hA] at hj2
          simp only [Option.map_some,Option.getD_some,Array.all_eq_true_iff_forall_mem] at hj2
          simp only [binding,List.mem_map,List.mem_filter,Array.mem_toList_iff] at he
          obtain ⟨y,⟨hy,hyb⟩,rfl⟩:=he
          have:=hj2 y hy
          simp only [hyb,Bool.not_true,Bool.false_or] at this
          exact (hD _).1 this
      · exact ⟨by omega,by omega⟩
    · rintro ⟨rfl, hlt⟩
      refine ⟨hlt,?_,?_⟩
      · rw [hT j hlt]
        cases hb:listed.getD j false with
        | false=>rfl
        | true=>have:=(hD j).1 hb; omega
      · have hA : A[j]? = some A[j] := by simp [hlt]
        rw [hA]
        simp only [Option.map_some,Option.getD_some,Array.all_eq_true_iff_forall_mem]
        intro y hy
        cases hyb:Region.binds .any y with
        | false=>rfl
        | true =>
          simp only [Bool.not_true,Bool.false_or]
          have ho:nth A.toList j = some A[j]:=by rw [nth_toList]; simp [hlt]
          have:=allI_spec hedge j _ ho
          simp only [Nat.zero_add,List.all_eq_true,decide_eq_true_eq] at this
          exact (hD _).2 (this y.on (by simp only [binding,List.mem_map,List.mem_filter,Array.mem_toList_iff]; exact ⟨y,⟨hy,hyb⟩,rfl⟩))
  intro fuel
  induction fuel with
  | zero =>
    intro i listed a w hmi hi hls hD h
    refine ⟨?_,by simpa [wpOps] using h⟩
    refine List.eq_nil_iff_forall_not_mem.2 fun j hj=>?_
    have:=(hready i listed hmi hls hD j).1 hj
    omega
  | succ fuel ih =>
    intro i listed a w hmi hi hls hD h
    refine ⟨fun hnil=>?_,fun j hj=>?_⟩
    · have := (hready i listed hmi hls hD i).2 ⟨rfl, by omega⟩
      rw [hnil] at this; simp at this
    · obtain ⟨rfl, hlt⟩ := (hready i listed hmi hls hD j).1 hj
      rw [List.range'_succ,wpOps_cons] at h
      refine wpOp_mono (fun a' w' h'=>ih (j + 1) _ a' w' (by omega) (by omega) (by simp [hls]) (fun x=>?_) h') h
      by_cases hx:x = j
      · subst hx; simp [Array.getD_eq_getD_getElem?,hls,hlt]
      · rw [getD_set_ne _ (fun e=>hx e.symm),hD]; omega

theorem full_count {A:Array Oper} {m:Nat} {listed:Array Bool} (hmA:m < A.size) (hls:listed.size = A.size) (hD : ∀ j,listed.getD j false = true ↔ j < m + 1) :
    (listed.toList.filter (· = false)).length = A.size - (m + 1):=by
  have hl:listed.toList = List.replicate (m + 1) true ++ List.replicate (A.size - (m + 1)) false:=by
    refine List.ext_getElem (by simp; omega) fun j h1 h2'=>?_
    have hjl:j < listed.size:=by simpa using h1
    have hg:listed.toList[j] = listed.getD j false:=by simp [Array.getD_eq_getD_getElem?,Array.getElem?_eq_getElem hjl]
    refine hg.trans ?_
    generalize listed.getD j false = z at hg
    have hz:z = true ↔ j < m + 1:=by rw [← hD j,← hg]; simp [Array.getD_eq_getD_getElem?,Array.getElem?_eq_getElem hjl]
    rw [List.getElem_append]
    split
    · rename_i h; simp at h; rw [List.getElem_replicate]; exact hz.2 (by omega)
    · rename_i h; simp at h; rw [List.getElem_replicate]
      cases z with
      | false=>rfl
      | true=>have:=hz.1 rfl; omega
  rw [hl]; simp

/-- The first operations in any order; number m, which writes, when it may; all others behind them. -/
theorem any_st {A:Array Oper} {n m:Nat} {Q:Exit → Act → World → Prop} {B:K → Prop} (hn:a0.tmps.size = n) (hS:chkS n m A.toList es = true) (hmA:m < A.size) (htail:chkB m A.toList = true)
    (hst:Steps P es a0 k0 (A.toList.take m) es) (hB : ∀ kb,B kb → Steps P es a0 kb (A.toList.take m) es) (hQ:LetsOut Q)
    (hT : ∀ a k (D:Nat → Prop),(∀ j,D j → j < m) → Inv A.toList es a0 k0 D a k → (∀ o,nth A.toList m = some o → ∀ e ∈ binding o,D e) →
      ∀ C:Act → World → Prop,(∀ kb k1,B kb → Inv A.toList es a0 kb D a k1 → C a k1.w) → wpOp P A Q m C a k.w)
    (hpost : ∀ kb,B kb → ∀ a k,Inv A.toList es a0 kb (· < m) a k → wpOps P A Q (List.range' (m + 1) (A.size - (m + 1))) a k.w) :
    ∀ (fuel:Nat) (listed:Array Bool) (a:Act) (k:K),listed.size = A.size → fuel = (listed.toList.filter (· = false)).length →
      (∀ j,listed.getD j false = true → j ≤ m) →
      ((listed.getD m false = false∧Inv A.toList es a0 k0 (fun j=>listed.getD j false = true) a k) ∨
       (listed.getD m false = true∧(∀ o,nth A.toList m = some o → ∀ e ∈ binding o,listed.getD e false = true)∧∃ kb,B kb∧Inv A.toList es a0 kb (fun j=>listed.getD j false = true∧j < m) a k)) →
      wpAny P .any A Q fuel listed a k.w:=by
  have hS':=hS
  simp only [chkS,Bool.and_eq_true,beq_iff_eq,decide_eq_true_eq] at hS'
  obtain ⟨⟨⟨⟨hlen,hml⟩,h2⟩,hedge⟩,hdist⟩:=hS'
  intro fuel
  induction fuel with
  | zero =>
    intro listed a k hls hf hDm hinv
    have hall : ∀ j,j < A.size → listed.getD j false = true:=by
      intro j hj
      have hz:=List.eq_nil_of_length_eq_zero hf.symm
      have:listed[j]'(by omega) ∉ listed.toList.filter (· = false):=by rw [hz]; simp
      simp only [List.mem_filter,Array.mem_toList_iff,Array.getElem_mem,true_and,decide_eq_true_eq,Bool.not_eq_false] at this
      simp [Array.getD_eq_getD_getElem?,Array.getElem?_eq_getElem (show j < listed.size by omega),this]
    have hm:A.size = m + 1:=by
      rcases Nat.lt_or_ge (m + 1) A.size with h | h
      · have:=hDm (m + 1) (hall _ h); omega
      · omega
    rcases hinv with ⟨h,_⟩ | ⟨_,_,kb,hb,hinv⟩
    · rw [hall m hmA] at h; simp at h
    · have he : (fun j => listed.getD j false = true ∧ j < m) = (· < m) := funext fun j => propext ⟨fun h => h.2, fun h => ⟨hall j (by omega), h⟩⟩
      rw [he] at hinv
      refine tail_anyB hedge htail 0 (m + 1) listed a k.w (Nat.le_refl _) (by omega) hls (fun j=>⟨fun h=>by have:=hDm j h; omega,fun h=>hall j (by omega)⟩) ?_
      have:=hpost kb hb a k hinv
      rwa [show A.size - (m + 1) = 0 by omega] at this
  | succ fuel ih =>
    intro listed a k hls hf hDm hinv
    have hT2 : ∀ j,j < A.size → listed.getD j true = listed.getD j false:=by
      intro j hj; simp [Array.getD_eq_getD_getElem?,Array.getElem?_eq_getElem (show j < listed.size by omega)]
    have hbind : ∀ j,j < A.size → ((A[j]?).map (·.after.all fun e=>!Region.binds .any e || listed.getD e.on false)).getD false = true →
        ∀ o,nth A.toList j = some o → ∀ e ∈ binding o,listed.getD e false = true:=by
      intro j hjA hj2 o ho e he
      have hA:A[j]? = some o:=by rw [← nth_toList]; exact ho
      rw [hA] at hj2
      simp only [Option.map_some,Option.getD_some,Array.all_eq_true_iff_forall_mem] at hj2
      simp only [binding,List.mem_map,List.mem_filter,Array.mem_toList_iff] at he
      obtain ⟨y,⟨hy,hyb⟩,rfl⟩:=he
      have:=hj2 y hy
      simpa only [hyb,Bool.not_true,Bool.false_or] using this
    by_cases hfull : ∀ j,j < m + 1 → listed.getD j false = true
    · rcases hinv with ⟨h, _⟩ | ⟨_, _, kb, hb, hinv⟩
      · rw [hfull m (by omega)] at h; simp at h
      · have hD : ∀ j, listed.getD j false = true ↔ j < m + 1 := fun j => ⟨fun h => by have := hDm j h; omega, hfull j⟩
        have he:(fun j=>listed.getD j false = true∧j < m) = (· < m):=funext fun j=>propext ⟨fun h=>h.2,fun h=>⟨hfull j (by omega),h⟩⟩
        rw [he] at hinv
        have hcount:=full_count hmA hls hD
        rw [← hf] at hcount
        refine tail_anyB hedge htail (fuel + 1) (m + 1) listed a k.w (Nat.le_refl _) (by omega) hls hD ?_
        rw [hcount]; exact hpost kb hb a k hinv
    · have hex : ∃ j, j < m + 1 ∧ listed.getD j false = false ∧ ∀ i, i < j → listed.getD i false = true := by
        obtain ⟨j,hj⟩:=Classical.not_forall.1 hfull
        have hj:j < m + 1∧listed.getD j false = false:=by
          by_cases h:j < m + 1
          · exact ⟨h,by cases hb:listed.getD j false with | false=>rfl | true=>exact absurd (fun _=>hb) hj⟩
          · exact absurd (fun h'=>absurd h' h) hj
        clear hfull
        induction j using Nat.strongRecOn with
        | _ j ihj =>
          by_cases hall : ∀ i,i < j → listed.getD i false = true
          · exact ⟨j,hj.1,hj.2,hall⟩
          · obtain ⟨i, hi⟩ := Classical.not_forall.1 hall
            obtain ⟨hij,hib⟩:i < j∧¬ listed.getD i false = true:=⟨Classical.byContradiction fun h=>hi fun h'=>absurd h' h,fun h=>hi fun _=>h⟩
            exact ihj i hij (fun h=>absurd (h (by omega)) hib) ⟨by omega,by simpa using hib⟩
      have hclosed : ∀ x o', nth A.toList x = some o' → listed.getD x false = true → ∀ e ∈ binding o', listed.getD e false = true := by
        intro x o' ho' hx e he
        rcases hinv with ⟨_,hinv⟩ | ⟨_,hmc,kb,_,hinv⟩
        · exact hinv.closed x o' ho' hx e he
        · by_cases hxm : x = m
          · subst hxm; exact hmc o' ho' e he
          · exact (hinv.closed x o' ho' ⟨hx,by have:=hDm x hx; omega⟩ e he).1
      refine ⟨fun hnil=>?_,fun i hi=>?_⟩
      · exfalso
        obtain ⟨j,hjm,hjb,hlow⟩:=hex
        have hjr:j ∈ Region.ready .any A listed:=by
          simp only [Region.ready,List.mem_filter,List.mem_range,Bool.and_eq_true,Bool.not_eq_true']
          refine ⟨by omega,by rw [hT2 j (by omega)]; exact hjb,?_⟩
          have hA:A[j]? = some A[j]:=by simp [show j < A.size by omega]
          rw [hA]
          simp only [Option.map_some,Option.getD_some,Array.all_eq_true_iff_forall_mem]
          intro y hy
          cases hyb:Region.binds .any y with
          | false=>rfl
          | true =>
            simp only [Bool.not_true,Bool.false_or]
            have ho:nth A.toList j = some A[j]:=by rw [nth_toList]; exact hA
            have:=allI_spec hedge j _ ho
            simp only [Nat.zero_add,List.all_eq_true,decide_eq_true_eq] at this
            exact hlow _ (this y.on (by simp only [binding,List.mem_map,List.mem_filter,Array.mem_toList_iff]; exact ⟨y,⟨hy,hyb⟩,rfl⟩))
        rw [hnil] at hjr; simp at hjr
      · simp only [Region.ready, List.mem_filter, List.mem_range, Bool.and_eq_true, Bool.not_eq_true'] at hi
        obtain ⟨hiA,hi1,hi2⟩:=hi
        rw [hT2 i hiA] at hi1
        have ho:nth A.toList i = some A[i]:=by rw [nth_toList]; simp [hiA]
        have hb:=hbind i hiA hi2 _ ho
        have hbm : ∀ e ∈ binding A[i],e < i:=by
          have:=allI_spec hedge i _ ho
          simp only [Nat.zero_add,List.all_eq_true,decide_eq_true_eq] at this
          exact this
        have him:i ≤ m:=by
          rcases Nat.lt_or_ge m i with h | h
          · exfalso
            have hc:=allI_spec htail i _ ho
            simp only [Nat.zero_add,Bool.or_eq_true,Nat.ble_eq] at hc
            have hc:=hc.resolve_left (by omega)
            obtain ⟨j,hjm,hjb,hlow⟩:=hex
            have hbit:=List.all_eq_true.1 hc j (by simp; omega)
            have:=hasBit_spec (L:=A.toList) (D:=fun x=>listed.getD x false = true) hclosed (j:=i) (i:=j)
              (fun o' ho'=>hbind i hiA hi2 o' ho') hbit
            rw [this] at hjb; simp at hjb
          · exact h
        have hil:i < listed.size:=by omega
        have hcnt:=count_set hil hi1
        rw [← hf] at hcnt
        have hDm' : ∀ j,(listed.setIfInBounds i true).getD j false = true → j ≤ m:=fun j hj=>by
          by_cases hji:j = i
          · omega
          · rw [getD_set_ne _ (fun e=>hji e.symm)] at hj; exact hDm j hj
        have hset : ∀ j,(listed.setIfInBounds i true).getD j false = true ↔ (listed.getD j false = true ∨ j = i):=by
          intro j
          by_cases hji:j = i
          · subst hji; simp [Array.getD_eq_getD_getElem?,show j < listed.size by omega]
          · rw [getD_set_ne _ (fun e=>hji e.symm)]; simp [hji]
        by_cases hie:i = m
        · -- the store
          subst hie
          rcases hinv with ⟨_,hinv⟩ | ⟨h,_⟩
          · have hDlt : ∀ j, listed.getD j false = true → j < i := fun j hj => by
              have h1:=hDm j hj
              rcases Nat.lt_or_ge j i with h | h
              · exact h
              · obtain rfl : j = i := by omega
                rw [hj] at hi1; simp at hi1
            refine hT a k (fun j=>listed.getD j false = true) hDlt hinv (fun o' ho'=>by
              rw [ho,Option.some.injEq] at ho'; subst ho'; exact hb) _ fun kb k1 h1 h3=>?_
            refine (ih _ a k1 (by simp [hls]) (by omega) hDm' (.inr ⟨(hset i).2 (.inr rfl),fun o' ho' e he=>?_,kb,h1,?_⟩))
            · rw [ho, Option.some.injEq] at ho'; subst ho'
              exact (hset e).2 (.inl (hb e he))
            · have he : (fun j => (listed.setIfInBounds i true).getD j false = true ∧ j < i) = (fun j => listed.getD j false = true) := by
                funext j
                refine propext ⟨fun h=>?_,fun h=>⟨(hset j).2 (.inl h),hDlt j h⟩⟩
                rcases (hset j).1 h.1 with h5 | h5
                · exact h5
                · have:=h.2; omega
              rw [he]; exact h3
          · rw [h] at hi1; simp at hi1
        · have hilt : i < m := by omega
          rcases hinv with ⟨hm0,hinv⟩ | ⟨hm1,hmc,kb,hbB,hinv⟩
          · have hDlt : ∀ j, listed.getD j false = true → j < m := fun j hj => by
              have h1:=hDm j hj
              rcases Nat.lt_or_ge j m with h | h
              · exact h
              · obtain rfl : j = m := by omega
                rw [hj] at hm0; simp at hm0
            refine step_op hn hS hst hinv hDlt ho hilt hb (by simp [hi1]) hQ fun a' k' hinv'=>?_
            refine ih _ a' k' (by simp [hls]) (by omega) hDm' (.inl ⟨by rw [getD_set_ne _ hie]; exact hm0,?_⟩)
            have he:(fun j=>(listed.setIfInBounds i true).getD j false = true) = (fun j=>listed.getD j false = true ∨ j = i):=funext fun j=>propext (hset j)
            rw [he]; exact hinv'
          · refine step_op hn hS (hB kb hbB) hinv (fun j h => h.2) ho hilt (fun e he => ⟨hb e he, by have := hbm e he; omega⟩) (fun h => by rw [h.1] at hi1; simp at hi1) hQ fun a' k' hinv' => ?_
            refine ih _ a' k' (by simp [hls]) (by omega) hDm' (.inr ⟨by rw [getD_set_ne _ hie]; exact hm1,fun o' ho' e he=>(hset e).2 (.inl (hmc o' ho' e he)),kb,hbB,?_⟩)
            have he:(fun j=>(listed.setIfInBounds i true).getD j false = true∧j < m) = (fun j=>(listed.getD j false = true∧j < m) ∨ j = i):=by
              funext j
              rw [hset j]
              refine propext ⟨fun h=>?_,fun h=>?_⟩
              · rcases h.1 with h5 | h5
                · exact .inl ⟨h5,h.2⟩
                · exact .inr h5
              · rcases h with h | h
                · exact ⟨.inl h.1,h.2⟩
                · exact ⟨.inr h,by omega⟩
            rw [he]; exact hinv'
end
end Go.Gb

/- General part of the proofs: parts of data of which nothing is said (slices of a type that holds itself). -/
namespace Go.Gb

/-- A cell of which nothing is said. -/
structure Opq where
  deriving DecidableEq,Inhabited
instance:Enc Opq where
  sz:=1
  agg:=false
  rep _ cs _:=∃ u:Value,cs = [u]∧u.oneCell' = true
  len h:=by obtain ⟨u,h,_⟩:=h; simp [h]
  mono _ h:=h
  one h:=by obtain ⟨u,rfl,h⟩:=h; simpa using h
  agg1 _:=rfl
instance:Rg Opq:=⟨fun _=>True,fun _=>0⟩

end Go.Gb

/- General part of the proofs: strings, and comparisons of small integers. -/
namespace Go.Gb

theorem beqBA (a b:ByteArray):(a == b) = decide (a = b):=by
  cases a with | mk x=>cases b with | mk y=>
    have h:((⟨x⟩:ByteArray) == ⟨y⟩) = (x == y):=rfl
    rw [h]
    by_cases e:x = y
    · simp [e]
    · simp [e]
section
variable {P:Program} {o:Oper} {a:Act} {k:K} {κ:IntKind} {p q:IK κ} {t u:TypeId} {x y:Operand} {s r:ByteArray} {i:Int} {z:IK .u8}
theorem ok_gtrK (ho:o.op = .binOp .gtr t x y u) (hx:IsV p (a.eval x) k) (hy:IsV q (a.eval y) k):Does P o a k (IsV (decide (q.n < p.n))):=by
  have hx:=isV_ik.1 hx; have hy:=isV_ik.1 hy
  refine does_pure (v:=.bool (decide (q.n < p.n))) ?_ (isV_bool.2 rfl)
  simp only [execOp,ho,hx,hy]
  simp [eqGuard,binOp,Op.intCmp]
end
end Go.Gb

/- General part of the proofs: maps of the call's own, with values of any kind. -/
namespace Go.Gb
section
variable {P:Program} {o:Oper} {a a0:Act} {k k' k0:K} {κ α:Type} [DecidableEq κ] [Enc α] {F G:FP} {kv:κ → Value}

/-- A map of the call's own. -/
def MpR (kv:κ → Value) (m:List (κ × α)):FP → Pred:=fun F v k=>
  ∃ b,∃ T:List (κ × Value × α),v = .map (some b)∧m = T.map (fun t=>(t.1,t.2.2))∧MapB kv b (T.map fun t=>(t.1,t.2.1)) k∧(∀ t ∈ T,IsV t.2.2 t.2.1 k)∧F = Eq b
omit [DecidableEq κ] in
theorem MapB.nsh' {b:Nat} {l:List (κ × Value)} (h:MapB kv b l k) : ¬ k.sh b:=by obtain ⟨h,_⟩:=h; exact h
omit [DecidableEq κ] in
instance (m:List (κ × α)):Rsc (MpR kv m) where
  keep:=fun ⟨b,T,e1,e2,hb,hT,eF⟩ g hs hn=>⟨b,T,e1,e2,hb.keep g (hs b (by rw [eF])),fun t ht=>Pers.pers (g.le hn) (hT t ht),eF⟩
  handed:=fun ⟨b,T,e1,e2,hb,hT,eF⟩ g hs=>⟨b,T,e1,e2,hb.handed g (hs b (by rw [eF])),fun t ht=>Pers.pers g.le (hT t ht),eF⟩
  lt:=fun ⟨b,T,e1,e2,hb,hT,eF⟩ c hc=>by rw [eF] at hc; subst hc; exact hb.lt
  nsh:=fun ⟨b,T,e1,e2,hb,hT,eF⟩ c hc=>by rw [eF] at hc; subst hc; exact hb.nsh'
omit [DecidableEq κ] in
theorem MpR.new {v:Value} {b0:Nat} (h : ∃ b,v = .map (some b)∧b0 ≤ b∧MapB kv b [] k) : ∃ F,MpR (α:=α) kv [] F v k∧∀ c,F c → b0 ≤ c:=by
  obtain ⟨b,e1,hb0,hb⟩:=h
  exact ⟨_,⟨b,[],e1,rfl,hb,fun t ht=>by simp at ht,rfl⟩,fun c hc=>by subst hc; exact hb0⟩

end
end Go.Gb

/- General part of the proofs: a variable of the library that holds some int. -/
namespace Go.Gb
end Go.Gb


set_option linter.unusedVariables false
set_option linter.unusedSimpArgs false
/- General part of the proofs: an own slice, one part of which is a value that is looked at as it is. -/
namespace Go.Gb

/-- A value, as it is. -/
structure RawV where
  v:Value
instance:Inhabited RawV:=⟨⟨.bool false⟩⟩
instance:Enc RawV where
  sz:=1
  agg:=false
  rep _ cs x:=cs = [x.v]∧x.v.oneCell' = true
  len h:=by simp [h.1]
  mono _ h:=h
  one h:=by obtain ⟨rfl,h⟩:=h; simpa using h
  agg1 _:=rfl
theorem raw_val {h v:Value} {k:K} (i:IsV (RawV.mk h) v k):v = h:=by
  obtain ⟨cs,e,rfl,_⟩:=i
  exact e
theorem raw_self {v:Value} {k:K} (h:v.oneCell' = true):IsV (RawV.mk v) v k:=⟨[v],rfl,rfl,h⟩
theorem own_one {α:Type} [Enc α] {B:Nat} {e:TypeId} {xs:List α} {v:Value} {k:K} (h:IsOwn B e xs v k):v.oneCell' = true:=by
  rcases h with ⟨rfl,_⟩ | ⟨a,rfl,_⟩ | ⟨b,off,cap,cur,cs,rfl,_⟩ <;> rfl

section
variable {α β γ:Type} [Enc α] [Enc β] [Enc γ] {g:α → γ} {f:β → RawV} {same:α → β → Prop} {k k' : K} {v:Value} {e:TypeId} {B:Nat} {F G:FP}
structure RawOf (g:α → γ) (f:β → RawV) (same:α → β → Prop):Prop where
  sz:Enc.sz α = Enc.sz β
  split : ∀ {k:K} {cs:List Value} {x:α},Enc.rep k cs x → ∃ y,Enc.rep k cs y∧same x y∧IsV (g x) (f y).v k
  join : ∀ {k:K} {cs:List Value} {x:α} {y:β},Enc.rep k cs y → same x y → IsV (g x) (f y).v k → Enc.rep k cs x
def RR (g:α → γ) (f:β → RawV) (same:α → β → Prop) (i:Option Nat) (l:List α) (rs:List β) (k:K):Prop:=
  rs.length = l.length∧∀ (j:Nat) (x:α) (y:β),l[j]? = some x → rs[j]? = some y → same x y∧(some j ≠ i → IsV (g x) (f y).v k)
omit [Enc α] [Enc β] in
theorem RR.le {i:Option Nat} {l:List α} {rs:List β} (h:RR g f same i l rs k) (hk:Le k k'):RR g f same i l rs k':=
  ⟨h.1,fun j x y h1 h2=>⟨(h.2 j x y h1 h2).1,fun hn=>Pers.pers hk ((h.2 j x y h1 h2).2 hn)⟩⟩
theorem repL_join (R:RawOf g f same) : ∀ {l:List α} {rs:List β} {cs:List Value},RepL k cs rs → RR g f same none l rs k → RepL k cs l
  | [],[],cs,h,_=>h
  | [],_::_,cs,h,hr=>by have:=hr.1; simp at this
  | _::_,[],cs,h,hr=>by have:=hr.1; simp at this
  | x :: l, y :: rs, cs, h, hr => by
    have h0:=hr.2 0 x y rfl rfl
    refine ⟨R.join (by rw [R.sz]; exact h.1) h0.1 (h0.2 (by simp)),repL_join R (rs:=rs) (by rw [R.sz]; exact h.2) ⟨by simpa using hr.1,fun j x' y' h1 h2=>?_⟩⟩
    have:=hr.2 (j + 1) x' y' (by simpa using h1) (by simpa using h2)
    exact ⟨this.1,fun _=>this.2 (by simp)⟩
theorem raw_own (R:RawOf g f same) {l:List α} {rs:List β} (h:IsOwn B e rs v k) (hR:RR g f same none l rs k):IsOwn B e l v k:=by
  rcases h with ⟨rfl,rfl⟩ | ⟨a,rfl,rfl⟩ | ⟨b,off,cap,cur,cs,rfl,h1,h2,h3,h4,h5,h6,h7,h8,h9⟩
  · obtain rfl : l = [] := List.length_eq_zero_iff.1 hR.1.symm
    exact .inl ⟨rfl,rfl⟩
  · obtain rfl : l = [] := List.length_eq_zero_iff.1 hR.1.symm
    exact .inr (.inl ⟨a,rfl,rfl⟩)
  · exact .inr (.inr ⟨b,off,cap,cur,cs,by rw [hR.1],h1,h2,h3,by rw [← hR.1]; exact h4,h5,h6,by rw [R.sz]; exact h7,by rw [← hR.1,R.sz]; exact h8,repL_join R h9 hR⟩)

/-- An own slice, element i of which has the value h in a part. -/
def HO (g:α → γ) (f:β → RawV) (same:α → β → Prop) (e:TypeId) (l:List α) (i:Nat) (h:Value):Pred:=fun v k=>
  ∃ rs:List β,IsOwn 0 e rs v k∧RR g f same (some i) l rs k∧(rs[i]?).map f = some ⟨h⟩
omit [Enc α] in
theorem HO.ltF {l:List α} {i:Nat} {h:Value} (x:HO g f same e l i h v k) : ∀ b,obF v b → b < k.w.heap.size:=let ⟨_,x,_⟩:=x; x.ltF
omit [Enc α] in
theorem HO.nshF {l:List α} {i:Nat} {h:Value} (x:HO g f same e l i h v k) : ∀ b,obF v b → ¬ k.sh b:=let ⟨_,x,_⟩:=x; x.nshF
omit [Enc α] in
theorem HO.keep {l:List α} {i:Nat} {h:Value} (x:HO g f same e l i h v k) (c:Chg G k k') (ha:Apart (obF v) G) (hn : ∀ b,G b → ¬ k.sh b):HO g f same e l i h v k':=
  let ⟨rs,x,r,q⟩:=x; ⟨rs,x.keep c ha hn,r.le (c.le hn),q⟩
omit [Enc α] in
theorem HO.handed {l:List α} {i:Nat} {h:Value} (x:HO g f same e l i h v k) (c:Handed k k' G) (ha:Apart (obF v) G):HO g f same e l i h v k':=
  let ⟨rs,x,r,q⟩:=x; ⟨rs,x.handed c ha,r.le c.le,q⟩
omit [Enc α] in
instance {l:List α} {i:Nat} {h:Value}:Mono (HO g f same e l i h):=⟨fun c ⟨rs,x,r,q⟩=>⟨rs,Mono.mono c x,r.le c.le,q⟩⟩
omit [Enc α] in
theorem HO.put {l:List α} {rs:List β} {i:Nat} {h:Value} {x:α} {y y' : β} (ho:IsOwn 0 e (rs.set i y') v k) (hR:RR g f same none l rs k) (hl:l[i]? = some x) (hi:rs[i]? = some y)
    (hs:same x y → same x y') (hf:f y' = ⟨h⟩):HO g f same e l i h v k:=by
  have hlt:i < rs.length:=(List.getElem?_eq_some_iff.1 hi).1
  refine ⟨_,ho,⟨by simp [hR.1],fun j x' z h1 h2=>?_⟩,by simp [hlt,hf]⟩
  by_cases hj:j = i
  · subst hj
    rw [List.getElem?_set_self hlt] at h2
    obtain rfl:=Option.some.inj h2
    rw [hl] at h1
    obtain rfl:=Option.some.inj h1
    exact ⟨hs (hR.2 j _ _ hl hi).1,fun hn=>absurd rfl hn⟩
  · rw [List.getElem?_set_ne (fun e => hj e.symm)] at h2
    have:=hR.2 j x' z h1 h2
    exact ⟨this.1,fun _=>this.2 (by simp)⟩
theorem HO.fill (R:RawOf g f same) {l:List α} {i:Nat} {h:Value} {x x' : α} (o:HO g f same e l i h v k) (hl:l[i]? = some x) (hs : ∀ y,same x y → same x' y) (hv:IsV (g x') h k):IsOwn 0 e (l.set i x') v k:=by
  obtain ⟨rs,ho,hR,hq⟩:=o
  refine raw_own R ho ⟨by simp [hR.1],fun j z y h1 h2=>?_⟩
  have hlt:i < l.length:=(List.getElem?_eq_some_iff.1 hl).1
  by_cases hj:j = i
  · subst hj
    rw [List.getElem?_set_self hlt] at h1
    obtain rfl:=Option.some.inj h1
    rw [h2] at hq
    have hq:f y = ⟨h⟩:=by simpa using hq
    exact ⟨hs y (hR.2 j _ y hl h2).1,fun _=>by rw [hq]; exact hv⟩
  · rw [List.getElem?_set_ne (fun e => hj e.symm)] at h1
    have:=hR.2 j z y h1 h2
    exact ⟨this.1,fun _=>this.2 (by simpa using hj)⟩
omit [Enc α] in
theorem HO.at {l:List α} {i:Nat} {h:Value} (o:HO g f same e l i h v k) : ∃ (rs:List β) (y:β),IsOwn 0 e rs v k∧rs[i]? = some y∧f y = ⟨h⟩∧rs.length = l.length:=by
  obtain ⟨rs,ho,hR,hq⟩:=o
  obtain ⟨y,hy,hf⟩:=Option.map_eq_some_iff.1 hq
  exact ⟨rs,y,ho,hy,hf,hR.1⟩
end
end Go.Gb

/- General part of the proofs: regions in which operations that only look may come behind the first store, into a box of the call's own. -/
namespace Go.Gb
section
variable {P:Program} {a:Act} {k:K} {α β:Type} [Enc α] [Enc β]

def PersL:List Ent → Prop
  | []=>True
  | ⟨some R, _⟩ :: l => (∀ v k k', Le k k' → R v k → R v k') ∧ PersL l
  | ⟨none,_⟩::_=>False
theorem PersL.at : ∀ {es : List Ent} {i : Nat} {R : Option Pred} {nd : List (Nat × Option Nat)}, PersL es → nth es i = some ⟨R, nd⟩ → ∃ R', R = some R' ∧ ∀ v k k', Le k k' → R' v k → R' v k'
  | ⟨some R, _⟩ :: _, 0, _, _, h, e => by
    have e:=Option.some.inj e
    injection e with e1 _
    exact ⟨R,e1.symm,h.1⟩
  | ⟨some _,_⟩::l,i + 1,_,_,h,e=>PersL.at (es:=l) (i:=i) h.2 e
  | ⟨none,_⟩::_,_,_,_,h,_=>h.elim

end
end Go.Gb

/- General part of the proofs: regions in which operations that only look may come behind the first store, into a box that the region makes. -/
namespace Go.Gb
section
variable {P:Program} {a0:Act} {k0:K} {es:List Ent}
theorem step_opG {A:Array Oper} {n m:Nat} {D:Nat → Prop} {a:Act} {k:K} {i:Nat} {o:Oper} {Q:Exit → Act → World → Prop} {C:Act → World → Prop}
    (hn:a0.tmps.size = n) (hchk:chkS n m A.toList es = true) (hst:Steps P es a0 k0 (A.toList.take m) es)
    (hinv:Inv A.toList es a0 k0 D a k) (hDm : ∀ j,D j → j < m) (hi:nth A.toList i = some o) (him:i < m) (hb : ∀ j ∈ binding o,D j) (hDi : ¬ D i)
    (hQ : LetsOut Q) (hC : ∀ a' k', (∀ t, o.dst ≠ some t → a'.get t = a.get t) → Inv A.toList es a0 k0 (fun j => D j ∨ j = i) a' k' → C a' k'.w) : wpOp P A Q i C a k.w := by
  simp only [chkS,Bool.and_eq_true,beq_iff_eq,decide_eq_true_eq] at hchk
  obtain ⟨⟨⟨⟨hlen,hml⟩,h2⟩,hedge⟩,hdist⟩:=hchk
  have entry : ∀ j o', nth A.toList j = some o' → j < m → ∃ e, nth es j = some e ∧ chkOp n A.toList (masks A.toList []) j o' e = true := by
    intro j o' ho' hj
    obtain ⟨e,he,hc⟩:=chk2_spec h2 j o' (nth_take ho' hj)
    exact ⟨e,he,by simpa using hc⟩
  obtain ⟨e,he,hc⟩:=entry i o hi him
  have hob:=hst.at i o e (nth_take hi him) he
  simp only [chkOp,Bool.and_eq_true] at hc
  obtain ⟨⟨hdst,hgd⟩,hneed⟩:=hc
  obtain ⟨d,hd,hdn⟩ : ∃ d,o.dst = some d∧d < n:=by
    cases hod:o.dst with
    | none=>rw [hod] at hdst; simp at hdst
    | some d=>rw [hod] at hdst; exact ⟨d,rfl,by simpa using hdst⟩
  have hsz:a.tmps.size = n:=hinv.size.trans hn
  have hda:d < a.tmps.size:=by rw [hsz]; exact hdn
  have hAi:A[i]? = some o:=by rw [← nth_toList]; exact hi
  have fin : ∀ v k', Grow k k' → (match e.R with | some R => R v k' | none => v = undef) → C (a.put o.dst v) k'.w := by
    intro v k' hg hv
    rw [hd]
    refine hC _ _ (fun t ht=>by rw [get_put _ _ _ _ hda]; exact if_neg (fun e=>ht (by rw [hd,e]))) ⟨hinv.grow.trans hg,by rw [put_size]; exact hinv.size,by rw [put_defers']; exact hinv.defers,?_,?_,?_,?_⟩
    · intro j o' d' e' hj ho' hd' he'
      rw [get_put _ _ _ _ hda]
      by_cases hij:j = i
      · subst hij
        rw [hi,Option.some.injEq] at ho'; subst ho'
        rw [he,Option.some.injEq] at he'; subst he'
        rw [hd,Option.some.injEq] at hd'; subst hd'
        rw [if_pos rfl]; exact hv
      · have hDj := hj.resolve_right hij
        have hne:d ≠ d':=by
          have:=allI_spec (allI_spec hdist i o hi) j o' ho'
          simp only [Nat.zero_add,Bool.or_eq_true,beq_iff_eq,bne_iff_ne,hd,hd'] at this
          rcases this with (h | h) | h
          · exact absurd h.symm hij
          · simp at h
          · exact fun e=>h (by rw [e])
        rw [if_neg hne]
        have:=hinv.vals j o' d' e' hDj ho' hd' he'
        cases hR:e'.R with
        | none=>rw [hR] at this; exact this
        | some R =>
          rw [hR] at this
          have hob':=hst.at j o' e' (nth_take ho' (hDm j hDj)) he'
          unfold Ob at hob'; rw [hR] at hob'
          exact hob'.1.mono hg this
    · intro t ht
      rw [get_put _ _ _ _ hda]
      have hdt:d ≠ t:=fun e=>ht i o (.inr rfl) hi (by rw [hd,e])
      rw [if_neg hdt]
      exact hinv.rest t fun j o' hj=>ht j o' (.inl hj)
    · intro j o' ho' hj x hx
      rcases hj with hj | rfl
      · exact .inl (hinv.closed j o' ho' hj x hx)
      · rw [hi,Option.some.injEq] at ho'; subst ho'; exact .inl (hb x hx)
    · intro j hj
      rcases hj with hj | rfl
      · exact hinv.mem j hj
      · exact nth_lt hi
  have gval : ∀ j w', o.guard = some (j, w') → ∃ oj ej dj, nth A.toList j = some oj ∧ nth es j = some ej ∧ oj.dst = some dj ∧ dj < n ∧
      (match ej.R with | some R=>R (a.get dj) k | none=>a.get dj = undef):=by
    intro j w' hg
    rw [hg] at hgd
    simp only [List.contains_iff_mem] at hgd
    have hDj:=hb j hgd
    have hjl:=hinv.mem j hDj
    obtain ⟨oj,hoj⟩ : ∃ oj,nth A.toList j = some oj:=⟨_,by rw [nth_eq]; exact List.getElem?_eq_getElem hjl⟩
    obtain ⟨ej,hej,hcj⟩:=entry j oj hoj (hDm j hDj)
    simp only [chkOp,Bool.and_eq_true] at hcj
    obtain ⟨dj,hdj,hdjn⟩ : ∃ d,oj.dst = some d∧d < n:=by
      have:=hcj.1.1
      cases hod:oj.dst with
      | none=>rw [hod] at this; simp at this
      | some d=>rw [hod] at this; exact ⟨d,rfl,by simpa using this⟩
    exact ⟨oj,ej,dj,hoj,hej,hdj,hdjn,hinv.vals j oj dj ej hDj hoj hdj hej⟩
  unfold wpOp
  rw [hAi]
  simp only []
  unfold Ob at hob
  cases hR:e.R with
  | some R =>
    rw [hR] at hob fin
    obtain ⟨hmono,hob⟩:=hob
    have hknown:Known es a0 a k e.need:=by
      refine known_of _ ?_ ?_
      · intro t j htj R' nd hj
        have:=List.all_eq_true.1 hneed _ htj
        simp only [Bool.and_eq_true,List.contains_iff_mem,beq_iff_eq] at this
        obtain ⟨hjb,hjd⟩:=this
        have hDj:=hb j hjb
        cases hoj:nth A.toList j with
        | none=>rw [hoj] at hjd; simp at hjd
        | some oj =>
          rw [hoj] at hjd
          exact hinv.vals j oj t _ hDj hoj hjd hj
      · intro t ht
        have:=List.all_eq_true.1 hneed _ ht
        simp only at this
        refine hinv.rest t fun j oj hDj hoj hdj=>?_
        have hj:=allI_spec this j oj hoj
        simp only [Nat.zero_add,Bool.or_eq_true,bne_iff_ne,beq_iff_eq] at hj
        rcases hj with (h | h) | h
        · exact h hdj
        · exact hDi (h ▸ hDj)
        · exact hDi (hasBit_spec hinv.closed (fun o' ho'=>hinv.closed j o' ho' hDj) h)
    rcases hob with ⟨hdo, hguard⟩ | ⟨j, w', Rj, ndj, hg, hj', hrun, hskip⟩
    rotate_left
    · obtain ⟨oj, ej, dj, hoj, hej, hdj, hdjn, hv⟩ := gval j w' hg
      have hy:=yielded_eq hoj hdj (show dj < a.tmps.size by rw [hsz]; exact hdjn)
      rw [hej,Option.some.injEq] at hj'
      subst hj'
      simp only at hv
      by_cases hvw:a.get dj = .bool w'
      · have hw : Region.wanted o (yielded A a.tmps) = true := by
          unfold Region.wanted
          rw [hg]
          simp only [hy,hvw]
          simp
        rw [if_pos hw]
        exact .inl (hrun a k _ hinv.grow hknown hv hvw C Q hQ fun v k' hg' hv'=>fin v k' hg' hv')
      · have hw : Region.wanted o (yielded A a.tmps) = false := by
          unfold Region.wanted
          rw [hg]
          simp only [hy]
          cases hvv:a.get dj with
          | bool c =>
            rw [hvv] at hvw
            simp only [Value.bool.injEq] at hvw
            cases c <;> cases w' <;> simp_all
          | _=>simp
        rw [hw]
        simp only [Bool.false_eq_true,if_false]
        exact fin undef k (Grow.refl k) (hskip k _ hinv.grow hv hvw)
    have hw:Region.wanted o (yielded A a.tmps) = true:=by
      unfold Region.wanted
      cases hg:o.guard with
      | none=>rfl
      | some jw =>
        obtain ⟨j,w'⟩:=jw
        obtain ⟨oj,ej,dj,hoj,hej,hdj,hdjn,hv⟩:=gval j w' hg
        unfold GuardIs at hguard
        rw [hg] at hguard
        simp only [hej] at hguard
        have hy:=yielded_eq hoj hdj (show dj < a.tmps.size by rw [hsz]; exact hdjn)
        simp only [hy]
        obtain ⟨Rj,nj⟩:=ej
        cases Rj with
        | none=>simp at hguard
        | some Rj=>simp only [hguard _ _ hv]; simp
    rw [if_pos hw]
    exact .inl (hdo a k hinv.grow hknown C Q hQ fun v k' hg hv=>fin v k' hg hv)
  | none =>
    rw [hR] at hob fin
    have hw:Region.wanted o (yielded A a.tmps) = false:=by
      unfold Region.wanted
      unfold GuardIs at hob
      cases hg:o.guard with
      | none=>rw [hg] at hob; simp at hob
      | some jw =>
        obtain ⟨j,w'⟩:=jw
        obtain ⟨oj,ej,dj,hoj,hej,hdj,hdjn,hv⟩:=gval j w' hg
        rw [hg] at hob
        simp only [hej] at hob
        have hy:=yielded_eq hoj hdj (show dj < a.tmps.size by rw [hsz]; exact hdjn)
        simp only [hy]
        obtain ⟨Rj,nj⟩:=ej
        cases Rj with
        | none=>simp only at hv; simp only [hv]; simp [undef]
        | some Rj=>simp only [hob _ _ hv]; cases w' <;> simp
    rw [hw]
    simp only [Bool.false_eq_true,if_false]
    exact fin undef k (Grow.refl k) rfl

end
section
variable {P:Program} {a:Act} {k:K} {α:Type} [Enc α]
/-- A new box, whatever is in it. -/
def IsBoxS (α:Type) [Enc α] (B:Nat):Pred:=fun v k=>∃ x:α,IsBox B x v k
instance (B:Nat):Mono (IsBoxS α B):=⟨fun g ⟨x,h⟩=>⟨x,Mono.mono g h⟩⟩
def PersN (ja:Nat):Nat → List Ent → Prop
  | _,[]=>True
  | i, ⟨some R, _⟩ :: l => (i = ja ∨ ∀ v k k', Le k k' → R v k → R v k') ∧ PersN ja (i + 1) l
  | _,⟨none,_⟩::_=>False
theorem PersN.at {ja : Nat} : ∀ {es : List Ent} {n i : Nat} {R : Option Pred} {nd : List (Nat × Option Nat)}, PersN ja n es → nth es i = some ⟨R, nd⟩ → n + i ≠ ja → ∃ R', R = some R' ∧ ∀ v k k', Le k k' → R' v k → R' v k'
  | ⟨some R, _⟩ :: _, n, 0, _, _, h, e, hne => by
    have e:=Option.some.inj e
    injection e with e1 _
    exact ⟨R,e1.symm,h.1.resolve_left hne⟩
  | ⟨some _,_⟩::l,n,i + 1,_,_,h,e,hne=>PersN.at (es:=l) (n:=n + 1) (i:=i) h.2 e (by omega)
  | ⟨none,_⟩::_,_,_,_,_,h,_,_=>h.elim

end
end Go.Gb

/- General part of the proofs: regions in which operations that only look may come behind the first store, into a box that the region makes; moves and extracts may also come behind what follows it. -/
namespace Go.Gb
section
variable {P:Program} {a0:Act} {k0:K} {es:List Ent}
/-- Operations in front of number m that look at no world. -/
def lateOk (m:Nat) (late:List Nat) (A:Array Oper):Bool:=
  Region.noSelect A && late.all fun l=>isPure A l && Nat.blt l m && (match A[l]? with
    | some o => (binding o).all (fun e => hasBit (masks A.toList []) m e || late.contains e) &&
      allI (fun j oj=>Nat.beq j l || hasBit (masks A.toList []) l j || (binding oj).contains l || o.apart A oj) 0 A.toList
    | none=>false)
def chkC (m:Nat) (late:List Nat) (ops:List Oper):Bool:=allI (fun j _=>Nat.ble j m || (List.range j).all fun i=>hasBit (masks ops []) j i || late.contains i) 0 ops
theorem chkC_spec {m:Nat} {late:List Nat} {ops:List Oper} (h:chkC m late ops = true) : ∀ j o,nth ops j = some o → m < j → ∀ i,i < j → hasBit (masks ops []) j i = true ∨ i ∈ late:=by
  intro j o ho hmj i hij
  have hc:=allI_spec h j o ho
  simp only [Nat.zero_add,Bool.or_eq_true,Nat.ble_eq] at hc
  have hc:=hc.resolve_left (by omega)
  have:=List.all_eq_true.1 hc i (by simp; omega)
  simpa using this
theorem lateOk_spec {m:Nat} {late:List Nat} {A:Array Oper} (h:lateOk m late A = true):Region.noSelect A = true∧∀ l ∈ late,∃ o,A[l]? = some o ∧
    (∀ a : Act, (∃ v, ∀ w, (execOp a.eval o).run P w = .ok (.value v) w) ∨ (∀ w, ∃ x w', (execOp a.eval o).run P w = .halt x w' ∧ ∀ c, x ≠ .panic c)) ∧ o.guard = none ∧ l < m ∧
    (∀ e ∈ binding o,hasBit (masks A.toList []) m e = true ∨ e ∈ late) ∧
    ∀ j oj,nth A.toList j = some oj → j = l ∨ hasBit (masks A.toList []) l j = true ∨ l ∈ binding oj ∨ o.apart A oj = true:=by
  unfold lateOk at h
  simp only [Bool.and_eq_true] at h
  refine ⟨h.1,fun l hl=>?_⟩
  have h1:=List.all_eq_true.1 h.2 l hl
  simp only [Bool.and_eq_true,Nat.blt_eq] at h1
  obtain ⟨⟨h2,h3⟩,h4⟩:=h1
  obtain ⟨o,hA,hg,hp⟩:=isPure_spec (P:=P) h2
  rw [hA] at h4
  simp only [Bool.and_eq_true] at h4
  refine ⟨o,hA,hp,hg,h3,fun e he=>?_,fun j oj hj=>?_⟩
  · have := List.all_eq_true.1 h4.1 e he
    simpa using this
  · have := allI_spec h4.2 j oj hj
    simp only [Nat.zero_add,Bool.or_eq_true,List.contains_iff_mem] at this
    rcases this with ((h5 | h5) | h5) | h5
    · exact .inl (Nat.eq_of_beq_eq_true h5)
    · exact .inr (.inl h5)
    · exact .inr (.inr (.inl h5))
    · exact .inr (.inr (.inr h5))
theorem tail_anyC {A:Array Oper} {m:Nat} {Q:Exit → Act → World → Prop} (hedge:allI (fun i o=>(binding o).all (· < i)) 0 A.toList = true) (htail : ∀ j o,nth A.toList j = some o → ∀ i,m < i → i < j → hasBit (masks A.toList []) j i = true) :
    ∀ (fuel i:Nat) (listed:Array Bool) (a:Act) (w:World),m + 1 ≤ i → i + fuel = A.size → listed.size = A.size → (∀ j,listed.getD j false = true ↔ j < i) →
      wpOps P A Q (List.range' i fuel) a w → wpAny P .any A Q fuel listed a w:=by
  have hready : ∀ (i:Nat) (listed:Array Bool),m + 1 ≤ i → listed.size = A.size → (∀ j,listed.getD j false = true ↔ j < i) → ∀ j,j ∈ Region.ready .any A listed ↔ (j = i∧i < A.size):=by
    intro i listed hmi hls hD j
    simp only [Region.ready,List.mem_filter,List.mem_range,Bool.and_eq_true,Bool.not_eq_true']
    have hT : ∀ j,j < A.size → listed.getD j true = listed.getD j false:=by
      intro j hj; simp [Array.getD_eq_getD_getElem?,Array.getElem?_eq_getElem (show j < listed.size by omega)]
    constructor
    · rintro ⟨hjA, hj1, hj2⟩
      rw [hT j hjA] at hj1
      have hji : ¬ j < i:=fun h=>by rw [(hD j).2 h] at hj1; simp at hj1
      rcases Nat.lt_or_ge i j with hlt | hge
      · exfalso
        have ho:nth A.toList j = some A[j]:=by rw [nth_toList]; simp [hjA]
        have hbit:=htail j _ ho i (by omega) hlt
        have hdown : ∀ x o', nth A.toList x = some o' → x < i → ∀ e ∈ binding o', e < i := by
          intro x o' hx hxi e he
          have:=allI_spec hedge x o' hx
          simp only [Nat.zero_add,List.all_eq_true,decide_eq_true_eq] at this
          have:=this e he
          omega
        have:=hasBit_spec (L:=A.toList) (D:=(· < i)) hdown (j:=j) (i:=i) ?_ hbit
        · omega
        · intro o' ho' e he
          rw [ho,Option.some.injEq] at ho'
          subst ho'
          have hA:A[j]? = some A[j]:=by simp [hjA]
          rw [hA] at hj2
          simp only [Option.map_some,Option.getD_some,Array.all_eq_true_iff_forall_mem] at hj2
          simp only [binding,List.mem_map,List.mem_filter,Array.mem_toList_iff] at he
          obtain ⟨y,⟨hy,hyb⟩,rfl⟩:=he
          have:=hj2 y hy
          simp only [hyb,Bool.not_true,Bool.false_or] at this
          exact (hD _).1 this
      · exact ⟨by omega,by omega⟩
    · rintro ⟨rfl, hlt⟩
      refine ⟨hlt,?_,?_⟩
      · rw [hT j hlt]
        cases hb:listed.getD j false with
        | false=>rfl
        | true=>have:=(hD j).1 hb; omega
      · have hA : A[j]? = some A[j] := by simp [hlt]
        rw [hA]
        simp only [Option.map_some,Option.getD_some,Array.all_eq_true_iff_forall_mem]
        intro y hy
        cases hyb:Region.binds .any y with
        | false=>rfl
        | true =>
          simp only [Bool.not_true,Bool.false_or]
          have ho:nth A.toList j = some A[j]:=by rw [nth_toList]; simp [hlt]
          have:=allI_spec hedge j _ ho
          simp only [Nat.zero_add,List.all_eq_true,decide_eq_true_eq] at this
          exact (hD _).2 (this y.on (by simp only [binding,List.mem_map,List.mem_filter,Array.mem_toList_iff]; exact ⟨y,⟨hy,hyb⟩,rfl⟩))
  intro fuel
  induction fuel with
  | zero =>
    intro i listed a w hmi hi hls hD h
    refine ⟨?_,by simpa [wpOps] using h⟩
    refine List.eq_nil_iff_forall_not_mem.2 fun j hj=>?_
    have:=(hready i listed hmi hls hD j).1 hj
    omega
  | succ fuel ih =>
    intro i listed a w hmi hi hls hD h
    refine ⟨fun hnil=>?_,fun j hj=>?_⟩
    · have := (hready i listed hmi hls hD i).2 ⟨rfl, by omega⟩
      rw [hnil] at this; simp at this
    · obtain ⟨rfl, hlt⟩ := (hready i listed hmi hls hD j).1 hj
      rw [List.range'_succ,wpOps_cons] at h
      refine wpOp_mono (fun a' w' h'=>ih (j + 1) _ a' w' (by omega) (by omega) (by simp [hls]) (fun x=>?_) h') h
      by_cases hx:x = j
      · subst hx; simp [Array.getD_eq_getD_getElem?,hls,hlt]
      · rw [getD_set_ne _ (fun e=>hx e.symm),hD]; omega

theorem any_stP {A:Array Oper} {n m:Nat} {Q:Exit → Act → World → Prop} {B:K → Value → Prop} {pt ja:Nat} {late:List Nat} (hpt : ∀ i o,i ≠ ja → nth A.toList i = some o → o.dst ≠ some pt) (hjb:hasBit (masks A.toList []) m ja = true) (hn:a0.tmps.size = n) (hS:chkS n m A.toList es = true) (hmA:m < A.size) (htail:chkC m late A.toList = true) (hlate:lateOk m late A = true) (hQp : ∀ c a w,¬ Q (.panic c) a w)
    (hst:Steps P es a0 k0 (A.toList.take m) es) (hB : ∀ kb u,B kb u → Steps P es a0 kb (A.toList.take m) es) (hQ:LetsOut Q)
    (hT : ∀ a k (D:Nat → Prop),(∀ j,D j → j < m) → Inv A.toList es a0 k0 D a k → (∀ o,nth A.toList m = some o → ∀ e ∈ binding o,D e) →
      ∀ C:Act → World → Prop,(∀ kb k1,B kb (a.get pt) → Inv A.toList es a0 kb D a k1 → C a k1.w) → wpOp P A Q m C a k.w)
    (hpost : ∀ kb a k,B kb (a.get pt) → Inv A.toList es a0 kb (· < m) a k → wpOps P A Q (List.range' (m + 1) (A.size - (m + 1))) a k.w) :
    ∀ (fuel:Nat) (listed:Array Bool) (a:Act) (k:K),listed.size = A.size → fuel = (listed.toList.filter (· = false)).length →
      (∀ j,listed.getD j false = true → j ≤ m) →
      ((listed.getD m false = false∧Inv A.toList es a0 k0 (fun j=>listed.getD j false = true) a k) ∨
       (listed.getD m false = true∧(∀ o,nth A.toList m = some o → ∀ e ∈ binding o,listed.getD e false = true)∧∃ kb,B kb (a.get pt)∧Inv A.toList es a0 kb (fun j=>listed.getD j false = true∧j < m) a k∧∀ l ∈ late,listed.getD l false = true)) →
      wpAny P .any A Q fuel listed a k.w:=by
  have hS':=hS
  simp only [chkS,Bool.and_eq_true,beq_iff_eq,decide_eq_true_eq] at hS'
  obtain ⟨⟨⟨⟨hlen,hml⟩,h2⟩,hedge⟩,hdist⟩:=hS'
  obtain ⟨hnos,hlsp⟩:=lateOk_spec hlate
  have htail2 : ∀ j o,nth A.toList j = some o → ∀ i,m < i → i < j → hasBit (masks A.toList []) j i = true:=fun j o ho i hmi hij=>by
    rcases chkC_spec htail j o ho (by omega) i hij with h | h
    · exact h
    · obtain ⟨_, _, _, _, h1, _⟩ := hlsp i h
      omega
  intro fuel
  induction fuel with
  | zero =>
    intro listed a k hls hf hDm hinv
    have hall : ∀ j,j < A.size → listed.getD j false = true:=by
      intro j hj
      have hz:=List.eq_nil_of_length_eq_zero hf.symm
      have:listed[j]'(by omega) ∉ listed.toList.filter (· = false):=by rw [hz]; simp
      simp only [List.mem_filter,Array.mem_toList_iff,Array.getElem_mem,true_and,decide_eq_true_eq,Bool.not_eq_false] at this
      simp [Array.getD_eq_getD_getElem?,Array.getElem?_eq_getElem (show j < listed.size by omega),this]
    have hm:A.size = m + 1:=by
      rcases Nat.lt_or_ge (m + 1) A.size with h | h
      · have:=hDm (m + 1) (hall _ h); omega
      · omega
    rcases hinv with ⟨h,_⟩ | ⟨_,_,kb,hb,hinv,_⟩
    · rw [hall m hmA] at h; simp at h
    · have he : (fun j => listed.getD j false = true ∧ j < m) = (· < m) := funext fun j => propext ⟨fun h => h.2, fun h => ⟨hall j (by omega), h⟩⟩
      rw [he] at hinv
      refine tail_anyC (m:=m) hedge htail2 0 (m + 1) listed a k.w (Nat.le_refl _) (by omega) hls (fun j=>⟨fun h=>by have:=hDm j h; omega,fun h=>hall j (by omega)⟩) ?_
      have:=hpost kb a k hb hinv
      rwa [show A.size - (m + 1) = 0 by omega] at this
  | succ fuel ih =>
    intro listed a k hls hf hDm hinv
    have hT2 : ∀ j,j < A.size → listed.getD j true = listed.getD j false:=by
      intro j hj; simp [Array.getD_eq_getD_getElem?,Array.getElem?_eq_getElem (show j < listed.size by omega)]
    have hbind : ∀ j,j < A.size → ((A[j]?).map (·.after.all fun e=>!Region.binds .any e || listed.getD e.on false)).getD false = true →
        ∀ o,nth A.toList j = some o → ∀ e ∈ binding o,listed.getD e false = true:=by
      intro j hjA hj2 o ho e he
      have hA:A[j]? = some o:=by rw [← nth_toList]; exact ho
      rw [hA] at hj2
      simp only [Option.map_some,Option.getD_some,Array.all_eq_true_iff_forall_mem] at hj2
      simp only [binding,List.mem_map,List.mem_filter,Array.mem_toList_iff] at he
      obtain ⟨y,⟨hy,hyb⟩,rfl⟩:=he
      have:=hj2 y hy
      simpa only [hyb,Bool.not_true,Bool.false_or] using this
    by_cases hfull : ∀ j,j < m + 1 → listed.getD j false = true
    · rcases hinv with ⟨h, _⟩ | ⟨_, _, kb, hb, hinv, _⟩
      · rw [hfull m (by omega)] at h; simp at h
      · have hD : ∀ j, listed.getD j false = true ↔ j < m + 1 := fun j => ⟨fun h => by have := hDm j h; omega, hfull j⟩
        have he:(fun j=>listed.getD j false = true∧j < m) = (· < m):=funext fun j=>propext ⟨fun h=>h.2,fun h=>⟨hfull j (by omega),h⟩⟩
        rw [he] at hinv
        have hcount:=full_count hmA hls hD
        rw [← hf] at hcount
        refine tail_anyC (m:=m) hedge htail2 (fuel + 1) (m + 1) listed a k.w (Nat.le_refl _) (by omega) hls hD ?_
        rw [hcount]; exact hpost kb a k hb hinv
    · have hex : ∃ j, j < m + 1 ∧ listed.getD j false = false ∧ ∀ i, i < j → listed.getD i false = true := by
        obtain ⟨j,hj⟩:=Classical.not_forall.1 hfull
        have hj:j < m + 1∧listed.getD j false = false:=by
          by_cases h:j < m + 1
          · exact ⟨h,by cases hb:listed.getD j false with | false=>rfl | true=>exact absurd (fun _=>hb) hj⟩
          · exact absurd (fun h'=>absurd h' h) hj
        clear hfull
        induction j using Nat.strongRecOn with
        | _ j ihj =>
          by_cases hall : ∀ i,i < j → listed.getD i false = true
          · exact ⟨j,hj.1,hj.2,hall⟩
          · obtain ⟨i, hi⟩ := Classical.not_forall.1 hall
            obtain ⟨hij,hib⟩:i < j∧¬ listed.getD i false = true:=⟨Classical.byContradiction fun h=>hi fun h'=>absurd h' h,fun h=>hi fun _=>h⟩
            exact ihj i hij (fun h=>absurd (h (by omega)) hib) ⟨by omega,by simpa using hib⟩
      have hclosed : ∀ x o', nth A.toList x = some o' → listed.getD x false = true → ∀ e ∈ binding o', listed.getD e false = true := by
        intro x o' ho' hx e he
        rcases hinv with ⟨_,hinv⟩ | ⟨_,hmc,kb,_,hinv,_⟩
        · exact hinv.closed x o' ho' hx e he
        · by_cases hxm : x = m
          · subst hxm; exact hmc o' ho' e he
          · exact (hinv.closed x o' ho' ⟨hx,by have:=hDm x hx; omega⟩ e he).1
      by_cases hpl : ∃ l ∈ late,listed.getD l false = false∧l ∈ Region.ready .any A listed
      · obtain ⟨l, hl, hll, hlr⟩ := hpl
        rcases hinv with ⟨hm0,hinv⟩ | ⟨_,_,_,_,_,hall⟩
        rotate_left
        · rw [hall l hl] at hll; simp at hll
        obtain ⟨o,hA,hp,hgd,hlm,hbnd,hap⟩:=hlsp l hl
        have ho:nth A.toList l = some o:=by rw [nth_toList]; exact hA
        have hlA:l < A.size:=by omega
        have hDlt : ∀ j,listed.getD j false = true → j < m:=fun j hj=>by
          have h1:=hDm j hj
          rcases Nat.lt_or_ge j m with h | h
          · exact h
          · obtain rfl : j = m := by omega
            rw [hj] at hm0; simp at hm0
        have hb : ∀ e ∈ binding o,listed.getD e false = true:=by
          have hlr':=hlr
          simp only [Region.ready,List.mem_filter,List.mem_range,Bool.and_eq_true] at hlr'
          exact hbind l hlA hlr'.2.2 o ho
        have hs1 := step_opG (Q := fun _ _ _ => False) (C := fun a' w' => ∃ k', w' = k'.w ∧ Inv A.toList es a0 k0 (fun j => listed.getD j false = true ∨ j = l) a' k') hn hS hst hinv hDlt ho hlm hb (by simp [hll]) trivial fun a' k' _ hinv' => ⟨k', rfl, hinv'⟩
        have hw : ∀ a:Act,Region.wanted o (yielded A a.tmps) = true:=fun a=>by unfold Region.wanted; rw [hgd]
        unfold wpOp at hs1
        rw [hA] at hs1
        simp only [hw,if_true] at hs1
        have hs1 := hs1.resolve_right fun hx => by obtain ⟨_, b, w', hb⟩ := hx; exact hb
        unfold Oper.wp at hs1
        obtain ⟨v,hv⟩ : ∃ v,∀ w,(execOp a.eval o).run P w = .ok (.value v) w:=by
          rcases hp a with h | hx
          · exact h
          · obtain ⟨x, w', hr', hnp⟩ := hx k.w
            rw [hr'] at hs1
            cases x <;> simp only [Oper.upon] at hs1
        rw [hv k.w] at hs1
        obtain ⟨k', hkw, hinv'⟩ := hs1
        refine wpAny_first hA (Region.noSelect_spec hnos) (fun c a w hq=>absurd hq (hQp c _ w)) fuel listed a k.w (fun j oj hj hji hjl hjn=>?_) hlr (.inl ⟨hw a,hv⟩) ?_
        · have hjA : j < A.size := (Array.getElem?_eq_some_iff.1 hj).1
          rw [hT2 j hjA] at hjl
          rcases hap j oj (by rw [nth_toList]; exact hj) with h | h | h | h
          · exact absurd h hji
          · have := hasBit_spec (L := A.toList) (D := fun x => listed.getD x false = true) hclosed (j := l) (i := j) (fun o' ho' => by
              rw [ho,Option.some.injEq] at ho'; subst ho'; exact hb) h
            rw [this] at hjl; simp at hjl
          · simp only [binding, List.mem_map, List.mem_filter, Array.mem_toList_iff] at h
            obtain ⟨y,⟨hy,hyb⟩,rfl⟩:=h
            exact absurd rfl (hjn y hy hyb)
          · exact h
        · rw [hkw]
          have hil:l < listed.size:=by omega
          have hcnt:=count_set hil hll
          rw [← hf] at hcnt
          refine ih _ _ k' (by simp [hls]) (by omega) (fun j hj=>by
            by_cases hji:j = l
            · omega
            · rw [getD_set_ne _ (fun e=>hji e.symm)] at hj; exact hDm j hj) (.inl ⟨by rw [getD_set_ne _ (by omega)]; exact hm0,?_⟩)
          have he:(fun j=>(listed.setIfInBounds l true).getD j false = true) = (fun j=>listed.getD j false = true ∨ j = l):=by
            funext j
            by_cases hji:j = l
            · subst hji; simp [Array.getD_eq_getD_getElem?,hil]
            · rw [getD_set_ne _ (fun e=>hji e.symm)]; simp [hji]
          rw [he]; exact hinv'
      refine ⟨fun hnil=>?_,fun i hi=>?_⟩
      · exfalso
        obtain ⟨j,hjm,hjb,hlow⟩:=hex
        have hjr:j ∈ Region.ready .any A listed:=by
          simp only [Region.ready,List.mem_filter,List.mem_range,Bool.and_eq_true,Bool.not_eq_true']
          refine ⟨by omega,by rw [hT2 j (by omega)]; exact hjb,?_⟩
          have hA:A[j]? = some A[j]:=by simp [show j < A.size by omega]
          rw [hA]
          simp only [Option.map_some,Option.getD_some,Array.all_eq_true_iff_forall_mem]
          intro y hy
          cases hyb:Region.binds .any y with
          | false=>rfl
          | true =>
            simp only [Bool.not_true,Bool.false_or]
            have ho:nth A.toList j = some A[j]:=by rw [nth_toList]; exact hA
            have:=allI_spec hedge j _ ho
            simp only [Nat.zero_add,List.all_eq_true,decide_eq_true_eq] at this
            exact hlow _ (this y.on (by simp only [binding,List.mem_map,List.mem_filter,Array.mem_toList_iff]; exact ⟨y,⟨hy,hyb⟩,rfl⟩))
        rw [hnil] at hjr; simp at hjr
      · simp only [Region.ready, List.mem_filter, List.mem_range, Bool.and_eq_true, Bool.not_eq_true'] at hi
        obtain ⟨hiA,hi1,hi2⟩:=hi
        rw [hT2 i hiA] at hi1
        have ho:nth A.toList i = some A[i]:=by rw [nth_toList]; simp [hiA]
        have hb:=hbind i hiA hi2 _ ho
        have hbm : ∀ e ∈ binding A[i],e < i:=by
          have:=allI_spec hedge i _ ho
          simp only [Nat.zero_add,List.all_eq_true,decide_eq_true_eq] at this
          exact this
        have him:i ≤ m:=by
          rcases Nat.lt_or_ge m i with h | h
          · exfalso
            have hc:=chkC_spec htail i _ ho h
            obtain ⟨j,hjm,hjb,hlow⟩:=hex
            have hml:listed.getD m false = true:=by
              rcases hc m h with hbit | hbit
              · exact hasBit_spec (L:=A.toList) (D:=fun x=>listed.getD x false = true) hclosed (j:=i) (i:=m) (fun o' ho'=>hbind i hiA hi2 o' ho') hbit
              · obtain ⟨_, _, _, _, h1, _⟩ := hlsp m hbit
                omega
            have hall : ∀ l ∈ late,listed.getD l false = true:=by
              rcases hinv with ⟨h0,_⟩ | ⟨_,_,_,_,_,h0⟩
              · rw [h0] at hml; simp at hml
              · exact h0
            rcases hc j (by omega) with hbit | hbit
            · have := hasBit_spec (L := A.toList) (D := fun x => listed.getD x false = true) hclosed (j := i) (i := j)
                (fun o' ho'=>hbind i hiA hi2 o' ho') hbit
              rw [this] at hjb; simp at hjb
            · rw [hall j hbit] at hjb; simp at hjb
          · exact h
        have hil:i < listed.size:=by omega
        have hcnt:=count_set hil hi1
        rw [← hf] at hcnt
        have hDm' : ∀ j,(listed.setIfInBounds i true).getD j false = true → j ≤ m:=fun j hj=>by
          by_cases hji:j = i
          · omega
          · rw [getD_set_ne _ (fun e=>hji e.symm)] at hj; exact hDm j hj
        have hset : ∀ j,(listed.setIfInBounds i true).getD j false = true ↔ (listed.getD j false = true ∨ j = i):=by
          intro j
          by_cases hji:j = i
          · subst hji; simp [Array.getD_eq_getD_getElem?,show j < listed.size by omega]
          · rw [getD_set_ne _ (fun e=>hji e.symm)]; simp [hji]
        by_cases hie:i = m
        · -- the store
          subst hie
          rcases hinv with ⟨_,hinv⟩ | ⟨h,_⟩
          · have hDlt : ∀ j, listed.getD j false = true → j < i := fun j hj => by
              have h1:=hDm j hj
              rcases Nat.lt_or_ge j i with h | h
              · exact h
              · obtain rfl : j = i := by omega
                rw [hj] at hi1; simp at hi1
            have hall : ∀ l,l ∈ late → listed.getD l false = true:=by
              intro l
              induction l using Nat.strongRecOn with
              | _ l ihl =>
                intro hl
                cases hb' : listed.getD l false with
                | true=>rfl
                | false =>
                  exfalso
                  obtain ⟨ol,hAl,_,_,hlm,hbnd,_⟩:=hlsp l hl
                  refine hpl ⟨l, hl, hb', mem_ready.2 ⟨by rw [hT2 l (by omega)]; exact hb', ol, hAl, fun e he hbe => ?_⟩⟩
                  have hmem:e.on ∈ binding ol:=by simp only [binding,List.mem_map,List.mem_filter,Array.mem_toList_iff]; exact ⟨e,⟨he,hbe⟩,rfl⟩
                  have hlt:=allI_spec hedge l ol (by rw [nth_toList]; exact hAl)
                  simp only [Nat.zero_add,List.all_eq_true,decide_eq_true_eq] at hlt
                  rcases hbnd _ hmem with h | h
                  · exact hasBit_spec (L:=A.toList) (D:=fun x=>listed.getD x false = true) hclosed (j:=i) (i:=e.on) (fun o' ho'=>hbind i hiA hi2 o' ho') h
                  · exact ihl _ (hlt _ hmem) h
            refine hT a k (fun j=>listed.getD j false = true) hDlt hinv (fun o' ho'=>by
              rw [ho,Option.some.injEq] at ho'; subst ho'; exact hb) _ fun kb k1 h1 h3=>?_
            refine (ih _ a k1 (by simp [hls]) (by omega) hDm' (.inr ⟨(hset i).2 (.inr rfl),fun o' ho' e he=>?_,kb,h1,?_,fun l hl=>(hset l).2 (.inl (hall l hl))⟩))
            · rw [ho, Option.some.injEq] at ho'; subst ho'
              exact (hset e).2 (.inl (hb e he))
            · have he : (fun j => (listed.setIfInBounds i true).getD j false = true ∧ j < i) = (fun j => listed.getD j false = true) := by
                funext j
                refine propext ⟨fun h=>?_,fun h=>⟨(hset j).2 (.inl h),hDlt j h⟩⟩
                rcases (hset j).1 h.1 with h5 | h5
                · exact h5
                · have:=h.2; omega
              rw [he]; exact h3
          · rw [h] at hi1; simp at hi1
        · have hilt : i < m := by omega
          rcases hinv with ⟨hm0,hinv⟩ | ⟨hm1,hmc,kb,hbB,hinv,hall⟩
          · have hDlt : ∀ j, listed.getD j false = true → j < m := fun j hj => by
              have h1:=hDm j hj
              rcases Nat.lt_or_ge j m with h | h
              · exact h
              · obtain rfl : j = m := by omega
                rw [hj] at hm0; simp at hm0
            refine step_opG hn hS hst hinv hDlt ho hilt hb (by simp [hi1]) hQ fun a' k' _ hinv'=>?_
            refine ih _ a' k' (by simp [hls]) (by omega) hDm' (.inl ⟨by rw [getD_set_ne _ hie]; exact hm0,?_⟩)
            have he:(fun j=>(listed.setIfInBounds i true).getD j false = true) = (fun j=>listed.getD j false = true ∨ j = i):=funext fun j=>propext (hset j)
            rw [he]; exact hinv'
          · have hjl := hasBit_spec (L := A.toList) (D := fun x => listed.getD x false = true) hclosed (j := m) (i := ja) hmc hjb
            have hne:i ≠ ja:=fun e=>by subst e; rw [hjl] at hi1; simp at hi1
            refine step_opG hn hS (hB kb _ hbB) hinv (fun j h=>h.2) ho hilt (fun e he=>⟨hb e he,by have:=hbm e he; omega⟩) (fun h=>by rw [h.1] at hi1; simp at hi1) hQ fun a' k' hsame hinv'=>?_
            refine ih _ a' k' (by simp [hls]) (by omega) hDm' (.inr ⟨by rw [getD_set_ne _ hie]; exact hm1,fun o' ho' e he=>(hset e).2 (.inl (hmc o' ho' e he)),kb,(by rw [hsame pt (hpt i _ hne ho)]; exact hbB),?_,fun l hl=>(hset l).2 (.inl (hall l hl))⟩)
            have he:(fun j=>(listed.setIfInBounds i true).getD j false = true∧j < m) = (fun j=>(listed.getD j false = true∧j < m) ∨ j = i):=by
              funext j
              rw [hset j]
              refine propext ⟨fun h=>?_,fun h=>?_⟩
              · rcases h.1 with h5 | h5
                · exact .inl ⟨h5,h.2⟩
                · exact .inr h5
              · rcases h with h | h
                · exact ⟨.inl h.1,h.2⟩
                · exact ⟨.inr h,by omega⟩
            rw [he]; exact hinv'
end
end Go.Gb

/- General part of the proofs: slices that are made with their zero elements. -/
namespace Go.Gb
section
variable {P:Program} {o:Oper} {a:Act} {k:K} {α:Type} [Enc α]
/-- as many zeros -/
def makeI {γ:Type} (n:Int) (z:γ):Option (List γ):=if 0 ≤ n∧n ≤ 1073741824 then some (List.replicate n.toNat z) else none
theorem madeCells_succ {z:Array Value} {s:Nat} (hz:z.size = s) (h0:0 < s) (n:Nat):(madeCells z ((n + 1) * s)).toList = (madeCells z (n * s)).toList ++ z.toList:=by
  apply List.ext_getElem?
  intro j
  have e:(n + 1) * s = n * s + s:=Nat.succ_mul n s
  rcases Nat.lt_or_ge j (n * s) with hj | hj
  · rw [List.getElem?_append_left (by simpa [madeCells] using hj)]
    simp [madeCells,hj,show j < (n + 1) * s by omega]
  · rw [List.getElem?_append_right (by simpa [madeCells] using hj)]
    rcases Nat.lt_or_ge j ((n + 1) * s) with hj2 | hj2
    · have hm : j % z.size = j - n * s := by
        rw [hz,← Nat.mod_eq_of_lt (show j - n * s < s by omega)]
        conv=>lhs; rw [show j = (j - n * s) + n * s by omega]
        rw [Nat.add_mul_mod_self_right]
      have hl:j - n * s < z.size:=by omega
      have hlen:(madeCells z (n * s)).toList.length = n * s:=by simp [madeCells]
      simp only [hlen]
      simp [madeCells,hj2,hm,hl]
    · simp [madeCells, hj2]
      omega
theorem repL_made {z:Array Value} {x:α} (hz:z.size = Enc.sz α) (h0:0 < Enc.sz α) (h:Enc.rep k z.toList x) : ∀ n,RepL k (madeCells z (n * Enc.sz α)).toList (List.replicate n x)
  | 0=>by simp [madeCells,RepL]
  | n + 1 => by
    rw [madeCells_succ hz h0,List.replicate_succ']
    exact RepL.append (repL_made hz h0 h n) (by simpa using RepL.cons h (show RepL k [] ([]:List α) from rfl))
theorem ok_makeSliceO {t e:TypeId} {B:Nat} {lx cx:Operand} {n:Int} {x:α} {r:List α} {i:TypeInfo} {z:Value} (ho:o.op = .makeSlice t lx cx) (hu:P.underlying t = some (.slice e)) (he:ElemOk P e α)
    (hi:P.info? e = some i) (hiz:i.zero = some z) (hx:Enc.rep k z.cells.toList x)
    (hB:B ≤ k.w.heap.size) (hl:a.eval lx = .int .i64 n) (hc:a.eval cx = .int .i64 n) (h:makeI n x = some r):Does P o a k (IsOwn B e r):=by
  obtain ⟨i', z', hi', hiz', hsz, hzs, hpos, hby⟩ := he
  rw [hi,Option.some.injEq] at hi'
  subst hi'
  rw [hiz,Option.some.injEq] at hiz'
  subst hiz'
  unfold makeI at h
  split at h
  · rename_i hn
    obtain rfl:=Option.some.inj h
    obtain ⟨m,rfl⟩ : ∃ m:Nat,n = (m:Int):=⟨n.toNat,by omega⟩
    have hm:m ≤ 1073741824:=by omega
    have hmax:(maxLen:Nat) = 9223372036854775807:=rfl
    have hb' : (i.bytes:Int) * (m:Int) ≤ 281474976710656:=by
      have h1:i.bytes * m ≤ 65536 * 1073741824:=Nat.mul_le_mul hby hm
      have h2:((i.bytes * m:Nat):Int) ≤ 281474976710656:=by omega
      rwa [Int.natCast_mul] at h2
    have hr:=run_make (P:=P) k.w t e i z hu hi hiz .i64 .i64 (m:Int) m (by omega) (Int.le_refl _) hb' (by omega)
    simp only [Int.toNat_natCast] at hr
    refine does_run (v:=.slice (some ⟨k.w.heap.size,0,none⟩) m m) (k':=k.alloc (.cells (madeCells z.cells (m * i.size)) e)) ?_ (K.alloc_grow k _) ?_
    · simp only [execOp, ho, hl, hc]
      simp [hr,K.alloc]
    · simp only [Int.toNat_natCast]
      rcases Nat.eq_zero_or_pos m with h0 | h0
      · subst h0
        exact .inr (.inl ⟨_,rfl,rfl⟩)
      · have hrep := (repL_made (k := k) hzs hpos hx m).mono (K.alloc_grow k (.cells (madeCells z.cells (m * i.size)) e)).le
        have hsize:(madeCells z.cells (m * i.size)).size = m * Enc.sz α:=by rw [size_madeCells,hsz]
        refine .inr (.inr ⟨k.w.heap.size,0,m,madeCells z.cells (m * i.size),(madeCells z.cells (m * i.size)).toList,by simp,hB,fun hs=>Nat.lt_irrefl _ (k.lt _ hs),heap_alloc_new k.w _,by simp,h0,by omega,by simp [hsize],?_,by rw [hsz] at hrep ⊢; exact hrep⟩)
        rw [List.length_replicate,List.drop_zero,List.take_of_length_le (by rw [Array.length_toList,hsize]; exact Nat.le_refl _)]
  · simp at h
end
end Go.Gb

/- General part of the proofs: boxes of the call's own, in parts of which lie own slices. -/
namespace Go.Gb

/-- Some cells, as they are. -/
structure RawC (n:Nat) where
  l:List Value
instance (n:Nat):Enc (RawC n) where
  sz:=n
  agg:=true
  rep _ cs x:=cs = x.l∧cs.length = n∧∀ u ∈ cs,u.oneCell' = true
  len h:=h.2.1
  mono _ h:=h
  one h:=h.2.2
  agg1 h:=by simp at h
theorem take_set_drop {α:Type} : ∀ (l:List α) (i:Nat) (v:α),i < l.length → l.take i ++ [v] ++ l.drop (i + 1) = l.set i v
  | [],i,v,h=>by simp at h
  | a::l,0,v,_=>by simp
  | a :: l, i + 1, v, h => by
    have:=take_set_drop l i v (by simpa using h)
    simpa using this
theorem updRaw {n off:Nat} (h:off < n):Upd (α:=RawC n) (β:=RawV) off (fun c v=>⟨c.l.set off v.v⟩):=by
  intro k cs cy x y ⟨h1,h2,h3⟩ ⟨g1,g2⟩
  subst g1
  have e:cs.take off ++ [y.v] ++ cs.drop (off + [y.v].length) = cs.set off y.v:=take_set_drop cs off y.v (by omega)
  refine ⟨by show off + 1 ≤ n; omega,?_⟩
  rw [e]
  refine ⟨by rw [h1],by simpa using h2,fun u hu=>?_⟩
  rcases List.mem_or_eq_of_mem_set hu with hu | rfl
  · exact h3 u hu
  · exact g2
def nilSl:Value:=.slice none 0 0

/-- A part of a value: a slice from cell off on. -/
structure Hole (α:Type) where
  off:Nat
  γ:Type
  enc:Enc γ
  el:TypeId
  get:α → List γ
  set:α → List γ → α
section
variable {α:Type} [Enc α]
def Hole.own (h:Hole α) (x:α):Pred:=@IsOwn h.γ h.enc 0 h.el (h.get x)
def Hole.val (h:Hole α) (x:α):Pred:=letI:=h.enc; IsV (h.get x)
def Hole.upd (h:Hole α):Prop:=letI:=h.enc; Upd h.off h.set
def nils:List (Hole α) → List Value → List Value
  | [],cs=>cs
  | h::l,cs=>(nils l cs).set h.off nilSl
def nilx:List (Hole α) → α → α
  | [],x=>x
  | h::l,x=>h.set (nilx l x) []
omit [Enc α] in
theorem nils_len : ∀ (l:List (Hole α)) (cs:List Value),(nils l cs).length = cs.length
  | [],_=>rfl
  | h::l,cs=>by rw [nils,List.length_set,nils_len l]
omit [Enc α] in
theorem nils_other : ∀ (l:List (Hole α)) (cs:List Value) (o:Nat),(∀ h ∈ l,h.off ≠ o) → (nils l cs)[o]? = cs[o]?
  | [],_,_,_=>rfl
  | h :: l, cs, o, hn => by
    rw [nils,List.getElem?_set_ne (hn h List.mem_cons_self),nils_other l cs o fun g hg=>hn g (List.mem_cons_of_mem _ hg)]
/-- the slices in parts are own ones, and apart -/
def Owns (cs:List Value) (x:α) (k:K):List (Hole α) → FP → Prop
  | [],F=>F = noF
  | h::l,F=>∃ w G,cs[h.off]? = some w∧h.own x w k∧Owns cs x k l G∧Apart (obF w) G∧F = fun c=>obF w c ∨ G c
variable {cs:List Value} {x:α} {k k' : K} {F G:FP} {v:Value}
omit [Enc α] in
theorem Owns.lt : ∀ {l:List (Hole α)} {F:FP},Owns cs x k l F → ∀ b,F b → b < k.w.heap.size∧¬ k.sh b
  | [],F,h,b,hb=>by rw [show F = noF from h] at hb; exact hb.elim
  | g :: l, F, ⟨w, G, _, h, r, _, e⟩, b, hb => by
    subst e
    rcases hb with hb | hb
    · letI:=g.enc; exact ⟨IsOwn.ltF h b hb,IsOwn.nshF h b hb⟩
    · exact Owns.lt r b hb
omit [Enc α] in
theorem Owns.keep (c:Chg G k k') (hn : ∀ b,G b → ¬ k.sh b) : ∀ {l:List (Hole α)} {F:FP},Owns cs x k l F → Apart F G → Owns cs x k' l F
  | [],F,h,_=>h
  | g :: l, F, ⟨w, H, h0, h, r, ap, e⟩, ha => by
    subst e
    exact ⟨w,H,h0,(letI:=g.enc; IsOwn.keep h c (fun b hb=>ha b (.inl hb)) hn),r.keep c hn fun b hb=>ha b (.inr hb),ap,rfl⟩
omit [Enc α] in
theorem Owns.handed (c:Handed k k' G) : ∀ {l:List (Hole α)} {F:FP},Owns cs x k l F → Apart F G → Owns cs x k' l F
  | [],F,h,_=>h
  | g :: l, F, ⟨w, H, h0, h, r, ap, e⟩, ha => by
    subst e
    exact ⟨w,H,h0,(letI:=g.enc; IsOwn.handed h c (fun b hb=>ha b (.inl hb))),r.handed c fun b hb=>ha b (.inr hb),ap,rfl⟩

/-- A box of the call's own; in the parts hs lie own slices, what lies in the other ones of all is not told. -/
def BoxH (b:Nat) (all hs:List (Hole α)) (x:α):FP → Pred:=fun F v k=>
  v = .pointer (some ⟨b,0,none⟩)∧∃ (cs:List Value) (G:FP),Box b (⟨cs⟩:RawC (Enc.sz α)) k∧Enc.rep k (nils all cs) (nilx all x)∧Owns cs x k hs G∧¬ G b∧F = fun c=>b = c ∨ G c
variable {b:Nat} {all hs:List (Hole α)}
theorem BoxH.ptr (h:BoxH b all hs x F v k):v = .pointer (some ⟨b,0,none⟩):=h.1
theorem BoxH.has (h:BoxH b all hs x F v k):F b:=by
  obtain ⟨_,cs,G,_,_,_,_,e⟩:=h
  rw [e]; exact .inl rfl
theorem BoxH.sub (h:BoxH b all hs x F v k) : ∀ c,b = c → F c:=fun c e=>e ▸ h.has
instance:Rsc (BoxH b all hs x) where
  keep:=fun {F G v k k'} ⟨e,cs,H,hb,hr,ho,hn,eF⟩ g ha hns=>by
    subst eF
    exact ⟨e,cs,H,hb.keep g (ha b (.inl rfl)) hns,Enc.mono (g.le hns) hr,ho.keep g hns (fun c hc=>ha c (.inr hc)),hn,rfl⟩
  handed:=fun {F G v k k'} ⟨e,cs,H,hb,hr,ho,hn,eF⟩ g ha=>by
    subst eF
    exact ⟨e,cs,H,hb.handed g (ha b (.inl rfl)),Enc.mono g.le hr,ho.handed g (fun c hc=>ha c (.inr hc)),hn,rfl⟩
  lt:=fun {F v k} ⟨e,cs,H,hb,hr,ho,hn,eF⟩ c hc=>by
    subst eF
    rcases hc with rfl | hc
    · exact hb.lt
    · exact (ho.lt c hc).1
  nsh:=fun {F v k} ⟨e,cs,H,hb,hr,ho,hn,eF⟩ c hc=>by
    subst eF
    rcases hc with rfl | hc
    · exact hb.own
    · exact (ho.lt c hc).2
theorem Box.raw (h:Box b x k) : ∃ cs,Box b (⟨cs⟩:RawC (Enc.sz α)) k∧Enc.rep k cs x:=by
  obtain ⟨ho,arr,t,hh,hr⟩:=h
  exact ⟨arr.toList,⟨ho,arr,t,hh,rfl,Enc.len hr,Enc.one hr⟩,hr⟩
theorem Box.unraw (h:Box b (⟨cs⟩:RawC (Enc.sz α)) k) (hr:Enc.rep k cs x):Box b x k:=by
  obtain ⟨ho,arr,t,hh,e,_,_⟩:=h
  exact ⟨ho,arr,t,hh,by rw [show arr.toList = cs from e]; exact hr⟩
/-- the parts may be written to -/
def Upds:List (Hole α) → Prop
  | []=>True
  | h::l=>h.upd∧Upds l
theorem rep_nils : ∀ {all:List (Hole α)},Upds all → ∀ {cs:List Value} {x:α},Enc.rep k cs x → Enc.rep k (nils all cs) (nilx all x)
  | [],_,_,_,h=>h
  | g :: l, ⟨hu, hl⟩, cs, x, h => by
    have ih:=rep_nils hl h
    letI:=g.enc
    obtain ⟨hle,hr⟩:=hu k _ [nilSl] _ [] ih ⟨nilSl,rfl,.inl ⟨rfl,rfl⟩⟩
    have hl:=Enc.len ih
    have e:(nils l cs).take g.off ++ [nilSl] ++ (nils l cs).drop (g.off + [nilSl].length) = (nils l cs).set g.off nilSl:=take_set_drop _ _ _ (by
      have:g.off + 1 ≤ Enc.sz α:=hle
      omega)
    rw [e] at hr
    exact hr
/-- a box, some parts of which may be own slices -/
theorem Box.open (h:Box b x k) (hu:Upds all) (hv:v = .pointer (some ⟨b,0,none⟩)):BoxH b all [] x (Eq b) v k:=by
  obtain ⟨cs,h1,h2⟩:=h.raw
  exact ⟨hv,cs,noF,h1,rep_nils hu h2,rfl,fun f=>f,by funext c; exact propext ⟨fun e=>.inl e,fun e=>e.elim id False.elim⟩⟩

/-- What stands in a cell of a block. -/
def HdAt (b off:Nat):Pred:=fun v k=>b < k.w.heap.size∧∃ arr t fr,k.w.heap[b]? = some (.cells arr t fr)∧arr.toList[off]? = some v
instance {b off:Nat}:Mono (HdAt b off):=⟨fun g ⟨hb,arr,t,fr,h,e⟩=>⟨Nat.lt_of_lt_of_le hb g.size,arr,t,fr,by rw [g.blk b hb]; exact h,e⟩⟩
theorem Box.hdAt {off:Nat} {n:Nat} {w u:Value} (h:Box b (⟨cs⟩:RawC n) k) (hw:cs[off]? = some w) (hu:HdAt b off u k):u = w:=by
  obtain ⟨ho,arr,t,hh,e,_,_⟩:=h
  obtain ⟨_, arr', t', fr', hh', e'⟩ := hu
  rw [hh] at hh'
  simp only [Option.some.injEq,Obj.cells.injEq] at hh'
  obtain ⟨rfl,_⟩:=hh'
  rw [show arr.toList = cs from e,hw] at e'
  exact (Option.some.inj e').symm
/-- the slice in a part is taken out -/
theorem BoxH.take {g : Hole α} {u : Value} (h : BoxH b all (g :: hs) x F v k) (hu : HdAt b g.off u k) : ∃ F', BoxH b all hs x F' v k ∧ g.own x u k ∧ Apart (obF u) F' ∧ (∀ c, F' c → F c) ∧ (∀ c, obF u c → F c) := by
  obtain ⟨e,cs,G,hb,hr,⟨w,H,h0,h1,h2,ha,eG⟩,hn,eF⟩:=h
  obtain rfl:=hb.hdAt h0 hu
  subst eG eF
  refine ⟨_,⟨e,cs,H,hb,hr,h2,fun hc=>hn (.inr hc),rfl⟩,h1,fun c hc hc'=>?_,fun c hc=>hc.imp id .inr,fun c hc=>.inr (.inl hc)⟩
  rcases hc' with rfl | hc'
  · exact hn (.inl hc)
  · exact ha c hc hc'
theorem BoxH.swap {g h:Hole α} (y:BoxH b all (g::h::hs) x F v k):BoxH b all (h::g::hs) x F v k:=by
  obtain ⟨e, cs, G, hb, hr, ⟨w, H, h0, h1, ⟨w', H', g0, g1, g2, ga, eH⟩, ha, eG⟩, hn, eF⟩ := y
  subst eH eG eF
  refine ⟨e, cs, _, hb, hr, ⟨w', _, g0, g1, ⟨w, H', h0, h1, g2, fun c hc hc' => ha c hc (.inr hc'), rfl⟩, fun c hc hc' => ?_, rfl⟩, ?_, ?_⟩
  · rcases hc' with hc' | hc'
    · exact ha c hc' (.inl hc)
    · exact ga c hc hc'
  · rintro (h | h | h)
    · exact hn (.inr (.inl h))
    · exact hn (.inl h)
    · exact hn (.inr (.inr h))
  · funext c
    refine propext ⟨?_,?_⟩
    · rintro (h | h | h | h)
      · exact .inl h
      · exact .inr (.inr (.inl h))
      · exact .inr (.inl h)
      · exact .inr (.inr (.inr h))
    · rintro (h | h | h | h)
      · exact .inl h
      · exact .inr (.inr (.inl h))
      · exact .inr (.inl h)
      · exact .inr (.inr (.inr h))
/-- all that is needed to tell a box again -/
def CloseOk (x:α):List (Hole α) → Prop
  | []=>True
  | h::l=>h.upd∧h.set (h.set (nilx l x) []) (h.get x) = nilx l x∧(∀ g ∈ l,g.off ≠ h.off)∧CloseOk x l
theorem rep_fill : ∀ {all:List (Hole α)},CloseOk x all → ∀ {cs:List Value},(∀ h ∈ all,∃ w,cs[h.off]? = some w∧h.val x w k) → Enc.rep k (nils all cs) (nilx all x) → Enc.rep k cs x
  | [],_,cs,_,h=>h
  | g :: l, ⟨hu, he, hne, hl⟩, cs, hv, h => by
    refine rep_fill hl (fun h hh=>hv h (List.mem_cons_of_mem _ hh)) ?_
    obtain ⟨w,hw,hwv⟩:=hv g List.mem_cons_self
    letI:=g.enc
    obtain ⟨u,rfl,hu1⟩ : ∃ u,w = u∧SliceRep k u (g.get x):=⟨w,rfl,isV_list.1 hwv⟩
    obtain ⟨hle,hr⟩:=hu k _ [w] _ (g.get x) h ⟨w,rfl,hu1⟩
    have hlen:=Enc.len h
    have e:(nils (g::l) cs).take g.off ++ [w] ++ (nils (g::l) cs).drop (g.off + [w].length) = (nils (g::l) cs).set g.off w:=take_set_drop _ _ _ (by
      have:g.off + 1 ≤ Enc.sz α:=hle
      omega)
    rw [e] at hr
    rw [show g.set (nilx (g::l) x) (g.get x) = nilx l x from he] at hr
    have e2:(nils (g::l) cs).set g.off w = nils l cs:=by
      rw [nils,List.set_set]
      refine List.ext_getElem? fun i=>?_
      by_cases hi:i = g.off
      · subst hi
        rw [nils_other l cs _ hne,hw,List.getElem?_set_self (by rw [nils_len]; exact (List.getElem?_eq_some_iff.1 hw).1)]
      · rw [List.getElem?_set_ne (fun e=>hi e.symm)]
    rw [e2] at hr
    exact hr
omit [Enc α] in
/-- the slices are handed over -/
theorem Owns.give : ∀ {l:List (Hole α)} {k:K} {F:FP},Owns cs x k l F → ∃ k' : K,Handed k k' F∧∀ h ∈ l,∃ w,cs[h.off]? = some w∧h.val x w k'
  | [],k,F,h=>⟨k,⟨rfl,⟨fun _ _=>rfl,fun _ h=>h⟩,fun b h=>.inl h⟩,fun h hh=>by simp at hh⟩
  | g :: l, k, F, ⟨w, G, h0, h1, h2, ha, eF⟩ => by
    subst eF
    obtain ⟨k1,c1,hv⟩ : ∃ k' : K,Handed k k' (obF w)∧g.val x w k':=by letI:=g.enc; exact IsOwn.give h1
    obtain ⟨k2,c2,hr⟩:=(h2.handed c1 ha.symm).give
    refine ⟨k2,⟨c2.w.trans c1.w,?_,fun b hb=>?_⟩,fun h hh=>?_⟩
    · exact ⟨fun b hb=>(c2.le.blk b (c1.le.up b hb)).trans (c1.le.blk b hb),fun b hb=>c2.le.up b (c1.le.up b hb)⟩
    · rcases c2.sh b hb with hb | hb
      · exact (c1.sh b hb).imp id .inl
      · exact .inr (.inr hb)
    · rcases List.mem_cons.1 hh with rfl | hh
      · exact ⟨w,h0,by letI:=h.enc; exact Pers.pers (R:=IsV (h.get x)) c2.le hv⟩
      · exact hr h hh
/-- a box again: its slices are handed over -/
theorem BoxH.close (h:BoxH b all hs x F v k) (hc:CloseOk x all) (hm : ∀ g ∈ all,g ∈ hs) : ∃ k' : K,Handed k k' F∧Box b x k':=by
  obtain ⟨e,cs,G,hb,hr,ho,hn,eF⟩:=h
  obtain ⟨k', hk, hv⟩ := ho.give
  subst eF
  refine ⟨k', ⟨hk.w, hk.le, fun c hc => (hk.sh c hc).imp id .inr⟩, ?_⟩
  exact (hb.handed hk hn).unraw (rep_fill hc (fun g hg=>hv g (hm g hg)) (Enc.mono hk.le hr))
end

section
variable {P:Program} {o:Oper} {a:Act} {k:K} {α:Type} [Enc α] {b:Nat} {all hs:List (Hole α)} {x:α} {F G:FP} {v:Value}
theorem does_weak {R S : Pred} (h : Does P o a k R) (f : ∀ v k', Grow k k' → R v k' → S v k') : Does P o a k S := fun next Q hQ hn => h next Q hQ fun v k' g r => hn v k' g (f v k' g r)
/-- a value in some cells of which the nil slice stands -/
def IsVN (offs:List Nat) (x:α):Pred:=fun v k=>∃ cs,v = .agg cs.toArray∧Enc.agg α = true∧Enc.rep k cs x∧∀ o ∈ offs,cs[o]? = some nilSl
instance {offs:List Nat} {x:α}:Pers (IsVN offs x):=⟨fun h ⟨cs,e,ha,r,hn⟩=>⟨cs,e,ha,Enc.mono h r,hn⟩⟩
theorem IsVN.isV {offs:List Nat} {x:α} {v:Value} {k:K} (h:IsVN offs x v k):IsV x v k:=by
  obtain ⟨cs,e,ha,r,_⟩:=h
  exact ⟨cs,by rw [ha]; exact e,r⟩
end
end Go.Gb

/- General part of the proofs: variables that hold a function. -/
namespace Go.Gb
variable {P:Program} {o:Oper} {a:Act} {k:K}
section
variable {α β γ δ:Type} [Enc α] [Enc β] [Enc γ] [Enc δ] {v:Value}
theorem IsFn1.one {g:α → Option β} (h:IsFn1 P g v k):v.oneCell' = true:=by obtain ⟨f,fi,c,rfl,_⟩:=h; rfl
theorem IsFn2.one {g:α → β → Option γ} (h:IsFn2 P g v k):v.oneCell' = true:=by obtain ⟨f,fi,c,rfl,_⟩:=h; rfl
theorem IsFn2T.one {g:α → β → Option (γ × δ)} (h:IsFn2T P g v k):v.oneCell' = true:=by obtain ⟨f,fi,c,rfl,_⟩:=h; rfl
end
end Go.Gb

/- General part of the proofs: regions whose operations, in any order, use up what others of them have made. -/
namespace Go.Gb

/-- What is told of an operation: of the value in slot vs, and the blocks behind it; what it looks at, and which operations' results it uses up. -/
structure EntL where
  R:FP → Pred
  vs:Nat
  need:List (Nat × Option Nat)
  cons:List Nat

/-- What lasts while blocks from B on are written to. -/
class RscB (B:Nat) (R:FP → Pred):Prop where
  keep : ∀ {F G:FP} {v:Value} {k k' : K},R F v k → Chg G k k' → Apart F G → (∀ b,G b → ¬ k.sh b) → (∀ b,G b → B ≤ b) → B ≤ k.w.heap.size → R F v k'
  lt : ∀ {F:FP} {v:Value} {k:K},R F v k → ∀ b,F b → b < k.w.heap.size∧¬ k.sh b
instance {B:Nat} {R:FP → Pred} [Rsc R]:RscB B R:=⟨fun h c ha hn _ _=>Rsc.keep h c ha hn,fun h b hb=>⟨Rsc.lt h b hb,Rsc.nsh h b hb⟩⟩
/-- something that always holds -/
def PlainR (R:Pred):FP → Pred:=fun F v k=>F = noF∧R v k
instance {B:Nat} {R:Pred} [Pers R]:RscB B (PlainR R):=⟨fun ⟨e,h⟩ c _ hn _ _=>⟨e,Pers.pers (c.le hn) h⟩,fun ⟨e,_⟩ b hb=>by rw [e] at hb; exact hb.elim⟩
def KnownL (es:List EntL) (a0 a:Act) (k:K):List (Nat × Option Nat) → Prop
  | []=>True
  | (t,some j)::xs=>(match nth es j with | some e=>∃ F,e.R F (a.get t) k | none=>True)∧KnownL es a0 a k xs
  | (t,none)::xs=>a.get t = a0.get t∧KnownL es a0 a k xs
def TakenL (es:List EntL) (a:Act) (k:K):List Nat → FP → Prop
  | [],G=>G = noF
  | j::l,G=>∃ F H,(match nth es j with | some e=>e.R F (a.get e.vs) k | none=>False)∧TakenL es a k l H∧G = fun b=>F b ∨ H b
/-- An operation may write to the blocks in G, and yields this. -/
def DoesL (P:Program) (o:Oper) (a:Act) (k:K) (G:FP) (R:FP → Pred) (vs:Nat):Prop:=
  ∀ (next:Act → World → Prop) (Q:Exit → Act → World → Prop),LetsOut Q →
    (∀ v k' F,Chg G k k' → (∀ b,F b → G b ∨ k.w.heap.size ≤ b) → R F ((a.put o.dst v).get vs) k' → next (a.put o.dst v) k'.w) → o.wp P a k.w next Q
def ObL (P:Program) (es:List EntL) (a0:Act) (k0:K) (o:Oper) (e:EntL):Prop:=
  RscB k0.w.heap.size e.R∧∀ a k G,a.tmps.size = a0.tmps.size → Grow k0 k → KnownL es a0 a k e.need → TakenL es a k e.cons G → DoesL P o a k G e.R e.vs
def StepsL (P:Program) (es:List EntL) (a0:Act) (k0:K):List Oper → List EntL → Prop
  | o::os,e::rest=>ObL P es a0 k0 o e∧StepsL P es a0 k0 os rest
  | _,_=>True
theorem StepsL.at {P:Program} {es:List EntL} {a0:Act} {k0:K} : ∀ {os:List Oper} {rs:List EntL},StepsL P es a0 k0 os rs → ∀ i o e,nth os i = some o → nth rs i = some e → ObL P es a0 k0 o e
  | [],_,_,i,o,e,h,_=>by simp [nth] at h
  | _::_,[],_,i,o,e,_,h=>by simp [nth] at h
  | _ :: _, _ :: _, h, 0, o, e, h1, h2 => by
    simp only [nth,Option.some.injEq] at h1 h2
    subst h1 h2; exact h.1
  | _::_,_::_,h,i + 1,o,e,h1,h2=>h.2.at i o e (by simpa [nth] using h1) (by simpa [nth] using h2)
/-- used up -/
def UsedL (es:List EntL) (D:Nat → Prop) (j:Nat):Prop:=∃ i e,D i∧nth es i = some e∧j ∈ e.cons
section
variable {P:Program} {a0:Act} {k0:K} {es:List EntL} {A:Array Oper} {n:Nat}
theorem takenL_of {Fs:Nat → FP} {a:Act} {k:K} : ∀ (l:List Nat),(∀ j ∈ l,∃ e,nth es j = some e∧e.R (Fs j) (a.get e.vs) k) → TakenL es a k l (fun b=>∃ j ∈ l,Fs j b)
  | [], _ => by
    show _ = noF
    funext b; simp [noF]
  | j :: l, h => by
    obtain ⟨e,he,hr⟩:=h j List.mem_cons_self
    refine ⟨Fs j,_,by rw [he]; exact hr,takenL_of l fun x hx=>h x (List.mem_cons_of_mem _ hx),?_⟩
    funext b
    simp
theorem knownL_of {Fs:Nat → FP} {a:Act} {k:K} : ∀ (need:List (Nat × Option Nat)),(∀ t j,(t,some j) ∈ need → ∀ e,nth es j = some e → e.R (Fs j) (a.get t) k) → (∀ t,(t,none) ∈ need → a.get t = a0.get t) → KnownL es a0 a k need
  | [],_,_=>trivial
  | (t, some j) :: xs, h1, h2 => by
    refine ⟨?_,knownL_of xs (fun t' j' h=>h1 t' j' (List.mem_cons_of_mem _ h)) fun t' h=>h2 t' (List.mem_cons_of_mem _ h)⟩
    cases hj:nth es j with
    | none=>trivial
    | some e=>exact ⟨_,h1 t j List.mem_cons_self e hj⟩
  | (t,none)::xs,h1,h2=>⟨h2 t List.mem_cons_self,knownL_of xs (fun t' j' h=>h1 t' j' (List.mem_cons_of_mem _ h)) fun t' h=>h2 t' (List.mem_cons_of_mem _ h)⟩
/-- what holds behind such a region -/
structure PostR (A:Array Oper) (es:List EntL) (a0:Act) (k0:K) (Fs:Nat → FP) (a:Act) (k:K):Prop where
  grow:Grow k0 k
  size:a.tmps.size = a0.tmps.size
  defers:a.defers = a0.defers
  out : ∀ i e,nth es i = some e → es.all (fun x=>!(x.cons.contains i)) = true → e.R (Fs i) (a.get e.vs) k
  apart : ∀ i j,i ≠ j → Apart (Fs i) (Fs j)
  own : ∀ i b,Fs i b → k0.w.heap.size ≤ b∧b < k.w.heap.size∧¬ k.sh b
  old : ∀ t,A.toList.all (fun o=>o.dst != some t) = true → a.get t = a0.get t
end
end Go.Gb

/- General part of the proofs: operations that use up what others have made. -/
namespace Go.Gb
instance:FlatE ByteArray:=⟨fun s=>[.string s],Iff.rfl⟩
instance (priority:=low) {α:Type} [Enc α] [FlatE α] {x:α}:Flat (IsV x):=⟨fun ⟨cs,e,r⟩=>⟨cs,e,FlatE.rep.2 (FlatE.rep.1 r)⟩⟩
section
variable {P:Program} {o:Oper} {a:Act} {k:K} {d:Nat} {α β:Type} [Enc α] [Enc β] {G:FP} {es:List EntL}
theorem wp_of_tail {w:World} {next:Act → World → Prop} {Q:Exit → Act → World → Prop} (hg:o.guard = none)
    (h:wpOps P #[o] (fun ex a w=>match ex with | .normal=>next a w | _=>False) [0] a w):o.wp P a w next Q:=by
  rw [wpOps_cons] at h
  have hw2:wpOp P #[o] (fun ex a w=>match ex with | .normal=>next a w | _=>False) 0 next a w:=wpOp_mono (fun a2 w2 h2=>by simpa [wpOps] using h2) h
  unfold wpOp at hw2
  rw [show (#[o]:Array Oper)[0]? = some o from rfl] at hw2
  dsimp only at hw2
  rw [if_pos (by simp [Region.wanted,hg])] at hw2
  rcases hw2 with hw2 | hw2
  · unfold Oper.wp at *
    generalize (execOp a.eval o).run P w = res at *
    cases res with
    | ok nx w'=>cases nx <;> simp only [Oper.upon] at hw2 ⊢ <;> first | exact hw2 | (refine Calls.mono hw2 fun ee w2 he=>?_; cases ee <;> first | exact he | exact he.elim | (obtain ⟨_,_,hb'⟩:=he; exact hb'.elim)) | (exact Rows.mono hw2 fun _ _ he=>he)
    | halt x w'=>cases x <;> simp only [Oper.upon] at hw2 ⊢ <;> first | exact hw2 | exact hw2.elim
  · obtain ⟨_,_,_,hb'⟩:=hw2; exact hb'.elim
theorem put_d {v:Value} (hd:o.dst = some d) (hs:d < a.tmps.size):(a.put o.dst v).get d = v:=by
  rw [hd,get_put _ _ _ _ hs,if_pos rfl]
theorem doesL_plain {R:Pred} (hd:o.dst = some d) (hs:d < a.tmps.size) (h:Does P o a k R):DoesL P o a k noF (PlainR R) d:=fun next Q hQ hn=>
  h next Q hQ fun v k' hg hv=>hn v k' noF (Chg.of hg) (fun _ f=>f.elim) ⟨rfl,by rw [put_d hd hs]; exact hv⟩
theorem doesL_box {x:α} (hd:o.dst = some d) (hs:d < a.tmps.size) (h:Does P o a k (IsBox k.w.heap.size x)):DoesL P o a k noF (BoxR x) d:=fun next Q hQ hn=>
  h next Q hQ fun v k' hg ⟨b,e,hb,hx⟩=>hn v k' (Eq b) (Chg.of hg) (fun _ e=>.inr (e ▸ hb)) ⟨b,by rw [put_d hd hs]; exact e,rfl,hx⟩
theorem taken1 {j:Nat} {e:EntL} (h:TakenL es a k [j] G) (he:nth es j = some e):e.R G (a.get e.vs) k:=by
  obtain ⟨F,H,h1,h2,h3⟩:=h
  rw [he] at h1
  have h2:H = noF:=h2
  have:G = F:=by rw [h3,h2]; funext b; exact propext ⟨fun h=>h.elim id False.elim,.inl⟩
  rw [this]; exact h1
theorem taken0 (h:TakenL es a k [] G):G = noF:=h
/-- what lies in a box that another operation made is set -/
theorem doesL_store {t:TypeId} {y:Operand} {vs:Nat} {x z:α} (hd:o.dst = none) (hg:o.guard = none) (ho:o.op = .store t (.tmp vs) y) (hs:(P.info? t).map (·.size) = some (Enc.sz α))
    (hx:BoxR x G (a.get vs) k) (hy:IsV z (a.eval y) k):DoesL P o a k G (BoxR z) vs:=by
  intro next Q hQ hn
  obtain ⟨b,e,rfl,hb⟩:=hx
  refine wp_of_tail hg (tail_storeB (A:=#[o]) (i:=0) rfl hg ho hd hs Upd.self (show IsAdr b 0 (a.eval (.tmp vs)) k from e) hb hy fun k' hch hz=>?_)
  show wpOps P #[o] _ [] a k'.w
  simp only [wpOps]
  have key:=hn undef k' (Eq b) hch (fun _ h=>.inl h) ⟨b,by rw [hd]; exact e,rfl,hz⟩
  rw [hd] at key
  exact key
variable {a0:Act} {k0:K} {A:Array Oper} {Fs:Nat → FP}
theorem PostR.plain (p:PostR A es a0 k0 Fs a k) (i:Nat) {R:Pred} {vs:Nat} {nd:List (Nat × Option Nat)} {cn:List Nat} (h:nth es i = some ⟨PlainR R,vs,nd,cn⟩) (hu:es.all (fun x=>!(x.cons.contains i)) = true):R (a.get vs) k:=
  (p.out i _ h hu).2
theorem PostR.box (p:PostR A es a0 k0 Fs a k) (i:Nat) {x:α} {vs:Nat} {nd:List (Nat × Option Nat)} {cn:List Nat} (h:nth es i = some ⟨BoxR x,vs,nd,cn⟩) (hu:es.all (fun x=>!(x.cons.contains i)) = true):IsBox k0.w.heap.size x (a.get vs) k:=by
  obtain ⟨b,e,hF,hb⟩:=p.out i _ h hu
  exact ⟨b,e,(p.own i b (by rw [hF])).1,hb⟩
theorem PostR.slice (p:PostR A es a0 k0 Fs a k) (i:Nat) {e:TypeId} {xs:List α} {vs:Nat} {nd:List (Nat × Option Nat)} {cn:List Nat} (h:nth es i = some ⟨OwnR e xs,vs,nd,cn⟩) (hu:es.all (fun x=>!(x.cons.contains i)) = true):IsOwn k0.w.heap.size e xs (a.get vs) k:=by
  obtain ⟨hF,hb⟩:=p.out i _ h hu
  rcases hb with hb | hb | ⟨b,off,cap,cur,cs,e1,_,h2,h3,h4,h5,h6⟩
  · exact .inl hb
  · exact .inr (.inl hb)
  · exact .inr (.inr ⟨b,off,cap,cur,cs,e1,(p.own i b (by rw [hF,e1]; simp [obF,ob,Nat.ne_of_gt h5])).1,h2,h3,h4,h5,h6⟩)
end
end Go.Gb

/- General part of the proofs: a function that calls itself through a variable, and adds to a list in another one. -/
namespace Go.Gb
section
variable {P:Program} {o:Oper} {a:Act} {k k' k0:K} {α β γ:Type} [Enc α] [Enc β] [Enc γ] {F G:FP} {v:Value} {b:Nat} {all hs:List (Hole α)} {x:α} {R:Pred}
theorem BoxH.at (h:BoxH b all hs x F v k):BoxH b all hs x F (.pointer (some ⟨b,0,none⟩)) k:=by
  have:=h.ptr
  subst this; exact h
end
end Go.Gb

/- General part of the proofs: function values and pointers to shared places as data. -/
namespace Go.Gb
section
variable {P:Program} {o:Oper} {a a0:Act} {k k' k0:K} {α β γ:Type} [Enc α] [Enc β] [Enc γ]

/-- A function value without parameters that computes g. -/
def IsFn0 (P:Program) (g:Unit → Option β):Pred:=fun v k=>
  ∃ f first captured,v = .func (.func f) first captured∧(∀ args w,(callFunc f args).run P w = .ok (.enter f args) w) ∧
    ∀ k', Le k k' → ∀ y, g () = some y → Calls P f (first ++ captured) k'.w (Ret k' (IsV y))
instance (g:Unit → Option β):Pers (IsFn0 P g):=⟨fun h ⟨f,fi,c,e,hc,r⟩=>⟨f,fi,c,e,hc,fun k' hk=>r k' (h.trans hk)⟩⟩
theorem ok_callF0 {g:Unit → Option β} {fx:Operand} {ts:Array TypeId} {r:β} (ho:o.op = .call { callee:=.value fx,args:=#[],argTypes:=ts })
    (hf:IsFn0 P g (a.eval fx) k) (h:g () = some r):Does P o a k (IsV r):=by
  obtain ⟨f,fi,c,e,hc,hr⟩:=hf
  refine does_enter (f:=f) (args:=fi ++ c) ?_ (hr k (Le.refl k) _ h)
  simp [execOp,ho,resolve,invoke,Deferred.ofValue,e,hc]
theorem IsFn0.one {v:Value} {g:Unit → Option β} (h:IsFn0 P g v k):v.oneCell' = true:=by obtain ⟨f,fi,c,rfl,_⟩:=h; rfl
theorem IsRef.one {v:Value} {x:α} (h:IsRef x v k):v.oneCell' = true:=by obtain ⟨ad,rfl,_⟩:=h; rfl
/-- A value that a persistent predicate tells of, as data. -/
@[reducible] def predEnc (σ:Type) (R:σ → Pred) (hp : ∀ x,Pers (R x)) (h1 : ∀ x v k,R x v k → v.oneCell' = true):Enc σ where
  sz:=1
  agg:=false
  rep k cs x:=∃ v,cs = [v]∧R x v k
  len h:=by obtain ⟨v,rfl,_⟩:=h; rfl
  mono hl h:=by obtain ⟨v,e,h⟩:=h; exact ⟨v,e,(hp _).pers hl h⟩
  one h:=by
    obtain ⟨v,rfl,h⟩:=h
    simpa using h1 _ _ _ h
  agg1 _:=rfl
theorem isV_pred {σ:Type} {R:σ → Pred} {hp : ∀ x,Pers (R x)} {h1 : ∀ x v k,R x v k → v.oneCell' = true} {x:σ} {v:Value} : @IsV σ (predEnc σ R hp h1) x v k ↔ R x v k:=
  ⟨fun ⟨_,e,u,h,r⟩=>by subst h; subst e; exact r,fun r=>⟨[v],rfl,v,rfl,r⟩⟩
@[reducible] def rfEnc (α:Type) [Enc α]:Enc α:=predEnc α (fun x=>IsRef x) (fun _=>inferInstance) fun _ _ _=>IsRef.one
theorem isV_rf {x:α} {v:Value} : @IsV α (rfEnc α) x v k ↔ IsRef x v k:=isV_pred
@[reducible] def f0Enc (P:Program) (β:Type) [Enc β]:Enc (Unit → Option β):=predEnc _ (IsFn0 P) (fun _=>inferInstance) fun _ _ _=>IsFn0.one
@[reducible] def f1Enc (P:Program) (α β:Type) [Enc α] [Enc β]:Enc (α → Option β):=predEnc _ (IsFn1 P) (fun _=>inferInstance) fun _ _ _=>IsFn1.one
@[reducible] def f2Enc (P:Program) (α β γ:Type) [Enc α] [Enc β] [Enc γ]:Enc (α → β → Option γ):=predEnc _ (IsFn2 P) (fun _=>inferInstance) fun _ _ _=>IsFn2.one
theorem isV_f0 {g:Unit → Option β} {v:Value} : @IsV _ (f0Enc P β) g v k ↔ IsFn0 P g v k:=isV_pred
theorem isV_f1 {g:α → Option β} {v:Value} : @IsV _ (f1Enc P α β) g v k ↔ IsFn1 P g v k:=isV_pred
theorem isV_f2 {g:α → β → Option γ} {v:Value} : @IsV _ (f2Enc P α β γ) g v k ↔ IsFn2 P g v k:=isV_pred
end
end Go.Gb

/- General part of the proofs: sums that may wrap. -/
namespace Go.Gb
section
variable {P:Program} {o:Oper} {a:Act} {k:K} {t u:TypeId} {x y:Operand} {n m r:Int}
def addW (n m:Int):Option Int:=some (IntKind.i64.wrap (n + m))
def subW (n m:Int):Option Int:=some (IntKind.i64.wrap (n - m))
theorem ok_addW (ho:o.op = .binOp .add t x y u) (hx:IsV n (a.eval x) k) (hy:IsV m (a.eval y) k) (h:addW n m = some r):Does P o a k (IsV r):=by
  have hx:=isV_int.1 hx; have hy:=isV_int.1 hy
  obtain rfl:=Option.some.inj h
  refine does_pure (v:=.int .i64 (IntKind.i64.wrap (n + m))) ?_ (isV_int.2 rfl)
  simp only [execOp,ho,hx,hy]
  simp [eqGuard,binOp,Op.intArith]
theorem ok_subW (ho:o.op = .binOp .sub t x y u) (hx:IsV n (a.eval x) k) (hy:IsV m (a.eval y) k) (h:subW n m = some r):Does P o a k (IsV r):=by
  have hx:=isV_int.1 hx; have hy:=isV_int.1 hy
  obtain rfl:=Option.some.inj h
  refine does_pure (v:=.int .i64 (IntKind.i64.wrap (n - m))) ?_ (isV_int.2 rfl)
  simp only [execOp,ho,hx,hy]
  simp [eqGuard,binOp,Op.intArith]
end
end Go.Gb

/- General part of the proofs: an own slice that another operation made grows. -/
namespace Go.Gb
end Go.Gb

/- General part of the proofs: arrays of any elements, indexed with a number. -/
namespace Go.Gb
section
variable {P:Program} {o:Oper} {a:Act} {k:K} {α β:Type} [Enc α] [Enc β]
theorem ok_arrIndexG {t e n:Nat} {x y:Operand} {l:List β} {z:α} {i:Int} {v:β} (ho:o.op = .index t x y) (ht:P.underlying t = some (.array n e)) (he:Ty P e β) (hn:n = l.length) (hag:Enc.agg α = true)
    (hf : ∀ k cs,Enc.rep k cs z → ∀ j (hj:j < l.length),Enc.rep k ((cs.drop (j * Enc.sz β)).take (Enc.sz β)) l[j]) (hx:IsV z (a.eval x) k) (hy:IsV i (a.eval y) k) (h:getI l i = some v):Does P o a k (IsV v):=by
  obtain ⟨cs,e1,hr⟩:=hx
  have hy:=isV_int.1 hy
  obtain ⟨h0,h1,h2,h3⟩:=getI_spec h
  have hj:i.toNat < l.length:=(List.getElem?_eq_some_iff.1 h1).1
  have hrep:Enc.rep k ((cs.drop (i.toNat * Enc.sz β)).take (Enc.sz β)) v:=by
    have:=hf k cs hr i.toNat hj
    rwa [show l[i.toNat] = v from (List.getElem?_eq_some_iff.1 h1).2] at this
  obtain ⟨⟨d,hd,hda⟩,hsz⟩:=he
  have hs1:(P.info? e).map (·.size) = some (Enc.sz β):=hsz
  obtain ⟨u,hu,hv⟩ : ∃ u,(part e cs.toArray (i.toNat * Enc.sz β)).run P k.w = .ok u k.w∧IsV v u k:=by
    cases hb:Enc.agg β with
    | true =>
      refine ⟨.agg ((cs.drop (i.toNat * Enc.sz β)).take (Enc.sz β)).toArray,?_,_,?_,hrep⟩
      · simp only [part]
        simp [run_isAgg hd,hda,hb,run_sizeOf hs1,List.extract_eq_take_drop]
      · simp [mkV,hb]
    | false =>
      have h1:Enc.sz β = 1:=Enc.agg1 hb
      have hlen:=Enc.len hrep
      rw [h1] at hlen hrep ⊢
      obtain ⟨w,hw⟩ : ∃ w,(cs.drop (i.toNat * 1)).take 1 = [w]:=List.length_eq_one_iff.1 hlen
      have hc:cs.toArray[i.toNat * 1]? = some w:=by
        have:(cs.drop (i.toNat * 1))[0]? = some w:=by
          have h5:=congrArg (fun l=>l[0]?) hw
          simpa [List.getElem?_take] using h5
        simpa using this
      refine ⟨w,?_,_,?_,hw ▸ hrep⟩
      · simp only [Nat.mul_one] at hc ⊢
        have hc' : cs[i.toNat]? = some w:=by simpa using hc
        simp [part,run_isAgg hd,hda,hb,hc']
      · simp [mkV,hb]
  refine does_pure (v:=u) ?_ hv
  rw [hag] at e1
  have e3:a.eval x = .agg cs.toArray:=e1
  simp only [execOp,ho,hy,e3]
  simp [Instr.index,asIntOf,run_underlying ht,run_sizeOf hs1,h0]
  rw [if_pos (by omega)]
  rw [hu]
  rfl
end
section
variable {P:Program} {o:Oper} {a:Act} {k:K} {x y z u w:Operand} {n m l p q:Int} {ts:Array TypeId}
theorem ok_min4 (ho:o.op = .call { callee:=.builtin .min,args:=#[x,y,z,u],argTypes:=ts })
    (hx:IsV n (a.eval x) k) (hy:IsV m (a.eval y) k) (hz:IsV l (a.eval z) k) (hu:IsV p (a.eval u) k):Does P o a k (IsV (min (min (min n m) l) p)):=by
  have hx:=isV_int.1 hx; have hy:=isV_int.1 hy; have hz:=isV_int.1 hz; have hu:=isV_int.1 hu
  refine does_pure (v:=.int .i64 (min (min (min n m) l) p)) ?_ (isV_int.2 rfl)
  simp [execOp,ho,resolve,invoke,builtin,hx,hy,hz,hu,Builtin.min_,run_min2]
theorem ok_max5 (ho:o.op = .call { callee:=.builtin .max,args:=#[x,y,z,u,w],argTypes:=ts })
    (hx:IsV n (a.eval x) k) (hy:IsV m (a.eval y) k) (hz:IsV l (a.eval z) k) (hu:IsV p (a.eval u) k) (hw:IsV q (a.eval w) k):Does P o a k (IsV (max (max (max (max n m) l) p) q)):=by
  have hx:=isV_int.1 hx; have hy:=isV_int.1 hy; have hz:=isV_int.1 hz; have hu:=isV_int.1 hu; have hw:=isV_int.1 hw
  refine does_pure (v:=.int .i64 (max (max (max (max n m) l) p) q)) ?_ (isV_int.2 rfl)
  simp [execOp,ho,resolve,invoke,builtin,hx,hy,hz,hu,hw,Builtin.max_,run_max2]
theorem arr4 {A:Array Operand} {x y z u:Operand} (h:A.toList = [x,y,z,u]):A = #[x,y,z,u]:=by
  apply Array.toList_inj.1; rw [h]
theorem arr5 {A:Array Operand} {x y z u w:Operand} (h:A.toList = [x,y,z,u,w]):A = #[x,y,z,u,w]:=by
  apply Array.toList_inj.1; rw [h]
end
end Go.Gb


