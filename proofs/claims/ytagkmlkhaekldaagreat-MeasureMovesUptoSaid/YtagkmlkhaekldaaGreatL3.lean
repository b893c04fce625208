/- The general part of the proofs (no program in sight): worlds with shared blocks, regions, operations, calls, loops, what comes in as data, part 3 -/
import Derived.Test.YtagkmlkhaekldaaGreatL2
set_option linter.unusedVariables false
set_option linter.unusedSimpArgs false
/- General part of the proofs: regions in which moves stand behind operations that write: they may run first. -/
namespace Go.Gb

/-- Only the way out at the end. -/
def QN (Q:Exit → Act → World → Prop):Exit → Act → World → Prop:=fun e a w=>match e with
  | .normal=>Q .normal a w
  | _=>False

def isMv (A:Array Oper) (l:Nat):Bool:=match A[l]? with
  | some o=>(match o.op with | .move (.tmp _)=>true | .assign (.tmp _)=>true | _=>false) && o.guard.isNone && o.after.isEmpty && o.dst.isSome
  | none=>false
/-- Where a move goes, and where it comes from. -/
def mvOf (A:Array Oper) (l:Nat):Nat × Nat:=match A[l]? with
  | some o=>(o.dst.getD 0,match o.op with | .move (.tmp s)=>s | .assign (.tmp s)=>s | _=>0)
  | none=>(0,0)
def lateAct (A:Array Oper):List Nat → Act → Act
  | [],a=>a
  | l::r,a=>lateAct A r (a.put (some (mvOf A l).1) (a.get (mvOf A l).2))
def listL:Array Bool → List Nat → Array Bool
  | b,[]=>b
  | b,l::r=>listL (b.setIfInBounds l true) r
def chkLate (A:Array Oper):Array Bool → List Nat → Bool
  | _,[]=>true
  | b,l::r=>isMv A l && Region.free .any A b l && (Region.ready .any A b).contains l && chkLate A (b.setIfInBounds l true) r
/-- An operation that looks at no world. -/
def isPure (A:Array Oper) (l:Nat):Bool:=match A[l]? with
  | some o=>(match o.op with | .move (.tmp _)=>true | .assign (.tmp _)=>true | .extract (.tmp _) _=>true | _=>false) && o.guard.isNone
  | none=>false
def chkT (A:Array Oper):Array Bool → List Nat → Bool
  | b,[]=>Region.ready .any A b == []
  | b,i::r=>(Region.ready .any A b == [i] || (isPure A i && Region.free .any A b i && (Region.ready .any A b).contains i)) && chkT A (b.setIfInBounds i true) r
def fullL (A:Array Oper) (m:Nat) (late:List Nat):Array Bool:=(Array.range A.size).map fun j=>decide (j < m) || late.contains j

section
variable {P:Program} {A:Array Oper} {Q:Exit → Act → World → Prop}
theorem isMv_spec {l:Nat} (h:isMv A l = true) : ∃ o,A[l]? = some o∧o.guard = none∧o.after = #[]∧o.dst = some (mvOf A l).1∧∀ a:Act,∀ w,(execOp a.eval o).run P w = .ok (.value (a.get (mvOf A l).2)) w:=by
  unfold isMv at h
  cases hA:A[l]? with
  | none=>rw [hA] at h; simp at h
  | some o =>
    rw [hA] at h
    simp only [Bool.and_eq_true,Option.isNone_iff_eq_none,Array.isEmpty_iff] at h
    obtain ⟨⟨⟨h1,h2⟩,h3⟩,h4⟩:=h
    obtain ⟨d,hd⟩:=Option.isSome_iff_exists.1 h4
    refine ⟨o,rfl,h2,h3,by simp [mvOf,hA,hd],fun a w=>?_⟩
    cases hop:o.op with
    | move x =>
      cases x with
      | tmp s=>simp [execOp,hop,mvOf,hA,Act.eval,Act.get]
      | _=>rw [hop] at h1; simp at h1
    | assign x =>
      cases x with
      | tmp s=>simp [execOp,hop,mvOf,hA,Act.eval,Act.get]
      | _=>rw [hop] at h1; simp at h1
    | _=>rw [hop] at h1; simp at h1

theorem take_late (hs:Region.noSelect A = true) (hQ : ∀ c a w,¬ Q (.panic c) a w) : ∀ (late:List Nat) (listed:Array Bool) (a:Act) (w:World) (fuel:Nat),chkLate A listed late = true →
    wpAny P .any A Q fuel (listL listed late) (lateAct A late a) w → wpAny P .any A Q (fuel + late.length) listed a w
  | [],_,_,_,_,_,h=>h
  | l :: r, listed, a, w, fuel, hc, h => by
    simp only [chkLate,Bool.and_eq_true] at hc
    obtain ⟨⟨⟨h1,h2⟩,h3⟩,h4⟩:=hc
    obtain ⟨o,ho,hg,_,hd,hv⟩:=isMv_spec (P:=P) h1
    have ih:=take_late hs hQ r (listed.setIfInBounds l true) (a.put (some (mvOf A l).1) (a.get (mvOf A l).2)) w fuel h4 h
    rw [← hd] at ih
    exact wpAny_take ho hs h2 h3 (fun c a w hq=>absurd hq (hQ c _ w)) (.inl ⟨by unfold Region.wanted; rw [hg],hv a⟩) ih

theorem isPure_spec {l : Nat} (h : isPure A l = true) : ∃ o, A[l]? = some o ∧ o.guard = none ∧ ∀ a : Act, (∃ v, ∀ w, (execOp a.eval o).run P w = .ok (.value v) w) ∨ (∀ w, ∃ x w', (execOp a.eval o).run P w = .halt x w' ∧ ∀ c, x ≠ .panic c) := by
  unfold isPure at h
  cases hA:A[l]? with
  | none=>rw [hA] at h; simp at h
  | some o =>
    rw [hA] at h
    simp only [Bool.and_eq_true,Option.isNone_iff_eq_none] at h
    obtain ⟨h1,h2⟩:=h
    refine ⟨o,rfl,h2,fun a=>?_⟩
    cases hop:o.op with
    | move x=>exact .inl ⟨a.eval x,fun w=>by simp [execOp,hop]⟩
    | assign x=>exact .inl ⟨a.eval x,fun w=>by simp [execOp,hop]⟩
    | extract x ix =>
      cases hv:a.eval x with
      | tuple vs =>
        cases hx:vs[ix]? with
        | some y=>exact .inl ⟨y,fun w=>by simp [execOp,hop,hv,Instr.extract,hx]⟩
        | none=>exact .inr fun w=>by simp [execOp,hop,hv,Instr.extract,hx]
      | _=>exact .inr fun w=>by simp [execOp,hop,hv,Instr.extract]
    | _=>rw [hop] at h1; simp at h1

theorem tail_ord (hs:Region.noSelect A = true) (hQ : ∀ c a w,¬ Q (.panic c) a w) (hO : ∀ a w,¬ Q .outgrown a w) : ∀ (ord:List Nat) (listed:Array Bool) (a:Act) (w:World),chkT A listed ord = true → wpOps P A Q ord a w → wpAny P .any A Q ord.length listed a w
  | [], listed, a, w, hc, h => by
    simp only [chkT,beq_iff_eq] at hc
    exact ⟨hc,by simpa [wpOps] using h⟩
  | i :: r, listed, a, w, hc, h => by
    simp only [chkT,Bool.and_eq_true,Bool.or_eq_true,beq_iff_eq] at hc
    obtain ⟨hc | hc,hr⟩:=hc
    · refine ⟨fun hn => (by rw [hc] at hn; simp at hn), fun j hj => ?_⟩
      rw [hc,List.mem_singleton] at hj
      subst hj
      rw [wpOps_cons] at h
      exact wpOp_mono (fun a' w' h'=>tail_ord hs hQ hO r _ a' w' hr h') h
    · obtain ⟨⟨h1, h2⟩, h3⟩ := hc
      obtain ⟨o,ho,hg,hp⟩:=isPure_spec (P:=P) h1
      have hw : ∀ a:Act,Region.wanted o (yielded A a.tmps) = true:=fun a=>by unfold Region.wanted; rw [hg]
      rw [wpOps_cons] at h
      unfold wpOp at h
      rw [ho] at h
      simp only [hw,if_true] at h
      have h := h.resolve_right fun hx => by obtain ⟨_, b, w', hb⟩ := hx; exact hO b w' hb
      unfold Oper.wp at h
      rcases hp a with ⟨v,hv⟩ | hx
      · rw [hv w] at h
        exact wpAny_take ho hs h2 h3 (fun c a w hq=>absurd hq (hQ c _ w)) (.inl ⟨hw a,hv⟩) (tail_ord hs hQ hO r _ _ w hr h)
      · obtain ⟨x, w', hr', hnp⟩ := hx w
        rw [hr'] at h
        cases x <;> simp only [Oper.upon] at h
        · exact absurd rfl (hnp _)
theorem lateAct_size : ∀ (late:List Nat) (a:Act),(lateAct A late a).tmps.size = a.tmps.size
  | [],_=>rfl
  | l::r,a=>by rw [lateAct,lateAct_size r,put_size]
theorem lateAct_defers : ∀ (late:List Nat) (a:Act),(lateAct A late a).defers = a.defers
  | [],_=>rfl
  | l::r,a=>by rw [lateAct,lateAct_defers r,put_defers']
theorem lateAct_old {t n:Nat} : ∀ (late:List Nat) (a:Act),a.tmps.size = n → (∀ l ∈ late,(mvOf A l).1 < n) → (∀ l ∈ late,(mvOf A l).1 ≠ t) → (lateAct A late a).get t = a.get t
  | [],_,_,_,_=>rfl
  | l :: r, a, hn, h1, h2 => by
    rw [lateAct,lateAct_old (n:=n) r _ (by rw [put_size]; exact hn) (fun l' hl=>h1 l' (List.mem_cons_of_mem _ hl)) (fun l' hl=>h2 l' (List.mem_cons_of_mem _ hl)),get_put _ _ _ _ (by rw [hn]; exact h1 l List.mem_cons_self),if_neg (h2 l List.mem_cons_self)]
theorem lateAct_new {n:Nat} : ∀ (late:List Nat) (a:Act),a.tmps.size = n → (∀ l ∈ late,(mvOf A l).1 < n) → late.Nodup →
    (∀ l ∈ late,∀ l' ∈ late,(mvOf A l).2 ≠ (mvOf A l').1∧(l = l' ∨ (mvOf A l).1 ≠ (mvOf A l').1)) → ∀ l ∈ late,(lateAct A late a).get (mvOf A l).1 = a.get (mvOf A l).2
  | [],_,_,_,_,_,l,hl=>nomatch hl
  | x :: r, a, hn, h1, hnd, h2, l, hl => by
    obtain ⟨hx,hnd'⟩:=List.nodup_cons.1 hnd
    have hxn:=h1 x List.mem_cons_self
    rw [lateAct]
    rcases List.mem_cons.1 hl with rfl | hlr
    · rw [lateAct_old (n := n) r _ (by rw [put_size]; exact hn) (fun l' hl => h1 l' (List.mem_cons_of_mem _ hl)) (fun l' hl' => ?_), get_put _ _ _ _ (by rw [hn]; exact hxn), if_pos rfl]
      rcases (h2 l List.mem_cons_self l' (List.mem_cons_of_mem _ hl')).2 with e | e
      · subst e; exact absurd hl' hx
      · exact fun e'=>e e'.symm
    · rw [lateAct_new (n:=n) r _ (by rw [put_size]; exact hn) (fun l' hl=>h1 l' (List.mem_cons_of_mem _ hl)) hnd' (fun l1 hl1 l2 hl2=>h2 l1 (List.mem_cons_of_mem _ hl1) l2 (List.mem_cons_of_mem _ hl2)) l hlr,
        get_put _ _ _ _ (by rw [hn]; exact hxn),if_neg fun e=>(h2 l hl x List.mem_cons_self).1 e.symm]
theorem listL_size : ∀ (late:List Nat) (b:Array Bool),(listL b late).size = b.size
  | [],_=>rfl
  | l::r,b=>by rw [listL,listL_size r]; simp
theorem listL_get : ∀ (late:List Nat) (b:Array Bool) (j:Nat),(∀ l ∈ late,l < b.size) → ((listL b late).getD j false = true ↔ b.getD j false = true ∨ j ∈ late)
  | [],b,j,_=>by simp [listL]
  | l :: r, b, j, h => by
    rw [listL,listL_get r _ j (fun x hx=>by simpa using h x (List.mem_cons_of_mem _ hx))]
    have hl:=h l List.mem_cons_self
    by_cases e:j = l
    · subst e; simp [Array.getD_eq_getD_getElem?,hl]
    · rw [getD_set_ne _ (fun e'=>e e'.symm)]; simp [e]
end

section
variable {P:Program} {a0:Act} {k0:K} {es:List Ent}
theorem known_base {a0' a:Act} {k:K} : ∀ (need:List (Nat × Option Nat)),(∀ t,(t,none) ∈ need → a0'.get t = a0.get t) → Known es a0' a k need → Known es a0 a k need
  | [],_,_=>trivial
  | (t,some j)::xs,h,hk=>⟨hk.1,known_base xs (fun t ht=>h t (List.mem_cons_of_mem _ ht)) hk.2⟩
  | (t,none)::xs,h,hk=>⟨hk.1.trans (h t List.mem_cons_self),known_base xs (fun t ht=>h t (List.mem_cons_of_mem _ ht)) hk.2⟩
theorem ob_base {a0' : Act} {o:Oper} {e:Ent} (h : ∀ t,(t,none) ∈ e.need → a0'.get t = a0.get t) (ho:Ob P es a0 k0 o e):Ob P es a0' k0 o e:=by
  unfold Ob at *
  cases hR:e.R with
  | none=>rw [hR] at ho; exact ho
  | some R =>
    rw [hR] at ho
    refine ⟨ho.1,ho.2.imp (fun g=>⟨fun a k hg hk=>g.1 a k hg (known_base _ h hk),g.2⟩) ?_⟩
    rintro ⟨j,w,Rj,nd,h1,h2,h3,h4⟩
    exact ⟨j,w,Rj,nd,h1,h2,fun a k v hg hk=>h3 a k v hg (known_base _ h hk),h4⟩
theorem steps_base {a0' : Act} : ∀ {os:List Oper} {es' : List Ent},(∀ i o e,nth os i = some o → nth es' i = some e → ∀ t,(t,none) ∈ e.need → a0'.get t = a0.get t) → Steps P es a0 k0 os es' → Steps P es a0' k0 os es'
  | [],_,_,_=>trivial
  | _::_,[],_,_=>trivial
  | o :: os, e :: es', h, hs => ⟨ob_base (h 0 o e rfl rfl) hs.1, steps_base (fun i o e ho he => h (i + 1) o e ho he) hs.2⟩

end
end Go.Gb

/- General part of the proofs: runs, lists of intervals with what holds on each: the canonical form of a function of one number that is constant between finitely many breaks. -/
namespace Go.Gb
section
variable {V:Type} {e:V}

/-- Intervals (from, to) and what holds there. -/
abbrev Runs (V:Type):=List (Int × Int × V)

/-- What holds at x. -/
def rval (e:V):Runs V → Int → V
  | [],_=>e
  | (a,b,v)::t,x=>if a ≤ x∧x < b then v else rval e t x

/-- Nothing begins before n, and what begins at n is not v. -/
def Nxt (n:Int) (v:V):Runs V → Prop
  | []=>True
  | (c,_,w)::_=>n < c ∨ (n = c∧v ≠ w)

def Canon (e:V):Runs V → Prop
  | []=>True
  | (a,b,v)::t=>a < b∧v ≠ e∧Nxt b v t∧Canon e t

theorem canon_ge : ∀ {l:Runs V} {n:Int} {v:V},Canon e l → Nxt n v l → ∀ x,x < n → rval e l x = e
  | [],_,_,_,_,_,_=>rfl
  | (a, b, w) :: t, n, v, hc, hn, x, hx => by
    obtain ⟨h1,_,h3,h4⟩:=hc
    have hna:n ≤ a:=by rcases hn with h | h <;> omega
    simp only [rval]
    rw [if_neg (by omega)]
    exact canon_ge h4 h3 x (by omega)
theorem canon_lt {a b:Int} {v:V} {t:Runs V} (hc:Canon e ((a,b,v)::t)) {x:Int} (hx:x < a):rval e ((a,b,v)::t) x = e:=by
  obtain ⟨h1,_,h3,h4⟩:=hc
  simp only [rval]
  rw [if_neg (by omega)]
  exact canon_ge h4 h3 x (by omega)
theorem rval_head {a b:Int} {v:V} {t:Runs V} (h:a < b):rval e ((a,b,v)::t) a = v:=by
  simp only [rval]; rw [if_pos (by omega)]
theorem rval_nxt {b:Int} {v:V} {t:Runs V} (hc:Canon e t) (hn:Nxt b v t) (hv:v ≠ e):rval e t b ≠ v:=by
  cases t with
  | nil=>exact fun h=>hv h.symm
  | cons r t =>
    obtain ⟨c,d,w⟩:=r
    rcases hn with h | ⟨rfl,h⟩
    · rw [canon_lt hc h]; exact fun h=>hv h.symm
    · rw [rval_head hc.1]; exact fun h'=>h h'.symm

/-- The canonical form is given by the function. -/
theorem canon_unique : ∀ {l m:Runs V},Canon e l → Canon e m → (∀ x,rval e l x = rval e m x) → l = m
  | [],[],_,_,_=>rfl
  | [], (a, b, v) :: t, _, hm, h => by
    have:=h a
    rw [rval_head hm.1] at this
    exact absurd this.symm hm.2.1
  | (a, b, v) :: t, [], hl, _, h => by
    have:=h a
    rw [rval_head hl.1] at this
    exact absurd this hl.2.1
  | (a, b, v) :: t, (a', b', v') :: t', hl, hm, h => by
    have ha:a = a':=by
      rcases Int.lt_trichotomy a a' with h1 | h1 | h1
      · have := h a
        rw [rval_head hl.1,canon_lt hm h1] at this
        exact absurd this hl.2.1
      · exact h1
      · have := h a'
        rw [rval_head hm.1,canon_lt hl h1] at this
        exact absurd this.symm hm.2.1
    subst ha
    have hv:v = v':=by
      have:=h a
      rwa [rval_head hl.1,rval_head hm.1] at this
    subst hv
    obtain ⟨l1,l2,l3,l4⟩:=hl
    obtain ⟨m1,m2,m3,m4⟩:=hm
    have hb:b = b':=by
      rcases Int.lt_trichotomy b b' with h1 | h1 | h1
      · have := h b
        simp only [rval] at this
        rw [if_neg (by omega),if_pos (by omega)] at this
        exact absurd this (rval_nxt l4 l3 l2)
      · exact h1
      · have := h b'
        simp only [rval] at this
        rw [if_neg (show ¬ (a ≤ b'∧b' < b') by omega),if_pos (by omega)] at this
        exact absurd this.symm (rval_nxt m4 m3 m2)
    subst hb
    rw [canon_unique l4 m4 fun x=>?_]
    by_cases hx:x < b
    · rw [canon_ge l4 l3 x hx,canon_ge m4 m3 x hx]
    · have := h x
      simp only [rval] at this
      rwa [if_neg (by omega),if_neg (by omega)] at this

/-- All end at n or before. -/
def EndsBy (l:Runs V) (n:Int):Prop:=∀ r ∈ l,r.2.1 ≤ n
/-- What ends at n is not v. -/
def Lst (l:Runs V) (n:Int) (v:V):Prop:=∀ r,l.getLast? = some r → r.2.1 < n ∨ (r.2.1 = n∧r.2.2 ≠ v)

theorem canon_snoc : ∀ {l:Runs V} {a b:Int} {v:V},Canon e l → Lst l a v → a < b → v ≠ e → Canon e (l ++ [(a,b,v)])
  | [],a,b,v,_,_,h,hv=>⟨h,hv,trivial,trivial⟩
  | [(c, d, w)], a, b, v, hc, hl, h, hv => by
    refine ⟨hc.1,hc.2.1,?_,h,hv,trivial,trivial⟩
    rcases hl _ rfl with h | ⟨h1,h2⟩
    · exact .inl h
    · exact .inr ⟨h1,h2⟩
  | (c, d, w) :: (c', d', w') :: t, a, b, v, hc, hl, h, hv =>
    ⟨hc.1, hc.2.1, hc.2.2.1, canon_snoc (l := (c', d', w') :: t) hc.2.2.2 (fun r hr => hl r (by rw [List.getLast?_cons_cons]; exact hr)) h hv⟩
theorem canon_prefix : ∀ {l m:Runs V},Canon e (l ++ m) → Canon e l
  | [],_,_=>trivial
  | [(c,d,w)],_,h=>⟨h.1,h.2.1,trivial,trivial⟩
  | (c, d, w) :: (c', d', w') :: t, m, h => ⟨h.1, h.2.1, h.2.2.1, canon_prefix (l := (c', d', w') :: t) h.2.2.2⟩
theorem canon_last : ∀ {l:Runs V} {a b:Int} {v:V},Canon e (l ++ [(a,b,v)]) → a < b∧v ≠ e∧Lst l a v
  | [],a,b,v,h=>⟨h.1,h.2.1,fun r hr=>by simp at hr⟩
  | [(c, d, w)], a, b, v, h => by
    refine ⟨h.2.2.2.1,h.2.2.2.2.1,fun r hr=>?_⟩
    simp at hr; subst hr
    rcases h.2.2.1 with h | ⟨h1,h2⟩
    · exact .inl h
    · exact .inr ⟨h1,h2⟩
  | (c, d, w) :: (c', d', w') :: t, a, b, v, h => by
    obtain ⟨h1, h2, h3⟩ := canon_last (l := (c', d', w') :: t) h.2.2.2
    exact ⟨h1,h2,fun r hr=>h3 r (by rw [List.getLast?_cons_cons] at hr; exact hr)⟩
theorem canon_ends : ∀ {l:Runs V} {a b:Int} {v:V},Canon e (l ++ [(a,b,v)]) → EndsBy l a
  | [],_,_,_,_=>fun r hr=>by simp at hr
  | (c, d, w) :: t, a, b, v, h => by
    have h1:=h.2.2.2
    have ih:=canon_ends (l:=t) h1
    intro r hr
    rcases List.mem_cons.1 hr with rfl | hr
    · have h2 := h.2.2.1
      cases t with
      | nil=>rcases h2 with h | h <;> simp_all <;> omega
      | cons r' t =>
        obtain ⟨c', d', w'⟩ := r'
        have h3 := ih (c', d', w') (by simp)
        have h4:=h1.1
        simp only at h3
        have h5:d ≤ c':=by rcases h2 with h | h <;> omega
        show d ≤ a
        omega
    · exact ih r hr
theorem rval_snoc : ∀ {l:Runs V} {a b:Int} {v:V},EndsBy l a → ∀ x,rval e (l ++ [(a,b,v)]) x = if a ≤ x∧x < b then v else rval e l x
  | [],a,b,v,_,x=>rfl
  | (c, d, w) :: t, a, b, v, h, x => by
    have h1:=h (c,d,w) (by simp)
    simp only at h1
    simp only [List.cons_append,rval]
    rw [rval_snoc (fun r hr=>h r (List.mem_cons_of_mem _ hr))]
    by_cases hx:c ≤ x∧x < d
    · rw [if_pos hx,if_pos hx,if_neg (by omega)]
    · rw [if_neg hx,if_neg hx]

/-- One more interval at the end: merged with the last one if both are one. -/
def pushR [DecidableEq V] (e:V) (l:Runs V) (a b:Int) (v:V):Runs V:=
  if v = e then l else match l.getLast? with
    | some (c,d,w)=>if d = a∧w = v then l.dropLast ++ [(c,b,v)] else l ++ [(a,b,v)]
    | none=>[(a,b,v)]
theorem pushR_spec [DecidableEq V] {l:Runs V} {a b:Int} (v:V) (hc:Canon e l) (he:EndsBy l a) (hab:a < b) :
    Canon e (pushR e l a b v)∧EndsBy (pushR e l a b v) b∧∀ x,rval e (pushR e l a b v) x = if a ≤ x∧x < b then v else rval e l x:=by
  unfold pushR
  by_cases hv:v = e
  · rw [if_pos hv]
    refine ⟨hc,fun r hr=>by have:=he r hr; omega,fun x=>?_⟩
    split
    · rename_i h
      subst hv
      have : ∀ {l:Runs V},EndsBy l a → rval v l x = v:=by
        intro l
        induction l with
        | nil=>intro _; rfl
        | cons r t ih =>
          obtain ⟨c,d,w⟩:=r
          intro he
          have:=he (c,d,w) (by simp)
          simp only at this
          simp only [rval]
          rw [if_neg (by omega)]
          exact ih fun r hr=>he r (List.mem_cons_of_mem _ hr)
      exact this he
    · rfl
  · rw [if_neg hv]
    rcases List.eq_nil_or_concat l with rfl | ⟨l', ⟨c, d, w⟩, rfl⟩
    · exact ⟨⟨hab,hv,trivial,trivial⟩,fun r hr=>by simp at hr; subst hr; exact Int.le_refl _,fun x=>rfl⟩
    · simp only [List.concat_eq_append, List.getLast?_append, List.getLast?_singleton, Option.some_or, List.dropLast_concat] at he hc ⊢
      obtain ⟨k1,k2,k3⟩:=canon_last hc
      have ke:=canon_ends hc
      have hda:d ≤ a:=he (c,d,w) (by simp)
      split
      · rename_i h
        obtain ⟨rfl,rfl⟩:=h
        refine ⟨canon_snoc (canon_prefix hc) k3 (by omega) hv,fun r hr=>?_,fun x=>?_⟩
        · rcases List.mem_append.1 hr with h | h
          · have:=he r (List.mem_append_left _ h); omega
          · simp at h; subst h; exact Int.le_refl _
        · rw [rval_snoc ke, rval_snoc ke]
          by_cases h1:d ≤ x∧x < b
          · rw [if_pos h1,if_pos (by omega)]
          · rw [if_neg h1]
            by_cases h2:c ≤ x∧x < d
            · rw [if_pos h2,if_pos (by omega)]
            · rw [if_neg h2,if_neg (by omega)]
      · rename_i h
        refine ⟨canon_snoc hc (fun r hr=>?_) hab hv,fun r hr=>?_,fun x=>rval_snoc he x⟩
        · simp at hr; subst hr
          by_cases h1:d = a
          · exact .inr ⟨h1,fun h2=>h ⟨h1,h2⟩⟩
          · exact .inl (by show d < a; omega)
        · rcases List.mem_append.1 hr with h | h
          · have:=he r h; omega
          · simp at h; subst h; exact Int.le_refl _

/-- The member that holds at x. -/
theorem rval_mem : ∀ {l:Runs V} {x:Int},rval e l x = e ∨ ∃ a b,(a,b,rval e l x) ∈ l∧a ≤ x∧x < b
  | [],_=>.inl rfl
  | (a, b, v) :: t, x => by
    simp only [rval]
    split
    · rename_i h; exact .inr ⟨a,b,by simp,h⟩
    · rcases rval_mem (l := t) (x := x) with h | ⟨a', b', h1, h2⟩
      · exact .inl h
      · exact .inr ⟨a', b', List.mem_cons_of_mem _ h1, h2⟩
theorem rval_of_mem : ∀ {l:Runs V} {a b x:Int} {v:V},Canon e l → (a,b,v) ∈ l → a ≤ x → x < b → rval e l x = v
  | (c, d, w) :: t, a, b, x, v, hc, hm, h1, h2 => by
    obtain ⟨k1,k2,k3,k4⟩:=hc
    rcases List.mem_cons.1 hm with h | h
    · simp only [Prod.mk.injEq] at h
      obtain ⟨rfl,rfl,rfl⟩:=h
      simp only [rval]; rw [if_pos ⟨h1,h2⟩]
    · have ih := rval_of_mem k4 h h1 h2
      simp only [rval]
      split
      · rename_i h3
        have:=canon_ge k4 k3 x h3.2
        -- the member would hold e
        exfalso
        rw [ih] at this
        have:v ≠ e:=by
          clear this ih h1 h2 h3 k1 k2 k3 hm
          induction t with
          | nil=>simp at h
          | cons r t ih =>
            obtain ⟨_,q2,_,q4⟩:=k4
            rcases List.mem_cons.1 h with h | h
            · subst h; exact q2
            · exact ih q4 h
        exact this (by assumption)
      · exact ih
theorem canon_mem : ∀ {l:Runs V} {a b:Int} {v:V},Canon e l → (a,b,v) ∈ l → a < b∧v ≠ e
  | (c, d, w) :: t, a, b, v, hc, hm => by
    rcases List.mem_cons.1 hm with h | h
    · simp only [Prod.mk.injEq] at h
      obtain ⟨rfl,rfl,rfl⟩:=h
      exact ⟨hc.1,hc.2.1⟩
    · exact canon_mem hc.2.2.2 h
end
end Go.Gb

/- General part of the proofs: reasoning on the mirrored functions, continued: loops over a list as folds, the last element of a list, halving. -/
namespace Go.Gb

/-- An empty slice with room for n elements. -/
def growI (α:Type) (n:Int):Option (List α):=if 0 ≤ n∧n ≤ 1073741824 then some [] else none
theorem growI_some {α:Type} {n:Int} (h0:0 ≤ n) (h:n ≤ 1073741824):growI α n = some []:=if_pos ⟨h0,h⟩

theorem getI_concat {α:Type} {l:List α} {x:α} {i:Int} (h:i = (l.length:Int)):getI (l ++ [x]) i = some x:=by
  subst h; unfold getI; rw [if_pos (by omega)]; simp
theorem set_concat {α:Type} {l:List α} {x y:α} {i:Nat} (h:i = l.length):(l ++ [x]).set i y = l ++ [y]:=by
  subst h; rw [List.set_append_right _ _ (Nat.le_refl _)]; simp
theorem subI_len {α:Type} {l:List α} {x:α} (h:l.length < 4611686018427387904):subI (((l ++ [x]).length:Nat):Int) 1 = some (l.length:Int):=by
  rw [subI_some (by unfold inI; simp; omega)]; simp
theorem subI_nat {i:Nat} (h0:0 < i) (h:i < 4611686018427387904):subI (i:Int) 1 = some ((i - 1:Nat):Int):=by
  rw [subI_some (by unfold inI; omega)]; congr 1; omega
/-- A loop over the elements of a list. -/
theorem iter_range {σ τ ρ γ:Type} {l:List γ} {body:τ → Option (Flow τ ρ)} {k:Nat} (st:σ → Int → τ) (step:σ → γ → σ) (Inv:Nat → σ → Prop)
    (hs : ∀ i (hi:i < l.length) s,Inv i s → body (st s (i:Int)) = some (.go (st (step s l[i]) ((i + 1:Nat):Int)))∧Inv (i + 1) (step s l[i]))
    (hd : ∀ s,Inv l.length s → body (st s (l.length:Int)) = some (.ex k (st s (l.length:Int)))) {s0:σ} (h0:Inv 0 s0) {fuel:Nat} (hf:l.length < fuel) :
    iterL body fuel (st s0 0) = some (.ex k (st (l.foldl step s0) (l.length:Int)))∧Inv l.length (l.foldl step s0):=by
  have key : ∀ m i s,i + m = l.length → Inv i s → ∀ fuel,m < fuel → iterL body fuel (st s (i:Int)) = some (.ex k (st ((l.drop i).foldl step s) (l.length:Int)))∧Inv l.length ((l.drop i).foldl step s):=by
    intro m
    induction m with
    | zero =>
      intro i s hi hI fuel hf
      obtain rfl:i = l.length:=by omega
      obtain ⟨fuel,rfl⟩ : ∃ m,fuel = m + 1:=⟨fuel - 1,by omega⟩
      simp only [List.drop_length,List.foldl_nil]
      simp only [iterL,hd s hI]
      exact ⟨trivial,hI⟩
    | succ m ih =>
      intro i s hi hI fuel hf
      obtain ⟨fuel,rfl⟩ : ∃ m,fuel = m + 1:=⟨fuel - 1,by omega⟩
      have hlt:i < l.length:=by omega
      obtain ⟨h1,h2⟩:=hs i hlt s hI
      rw [List.drop_eq_getElem_cons hlt,List.foldl_cons]
      simp only [iterL,h1]
      exact ih (i + 1) _ (by omega) h2 fuel (by omega)
  have:=key l.length 0 s0 (by omega) h0 fuel hf
  simpa using this

/-- A loop with a counter from a number on: it ends at N by leaving, or before by a result. -/
theorem iter_from {σ τ ρ:Type} {body:τ → Option (Flow τ ρ)} {k:Nat} (st:σ → Int → τ) (a N:Nat) (hab:a ≤ N) (Inv:Nat → σ → Prop)
    (hs : ∀ i, a ≤ i → i < N → ∀ s, Inv i s → ∃ s', body (st s (i : Int)) = some (.go (st s' ((i + 1 : Nat) : Int))) ∧ Inv (i + 1) s')
    (hd : ∀ s,Inv N s → body (st s (N:Int)) = some (.ex k (st s (N:Int)))) {s0:σ} (h0:Inv a s0) {fuel:Nat} (hf:N - a < fuel) :
    ∃ s,iterL body fuel (st s0 (a:Int)) = some (.ex k (st s (N:Int)))∧Inv N s:=by
  have key : ∀ m i s, i + m = N → a ≤ i → Inv i s → ∀ fuel, m < fuel → ∃ s', iterL body fuel (st s (i : Int)) = some (.ex k (st s' (N : Int))) ∧ Inv N s' := by
    intro m
    induction m with
    | zero =>
      intro i s hi ha hI fuel hf
      obtain rfl:i = N:=by omega
      obtain ⟨fuel,rfl⟩ : ∃ m,fuel = m + 1:=⟨fuel - 1,by omega⟩
      refine ⟨s,?_,hI⟩
      simp only [iterL,hd s hI]
    | succ m ih =>
      intro i s hi ha hI fuel hf
      obtain ⟨fuel,rfl⟩ : ∃ m,fuel = m + 1:=⟨fuel - 1,by omega⟩
      obtain ⟨s', h1, h2⟩ := hs i ha (by omega) s hI
      obtain ⟨s2,h3,h4⟩:=ih (i + 1) s' (by omega) (by omega) h2 fuel (by omega)
      refine ⟨s2,?_,h4⟩
      simp only [iterL,h1]
      exact h3
  exact key (N - a) a s0 (by omega) (Nat.le_refl _) h0 fuel (by omega)

/-- A loop that looks through a list from its start on: it leaves with a result at the first element that has a property, or runs to the end. -/
theorem iter_find {ρ γ:Type} {l:List γ} {body:Int → Option (Flow Int ρ)} {k:Nat} (p:γ → Prop) (r:Nat → ρ)
    (hs : ∀ i (hi:i < l.length),(p l[i]∧body (i:Int) = some (.ret (r i))) ∨ (¬ p l[i]∧body (i:Int) = some (.go ((i + 1:Nat):Int))))
    (hd:body (l.length:Int) = some (.ex k (l.length:Int))) {fuel:Nat} (hf:l.length < fuel) :
    (∃ i,∃ hi:i < l.length,p l[i]∧(∀ j (hj:j < i),¬ p (l[j]'(by omega)))∧iterL body fuel 0 = some (.ret (r i))) ∨
    ((∀ x ∈ l,¬ p x)∧iterL body fuel 0 = some (.ex k (l.length:Int))):=by
  have key : ∀ m i,i + m = l.length → (∀ j (hj:j < i) (hl:j < l.length),¬ p l[j]) → ∀ fuel,m < fuel →
      (∃ j,∃ hj:j < l.length,p l[j]∧(∀ q (hq:q < j),¬ p (l[q]'(by omega)))∧iterL body fuel (i:Int) = some (.ret (r j))) ∨
      ((∀ j (hj:j < l.length),¬ p l[j])∧iterL body fuel (i:Int) = some (.ex k (l.length:Int))):=by
    intro m
    induction m with
    | zero =>
      intro i hi hp fuel hf
      obtain rfl:i = l.length:=by omega
      obtain ⟨fuel,rfl⟩ : ∃ m,fuel = m + 1:=⟨fuel - 1,by omega⟩
      refine .inr ⟨fun j hj=>hp j hj hj,?_⟩
      simp only [iterL,hd]
    | succ m ih =>
      intro i hi hp fuel hf
      obtain ⟨fuel,rfl⟩ : ∃ m,fuel = m + 1:=⟨fuel - 1,by omega⟩
      rcases hs i (by omega) with ⟨h1,h2⟩ | ⟨h1,h2⟩
      · refine .inl ⟨i, by omega, h1, fun q hq => hp q hq (by omega), ?_⟩
        simp only [iterL,h2]
      · simp only [iterL, h2]
        exact ih (i + 1) (by omega) (fun j hj hl=>by
          rcases Nat.lt_or_ge j i with h | h
          · exact hp j h hl
          · obtain rfl : j = i := by omega
            exact h1) fuel (by omega)
  rcases key l.length 0 (by omega) (fun j hj _=>absurd hj (Nat.not_lt_zero j)) fuel hf with h | ⟨h1,h2⟩
  · exact .inl h
  · refine .inr ⟨fun x hx => ?_, h2⟩
    obtain ⟨j,hj,rfl⟩:=List.getElem_of_mem hx
    exact h1 j hj

theorem foldl_filterMap {α β:Type} (p:α → Bool) (f:α → β) : ∀ (l:List α) (s:List β),l.foldl (fun s r=>if p r then s ++ [f r] else s) s = s ++ (l.filter p).map f
  | [],s=>by simp
  | x :: l, s => by
    rw [List.foldl_cons,foldl_filterMap p f l]
    by_cases h:p x = true
    · simp [h]
    · simp [h]
theorem foldl_flatMap {α β:Type} (f:α → List β) : ∀ (l:List α) (s:List β),l.foldl (fun s r=>s ++ f r) s = s ++ l.flatMap f
  | [],s=>by simp
  | x::l,s=>by rw [List.foldl_cons,foldl_flatMap f l]; simp

end Go.Gb

/- General part of the proofs: own slices in the library's functions: sorted and made compact in place, made with room. -/
namespace Go.Gb
open Go.Proofs Go.Sort Go.RowKit Go.Lib
variable {P:Program}

/-- A slice of the call's own, in a block that the call may write to. -/
def IsOwnW {α:Type} [Enc α] (v:Value) (k:K) (e:TypeId) (xs:List α):Pred:=fun u k'=>IsOwn 0 e xs u k'∧Wr (obF v) k (obF u)

theorem ownAt {α:Type} [Enc α] {u v:Value} {k:K} {B:Nat} {e:TypeId} {xs:List α} (h:v = u) (g:IsOwn B e xs v k):OwnAt u B e xs v k:=⟨h,g⟩
theorem repL_int {k:K} : ∀ {xs:List Int} {cs:List Value},RepL k cs xs ↔ cs = xs.map (Value.int .i64)
  | [],cs=>by simp [RepL]
  | x :: xs, cs => by
    rw [repL_flat]
    have : ∀ l:List Int,(l.map fun n=>FlatE.enc n).flatten = l.map (Value.int .i64):=by
      intro l
      induction l with
      | nil=>rfl
      | cons a l ih=>simp only [List.map_cons,List.flatten_cons,ih]; rfl
    rw [this]

section
variable {k0:K} {b off cap:Nat} {cur:Array Value} {e:TypeId} {xs:List Int} {cs:List Value}
theorem own_holds (hh:k0.w.heap[b]? = some (.cells cur e (0,0))) (hroom:off + xs.length ≤ cur.size) (hcs:(cur.toList.drop off).take (xs.length * Enc.sz Int) = cs) (hrep:RepL k0 cs xs) :
    Holds (Value.int .i64) k0.w b off xs.toArray:=by
  intro j hj
  simp only [List.size_toArray] at hj
  refine ⟨?_,by simp [World.frozen?,hh]⟩
  have h1:cs[j]? = cur[off + j]?:=by
    rw [← hcs,List.getElem?_take,if_pos (by show j < xs.length * 1; omega),List.getElem?_drop,Array.getElem?_toList]
  rw [repL_int.1 hrep,List.getElem?_map,List.getElem?_eq_getElem hj] at h1
  simp only [World.cell?,hh,← h1]
  rw [getElem!_pos _ j (by simpa using hj)]
  simp
theorem put_own {ys zs:List Int} (hB:0 ≤ b) (ho : ¬ k0.sh b) (hh:k0.w.heap[b]? = some (.cells cur e (0,0))) (hc1:xs.length ≤ cap) (hc0:0 < cap) (hcm:cap ≤ maxLen) (hfit:off + cap * Enc.sz Int ≤ cur.size)
    (hlen:(ys ++ zs).length = xs.length) {w' : World} {n:Nat} {os:Array Obj} (hw:w' = grow (putRow (Value.int .i64) (Sort.ahead k0.w n) b off (ys ++ zs).toArray) os) :
    ∃ k' : K,k'.w = w'∧Chg (obF (.slice (some ⟨b,off,none⟩) xs.length cap)) k0 k'∧IsOwn 0 e ys (.slice (some ⟨b,off,none⟩) ys.length cap) k':=by
  have hlt:b < k0.w.heap.size:=(Array.getElem?_eq_some_iff.1 hh).1
  have hsz:k0.w.heap.size ≤ w'.heap.size:=by rw [hw]; unfold putRow mapBlock; simp [grow,Sort.ahead]
  have hblk : ∀ x,x < k0.w.heap.size → x ≠ b → w'.heap[x]? = k0.w.heap[x]?:=by
    intro x hx hxb
    rw [hw]
    unfold putRow mapBlock
    rw [heap_grow_old _ _ (by simpa [Sort.ahead] using hx)]
    simp [Array.getElem?_modify,hxb.symm,Sort.ahead]
  have hrow:w'.heap[b]? = some (.cells (putCells (Value.int .i64) off (ys ++ zs).toArray cur) e (0,0)):=by
    rw [hw]
    unfold putRow mapBlock
    rw [heap_grow_old _ _ (by simpa [Sort.ahead] using hlt)]
    simp [Array.getElem?_modify,hh,onCells,Sort.ahead]
  let k' : K := ⟨w', k0.sh, fun x hx => Nat.lt_of_lt_of_le (k0.lt x hx) hsz⟩
  have hyl:ys.length ≤ xs.length:=by rw [← hlen,List.length_append]; omega
  have hE:Enc.sz Int = 1:=rfl
  refine ⟨k', rfl, ⟨by rw [show k'.w = w' from rfl, hw]; rfl, by rw [show k'.w = w' from rfl, hw]; rfl, by rw [show k'.w = w' from rfl, hw]; rfl, hsz, fun x hx hF => hblk x hx fun e' => hF (by simp [obF, ob, e', Nat.ne_of_gt hc0]), fun _ h => h, fun _ _ h => .inl h, by rw [show k'.w = w' from rfl, hw]; exact Nat.le_add_right _ _⟩,
    .inr (.inr ⟨b,off,cap,_,_,rfl,hB,ho,hrow,by omega,hc0,hcm,by simpa [putCells] using hfit,rfl,?_⟩)⟩
  rw [repL_int]
  refine List.ext_getElem? fun t=>?_
  rw [List.getElem?_take,hE,Nat.mul_one]
  split
  · rename_i ht
    have hcur:off + t < cur.size:=by rw [hE] at hfit; omega
    rw [List.getElem?_drop,Array.getElem?_toList,putCells,Array.getElem?_mapIdx,Array.getElem?_eq_getElem hcur,Option.map_some,if_pos (by simp only [List.size_toArray]; omega),Nat.add_sub_cancel_left,getElem!_pos _ t (by simp only [List.size_toArray]; omega),List.getElem?_map,List.getElem?_eq_getElem ht]
    simp [List.getElem_append_left ht]
  · rename_i ht
    rw [List.getElem?_eq_none (by simp; omega)]
end

/-- An own slice of numbers, sorted in place. -/
theorem sortI_own {f:FuncId} {S:List Int → List Int} {e:TypeId} {xs:List Int} {v0:Value} {k0:K} (hS:(S xs).length = xs.length)
    (hnone : ∀ p cap w,Calls P f #[.slice p 0 cap] w fun e w'=>e = .returned (.tuple #[])∧w' = w)
    (hc : ∀ blk off cap (w:World),Holds (Value.int .i64) w blk off xs.toArray → blk < w.heap.size →
      Calls P f #[.slice (some ⟨blk,off,none⟩) xs.length cap] w fun e w'=>e = .returned (.tuple #[])∧∃ n os,w' = grow (putRow (Value.int .i64) (Sort.ahead w n) blk off (S xs).toArray) os)
    (i0:IsOwn 0 e xs v0 k0):Calls P f #[v0] k0.w (RetC (obF v0) k0 fun _ k'=>IsOwn 0 e (S xs) v0 k'):=by
  have hz : ∀ p cap,v0 = .slice p 0 cap → xs = [] → Calls P f #[v0] k0.w (RetC (obF v0) k0 fun _ k'=>IsOwn 0 e (S xs) v0 k'):=by
    intro p cap hv hx
    have hS0:S xs = []:=List.length_eq_zero_iff.1 (by rw [hS,hx]; rfl)
    subst hv
    refine (hnone p cap k0.w).mono ?_
    rintro e' w' ⟨rfl,rfl⟩
    refine ⟨k0,rfl,Chg.refl _ k0,?_⟩
    rw [hS0]
    rw [hx] at i0
    exact i0
  rcases i0 with ⟨hv,hx⟩ | ⟨a,hv,hx⟩ | ⟨b,off,cap,cur,cs,rfl,hB,ho,hh,hc1,hc0,hcm,hfit,hcs,hrep⟩
  · exact hz _ _ hv hx
  · exact hz _ _ hv hx
  · have hlt : b < k0.w.heap.size := (Array.getElem?_eq_some_iff.1 hh).1
    have hE:Enc.sz Int = 1:=rfl
    have hH:=own_holds hh (by rw [hE] at hfit; omega) hcs hrep
    refine (hc b off cap k0.w hH hlt).mono ?_
    rintro e' w' ⟨rfl,n,os,hw⟩
    obtain ⟨k', e1, hg, hown⟩ := put_own (xs := xs) (ys := S xs) (zs := []) hB ho hh hc1 hc0 hcm hfit (by simpa using hS) (by simpa using hw)
    exact ⟨k', e1, hg, by rw [hS] at hown; exact hown⟩

/-- An own slice of numbers, made compact in place. -/
theorem compactI_own {f:FuncId} {e:TypeId} {xs:List Int} {v0:Value} {k0:K} (hl:(compact xs).length ≤ xs.length) (hlen:xs.length ≤ 1073741824)
    (hnone : ∀ p cap w,Calls P f #[.slice p 0 cap] w fun e w'=>e = .returned (.slice p 0 cap)∧w' = w)
    (hc : ∀ blk off cap (w:World),Holds (Value.int .i64) w blk off xs.toArray → xs.length ≤ cap →
      Calls P f #[.slice (some ⟨blk,off,none⟩) xs.length cap] w fun e w'=>e = .returned (.slice (some ⟨blk,off,none⟩) (compact xs).length cap) ∧
        ∃ q,w' = putRow (Value.int .i64) (Sort.ahead w q) blk off (compact xs ++ List.replicate (xs.length - (compact xs).length) 0).toArray)
    (i0:IsOwn 0 e xs v0 k0):Calls P f #[v0] k0.w (RetC (obF v0) k0 (IsOwnW v0 k0 e (compact xs))):=by
  have hz : ∀ p cap,v0 = .slice p 0 cap → xs = [] → Calls P f #[v0] k0.w (RetC (obF v0) k0 (IsOwnW v0 k0 e (compact xs))):=by
    intro p cap hv hx
    have hS0:compact xs = []:=List.length_eq_zero_iff.1 (by rw [hx] at hl ⊢; simpa using hl)
    subst hv
    refine (hnone p cap k0.w).mono ?_
    rintro e' w' ⟨rfl,rfl⟩
    refine ⟨k0,rfl,Chg.refl _ k0,?_,fun b h=>.inl h⟩
    rw [hS0]
    rw [hx] at i0
    exact i0
  rcases i0 with ⟨hv,hx⟩ | ⟨a,hv,hx⟩ | ⟨b,off,cap,cur,cs,rfl,hB,ho,hh,hc1,hc0,hcm,hfit,hcs,hrep⟩
  · exact hz _ _ hv hx
  · exact hz _ _ hv hx
  · have hE : Enc.sz Int = 1 := rfl
    have hH:=own_holds hh (by rw [hE] at hfit; omega) hcs hrep
    refine (hc b off cap k0.w hH hc1).mono ?_
    rintro e' w' ⟨rfl,q,hw⟩
    obtain ⟨k', e1, hg, hown⟩ := put_own (xs := xs) (ys := compact xs) (zs := List.replicate (xs.length - (compact xs).length) 0) (n := q) (os := #[]) (w' := w') hB ho hh hc1 hc0 hcm hfit (by simp; omega) (by rw [hw, grow_empty])
    refine ⟨k', e1, hg, hown, fun b h => .inl ?_⟩
    simpa [obF,ob] using h

/-- A new slice without elements, with room. -/
theorem grow_own {f:FuncId} {α:Type} [Enc α] {e:TypeId} {n:Int} {r:List α} {v0 v1:Value} {k0:K} (he:ElemOk P e α) (i0:v0 = .slice none 0 0) (i1:IsV n v1 k0) (hr:growI α n = some r)
    (h0:Calls P f #[.slice none 0 0,.int .i64 0] k0.w fun e w'=>e = .returned (.slice none 0 0)∧w' = k0.w)
    (h1 : ∀ (m:Nat) (i:TypeInfo) (z:Value),0 < m → m ≤ 1073741824 → P.info? e = some i → i.zero = some z → 0 < i.size → i.bytes ≤ 65536 →
      Calls P f #[.slice none 0 0,.int .i64 (m:Int)] k0.w fun en w'=>en = .returned (.slice (some ⟨k0.w.heap.size,0,none⟩) 0 (grownCap k0.w (0 + m) 0 e)) ∧
        w' = k0.w.drew.alloc (.cells (([]:List Value).toArray ++ Builtin.zeroCells z.cells (0 + m - 0) ++ Builtin.zeroCells z.cells (grownCap k0.w (0 + m) 0 e - (0 + m))) e)) :
    Calls P f #[v0,v1] k0.w (Ret k0 (IsOwn k0.w.heap.size e r)):=by
  subst i0
  obtain rfl:=isV_int.1 i1
  unfold growI at hr
  split at hr
  · rename_i hn
    obtain rfl:=Option.some.inj hr
    rcases Int.lt_or_le 0 n with hp | hp
    · obtain ⟨m, rfl⟩ : ∃ m : Nat, n = (m : Int) := ⟨n.toNat, by omega⟩
      obtain ⟨i,z,hi,hiz,hsz,hzs,hpos,hby⟩:=he
      refine (h1 m i z (by omega) (by omega) hi hiz (by omega) hby).mono ?_
      rintro e' w' ⟨rfl,hw⟩
      have hge:=grownCap_ge k0.w (0 + m) 0 e
      have hcm:grownCap k0.w (0 + m) 0 e ≤ maxLen:=grownCap_le_maxLen k0.w _ 0 e (by unfold maxLen; omega)
      generalize grownCap k0.w (0 + m) 0 e = cap at hge hcm hw
      let k' : K := ⟨w', k0.sh, fun b hb => by have := k0.lt b hb; rw [hw]; simp; omega⟩
      have hblk : ∀ b,b < k0.w.heap.size → w'.heap[b]? = k0.w.heap[b]?:=fun b hb=>by rw [hw]; exact (World.grownBy_alloc k0.w.drew _ none).block b hb (by simp)
      refine ⟨k', rfl, ⟨by rw [show k'.w = w' from rfl, hw]; rfl, by rw [show k'.w = w' from rfl, hw]; rfl, by rw [show k'.w = w' from rfl, hw]; rfl, by rw [show k'.w = w' from rfl, hw]; simp, hblk, fun _ h => h, fun _ _ h => h, by rw [show k'.w = w' from rfl, hw]; exact Nat.le_succ _⟩,
        .inr (.inr ⟨k0.w.heap.size,0,cap,_,[],rfl,Nat.le_refl _,fun hs=>Nat.lt_irrefl _ (k0.lt _ hs),by rw [show k'.w = w' from rfl,hw]; exact heap_alloc_new k0.w.drew _,Nat.zero_le _,by omega,hcm,?_,by simp,rfl⟩)⟩
      simp only [Array.size_append,List.size_toArray,size_zeroCells,hzs]
      simp only [List.length_nil,Nat.zero_add,Nat.sub_zero]
      rw [← Nat.add_mul]
      exact Nat.mul_le_mul_right _ (by omega)
    · obtain rfl : n = 0 := by omega
      refine h0.mono ?_
      rintro e' w' ⟨rfl,rfl⟩
      exact ⟨k0,rfl,Grow.refl k0,.inl ⟨rfl,rfl⟩⟩
  · simp at hr

/-- What growing makes of a world. -/
theorem grow_world {k k' : K} (h : Grow k k') : ∃ q os', k'.w = grow (k.w.drewN q) os' := by
  refine ⟨k'.w.drawn - k.w.drawn,k'.w.heap.extract k.w.heap.size k'.w.heap.size,?_⟩
  have e1:k'.w.heap = k.w.heap ++ k'.w.heap.extract k.w.heap.size k'.w.heap.size:=by
    have hs:=h.size
    refine Array.ext_getElem? fun i=>?_
    rw [Array.getElem?_append]
    split
    · rename_i hi
      exact h.blk i hi
    · rename_i hi
      rw [Array.getElem?_extract]
      split
      · congr 1; omega
      · rw [Array.getElem?_eq_none]; omega
  have e2:k'.w.drawn = k.w.drawn + (k'.w.drawn - k.w.drawn):=by have:=h.drawn; omega
  have h1:=h.tape; have h2:=h.os; have h3:=h.out
  unfold grow World.drewN
  revert e1 e2 h1 h2 h3
  generalize k'.w = w'
  generalize k.w = w
  obtain ⟨a,b,c,d,e⟩:=w
  obtain ⟨a', b', c', d', e'⟩ := w'
  dsimp only
  rintro h1 h2 h3 h4 h5
  rw [World.mk.injEq]
  exact ⟨h1,h3,h2,h4,h5⟩
theorem ret_cmp {f : FuncId} {args : Array Value} {k : K} {r : Int} (h : Calls P f args k.w (Ret k (IsV r))) : Calls P f args k.w fun e w' => e = .returned (.int .i64 r) ∧ ∃ q os', w' = grow (k.w.drewN q) os' := h.mono fun e w' he => by
  cases e with
  | returned v =>
    obtain ⟨k', rfl, hg, hv⟩ := he
    exact ⟨by rw [isV_int.1 hv],grow_world hg⟩
  | panicked c=>exact he.elim
  | outgrown=>exact he.elim
/-- A world with nothing shared. -/
def kFree (w:World):K:=⟨w,fun _=>False,fun _ h=>h.elim⟩
theorem isV_flat {α:Type} [Enc α] [FlatE α] (h:Enc.agg α = true) (x:α) (k:K):IsV x (.agg (FlatE.enc x).toArray) k:=⟨FlatE.enc x,by rw [h]; rfl,FlatE.rep.2 rfl⟩

/-! What sorting and making compact do, plainly. -/
theorem keeps_val {α:Type} [DecidableEq α] [Inhabited α] {zs:List α} {j:Nat} (hj:j < zs.length) (h0:0 < j):keeps zs.toArray j = decide (zs[j] ≠ zs[j - 1]'(by omega)):=by
  unfold keeps
  rw [getElem!_pos _ j (by simpa using hj),getElem!_pos _ (j - 1) (by simp; omega)]
  simp [Nat.ne_of_gt h0]
theorem compact_sorted {l:List Int} (hs:l.Pairwise fun a b=>a ≤ b):(compact l).Pairwise (fun a b=>a < b)∧(∀ x,x ∈ compact l ↔ x ∈ l)∧(compact l).length ≤ l.length:=by
  have hs':=List.pairwise_iff_getElem.1 hs
  have key : ∀ m,m ≤ l.length → (compactUpTo l.toArray m).Pairwise (fun a b=>a < b)∧(∀ x,x ∈ compactUpTo l.toArray m ↔ x ∈ l.take m)∧(compactUpTo l.toArray m).length ≤ m:=by
    intro m
    induction m with
    | zero=>intro _; simp [compactUpTo]
    | succ m ih =>
      intro hm
      obtain ⟨h1,h2,h3⟩:=ih (by omega)
      rw [compactUpTo_succ,List.take_succ_eq_append_getElem (by omega:m < l.length)]
      have e:l.toArray[m]! = l[m]:=by rw [getElem!_pos _ m (by simp; omega)]; simp
      rcases Nat.eq_zero_or_pos m with rfl | h0
      · simp [keeps,compactUpTo,e]
      · rw [keeps_val (by omega) h0, e]
        have hle:l[m - 1]'(by omega) ≤ l[m]:=hs' (m - 1) m (by omega) (by omega) (by omega)
        by_cases he:l[m] = l[m - 1]'(by omega)
        · simp only [he, ne_eq, not_true_eq_false, decide_false, Bool.false_eq_true, if_false, List.append_nil]
          refine ⟨h1,fun x=>?_,by omega⟩
          rw [h2]
          constructor
          · intro h; exact List.mem_append_left _ h
          · intro h
            rcases List.mem_append.1 h with h | h
            · exact h
            · simp only [List.mem_singleton] at h
              subst h
              rw [List.mem_iff_getElem]
              exact ⟨m - 1,by simp; omega,by simp⟩
        · simp only [ne_eq, he, not_false_eq_true, decide_true, if_true]
          refine ⟨?_,fun x=>?_,by simp; omega⟩
          · rw [List.pairwise_append]
            refine ⟨h1,List.pairwise_singleton _ _,fun x hx y hy=>?_⟩
            simp only [List.mem_singleton] at hy
            subst hy
            have:=(h2 x).1 hx
            obtain ⟨j,hj,rfl⟩:=List.getElem_of_mem this
            rw [List.getElem_take]
            simp only [List.length_take] at hj
            have h5:l[j]'(by omega) ≤ l[m - 1]'(by omega):=by
              rcases Nat.lt_or_ge j (m - 1) with h | h
              · exact hs' j (m - 1) (by omega) (by omega) h
              · have : j = m - 1 := by omega
                subst this; exact Int.le_refl _
            omega
          · rw [List.mem_append,List.mem_append,h2]
  have:=key l.length (Nat.le_refl _)
  rwa [List.take_length] at this
theorem compact_length {l:List Int}:(compact l).length ≤ l.length:=by
  unfold compact compactUpTo
  rw [List.length_map]
  exact Nat.le_trans (List.length_filter_le _ _) (by simp)
/-- The numbers, sorted. -/
def sortInts (l:List Int):Option (List Int):=if l.length ≤ 1073741824 then some (l.mergeSort fun x y=>decide (x ≤ y)) else none
theorem sortInts_spec {l:List Int} (h:l.length ≤ 1000000) : ∃ r,sortInts l = some r∧r.Perm l∧r.Pairwise fun a b=>a ≤ b:=by
  refine ⟨_,if_pos (by omega),List.mergeSort_perm _ _,?_⟩
  have:=List.pairwise_mergeSort (le:=fun x y:Int=>decide (x ≤ y)) (by intro a b c; simp; omega) (by intro a b; simp; omega) l
  simpa using this
/-- Each number once. -/
def compactInts (l:List Int):Option (List Int):=if l.length ≤ 1073741824 then some (compact l) else none
theorem compactInts_spec {l:List Int} (h:l.length ≤ 1000000) (hs:l.Pairwise fun a b=>a ≤ b) : ∃ r,compactInts l = some r∧r.Pairwise (fun a b=>a < b)∧(∀ x,x ∈ r ↔ x ∈ l)∧r.length ≤ l.length:=
  ⟨_,if_pos (by omega),compact_sorted hs⟩
end Go.Gb

/- General part of the proofs: building runs from cuts; loops that may end early; sums. -/
namespace Go.Gb
section
variable {V:Type} [DecidableEq V] {e:V}

/-- The runs of a function that is constant between neighbouring cuts. -/
def build (e:V) (zs:List Int) (A:Int → V):Nat → Runs V
  | 0=>[]
  | i + 1=>pushR e (build e zs A i) (zs.getD i 0) (zs.getD (i + 1) 0) (A (zs.getD i 0))
theorem getD_get {zs:List Int} {i:Nat} (h:i < zs.length):zs.getD i 0 = zs[i]:=by
  rw [List.getD_eq_getElem?_getD,List.getElem?_eq_getElem h]; rfl
theorem build_succ {zs:List Int} {A:Int → V} {i:Nat} (h:i + 1 < zs.length):build e zs A (i + 1) = pushR e (build e zs A i) (zs[i]'(by omega)) zs[i + 1] (A (zs[i]'(by omega))):=by
  rw [build,getD_get (by omega),getD_get h]
theorem build_spec {zs:List Int} (hz:zs.Pairwise fun a b=>a < b) (A:Int → V) : ∀ (n:Nat),n < zs.length → Canon e (build e zs A n)∧(∀ h:n < zs.length,EndsBy (build e zs A n) zs[n]) ∧
    (∀ j (hj:j + 1 < zs.length),j < n → ∀ z,zs[j] ≤ z → z < zs[j + 1] → rval e (build e zs A n) z = A zs[j])∧(∀ z,(∀ j (hj:j + 1 < zs.length),j < n → ¬ (zs[j] ≤ z∧z < zs[j + 1])) → rval e (build e zs A n) z = e) ∧
    (∀ r ∈ build e zs A n,∃ j,∃ hj:j < zs.length,j < n∧r.2.2 = A zs[j])
  | 0,_=>⟨trivial,fun _ r hr=>by simp [build] at hr,fun j _ h=>absurd h (Nat.not_lt_zero j),fun z _=>rfl,fun r hr=>by simp [build] at hr⟩
  | n + 1, hn => by
    obtain ⟨h1,h2,h3,h4,h5⟩:=build_spec hz A n (by omega)
    have hlt:zs[n]'(by omega) < zs[n + 1]:=(List.pairwise_iff_getElem.1 hz) n (n + 1) (by omega) hn (by omega)
    obtain ⟨k1,k2,k3⟩:=pushR_spec (A (zs[n]'(by omega))) h1 (h2 (by omega)) hlt
    rw [build_succ hn]
    refine ⟨k1,fun _=>k2,fun j hj hjn z a1 a2=>?_,fun z hz'=>?_,fun r hr=>?_⟩
    · rw [k3]
      rcases Nat.lt_or_ge j n with h | h
      · have : zs[j + 1] ≤ zs[n]'(by omega) := by
          rcases Nat.lt_or_ge (j + 1) n with h' | h'
          · exact Int.le_of_lt ((List.pairwise_iff_getElem.1 hz) (j + 1) n hj (by omega) h')
          · have : j + 1 = n := by omega
            subst this; exact Int.le_refl _
        rw [if_neg (by omega)]
        exact h3 j hj h z a1 a2
      · have : j = n := by omega
        subst this
        rw [if_pos ⟨a1,a2⟩]
    · rw [k3, if_neg (hz' n hn (by omega))]
      exact h4 z fun j hj hjn=>hz' j hj (by omega)
    · have : r.2.2 = A (zs[n]'(by omega)) ∨ ∃ q ∈ build e zs A n, q.2.2 = r.2.2 := by
        unfold pushR at hr
        split at hr
        · exact .inr ⟨r,hr,rfl⟩
        · split at hr
          · rename_i c d w hl
            split at hr
            · rename_i hc
              rcases List.mem_append.1 hr with h | h
              · exact .inr ⟨r,(List.dropLast_sublist _).subset h,rfl⟩
              · simp only [List.mem_singleton] at h; subst h; exact .inl rfl
            · rcases List.mem_append.1 hr with h | h
              · exact .inr ⟨r,h,rfl⟩
              · simp only [List.mem_singleton] at h; subst h; exact .inl rfl
          · simp only [List.mem_singleton] at hr; subst hr; exact .inl rfl
      rcases this with h | ⟨q,hq,h⟩
      · exact ⟨n,by omega,by omega,h⟩
      · obtain ⟨j, hj, hjn, h'⟩ := h5 q hq
        exact ⟨j,hj,by omega,by rw [← h,h']⟩
end

/-- A loop with a counter from a number on: it ends at N by leaving, or before by a result. -/
theorem iter_fromR {σ τ ρ:Type} {body:τ → Option (Flow τ ρ)} {k:Nat} (st:σ → Int → τ) (a N:Nat) (hab:a ≤ N) (Inv:Nat → σ → Prop) (Post:ρ → Prop)
    (hs : ∀ i, a ≤ i → i < N → ∀ s, Inv i s → (∃ s', body (st s (i : Int)) = some (.go (st s' ((i + 1 : Nat) : Int))) ∧ Inv (i + 1) s') ∨ (∃ r, body (st s (i : Int)) = some (.ret r) ∧ Post r))
    (hd : ∀ s,Inv N s → body (st s (N:Int)) = some (.ex k (st s (N:Int)))) {s0:σ} (h0:Inv a s0) {fuel:Nat} (hf:N - a < fuel) :
    (∃ s,iterL body fuel (st s0 (a:Int)) = some (.ex k (st s (N:Int)))∧Inv N s) ∨ (∃ r,iterL body fuel (st s0 (a:Int)) = some (.ret r)∧Post r):=by
  have key : ∀ m i s, i + m = N → a ≤ i → Inv i s → ∀ fuel, m < fuel → (∃ s', iterL body fuel (st s (i : Int)) = some (.ex k (st s' (N : Int))) ∧ Inv N s') ∨ (∃ r, iterL body fuel (st s (i : Int)) = some (.ret r) ∧ Post r) := by
    intro m
    induction m with
    | zero =>
      intro i s hi ha hI fuel hf
      obtain rfl:i = N:=by omega
      obtain ⟨fuel,rfl⟩ : ∃ m,fuel = m + 1:=⟨fuel - 1,by omega⟩
      refine .inl ⟨s,?_,hI⟩
      simp only [iterL,hd s hI]
    | succ m ih =>
      intro i s hi ha hI fuel hf
      obtain ⟨fuel,rfl⟩ : ∃ m,fuel = m + 1:=⟨fuel - 1,by omega⟩
      rcases hs i ha (by omega) s hI with ⟨s', h1, h2⟩ | ⟨r, h1, h2⟩
      · simp only [iterL, h1]
        exact ih (i + 1) s' (by omega) (by omega) h2 fuel (by omega)
      · refine .inr ⟨r, ?_, h2⟩
        simp only [iterL,h1]
  exact key (N - a) a s0 (by omega) (Nat.le_refl _) h0 fuel (by omega)

/-! Sums -/
def sumN (f:Nat → Int):Nat → Int
  | 0=>0
  | n + 1=>sumN f n + f n
def sumL {α:Type} (f:α → Int):List α → Int
  | []=>0
  | x::xs=>f x + sumL f xs
theorem sumN_congr {f g:Nat → Int} : ∀ {n:Nat},(∀ i,i < n → f i = g i) → sumN f n = sumN g n
  | 0,_=>rfl
  | n + 1,h=>by rw [sumN,sumN,sumN_congr fun i hi=>h i (by omega),h n (by omega)]
theorem sumN_add {f g:Nat → Int} : ∀ {n:Nat},sumN (fun i=>f i + g i) n = sumN f n + sumN g n
  | 0=>rfl
  | n + 1=>by simp only [sumN,sumN_add (n:=n)]; omega
theorem sumN_zero : ∀ {n:Nat},sumN (fun _=>0) n = 0
  | 0=>rfl
  | n + 1=>by simp only [sumN,sumN_zero (n:=n)]; rfl
theorem sumN_nonneg {f:Nat → Int} : ∀ {n:Nat},(∀ i,i < n → 0 ≤ f i) → 0 ≤ sumN f n
  | 0,_=>Int.le_refl _
  | n + 1, h => by
    have:=sumN_nonneg (n:=n) fun i hi=>h i (by omega)
    have:=h n (by omega)
    simp only [sumN]; omega
theorem sumN_le {f:Nat → Int} {m:Int} : ∀ {n:Nat},(∀ i,i < n → f i ≤ m) → sumN f n ≤ n * m
  | 0,_=>by simp [sumN]
  | n + 1, h => by
    have h1:=sumN_le (n:=n) fun i hi=>h i (by omega)
    have h2:=h n (by omega)
    have h3:((n + 1:Nat):Int) * m = n * m + m:=by rw [Int.natCast_add,Int.add_mul]; simp
    simp only [sumN]; omega
theorem sumN_split {f:Nat → Int} {a:Nat} : ∀ {n:Nat},sumN f (a + n) = sumN f a + sumN (fun i=>f (a + i)) n
  | 0=>by simp [sumN]
  | n + 1=>by rw [← Nat.add_assoc,sumN,sumN_split (n:=n),sumN]; omega
theorem sumN_const {c:Int} : ∀ {n:Nat},sumN (fun _=>c) n = n * c
  | 0=>by simp [sumN]
  | n + 1 => by
    have h3:((n + 1:Nat):Int) * c = n * c + c:=by rw [Int.natCast_add,Int.add_mul]; simp
    simp only [sumN,sumN_const (n:=n)]; omega
theorem sumL_append {α:Type} {f:α → Int} : ∀ {a b:List α},sumL f (a ++ b) = sumL f a + sumL f b
  | [],b=>by simp [sumL]
  | x::a,b=>by simp only [List.cons_append,sumL,sumL_append (a:=a)]; omega
theorem sumL_nonneg {α:Type} {f:α → Int} : ∀ {l:List α},(∀ x ∈ l,0 ≤ f x) → 0 ≤ sumL f l
  | [],_=>Int.le_refl _
  | x :: l, h => by
    have:=sumL_nonneg (l:=l) fun y hy=>h y (by simp [hy])
    have:=h x (by simp)
    simp only [sumL]; omega
theorem sumL_map {α β:Type} {f:β → Int} {g:α → β} : ∀ {l:List α},sumL f (l.map g) = sumL (fun x=>f (g x)) l
  | []=>rfl
  | x::l=>by simp only [List.map_cons,sumL,sumL_map (l:=l)]
theorem sumL_flatMap {α β:Type} {f:β → Int} {g:α → List β} : ∀ {l:List α},sumL f (l.flatMap g) = sumL (fun x=>sumL f (g x)) l
  | []=>rfl
  | x::l=>by simp only [List.flatMap_cons,sumL_append,sumL,sumL_flatMap (l:=l)]
theorem sumL_congr {α:Type} {f g:α → Int} : ∀ {l:List α},(∀ x ∈ l,f x = g x) → sumL f l = sumL g l
  | [],_=>rfl
  | x::l,h=>by rw [sumL,sumL,h x (by simp),sumL_congr fun y hy=>h y (by simp [hy])]
theorem sumL_mul {α:Type} {f:α → Int} {c:Int} : ∀ {l:List α},sumL (fun x=>c * f x) l = c * sumL f l
  | []=>by simp [sumL]
  | x::l=>by simp only [sumL,sumL_mul (l:=l),Int.mul_add]
/-- Of a function that is constant on runs, the sum over an interval is the sum over the runs, each with its length. -/
theorem sum_runs {V:Type} {e:V} {w:V → Int} (he:w e = 0) : ∀ {l:Runs V} {N:Nat},Canon e l → (∀ r ∈ l,0 ≤ r.1∧r.2.1 ≤ N) → sumL (fun r=>(r.2.1 - r.1) * w r.2.2) l = sumN (fun i=>w (rval e l (i:Int))) N
  | [], N, _, _ => by
    simp only [sumL,rval,he]; exact sumN_zero.symm
  | (a, b, v) :: t, N, h, hb => by
    obtain ⟨h1,h2,h3,h4⟩:=h
    have hab:=hb (a,b,v) (by simp)
    simp only at hab
    have ih:=sum_runs (w:=w) he h4 fun r hr=>hb r (by simp [hr])
    simp only [sumL]
    rw [ih]
    obtain ⟨a', rfl⟩ : ∃ n : Nat, a = n := ⟨a.toNat, by omega⟩
    obtain ⟨b', rfl⟩ : ∃ n : Nat, b = n := ⟨b.toNat, by omega⟩
    have e1:N = a' + ((b' - a') + (N - b')):=by omega
    rw [e1,sumN_split,sumN_split,sumN_split,sumN_split]
    have q1 : sumN (fun i => w (rval e ((↑a', ↑b', v) :: t) (i : Int))) a' = 0 := by
      rw [← sumN_zero (n:=a')]
      refine sumN_congr fun i hi=>?_
      rw [canon_lt ⟨h1,h2,h3,h4⟩ (by omega),he]
    have q2:sumN (fun i=>w (rval e t (i:Int))) a' = 0:=by
      rw [← sumN_zero (n:=a')]
      refine sumN_congr fun i hi=>?_
      rw [canon_ge h4 h3 _ (by omega),he]
    have q3:sumN (fun i=>w (rval e t ((a' + i:Nat):Int))) (b' - a') = 0:=by
      rw [← sumN_zero (n:=b' - a')]
      refine sumN_congr fun i hi=>?_
      rw [canon_ge h4 h3 _ (by omega),he]
    have q4 : sumN (fun i => w (rval e ((↑a', ↑b', v) :: t) ((a' + i : Nat) : Int))) (b' - a') = ((b' : Int) - a') * w v := by
      have:((b' : Int) - a') = ((b' - a' : Nat):Int):=by omega
      rw [this,← sumN_const]
      refine sumN_congr fun i hi=>?_
      simp only [rval]
      rw [if_pos (by omega)]
    have q5 : sumN (fun i => w (rval e ((↑a', ↑b', v) :: t) ((a' + (b' - a' + i) : Nat) : Int))) (N - b') = sumN (fun i => w (rval e t ((a' + (b' - a' + i) : Nat) : Int))) (N - b') := by
      refine sumN_congr fun i hi=>?_
      simp only [rval]
      rw [if_neg (by omega)]
    rw [q1,q2,q3,q4,q5]; omega
end Go.Gb

/- General part of the proofs: short forms of the steps. -/
namespace Go.Gb
abbrev IsI (x:Int):Pred:=IsV x
abbrev IsL {α:Type} (x:List α):Pred:=IsV (x.length:Int)
/-- what holds of the slots -/
def Al:List (Nat × Pred) → Act → K → Prop
  | [],_,_=>True
  | (t,R)::l,a,k=>R (a.get t) k∧Al l a k
section
variable {P:Program} {a a0 a' : Act} {k k0 k' kk:K} {R:Pred} {o:Oper} {es:List Ent} {F:FP} {n:Nat} {Q:Exit → Act → World → Prop} {A:Array Oper} {m:Nat} {ops:List Oper}
theorem gS {id:Nat} (m:Nat) (es:List Ent) (hn:a0.tmps.size = n) (hchk:chkS n m A.toList es = true)
    (hst:Steps P es a0 k0 (A.toList.take m) es) (hQ:LetsOut Q)
    (hpost : ∀ a k,Post A.toList es m a0 k0 a k → wpOps P A Q (List.range' m (A.size - m)) a k.w):(Code.region id A false).wp P Q a0 k0.w:=
  regionS es hn hchk hst hQ hpost
theorem cutS {x y:Code} (T:Act → K → Prop)
    (h1 : ∀ Q' : Exit → Act → World → Prop, LetsOut Q' → (∀ a' k', T a' k' → Q' .normal a' k'.w) → x.wp P Q' a k.w)
    (h2 : ∀ a' k', T a' k' → y.wp P Q a' k'.w) : (Code.seq x y).wp P Q a k.w :=
  wp_seq (h1 _ trivial h2)
/-- A region, and what is then used of it. -/
theorem stepL {id:Nat} {y:Code} (m:Nat) (es:List Ent) (hm:A.size = m) (H:Bs F kk n a k) (hchk:chkS n m A.toList es = true)
    (hst:Steps P es a k (A.toList.take m) es) (l:List (Nat × Pred)) (hl : ∀ b q,Post A.toList es m a k b q → Al l b q)
    (h2 : ∀ a' k', Bs F kk n a' k' ∧ Al l a' k' → y.wp P Q a' k'.w) : (Code.seq (Code.region id A false) y).wp P Q a k.w := by
  refine wp_seq ?_
  refine regionS es H.s hchk hst trivial fun b q p=>?_
  rw [hm,Nat.sub_self]
  exact tail_done (k:=q) (h2 _ _ ⟨Bs.post H p,hl _ _ p⟩)
theorem Post.ke {b:Act} {q:K} [Mono R] (p:Post ops es m a k b q) (t:Nat) (ht:allI (fun i o=>i ≥ m || o.dst != some t) 0 ops = true) (h:R (a.get t) k):R (b.get t) q:=keep p t ht h
theorem Post.ou {b:Act} {q:K} {nd:List (Nat × Option Nat)} (p:Post ops es m a k b q) (i d:Nat) (h:(Nat.blt i m,(nth ops i).bind (·.dst),nth es i) = (true,some d,some ⟨some R,nd⟩)):R (b.get d) q:=
  out p i d nd (Prod.mk.inj h).1 (Prod.mk.inj (Prod.mk.inj h).2).1 (Prod.mk.inj (Prod.mk.inj h).2).2
theorem o1 (nd:List (Nat × Option Nat)) [Mono R] (hg:o.guard = none) (h : ∀ a k,Grow k0 k → Known es a0 a k nd → Does P o a k R):Ob P es a0 k0 o ⟨some R,nd⟩:=ob1 hg h
theorem mu {t:Nat} [Mono R] (h:(o.guard,o.op) = (none,.move (.tmp t))) (i:R (a0.get t) k0):Ob P es a0 k0 o ⟨some R,[(t,none)]⟩:=
  ob1 (Prod.mk.inj h).1 fun _ _ g n=>ok_move (Prod.mk.inj h).2 (up i g n.1)
theorem cp {t:Nat} (j:Nat) {nd:List (Nat × Option Nat)} [Mono R] (h:(o.guard,o.op) = (none,.assign (.tmp t))) (hj:nth es j = some ⟨some R,nd⟩):Ob P es a0 k0 o ⟨some R,[(t,some j)]⟩:=
  ob1 (Prod.mk.inj h).1 fun a k _ n=>ok_assign (Prod.mk.inj h).2 (show R (a.get t) k by have h1:=n.1; rw [hj] at h1; exact h1)
theorem cm {t:Nat} (j:Nat) {nd:List (Nat × Option Nat)} [Mono R] (h:(o.guard,o.op) = (none,.move (.tmp t))) (hj:nth es j = some ⟨some R,nd⟩):Ob P es a0 k0 o ⟨some R,[(t,some j)]⟩:=
  ob1 (Prod.mk.inj h).1 fun a k _ n=>ok_move (Prod.mk.inj h).2 (show R (a.get t) k by have h1:=n.1; rw [hj] at h1; exact h1)
theorem aI {x:Int} {y:Operand} (h:(o.guard,o.op) = (none,.assign y)) (hy:y = .const (.int .i64 x)):Ob P es a0 k0 o ⟨some (IsI x),[]⟩:=by
  subst hy; exact ob1 (Prod.mk.inj h).1 fun _ _ _ _=>ok_assign (Prod.mk.inj h).2 (isV_int.2 rfl)
theorem cI {x:Int} {v:Value} (h:v = .int .i64 x):IsV x v k:=isV_int.2 h
end
end Go.Gb

/- General part of the proofs: pointers to boxes that are handed to calls, and methods that hold one. -/
namespace Go.Gb
section
variable {P:Program} {o:Oper} {a a' : Act} {k k' k0:K} {R:Pred} {α:Type} [Enc α] {F:FP}
theorem ok_nilCheckV {x:Operand} (ho:o.op = .nilCheck x) (hv : ∃ ad,a.eval x = .pointer (some ad)) (h:R (a.eval x) k):Does P o a k R:=by
  obtain ⟨ad,e⟩:=hv
  exact does_pure (v:=a.eval x) (by simp [execOp,ho,e]) h
theorem ok_nilCheckA {x:Operand} {b m:Nat} (ho:o.op = .nilCheck x) (h:IsAdr b m (a.eval x) k):Does P o a k (IsAdr b m):=ok_nilCheckV ho ⟨_,h⟩ h
theorem ok_nilCheckR {x:Operand} {y:α} (ho:o.op = .nilCheck x) (h:IsRef y (a.eval x) k):Does P o a k (IsRef y):=ok_nilCheckV ho (let ⟨ad,e,_⟩:=h; ⟨ad,e⟩) h
end
end Go.Gb

/- General part of the proofs: shorter forms of single operations. -/
namespace Go.Gb
section
variable {P:Program} {o:Oper} {a0:Act} {k0:K} {R S:Pred} {es:List Ent} {α:Type} [Enc α] {nd nd2:List (Nat × Option Nat)}
theorem known_at {es:List Ent} {a:Act} {k:K} {t j:Nat} {l:List (Nat × Option Nat)} (hj:nth es j = some ⟨some R,nd⟩) (h:Known es a0 a k ((t,some j)::l)):R (a.get t) k:=by
  have h1:=h.1; rw [hj] at h1; exact h1
theorem e0 {t j:Nat} [Mono R] (h:(o.guard,o.op) = (none,.extract (.tmp t) 0)) (hj:nth es j = some ⟨some (IsTup2 R S),nd⟩):Ob P es a0 k0 o ⟨some R,[(t,some j)]⟩:=
  ob1 (Prod.mk.inj h).1 fun _ _ _ n=>ok_ext2_0 (Prod.mk.inj h).2 (known_at hj n)
theorem e1 {t j:Nat} [Mono S] (h:(o.guard,o.op) = (none,.extract (.tmp t) 1)) (hj:nth es j = some ⟨some (IsTup2 R S),nd⟩):Ob P es a0 k0 o ⟨some S,[(t,some j)]⟩:=
  ob1 (Prod.mk.inj h).1 fun _ _ _ n=>ok_ext2_1 (Prod.mk.inj h).2 (known_at hj n)
theorem ld {t j:Nat} {ty:TypeId} {y:α} (h:(o.guard,o.op) = (none,.load ty (.tmp t))) (ht:Ty P ty α) (hj:nth es j = some ⟨some (IsPtr y),nd⟩):Ob P es a0 k0 o ⟨some (IsV y),[(t,some j)]⟩:=
  ob1 (Prod.mk.inj h).1 fun _ _ _ n=>ok_load (Prod.mk.inj h).2 ht (known_at hj n)
end
end Go.Gb

/- General part of the proofs: shifts and bits. -/
namespace Go.Gb
def shlI (n m:Int):Option Int:=if 0 ≤ m then some (IntKind.i64.wrap (n * 2 ^ min m.toNat 64)) else none
def shrI (n m:Int):Option Int:=if 0 ≤ m then some (n.fdiv (2 ^ min m.toNat 64)) else none
def andnI (n m:Int):Int:=IntKind.i64.wrap ((BitVec.ofInt 64 n &&& ~~~BitVec.ofInt 64 m).toNat:Int)
def orI (n m:Int):Int:=IntKind.i64.wrap ((BitVec.ofInt 64 n ||| BitVec.ofInt 64 m).toNat:Int)
def IK.shl {κ:IntKind} (x:IK κ) (n:Int):IK κ:=⟨κ.wrap (x.n * 2 ^ n.toNat)⟩
def IK.and {κ:IntKind} (x y:IK κ):IK κ:=⟨κ.wrap ((BitVec.ofInt κ.bits x.n &&& BitVec.ofInt κ.bits y.n).toNat:Int)⟩
section
variable {P:Program} {o:Oper} {a:Act} {k:K} {t u:TypeId} {x y:Operand} {n m r:Int} {κ:IntKind} {p q:IK κ}
theorem ok_shl (ho : o.op = .binOp .shl t x y u) (hx : IsV n (a.eval x) k) (hy : ∃ κ', a.eval y = .int κ' m) (h : shlI n m = some r) : Does P o a k (IsV r) := by
  obtain ⟨h0,rfl⟩:=of_ite h
  have hx := isV_int.1 hx; obtain ⟨κ', hy⟩ := hy
  refine does_pure (v:=.int .i64 (IntKind.i64.wrap (n * 2 ^ min m.toNat 64))) ?_ (isV_int.2 rfl)
  simp only [execOp,ho,hx,hy]
  have h2 : ¬ m < 0:=by omega
  simp [eqGuard,binOp,Op.shift,h2]
  rfl
theorem ok_shr (ho : o.op = .binOp .shr t x y u) (hx : IsV n (a.eval x) k) (hy : ∃ κ', a.eval y = .int κ' m) (h : shrI n m = some r) : Does P o a k (IsV r) := by
  obtain ⟨h0,rfl⟩:=of_ite h
  have hx := isV_int.1 hx; obtain ⟨κ', hy⟩ := hy
  refine does_pure (v:=.int .i64 (n.fdiv (2 ^ min m.toNat 64))) ?_ (isV_int.2 rfl)
  simp only [execOp,ho,hx,hy]
  have h2 : ¬ m < 0:=by omega
  simp [eqGuard,binOp,Op.shift,h2]
  rfl
theorem ok_andn (ho:o.op = .binOp .andNot t x y u) (hx:IsV n (a.eval x) k) (hy:IsV m (a.eval y) k):Does P o a k (IsV (andnI n m)):=by
  have hx:=isV_int.1 hx; have hy:=isV_int.1 hy
  refine does_pure (v:=.int .i64 (andnI n m)) ?_ (isV_int.2 rfl)
  simp only [execOp,ho,hx,hy]
  simp [eqGuard,binOp,Op.intBits,andnI]
  rfl
theorem ok_or (ho:o.op = .binOp .or t x y u) (hx:IsV n (a.eval x) k) (hy:IsV m (a.eval y) k):Does P o a k (IsV (orI n m)):=by
  have hx:=isV_int.1 hx; have hy:=isV_int.1 hy
  refine does_pure (v:=.int .i64 (orI n m)) ?_ (isV_int.2 rfl)
  simp only [execOp,ho,hx,hy]
  simp [eqGuard,binOp,Op.intBits,orI]
  rfl
theorem ok_shrKI (ho : o.op = .binOp .shr t x y u) (hx : IsV p (a.eval x) k) (hy : ∃ κ', a.eval y = .int κ' m) (h0 : 0 ≤ m) (h1 : m.toNat ≤ κ.bits) : Does P o a k (IsV (p.shr m)) := by
  have hx := isV_ik.1 hx; obtain ⟨κ', hy⟩ := hy
  refine does_pure (v:=.int κ (p.n.fdiv (2 ^ m.toNat))) ?_ (isV_ik.2 rfl)
  simp only [execOp,ho,hx,hy]
  have h2 : ¬ m < 0:=by omega
  simp [eqGuard,binOp,Op.shift,h2,Nat.min_eq_left h1]
theorem ok_shlKI (ho : o.op = .binOp .shl t x y u) (hx : IsV p (a.eval x) k) (hy : ∃ κ', a.eval y = .int κ' m) (h0 : 0 ≤ m) (h1 : m.toNat ≤ κ.bits) : Does P o a k (IsV (p.shl m)) := by
  have hx := isV_ik.1 hx; obtain ⟨κ', hy⟩ := hy
  refine does_pure (v:=.int κ (κ.wrap (p.n * 2 ^ m.toNat))) ?_ (isV_ik.2 rfl)
  simp only [execOp,ho,hx,hy]
  have h2 : ¬ m < 0:=by omega
  simp [eqGuard,binOp,Op.shift,h2,Nat.min_eq_left h1]
theorem ok_andK (ho:o.op = .binOp .and t x y u) (hx:IsV p (a.eval x) k) (hy:IsV q (a.eval y) k):Does P o a k (IsV (p.and q)):=by
  have hx:=isV_ik.1 hx; have hy:=isV_ik.1 hy
  refine does_pure (v:=.int κ (p.and q).n) ?_ (isV_ik.2 rfl)
  simp only [execOp,ho,hx,hy]
  simp [eqGuard,binOp,Op.intBits,IK.and]
end
end Go.Gb

/- Arrays of ints that are indexed with a number that is not known before. -/
namespace Go.Gb

end Go.Gb

/- General part of the proofs: slices without room to spare: an append makes a new one. -/
namespace Go.Gb
section
variable {α:Type} [Enc α] {P:Program} {o:Oper} {a:Act} {k:K}
/-- A slice without room to spare. -/
def IsFull (xs:List α) (v:Value) (k:K):Prop:=(∃ ad,v = .slice (some ad) xs.length xs.length)∧IsV xs v k
instance (xs:List α):Pers (IsFull xs):=⟨fun h ⟨e,r⟩=>⟨e,Pers.pers h r⟩⟩
theorem run_append_full {t ty e:TypeId} {xs ys zs:List α} {v y:Value} (hu:P.underlying t = some (.slice e)) (he:ElemOk P e α)
    (hv:IsFull xs v k) (hy:Readable ys y k) (hz:appI xs ys = some zs) :
    ∃ v' k', (Builtin.append_ #[t, t] ty #[v, y]).run P k.w = .ok v' k'.w ∧ Grow k k' ∧ IsV zs v' k' := by
  obtain ⟨hlen,rfl⟩:=of_ite hz
  obtain ⟨i,z,hi,hiz,hsz,hzs,hpos,hby⟩:=he
  obtain ⟨⟨ad0,rfl⟩,hv⟩:=hv
  by_cases hm:ys = []
  · subst hm
    have hys : ∃ b c,y = .slice b 0 c:=by
      rcases hy with ⟨rfl,_⟩ | ⟨ad,cap,cs,rfl,_⟩
      · exact ⟨_,_,rfl⟩
      · exact ⟨_,_,rfl⟩
    exact ⟨_,k,append_none t ty ⟨e,hu,by simp [hi]⟩ _ y k.w ⟨_,_,_,rfl,Nat.le_refl _⟩ hys,Grow.refl k,by rw [List.append_nil]; exact hv⟩
  · rcases hy with ⟨_, rfl⟩ | ⟨ad, c, news, rfl, hyc, hyr, hya⟩
    · exact absurd rfl hm
    have hya:=hya.resolve_left hm
    have hyl:=hyr.len
    have hpl:0 < ys.length:=List.length_pos_iff.2 hm
    have hnews : ∀ j u,news[j]? = some u → k.w.cell? (ad.add j) = some u:=hya.cell
    have hl:news.length = ys.length * i.size:=by rw [hsz]; exact hyl
    have hold : ∃ olds,RepL k olds xs∧∀ j u,olds[j]? = some u → k.w.cell? (ad0.add j) = some u:=by
      rcases hv.rd with ⟨h,_⟩ | ⟨ad1,c1,cs,h,_,hr,hc⟩
      · simp at h
      · simp only [Value.slice.injEq, Option.some.injEq] at h
        obtain ⟨rfl,_,_⟩:=h
        refine ⟨cs,hr,fun j u hj=>?_⟩
        rcases hc with rfl | hc
        · have := hr.len
          simp at this
          subst this
          simp at hj
        · exact hc.cell j u hj
    obtain ⟨olds,hr,holds⟩:=hold
    have hol:=hr.len
    have hrun:=run_append_grow (P:=P) k.w t ty e i z hu hi hiz ad0 xs.length xs.length olds (by rw [hsz]; exact hol) holds ad ys.length c news hl hnews (by omega) (by omega) (growslice_fits (by omega) (by
      have:(xs.length + ys.length) * i.bytes ≤ 1073741824 * 65536:=Nat.mul_le_mul hlen hby
      omega))
    have hge:=grownCap_ge k.w (xs.length + ys.length) xs.length e
    have hcm:grownCap k.w (xs.length + ys.length) xs.length e ≤ maxLen:=grownCap_le_maxLen k.w _ xs.length e (by unfold maxLen; omega)
    generalize grownCap k.w (xs.length + ys.length) xs.length e = cap at hge hcm hrun
    let k' : K:=⟨_,k.sh,fun b hb=>by
      have:=k.lt b hb
      show b < (k.w.drew.alloc (.cells (olds.toArray ++ news.toArray ++ Builtin.zeroCells z.cells (cap - (xs.length + ys.length))) e)).heap.size
      simp; omega⟩
    have hblk : ∀ b,b < k.w.heap.size → k'.w.heap[b]? = k.w.heap[b]?:=fun b hb=>(World.grownBy_alloc k.w.drew _ none).block b hb (by simp)
    have hle:Le k k':=⟨fun b hb=>hblk b (k.lt b hb),fun b hb=>hb⟩
    have hg:Grown k k' none:=⟨rfl,rfl,rfl,by simp [k'],fun b hb _=>hblk b hb,rfl,Nat.le_succ _⟩
    have hown:IsOwn k.w.heap.size e (xs ++ ys) (.slice (some ⟨k.w.heap.size,0,none⟩) (xs.length + ys.length) cap) k':=by
      refine .inr (.inr ⟨k.w.heap.size,0,cap,_,_,by rw [List.length_append],Nat.le_refl _,fun hs=>Nat.lt_irrefl _ (k.lt _ hs),
        heap_alloc_new k.w.drew _,by rw [List.length_append]; exact hge,by omega,hcm,?_,rfl,?_⟩)
      · have e1 : olds.length + news.length = (xs.length + ys.length) * Enc.sz α := by rw [hol, hyl, Nat.add_mul]
        simp only [Array.size_append,List.size_toArray,size_zeroCells,hzs]
        rw [e1,← Nat.add_mul,Nat.zero_add]
        exact Nat.mul_le_mul_right _ (by omega)
      · have e1 : (xs ++ ys).length * Enc.sz α = (olds ++ news).length := by rw [List.length_append, List.length_append, hol, hyl, Nat.add_mul]
        rw [e1]
        simp only [Array.toList_append,List.drop_zero]
        rw [List.take_left]
        exact (hr.append hyr).mono hle
    obtain ⟨k2,e2,_,hg2,hv2,_⟩:=hown.share hg.grow (Nat.le_refl _)
    exact ⟨_,k2,by rw [e2]; exact hrun,hg2,hv2⟩
theorem ok_appendF {t e:TypeId} {x y:Operand} {xs ys zs:List α} (ho:o.op = .call { callee:=.builtin .append,args:=#[x,y],argTypes:=#[t,t] })
    (hu:P.underlying t = some (.slice e)) (he:ElemOk P e α) (hx:IsFull xs (a.eval x) k) (hy:Readable ys (a.eval y) k) (hz:appI xs ys = some zs) :
    Does P o a k (IsV zs):=by
  obtain ⟨v', k', hr, hg, hv⟩ := run_append_full (P := P) (t := t) (ty := o.type) hu he hx hy hz
  refine does_run (v:=v') (k':=k') ?_ hg hv
  simp [execOp,ho,resolve,invoke,builtin,hr]
theorem ok_buildSliceF {t e n:Nat} {ps:List (Nat × Operand)} {xs:List α} (ho:o.op = .buildSlice t n ps.toArray) (hu:P.underlying t = some (.slice e)) (he:ElemOk P e α)
    (hn:n = xs.length) (h0:0 < n) (hlim:n * Enc.sz α ≤ 16777216) (h:Parts a k 0 ps xs):Does P o a k (IsFull xs):=by
  have h':=h
  obtain ⟨i,z,hi,hiz,hsz,hzs,hpos,hby⟩:=he
  have hn':=hn
  subst hn
  obtain ⟨cs,hr,hf⟩:=fill_parts (z:=z.cells.toList) (by simpa using hzs) ps xs 0 [] h (by simp)
  have hf:=hf ((List.range (xs.length * Enc.sz α)).map fun j=>z.cells[j % z.cells.size]!) (by simp)
  simp only [List.nil_append] at hf
  have hrun:(Instr.buildSlice t xs.length (ps.map fun p=>(p.1,a.eval p.2)).toArray).run P k.w = .ok (.slice (some ⟨k.w.heap.size,0,none⟩) xs.length xs.length) (k.alloc (.cells cs.toArray e)).w:=by
    have hne:xs.length * Enc.sz α ≠ 0:=Nat.pos_iff_ne_zero.1 (Nat.mul_pos h0 hpos)
    have hnl : ¬ (xs.length * Enc.sz α > 2 ^ 24):=by omega
    have harr:(Array.range (xs.length * Enc.sz α)).map (fun j=>z.cells[j % z.cells.size]!) = ((List.range (xs.length * Enc.sz α)).map fun j=>z.cells[j % z.cells.size]!).toArray:=by
      simp [← List.toArray_range]
    simp only [Instr.buildSlice,Sem.run_bind,run_underlying hu,Result.andThen_ok,run_sizeOf (P:=P) (w:=k.w) (show (P.info? e).map (·.size) = some (Enc.sz α) by simp [hi,hsz])]
    simp [hnl,hne,zeroValue,typeInfo,hi,hiz,harr,hf,newRow,newObj,K.alloc]
    rfl
  obtain ⟨v, k', hr2, hg, hown⟩ := run_buildSlice (P := P) hu ⟨i, z, hi, hiz, hsz, hzs, hpos, hby⟩ rfl h0 hlim h'
  rw [hrun] at hr2
  simp only [Result.ok.injEq] at hr2
  obtain ⟨rfl,_⟩:=hr2
  obtain ⟨k2,e2,_,hg2,hv2,_⟩:=hown.share hg (Nat.le_refl _)
  have hrun' : (Instr.buildSlice t xs.length (ps.map fun p=>(p.1,a.eval p.2)).toArray).run P k.w = .ok (.slice (some ⟨k.w.heap.size,0,none⟩) xs.length xs.length) k2.w:=by
    rw [hrun,e2]; congr 1
  refine does_run (v:=.slice (some ⟨k.w.heap.size,0,none⟩) xs.length xs.length) (k':=k2) ?_ hg2 ⟨⟨_,rfl⟩,hv2⟩
  simp only [execOp,ho,List.map_toArray]
  simp [hrun']
end
end Go.Gb

/- General part of the proofs: package-level variables that are laid with data. -/
namespace Go.Gb
section
variable {P:Program} {t e:TypeId} {α β σ:Type} [Enc α] [Enc β]

/-- What is read as this datum is this value. -/
structure Ld (P:Program) (t:TypeId) (α:Type) [Enc α] (d:α → DataW Unit):Prop where
  ld : ∀ (W:World) (fuel:Nat) (cs:List Value) (p:List MemPlace) (x:α),DataW.trod (fun _=>()) P W 0 (fun _=>true) false fuel t cs = some (d x,p) → Enc.rep (kOf W) cs x
/-- The fields of a struct, from the offset o on. -/
structure LdF (P:Program) (fs:List Field) (o:Nat) (α:Type) [Enc α] (d:α → List (DataW Unit)):Prop where
  run : ∀ (W:World) (fuel:Nat) (cs:List Value) (x:α) (xs:List (DataW Unit × List MemPlace)),cs.length = o + Enc.sz α → xs.map (·.1) = d x →
    (∀ (i:Nat) (f:Field),fs[i]? = some f → DataW.trod (fun _=>()) P W 0 (fun _=>true) false fuel f.type ((cs.drop f.offset).take (P.cellsOf f.type)) = xs[i]?) → Enc.rep (kOf W) (cs.drop o) x
theorem LdF.one {f:Field} {o:Nat} {d:α → DataW Unit} (ho:f.offset = o) (hz:P.cellsOf f.type = Enc.sz α) (h:Ld P f.type α d):LdF P [f] o α fun x=>[d x]:=by
  refine ⟨fun W fuel cs x xs hl hx hf=>?_⟩
  have h0:=hf 0 f rfl
  rw [ho,hz,List.take_of_length_le (by simp; omega)] at h0
  match xs,hx with
  | [y], hx =>
    simp only [List.map_cons,List.map_nil,List.cons.injEq,and_true] at hx
    obtain ⟨y1,y2⟩:=y
    dsimp only at hx
    subst hx
    exact h.ld W fuel _ y2 x (by simpa using h0)
  | [],hx=>simp at hx
  | _::_::_,hx=>simp at hx
theorem LdF.cons {f:Field} {fs:List Field} {o:Nat} {d:α → DataW Unit} {ds:β → List (DataW Unit)} (ho:f.offset = o) (hz:P.cellsOf f.type = Enc.sz α) (h:Ld P f.type α d) (g:LdF P fs (o + Enc.sz α) β ds) :
    LdF P (f::fs) o (α × β) fun x=>d x.1::ds x.2:=by
  refine ⟨fun W fuel cs x xs hl hx hf=>?_⟩
  have hl' : cs.length = o + (Enc.sz α + Enc.sz β):=hl
  have h0:=hf 0 f rfl
  rw [ho,hz] at h0
  match xs,hx with
  | y :: ys, hx =>
    simp only [List.map_cons,List.cons.injEq] at hx
    obtain ⟨y1,y2⟩:=y
    obtain ⟨hx1,hx2⟩:=hx
    dsimp only at hx1
    subst hx1
    have h1:=h.ld W fuel _ y2 x.1 (by simpa using h0)
    have h2:=g.run W fuel cs x.2 ys (by omega) hx2 fun i f' hf'=>by
      have:=hf (i + 1) f' (by simpa using hf')
      simpa using this
    rw [← List.drop_drop] at h2
    exact ⟨by simp; omega,h1,h2⟩
end
end Go.Gb

/- General part of the proofs: regions in which operations that only look may come behind a store. -/
namespace Go.Gb

/-- All operations behind number m come behind all others. -/
def chkB (m:Nat) (ops:List Oper):Bool:=allI (fun j _=>Nat.ble j m || (List.range j).all fun i=>hasBit (masks ops []) j i) 0 ops

theorem count_set {listed:Array Bool} {i:Nat} (hi:i < listed.size) (h:listed.getD i false = false) :
    (listed.toList.filter (· = false)).length = ((listed.setIfInBounds i true).toList.filter (· = false)).length + 1:=by
  have h0:listed[i] = false:=by simpa [Array.getD_eq_getD_getElem?,Array.getElem?_eq_getElem hi] using h
  have hsplit:listed.toList = listed.toList.take i ++ false::listed.toList.drop (i + 1):=by
    have h1:=List.take_append_drop i listed.toList
    have h2:listed.toList.drop i = listed.toList[i]'(by simpa using hi)::listed.toList.drop (i + 1):=List.drop_eq_getElem_cons (by simpa using hi)
    rw [Array.getElem_toList,h0] at h2
    exact (h1.symm.trans (by rw [h2]))
  have hset:(listed.setIfInBounds i true).toList = listed.toList.take i ++ true::listed.toList.drop (i + 1):=by
    rw [Array.toList_setIfInBounds,List.set_eq_take_append_cons_drop,if_pos (by simpa using hi)]
  have e1:=congrArg (fun l=>(l.filter (· = false)).length) hsplit
  have e2:=congrArg (fun l=>(l.filter (· = false)).length) hset
  simp only [List.filter_append,List.length_append,List.filter_cons] at e1 e2
  simp at e1 e2 ⊢
  omega

section
variable {P:Program} {a0:Act} {k0:K} {es:List Ent}
theorem tail_anyB {A:Array Oper} {m:Nat} {Q:Exit → Act → World → Prop} (hedge:allI (fun i o=>(binding o).all (· < i)) 0 A.toList = true) (htail:chkB m A.toList = true) :
    ∀ (fuel i:Nat) (listed:Array Bool) (a:Act) (w:World),m + 1 ≤ i → i + fuel = A.size → listed.size = A.size → (∀ j,listed.getD j false = true ↔ j < i) →
      wpOps P A Q (List.range' i fuel) a w → wpAny P .any A Q fuel listed a w:=by
  have hready : ∀ (i:Nat) (listed:Array Bool),m + 1 ≤ i → listed.size = A.size → (∀ j,listed.getD j false = true ↔ j < i) → ∀ j,j ∈ Region.ready .any A listed ↔ (j = i∧i < A.size):=by
    intro i listed hmi hls hD j
    simp only [Region.ready,List.mem_filter,List.mem_range,Bool.and_eq_true,Bool.not_eq_true']
    have hT : ∀ j,j < A.size → listed.getD j true = listed.getD j false:=by
      intro j hj; simp [Array.getD_eq_getD_getElem?,Array.getElem?_eq_getElem (show j < listed.size by omega)]
    constructor
    · rintro ⟨hjA, hj1, hj2⟩
      rw [hT j hjA] at hj1
      have hji : ¬ j < i:=fun h=>by rw [(hD j).2 h] at hj1; simp at hj1
      rcases Nat.lt_or_ge i j with hlt | hge
      · exfalso
        have ho:nth A.toList j = some A[j]:=by rw [nth_toList]; simp [hjA]
        have hc:=allI_spec htail j _ ho
        simp only [Nat.zero_add,Bool.or_eq_true,Nat.ble_eq] at hc
        have hc:=hc.resolve_left (by omega)
        have hbit:=List.all_eq_true.1 hc i (by simp; omega)
        have hdown : ∀ x o', nth A.toList x = some o' → x < i → ∀ e ∈ binding o', e < i := by
          intro x o' hx hxi e he
          have:=allI_spec hedge x o' hx
          simp only [Nat.zero_add,List.all_eq_true,decide_eq_true_eq] at this
          have:=this e he
          omega
        have:=hasBit_spec (L:=A.toList) (D:=(· < i)) hdown (j:=j) (i:=i) ?_ hbit
        · omega
        · intro o' ho' e he
          rw [ho,Option.some.injEq] at ho'
          subst ho'
          have hA:A[j]? = some A[j]:=by simp [hjA]
          rw [hA] at hj2
          simp only [Option.map_some,Option.getD_some,Array.all_eq_true_iff_forall_mem] at hj2
          simp only [binding,List.mem_map,List.mem_filter,Array.mem_toList_iff] at he
          obtain ⟨y,⟨hy,hyb⟩,rfl⟩:=he
          have:=hj2 y hy
          simp only [hyb,Bool.not_true,Bool.false_or] at this
          exact (hD _).1 this
      · exact ⟨by omega,by omega⟩
    · rintro ⟨rfl, hlt⟩
      refine ⟨hlt,?_,?_⟩
      · rw [hT j hlt]
        cases hb:listed.getD j false with
        | false=>rfl
        | true=>have:=(hD j).1 hb; omega
      · have hA : A[j]? = some A[j] := by simp [hlt]
        rw [hA]
        simp only [Option.map_some,Option.getD_some,Array.all_eq_true_iff_forall_mem]
        intro y hy
        cases hyb:Region.binds .any y with
        | false=>rfl
        | true =>
          simp only [Bool.not_true,Bool.false_or]
          have ho:nth A.toList j = some A[j]:=by rw [nth_toList]; simp [hlt]
          have:=allI_spec hedge j _ ho
          simp only [Nat.zero_add,List.all_eq_true,decide_eq_true_eq] at this
          exact (hD _).2 (this y.on (by simp only [binding,List.mem_map,List.mem_filter,Array.mem_toList_iff]; exact ⟨y,⟨hy,hyb⟩,rfl⟩))
  intro fuel
  induction fuel with
  | zero =>
    intro i listed a w hmi hi hls hD h
    refine ⟨?_,by simpa [wpOps] using h⟩
    refine List.eq_nil_iff_forall_not_mem.2 fun j hj=>?_
    have:=(hready i listed hmi hls hD j).1 hj
    omega
  | succ fuel ih =>
    intro i listed a w hmi hi hls hD h
    refine ⟨fun hnil=>?_,fun j hj=>?_⟩
    · have := (hready i listed hmi hls hD i).2 ⟨rfl, by omega⟩
      rw [hnil] at this; simp at this
    · obtain ⟨rfl, hlt⟩ := (hready i listed hmi hls hD j).1 hj
      rw [List.range'_succ,wpOps_cons] at h
      refine wpOp_mono (fun a' w' h'=>ih (j + 1) _ a' w' (by omega) (by omega) (by simp [hls]) (fun x=>?_) h') h
      by_cases hx:x = j
      · subst hx; simp [Array.getD_eq_getD_getElem?,hls,hlt]
      · rw [getD_set_ne _ (fun e=>hx e.symm),hD]; omega

theorem full_count {A:Array Oper} {m:Nat} {listed:Array Bool} (hmA:m < A.size) (hls:listed.size = A.size) (hD : ∀ j,listed.getD j false = true ↔ j < m + 1) :
    (listed.toList.filter (· = false)).length = A.size - (m + 1):=by
  have hl:listed.toList = List.replicate (m + 1) true ++ List.replicate (A.size - (m + 1)) false:=by
    refine List.ext_getElem (by simp; omega) fun j h1 h2'=>?_
    have hjl:j < listed.size:=by simpa using h1
    have hg:listed.toList[j] = listed.getD j false:=by simp [Array.getD_eq_getD_getElem?,Array.getElem?_eq_getElem hjl]
    refine hg.trans ?_
    generalize listed.getD j false = z at hg
    have hz:z = true ↔ j < m + 1:=by rw [← hD j,← hg]; simp [Array.getD_eq_getD_getElem?,Array.getElem?_eq_getElem hjl]
    rw [List.getElem_append]
    split
    · rename_i h; simp at h; rw [List.getElem_replicate]; exact hz.2 (by omega)
    · rename_i h; simp at h; rw [List.getElem_replicate]
      cases z with
      | false=>rfl
      | true=>have:=hz.1 rfl; omega
  rw [hl]; simp

/-- The first operations in any order; number m, which writes, when it may; all others behind them. -/
theorem any_st {A:Array Oper} {n m:Nat} {Q:Exit → Act → World → Prop} {B:K → Prop} (hn:a0.tmps.size = n) (hS:chkS n m A.toList es = true) (hmA:m < A.size) (htail:chkB m A.toList = true)
    (hst:Steps P es a0 k0 (A.toList.take m) es) (hB : ∀ kb,B kb → Steps P es a0 kb (A.toList.take m) es) (hQ:LetsOut Q)
    (hT : ∀ a k (D:Nat → Prop),(∀ j,D j → j < m) → Inv A.toList es a0 k0 D a k → (∀ o,nth A.toList m = some o → ∀ e ∈ binding o,D e) →
      ∀ C:Act → World → Prop,(∀ kb k1,B kb → Inv A.toList es a0 kb D a k1 → C a k1.w) → wpOp P A Q m C a k.w)
    (hpost : ∀ kb,B kb → ∀ a k,Inv A.toList es a0 kb (· < m) a k → wpOps P A Q (List.range' (m + 1) (A.size - (m + 1))) a k.w) :
    ∀ (fuel:Nat) (listed:Array Bool) (a:Act) (k:K),listed.size = A.size → fuel = (listed.toList.filter (· = false)).length →
      (∀ j,listed.getD j false = true → j ≤ m) →
      ((listed.getD m false = false∧Inv A.toList es a0 k0 (fun j=>listed.getD j false = true) a k) ∨
       (listed.getD m false = true∧(∀ o,nth A.toList m = some o → ∀ e ∈ binding o,listed.getD e false = true)∧∃ kb,B kb∧Inv A.toList es a0 kb (fun j=>listed.getD j false = true∧j < m) a k)) →
      wpAny P .any A Q fuel listed a k.w:=by
  have hS':=hS
  simp only [chkS,Bool.and_eq_true,beq_iff_eq,decide_eq_true_eq] at hS'
  obtain ⟨⟨⟨⟨hlen,hml⟩,h2⟩,hedge⟩,hdist⟩:=hS'
  intro fuel
  induction fuel with
  | zero =>
    intro listed a k hls hf hDm hinv
    have hall : ∀ j,j < A.size → listed.getD j false = true:=by
      intro j hj
      have hz:=List.eq_nil_of_length_eq_zero hf.symm
      have:listed[j]'(by omega) ∉ listed.toList.filter (· = false):=by rw [hz]; simp
      simp only [List.mem_filter,Array.mem_toList_iff,Array.getElem_mem,true_and,decide_eq_true_eq,Bool.not_eq_false] at this
      simp [Array.getD_eq_getD_getElem?,Array.getElem?_eq_getElem (show j < listed.size by omega),this]
    have hm:A.size = m + 1:=by
      rcases Nat.lt_or_ge (m + 1) A.size with h | h
      · have:=hDm (m + 1) (hall _ h); omega
      · omega
    rcases hinv with ⟨h,_⟩ | ⟨_,_,kb,hb,hinv⟩
    · rw [hall m hmA] at h; simp at h
    · have he : (fun j => listed.getD j false = true ∧ j < m) = (· < m) := funext fun j => propext ⟨fun h => h.2, fun h => ⟨hall j (by omega), h⟩⟩
      rw [he] at hinv
      refine tail_anyB hedge htail 0 (m + 1) listed a k.w (Nat.le_refl _) (by omega) hls (fun j=>⟨fun h=>by have:=hDm j h; omega,fun h=>hall j (by omega)⟩) ?_
      have:=hpost kb hb a k hinv
      rwa [show A.size - (m + 1) = 0 by omega] at this
  | succ fuel ih =>
    intro listed a k hls hf hDm hinv
    have hT2 : ∀ j,j < A.size → listed.getD j true = listed.getD j false:=by
      intro j hj; simp [Array.getD_eq_getD_getElem?,Array.getElem?_eq_getElem (show j < listed.size by omega)]
    have hbind : ∀ j,j < A.size → ((A[j]?).map (·.after.all fun e=>!Region.binds .any e || listed.getD e.on false)).getD false = true →
        ∀ o,nth A.toList j = some o → ∀ e ∈ binding o,listed.getD e false = true:=by
      intro j hjA hj2 o ho e he
      have hA:A[j]? = some o:=by rw [← nth_toList]; exact ho
      rw [hA] at hj2
      simp only [Option.map_some,Option.getD_some,Array.all_eq_true_iff_forall_mem] at hj2
      simp only [binding,List.mem_map,List.mem_filter,Array.mem_toList_iff] at he
      obtain ⟨y,⟨hy,hyb⟩,rfl⟩:=he
      have:=hj2 y hy
      simpa only [hyb,Bool.not_true,Bool.false_or] using this
    by_cases hfull : ∀ j,j < m + 1 → listed.getD j false = true
    · rcases hinv with ⟨h, _⟩ | ⟨_, _, kb, hb, hinv⟩
      · rw [hfull m (by omega)] at h; simp at h
      · have hD : ∀ j, listed.getD j false = true ↔ j < m + 1 := fun j => ⟨fun h => by have := hDm j h; omega, hfull j⟩
        have he:(fun j=>listed.getD j false = true∧j < m) = (· < m):=funext fun j=>propext ⟨fun h=>h.2,fun h=>⟨hfull j (by omega),h⟩⟩
        rw [he] at hinv
        have hcount:=full_count hmA hls hD
        rw [← hf] at hcount
        refine tail_anyB hedge htail (fuel + 1) (m + 1) listed a k.w (Nat.le_refl _) (by omega) hls hD ?_
        rw [hcount]; exact hpost kb hb a k hinv
    · have hex : ∃ j, j < m + 1 ∧ listed.getD j false = false ∧ ∀ i, i < j → listed.getD i false = true := by
        obtain ⟨j,hj⟩:=Classical.not_forall.1 hfull
        have hj:j < m + 1∧listed.getD j false = false:=by
          by_cases h:j < m + 1
          · exact ⟨h,by cases hb:listed.getD j false with | false=>rfl | true=>exact absurd (fun _=>hb) hj⟩
          · exact absurd (fun h'=>absurd h' h) hj
        clear hfull
        induction j using Nat.strongRecOn with
        | _ j ihj =>
          by_cases hall : ∀ i,i < j → listed.getD i false = true
          · exact ⟨j,hj.1,hj.2,hall⟩
          · obtain ⟨i, hi⟩ := Classical.not_forall.1 hall
            obtain ⟨hij,hib⟩:i < j∧¬ listed.getD i false = true:=⟨Classical.byContradiction fun h=>hi fun h'=>absurd h' h,fun h=>hi fun _=>h⟩
            exact ihj i hij (fun h=>absurd (h (by omega)) hib) ⟨by omega,by simpa using hib⟩
      have hclosed : ∀ x o', nth A.toList x = some o' → listed.getD x false = true → ∀ e ∈ binding o', listed.getD e false = true := by
        intro x o' ho' hx e he
        rcases hinv with ⟨_,hinv⟩ | ⟨_,hmc,kb,_,hinv⟩
        · exact hinv.closed x o' ho' hx e he
        · by_cases hxm : x = m
          · subst hxm; exact hmc o' ho' e he
          · exact (hinv.closed x o' ho' ⟨hx,by have:=hDm x hx; omega⟩ e he).1
      refine ⟨fun hnil=>?_,fun i hi=>?_⟩
      · exfalso
        obtain ⟨j,hjm,hjb,hlow⟩:=hex
        have hjr:j ∈ Region.ready .any A listed:=by
          simp only [Region.ready,List.mem_filter,List.mem_range,Bool.and_eq_true,Bool.not_eq_true']
          refine ⟨by omega,by rw [hT2 j (by omega)]; exact hjb,?_⟩
          have hA:A[j]? = some A[j]:=by simp [show j < A.size by omega]
          rw [hA]
          simp only [Option.map_some,Option.getD_some,Array.all_eq_true_iff_forall_mem]
          intro y hy
          cases hyb:Region.binds .any y with
          | false=>rfl
          | true =>
            simp only [Bool.not_true,Bool.false_or]
            have ho:nth A.toList j = some A[j]:=by rw [nth_toList]; exact hA
            have:=allI_spec hedge j _ ho
            simp only [Nat.zero_add,List.all_eq_true,decide_eq_true_eq] at this
            exact hlow _ (this y.on (by simp only [binding,List.mem_map,List.mem_filter,Array.mem_toList_iff]; exact ⟨y,⟨hy,hyb⟩,rfl⟩))
        rw [hnil] at hjr; simp at hjr
      · simp only [Region.ready, List.mem_filter, List.mem_range, Bool.and_eq_true, Bool.not_eq_true'] at hi
        obtain ⟨hiA,hi1,hi2⟩:=hi
        rw [hT2 i hiA] at hi1
        have ho:nth A.toList i = some A[i]:=by rw [nth_toList]; simp [hiA]
        have hb:=hbind i hiA hi2 _ ho
        have hbm : ∀ e ∈ binding A[i],e < i:=by
          have:=allI_spec hedge i _ ho
          simp only [Nat.zero_add,List.all_eq_true,decide_eq_true_eq] at this
          exact this
        have him:i ≤ m:=by
          rcases Nat.lt_or_ge m i with h | h
          · exfalso
            have hc:=allI_spec htail i _ ho
            simp only [Nat.zero_add,Bool.or_eq_true,Nat.ble_eq] at hc
            have hc:=hc.resolve_left (by omega)
            obtain ⟨j,hjm,hjb,hlow⟩:=hex
            have hbit:=List.all_eq_true.1 hc j (by simp; omega)
            have:=hasBit_spec (L:=A.toList) (D:=fun x=>listed.getD x false = true) hclosed (j:=i) (i:=j)
              (fun o' ho'=>hbind i hiA hi2 o' ho') hbit
            rw [this] at hjb; simp at hjb
          · exact h
        have hil:i < listed.size:=by omega
        have hcnt:=count_set hil hi1
        rw [← hf] at hcnt
        have hDm' : ∀ j,(listed.setIfInBounds i true).getD j false = true → j ≤ m:=fun j hj=>by
          by_cases hji:j = i
          · omega
          · rw [getD_set_ne _ (fun e=>hji e.symm)] at hj; exact hDm j hj
        have hset : ∀ j,(listed.setIfInBounds i true).getD j false = true ↔ (listed.getD j false = true ∨ j = i):=by
          intro j
          by_cases hji:j = i
          · subst hji; simp [Array.getD_eq_getD_getElem?,show j < listed.size by omega]
          · rw [getD_set_ne _ (fun e=>hji e.symm)]; simp [hji]
        by_cases hie:i = m
        · -- the store
          subst hie
          rcases hinv with ⟨_,hinv⟩ | ⟨h,_⟩
          · have hDlt : ∀ j, listed.getD j false = true → j < i := fun j hj => by
              have h1:=hDm j hj
              rcases Nat.lt_or_ge j i with h | h
              · exact h
              · obtain rfl : j = i := by omega
                rw [hj] at hi1; simp at hi1
            refine hT a k (fun j=>listed.getD j false = true) hDlt hinv (fun o' ho'=>by
              rw [ho,Option.some.injEq] at ho'; subst ho'; exact hb) _ fun kb k1 h1 h3=>?_
            refine (ih _ a k1 (by simp [hls]) (by omega) hDm' (.inr ⟨(hset i).2 (.inr rfl),fun o' ho' e he=>?_,kb,h1,?_⟩))
            · rw [ho, Option.some.injEq] at ho'; subst ho'
              exact (hset e).2 (.inl (hb e he))
            · have he : (fun j => (listed.setIfInBounds i true).getD j false = true ∧ j < i) = (fun j => listed.getD j false = true) := by
                funext j
                refine propext ⟨fun h=>?_,fun h=>⟨(hset j).2 (.inl h),hDlt j h⟩⟩
                rcases (hset j).1 h.1 with h5 | h5
                · exact h5
                · have:=h.2; omega
              rw [he]; exact h3
          · rw [h] at hi1; simp at hi1
        · have hilt : i < m := by omega
          rcases hinv with ⟨hm0,hinv⟩ | ⟨hm1,hmc,kb,hbB,hinv⟩
          · have hDlt : ∀ j, listed.getD j false = true → j < m := fun j hj => by
              have h1:=hDm j hj
              rcases Nat.lt_or_ge j m with h | h
              · exact h
              · obtain rfl : j = m := by omega
                rw [hj] at hm0; simp at hm0
            refine step_op hn hS hst hinv hDlt ho hilt hb (by simp [hi1]) hQ fun a' k' hinv'=>?_
            refine ih _ a' k' (by simp [hls]) (by omega) hDm' (.inl ⟨by rw [getD_set_ne _ hie]; exact hm0,?_⟩)
            have he:(fun j=>(listed.setIfInBounds i true).getD j false = true) = (fun j=>listed.getD j false = true ∨ j = i):=funext fun j=>propext (hset j)
            rw [he]; exact hinv'
          · refine step_op hn hS (hB kb hbB) hinv (fun j h => h.2) ho hilt (fun e he => ⟨hb e he, by have := hbm e he; omega⟩) (fun h => by rw [h.1] at hi1; simp at hi1) hQ fun a' k' hinv' => ?_
            refine ih _ a' k' (by simp [hls]) (by omega) hDm' (.inr ⟨by rw [getD_set_ne _ hie]; exact hm1,fun o' ho' e he=>(hset e).2 (.inl (hmc o' ho' e he)),kb,hbB,?_⟩)
            have he:(fun j=>(listed.setIfInBounds i true).getD j false = true∧j < m) = (fun j=>(listed.getD j false = true∧j < m) ∨ j = i):=by
              funext j
              rw [hset j]
              refine propext ⟨fun h=>?_,fun h=>?_⟩
              · rcases h.1 with h5 | h5
                · exact .inl ⟨h5,h.2⟩
                · exact .inr h5
              · rcases h with h | h
                · exact ⟨.inl h.1,h.2⟩
                · exact ⟨.inr h,by omega⟩
            rw [he]; exact hinv'
end
end Go.Gb

/- General part of the proofs: parts of data of which nothing is said (slices of a type that holds itself). -/
namespace Go.Gb

/-- A cell of which nothing is said. -/
structure Opq where
  deriving DecidableEq,Inhabited
instance:Enc Opq where
  sz:=1
  agg:=false
  rep _ cs _:=∃ u:Value,cs = [u]∧u.oneCell' = true
  len h:=by obtain ⟨u,h,_⟩:=h; simp [h]
  mono _ h:=h
  one h:=by obtain ⟨u,rfl,h⟩:=h; simpa using h
  agg1 _:=rfl
instance:Rg Opq:=⟨fun _=>True,fun _=>0⟩

section
variable {P:Program} {t e:TypeId}
theorem rd_opq (hu:P.underlying t = some (.slice e)):Rd P t Opq where
  rd {H} enc W fuel cs x h _:=by
    rcases DataW.trod_slice hu h with ⟨rfl,_⟩ | ⟨a,len,cap,elems,rest,n,_,rfl,_⟩
    · exact ⟨⟨⟩,⟨_,rfl,rfl⟩,trivial,bulk1 _⟩
    · exact ⟨⟨⟩,⟨_,rfl,rfl⟩,trivial,bulk1 _⟩
  sh W r base v h:=by
    obtain ⟨a,l,c,rfl⟩:=WideShapes.okWide_slice hu h
    rfl
end
end Go.Gb

/- General part of the proofs: strings, and comparisons of small integers. -/
namespace Go.Gb

theorem beqBA (a b:ByteArray):(a == b) = decide (a = b):=by
  cases a with | mk x=>cases b with | mk y=>
    have h:((⟨x⟩:ByteArray) == ⟨y⟩) = (x == y):=rfl
    rw [h]
    by_cases e:x = y
    · simp [e]
    · simp [e]
end Go.Gb

/- General part of the proofs: maps of the call's own, with values of any kind. -/
namespace Go.Gb
section
variable {P:Program} {o:Oper} {a a0:Act} {k k' k0:K} {κ α:Type} [DecidableEq κ] [Enc α] {F G:FP} {kv:κ → Value}

/-- A map of the call's own. -/
def MpR (kv:κ → Value) (m:List (κ × α)):FP → Pred:=fun F v k=>
  ∃ b,∃ T:List (κ × Value × α),v = .map (some b)∧m = T.map (fun t=>(t.1,t.2.2))∧MapB kv b (T.map fun t=>(t.1,t.2.1)) k∧(∀ t ∈ T,IsV t.2.2 t.2.1 k)∧F = Eq b
omit [DecidableEq κ] in
theorem MapB.nsh' {b:Nat} {l:List (κ × Value)} (h:MapB kv b l k) : ¬ k.sh b:=by obtain ⟨h,_⟩:=h; exact h
omit [DecidableEq κ] in
instance (m:List (κ × α)):Rsc (MpR kv m) where
  keep:=fun ⟨b,T,e1,e2,hb,hT,eF⟩ g hs hn=>⟨b,T,e1,e2,hb.keep g (hs b (by rw [eF])),fun t ht=>Pers.pers (g.le hn) (hT t ht),eF⟩
  handed:=fun ⟨b,T,e1,e2,hb,hT,eF⟩ g hs=>⟨b,T,e1,e2,hb.handed g (hs b (by rw [eF])),fun t ht=>Pers.pers g.le (hT t ht),eF⟩
  lt:=fun ⟨b,T,e1,e2,hb,hT,eF⟩ c hc=>by rw [eF] at hc; subst hc; exact hb.lt
  nsh:=fun ⟨b,T,e1,e2,hb,hT,eF⟩ c hc=>by rw [eF] at hc; subst hc; exact hb.nsh'
omit [DecidableEq κ] in
theorem MpR.new {v:Value} {b0:Nat} (h : ∃ b,v = .map (some b)∧b0 ≤ b∧MapB kv b [] k) : ∃ F,MpR (α:=α) kv [] F v k∧∀ c,F c → b0 ≤ c:=by
  obtain ⟨b,e1,hb0,hb⟩:=h
  exact ⟨_,⟨b,[],e1,rfl,hb,fun t ht=>by simp at ht,rfl⟩,fun c hc=>by subst hc; exact hb0⟩

end
end Go.Gb

/- General part of the proofs: a variable of the library that holds some int. -/
namespace Go.Gb
end Go.Gb


