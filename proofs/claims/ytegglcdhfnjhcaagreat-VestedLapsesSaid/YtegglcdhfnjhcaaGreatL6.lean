/- The general part of the proofs (no program in sight): worlds with shared blocks, regions, operations, calls, loops, what comes in as data, part 6 -/
import Derived.Test.YtegglcdhfnjhcaaGreatL5
set_option linter.unusedVariables false
set_option linter.unusedSimpArgs false
/- General part of the proofs: the operations of a region that may run in any order. -/
namespace Go.Gb
variable {T:Tb} {R:Type}

theorem lastIdx_none {t:Nat} : ∀ {l:List Oper} {i:Nat} {r:Option Nat},lastIdx t l i r = none → r = none∧∀ o ∈ l,o.dst ≠ some t
  | [],_,_,h=>⟨h,by simp⟩
  | o :: l, i, r, h => by
    simp only [lastIdx] at h
    obtain ⟨h1,h2⟩:=lastIdx_none h
    cases hd:o.dst with
    | none=>rw [hd] at h1; exact ⟨h1,by simpa [hd] using h2⟩
    | some d =>
      rw [hd] at h1
      cases hb:Nat.beq d t with
      | true=>simp only [hb] at h1; simp at h1
      | false =>
        simp only [hb] at h1
        refine ⟨h1,?_⟩
        simp only [List.mem_cons,forall_eq_or_imp]
        exact ⟨by rw [hd]; intro e; rw [Option.some.inj e,Nat.beq_refl] at hb; simp at hb,h2⟩
theorem lastIdx_snoc {t:Nat} {o:Oper} : ∀ {l:List Oper} {i:Nat} {r:Option Nat},lastIdx t (l ++ [o]) i r = if o.dst = some t then some (i + l.length) else lastIdx t l i r
  | [], i, r => by
    simp only [List.nil_append,lastIdx]
    cases hd:o.dst with
    | none=>simp
    | some d =>
      cases hb:Nat.beq d t with
      | true=>simp [hb,Nat.eq_of_beq_eq_true hb]
      | false =>
        have:d ≠ t:=fun e=>by rw [e,Nat.beq_refl] at hb; simp at hb
        simp [hb,this]
  | x :: l, i, r => by
    simp only [List.cons_append,lastIdx,lastIdx_snoc,List.length_cons]
    congr 2
    omega
theorem lastIdx_spec {t:Nat} : ∀ {l:List Oper} {i:Nat} {r:Option Nat} {j:Nat},lastIdx t l i r = some j → r = some j ∨ ∃ o,i ≤ j∧nth l (j - i) = some o∧o.dst = some t
  | [],_,_,_,h=>.inl h
  | o :: l, i, r, j, h => by
    simp only [lastIdx] at h
    rcases lastIdx_spec h with h1 | ⟨o', h1, h2, h3⟩
    · cases hd : o.dst with
      | none=>rw [hd] at h1; exact .inl h1
      | some d =>
        rw [hd] at h1
        cases hb:Nat.beq d t with
        | true =>
          simp only [hb,cond_true,Option.some.injEq] at h1
          subst h1
          exact .inr ⟨o,Nat.le_refl _,by simp [nth],by rw [hd,Nat.eq_of_beq_eq_true hb]⟩
        | false=>simp only [hb] at h1; exact .inl h1
    · exact .inr ⟨o', by omega, by rw [show j - i = (j - (i + 1)) + 1 by omega]; exact h2, h3⟩

theorem known_mem {es:List Ent} {a0 a:Act} {k:K} : ∀ {need:List (Nat × Option Nat)},Known es a0 a k need → ∀ t s,(t,s) ∈ need →
    (match s with | some j=>(match nth es j with | some ⟨some R,_⟩=>R (a.get t) k | _=>True) | none=>a.get t = a0.get t)
  | [],_,_,_,h=>by simp at h
  | (t', none) :: l, h, t, s, hm => by
    rcases List.mem_cons.1 hm with e | hm
    · cases e; exact h.1
    · exact known_mem h.2 t s hm
  | (t', some j) :: l, h, t, s, hm => by
    rcases List.mem_cons.1 hm with e | hm
    · cases e; exact h.1
    · exact known_mem h.2 t s hm
theorem nth_app {α:Type} : ∀ {l m:List α} {i:Nat} {x:α},nth l i = some x → nth (l ++ m) i = some x
  | _::_,_,0,_,h=>h
  | _::l,m,i + 1,x,h=>nth_app (l:=l) h
  | [],_,_,_,h=>by simp [nth] at h
theorem nth_at {α:Type} : ∀ {l:List α} {x:α} {m:List α},nth (l ++ x::m) l.length = some x
  | [],_,_=>rfl
  | _::l,x,m=>nth_at (l:=l)
theorem mem_tmps {o:Oper} {t:Nat} (h:Operand.tmp t ∈ o.op.operands.toList):t ∈ tmpsOf o:=List.mem_filterMap.2 ⟨_,h,rfl⟩

section
variable {C:Cx T} {n:Nat} {F:FP} {kk:K} {W:List Nat} {aa:Act} {e0:Env T} {a0:Act} {k0:K}

/-- What is known when some operations of a region have run. -/
structure P1 (e0:Env T) (a0:Act) (pre:List Oper) (es:List Ent) (e:Env T):Prop where
  len:es.length = pre.length
  slot : ∀ t,(match lastIdx t pre 0 none with
    | some j => ∃ R nd, nth es j = some ⟨R, nd⟩ ∧ (lk e t = .top ∨ ∃ R', R = some R' ∧ ∀ v k, R' v k → (lk e t).is a0 v k)
    | none=>lk e t = lk e0 t)
  res : ∀ t,isRes (lk e t) = true → lastIdx t pre 0 none = none
  inv : ∀ t s,(lk e t).ment s = true → isRes (lk e s) = true

theorem P1.rd1 {pre:List Oper} {es es' : List Ent} {e:Env T} {o:Oper} {a:Act} {k:K} (p:P1 e0 a0 pre es e) (h:Hl n F kk W aa e0 a0 k0) (hk:Grow k0 k)
    (hn:Known (es ++ es') a0 a k (needOf pre o)):Rd1 e o a0 a k:=by
  have rs : ∀ s,isRes (lk e s) = true → (lk e s).is a0 (a0.get s) k:=fun s hs=>by
    have h1:=p.slot s
    rw [p.res s hs] at h1
    dsimp only at h1
    rw [h1]; exact (lk e0 s).mono hk (h.sl s)
  have gl:GOk T k:=h.gl.le hk.le
  refine ⟨fun x hx=>?_,rs,gl⟩
  cases x with
  | tmp t =>
    have h1:=known_mem hn t (lastIdx t pre 0 none) (List.mem_map.2 ⟨t,mem_tmps hx,rfl⟩)
    have h2:=p.slot t
    cases hl:lastIdx t pre 0 none with
    | some j =>
      rw [hl] at h1 h2
      dsimp only at h1 h2
      obtain ⟨R,nd,h3,h4⟩:=h2
      rw [nth_app h3] at h1
      refine ⟨?_,fun hr=>by rw [p.res t hr] at hl; simp at hl⟩
      rcases h4 with h4 | ⟨R', rfl, h4⟩
      · rw [h4]; trivial
      · exact h4 _ _ h1
    | none =>
      rw [hl] at h1 h2
      dsimp only at h1 h2
      refine ⟨?_,fun _=>h1⟩
      rw [h2,h1]; exact (lk e0 t).mono hk (h.sl t)
  | global _=>exact gl
  | _=>trivial

theorem P1.push {pre:List Oper} {es:List Ent} {e:Env T} {o:Oper} {d:Nat} {av:AV T} {R' : Pred} {nd:List (Nat × Option Nat)} (p:P1 e0 a0 pre es e) (hd:o.dst = some d) (hr:isRes (lk e d) = false)
    (hm : ∀ s, av.ment s = true → isRes (lk e s) = true) (hav : isRes av = false) (hR : ∀ v k, R' v k → av.is a0 v k) : P1 e0 a0 (pre ++ [o]) (es ++ [⟨some R', nd⟩]) ((d, av) :: e) := by
  refine ⟨by simp [p.len],fun t=>?_,fun t ht=>?_,fun t s hms=>?_⟩
  · rw [lastIdx_snoc, hd, lk_cons]
    by_cases e1:d = t
    · subst e1
      rw [if_pos rfl,if_pos rfl,Nat.zero_add]
      exact ⟨_,_,by rw [← p.len]; exact nth_at,.inr ⟨_,rfl,hR⟩⟩
    · rw [if_neg (fun e => e1 (Option.some.inj e)), if_neg e1]
      have:=p.slot t
      split
      · rename_i j hj
        rw [hj] at this
        obtain ⟨R,nd,h1,h2⟩:=this
        exact ⟨R,nd,nth_app h1,h2⟩
      · rename_i hj
        rw [hj] at this
        exact this
  · rw [lk_cons] at ht
    rw [lastIdx_snoc,hd]
    by_cases e1:d = t
    · rw [if_pos e1,hav] at ht; simp at ht
    · rw [if_neg e1] at ht
      rw [if_neg (fun e=>e1 (Option.some.inj e))]
      exact p.res t ht
  · rw [lk_cons] at hms
    have hs:isRes (lk e s) = true:=by
      by_cases e1:d = t
      · rw [if_pos e1] at hms; exact hm s hms
      · rw [if_neg e1] at hms; exact p.inv t s hms
    rw [lk_cons,if_neg (fun e=>by rw [e,hs] at hr; simp at hr)]
    exact hs

theorem tops_lk {e:Env T} : ∀ {gr:OpL} {t:Nat},(lk (tops gr e) t = .top∧∃ x ∈ gr,x.2.dst = some t) ∨ (lk (tops gr e) t = lk e t∧∀ x ∈ gr,x.2.dst ≠ some t)
  | [],t=>.inr ⟨rfl,by simp⟩
  | (i, o) :: l, t => by
    simp only [tops]
    cases hd:o.dst with
    | none =>
      rcases tops_lk (gr:=l) (t:=t) with ⟨h1,x,hx,h2⟩ | ⟨h1,h2⟩
      · exact .inl ⟨h1,x,by simp [hx],h2⟩
      · exact .inr ⟨h1,by simpa [hd] using h2⟩
    | some d =>
      dsimp only
      rw [lk_cons]
      by_cases e1:d = t
      · subst e1
        rw [if_pos rfl]
        exact .inl ⟨rfl,(i,o),by simp,hd⟩
      · rw [if_neg e1]
        rcases tops_lk (gr:=l) (t:=t) with ⟨h1,x,hx,h2⟩ | ⟨h1,h2⟩
        · exact .inl ⟨h1,x,by simp [hx],h2⟩
        · exact .inr ⟨h1,by simp only [List.mem_cons,forall_eq_or_imp]; exact ⟨by rw [hd]; intro e; exact e1 (Option.some.inj e),h2⟩⟩

theorem lastIdx_skip {t:Nat} : ∀ {m:List Oper} {i:Nat} {r:Option Nat},(∀ o ∈ m,o.dst ≠ some t) → lastIdx t m i r = r
  | [],_,_,_=>rfl
  | o :: m, i, r, h => by
    simp only [lastIdx]
    rw [lastIdx_skip fun o' ho'=>h o' (by simp [ho'])]
    have:=h o (by simp)
    cases hd:o.dst with
    | none=>rfl
    | some d =>
      rw [hd] at this
      have hne:d ≠ t:=fun e=>this (congrArg some e)
      simp only [beq_ne hne,cond_false]
theorem lastIdx_app {t:Nat} : ∀ {l m:List Oper} {i:Nat} {r:Option Nat},(∀ o ∈ m,o.dst ≠ some t) → lastIdx t (l ++ m) i r = lastIdx t l i r
  | [],m,i,r,h=>lastIdx_skip h
  | x::l,m,i,r,h=>by simp only [List.cons_append,lastIdx]; exact lastIdx_app h

/-- operations that do not count any more -/
theorem P1.tops {pre cs:List Oper} {es es1:List Ent} {e e' : Env T} {gr:OpL} (p:P1 e0 a0 pre es e) (hg:gr.map (·.2) = cs) (q:P1 e0 a0 (pre ++ cs) (es ++ es1) e' ∨ es1.length = cs.length)
    (hr : ∀ x ∈ gr,∀ d,x.2.dst = some d → isRes (lk e d) = false):P1 e0 a0 (pre ++ cs) (es ++ es1) (tops gr e):=by
  have hlen:es1.length = cs.length:=by
    rcases q with q | q
    · have:=q.len; have:=p.len; simp at *; omega
    · exact q
  have hin : ∀ t,(∃ x ∈ gr,x.2.dst = some t) ↔ ∃ o ∈ cs,o.dst = some t:=fun t=>by
    rw [← hg]
    constructor
    · rintro ⟨x,hx,hd⟩; exact ⟨x.2,List.mem_map.2 ⟨x,hx,rfl⟩,hd⟩
    · rintro ⟨o, ho, hd⟩
      obtain ⟨x,hx,rfl⟩:=List.mem_map.1 ho
      exact ⟨x,hx,hd⟩
  refine ⟨by simp [p.len,hlen],fun t=>?_,fun t ht=>?_,fun t s hms=>?_⟩
  · rcases tops_lk (e := e) (gr := gr) (t := t) with ⟨h1, h2⟩ | ⟨h1, h2⟩
    · rw [h1]
      obtain ⟨o,ho,hd⟩:=(hin t).1 h2
      cases hl:lastIdx t (pre ++ cs) 0 none with
      | none=>exact absurd hd ((lastIdx_none hl).2 o (by simp [ho]))
      | some j =>
        rcases lastIdx_spec hl with h3 | ⟨o', _, h3, _⟩
        · simp at h3
        · have hj := nth_lt h3
          have:j < (es ++ es1).length:=by simp [p.len,hlen] at *; omega
          refine ⟨((es ++ es1)[j]).R,((es ++ es1)[j]).need,?_,.inl rfl⟩
          rw [nth_eq,List.getElem?_eq_getElem this]
    · rw [h1]
      have h3 : ∀ o ∈ cs,o.dst ≠ some t:=fun o ho hd=>by
        obtain ⟨x,hx,hd'⟩:=(hin t).2 ⟨o,ho,hd⟩
        exact h2 x hx hd'
      rw [lastIdx_app h3]
      have:=p.slot t
      split
      · rename_i j hj
        rw [hj] at this
        obtain ⟨R,nd,h4,h5⟩:=this
        exact ⟨R,nd,nth_app h4,h5⟩
      · rename_i hj
        rw [hj] at this
        exact this
  · rcases tops_lk (e := e) (gr := gr) (t := t) with ⟨h1, h2⟩ | ⟨h1, h2⟩
    · rw [h1] at ht; simp [isRes] at ht
    · rw [h1] at ht
      rw [lastIdx_app fun o ho hd=>by
        obtain ⟨x,hx,hd'⟩:=(hin t).2 ⟨o,ho,hd⟩
        exact h2 x hx hd']
      exact p.res t ht
  · have h3 : isRes (lk e s) = true := by
      rcases tops_lk (e:=e) (gr:=gr) (t:=t) with ⟨h1,h2⟩ | ⟨h1,h2⟩
      · rw [h1] at hms; simp [AV.ment] at hms
      · rw [h1] at hms; exact p.inv t s hms
    rcases tops_lk (e:=e) (gr:=gr) (t:=s) with ⟨h1,x,hx,hd⟩ | ⟨h1,h2⟩
    · rw [hr x hx s hd] at h3; simp at h3
    · rw [h1]; exact h3

theorem spanG_eq {g:Option (Nat × Bool)} : ∀ {l gr l' : OpL},spanG g l = (gr,l') → l = gr ++ l'
  | [], gr, l', h => by simp only [spanG, Prod.mk.injEq] at h; rw [← h.1, ← h.2]; rfl
  | x :: l, gr, l', h => by
    simp only [spanG] at h
    split at h
    · simp at h; simp [← h.1,← h.2]
    · simp only [Prod.mk.injEq] at h
      obtain ⟨rfl,rfl⟩:=h
      have:=spanG_eq (g:=g) (l:=l) rfl
      simp only [List.cons_append]
      rw [← this]
theorem spanG_hd {g:Option (Nat × Bool)} : ∀ {l gr l' : OpL} {x:Nat × Oper},spanG g l = (gr,x::l') → x.2.guard = g
  | [], gr, l', x, h => by simp [spanG] at h
  | y :: l, gr, l', x, h => by
    simp only [spanG] at h
    split at h
    · rename_i hy; simp only [Prod.mk.injEq,List.cons.injEq] at h; rw [← h.2.1]; exact hy
    · simp only [Prod.mk.injEq] at h
      exact spanG_hd (g:=g) (l:=l) (gr:=(spanG g l).1) (l':=l') (by rw [← h.2])
theorem ixs_split : ∀ {rest:List Oper} {i:Nat} {a b:OpL},ixs i rest = a ++ b → ∃ r1 r2,rest = r1 ++ r2∧a = ixs i r1∧b = ixs (i + r1.length) r2
  | rest,i,[],b,h=>⟨[],rest,rfl,rfl,by simpa using h.symm⟩
  | [],i,x::a,b,h=>by simp [ixs] at h
  | o :: rest, i, x :: a, b, h => by
    simp only [ixs,List.cons_append,List.cons.injEq] at h
    obtain ⟨r1,r2,h1,h2,h3⟩:=ixs_split h.2
    exact ⟨o::r1,r2,by rw [h1]; rfl,by simp only [ixs]; rw [h.1,h2],by rw [h3,List.length_cons,show i + 1 + r1.length = i + (r1.length + 1) by omega]⟩
theorem ixs_map {l:List Oper} : ∀ {i:Nat},(ixs i l).map (·.2) = l:=by
  induction l with
  | nil=>intro i; rfl
  | cons x l ih=>intro i; simp only [ixs,List.map_cons,ih]
theorem ixs_mem {l:List Oper} : ∀ {i j:Nat} {o:Oper},(j,o) ∈ ixs i l → i ≤ j∧nth l (j - i) = some o:=by
  induction l with
  | nil=>intro i j o h; simp [ixs] at h
  | cons x l ih =>
    intro i j o h
    simp only [ixs,List.mem_cons,Prod.mk.injEq] at h
    rcases h with ⟨rfl,rfl⟩ | h
    · exact ⟨Nat.le_refl _,by simp [nth]⟩
    · obtain ⟨h1, h2⟩ := ih h
      exact ⟨by omega,by rw [show j - i = (j - (i + 1)) + 1 by omega]; exact h2⟩
theorem steps_app {P:Program} {es:List Ent} {a0:Act} {k0:K} : ∀ {l m:List Oper} {a b:List Ent},a.length = l.length → Steps P es a0 k0 l a → Steps P es a0 k0 m b → Steps P es a0 k0 (l ++ m) (a ++ b)
  | [],m,[],b,_,_,h=>h
  | o::l,m,x::a,b,hl,h,h'=>⟨h.1,steps_app (by simpa using hl) h.2 h'⟩
  | [],_,_::_,_,h,_,_=>by simp at h
  | _::_,_,[],_,h,_,_=>by simp at h
theorem needs_app : ∀ {l m pre:List Oper},needs pre (l ++ m) = needs pre l ++ needs (pre ++ l) m
  | [],m,pre=>by simp [needs]
  | x::l,m,pre=>by simp only [List.cons_append,needs,needs_app,List.append_assoc,List.singleton_append,List.nil_append]

theorem pickC_ok {tot w m:Bool} {run oth:Option Bool} {K:Bool → Option R} {r:R} (h:pickC tot w m run oth K = some r) : ∃ b,K b = some r∧(m = w → run = some b)∧(m ≠ w → oth = some b):=by
  unfold pickC at h
  cases tot with
  | true =>
    cases run with
    | none=>simp at h
    | some b =>
      cases oth with
      | none=>simp at h
      | some d =>
        cases d <;> cases w <;> simp at h <;> (refine ⟨_,h,?_,?_⟩ <;> cases m <;> simp)
  | false =>
    simp only [cond_false] at h
    split at h <;> (obtain ⟨b,hb,h⟩:=bind_some h; refine ⟨b,h,?_,?_⟩ <;> cases m <;> simp at hb ⊢ <;> exact hb)
end
end Go.Gb

/- General part of the proofs: the operations of a region that may run in any order, continued. -/
namespace Go.Gb
variable {T:Tb} {R:Type}
section
variable {C:Cx T} {n:Nat} {F:FP} {kk:K} {W:List Nat} {aa:Act} {e0:Env T} {a0:Act} {k0:K}

theorem grp_none {P:Program} {es es' : List Ent} : ∀ {l:List Oper} {nds:List (List (Nat × Option Nat))},nds.length = l.length → (∀ o ∈ l,GuardIs (es ++ es') o false) →
    Steps P (es ++ es') a0 k0 l (nds.map fun nd=>⟨none,nd⟩)
  | [],[],_,_=>trivial
  | o::l,nd::nds,hl,h=>⟨h o (by simp),grp_none (by simpa using hl) fun o' ho'=>h o' (by simp [ho'])⟩
  | [],_::_,h,_=>by simp at h
  | _::_,[],h,_=>by simp at h
theorem needs_len : ∀ {l pre:List Oper},(needs pre l).length = l.length
  | [],_=>rfl
  | _::l,pre=>by simp [needs,needs_len (l:=l)]
theorem nth_mid {α:Type} : ∀ {l m r:List α} {i:Nat},l.length ≤ i → i < l.length + m.length → nth (l ++ (m ++ r)) i = nth m (i - l.length)
  | [], m, r, i, _, h => by
    simp only [List.nil_append,List.length_nil,Nat.sub_zero]
    rw [nth_eq,nth_eq,List.getElem?_append_left (by simpa using h)]
  | x::l,m,r,0,h,_=>by simp at h
  | x :: l, m, r, i + 1, h, h' => by
    simp only [List.cons_append,nth,List.length_cons]
    rw [nth_mid (by simpa using h) (by simp at h'; omega)]
    congr 1
    omega

theorem notDst_spec {s:Nat} {ops:List Oper} (h:notDst s ops = true) : ∀ i o,nth ops i = some o → o.dst ≠ some s:=by
  intro i o ho hd
  rw [nth_eq] at ho
  have:=List.all_eq_true.1 h o (List.mem_of_getElem? ho)
  rw [hd] at this
  simp [Nat.beq_refl] at this
theorem notDst_last {s:Nat} {cs rest:List Oper} (h:notDst s (cs ++ rest) = true):lastIdx s cs 0 none = none:=by
  cases hl:lastIdx s cs 0 none with
  | none=>rfl
  | some j =>
    rcases lastIdx_spec hl with h1 | ⟨o,_,h1,h2⟩
    · simp at h1
    · exact absurd h2 (notDst_spec h _ o (nth_app h1))
def hidP (T:Tb) (bH B:Nat):Hv → Pred
  | .adr off=>IsAdr bH off
  | .box t=>IsBoxS (T.D t) B
instance {bH B:Nat} : ∀ y:Hv,Mono (hidP T bH B y)
  | .adr off=>inferInstanceAs (Mono (IsAdr bH off))
  | .box t=>inferInstanceAs (Mono (IsBoxS (T.D t) B))
theorem hidO_adr {hid:Hd} {o:Oper} {off:Nat} (h:hidO C hid o = some (.adr off)) : ∃ s st f,hid = .old s∧o.op = .fieldAddr st (.tmp s) f∧fldOff C.P st f = some off:=by
  unfold hidO at h
  split at h
  · rename_i s st s' f hop
    cases hb:Nat.beq s s' with
    | false=>rw [hb] at h; simp at h
    | true =>
      rw [hb] at h
      obtain rfl:=Nat.eq_of_beq_eq_true hb
      simp only [cond_true] at h
      split at h
      · rename_i off' ho
        injection h with h; injection h with h
        subst h
        exact ⟨s,st,f,rfl,hop,ho⟩
      · simp at h
  · split at h
    · rename_i s t ty hopx _ d hdx
      cases hb:(Nat.beq s d && zeroB C.P T ty t) with
      | false=>rw [hb] at h; simp at h
      | true=>rw [hb] at h; simp at h
    · simp at h
  · simp at h
theorem hidO_box {hid:Hd} {o:Oper} {t:Tp} (h:hidO C hid o = some (.box t)) : ∃ s ty,hid = .new s t∧o.op = .alloc ty∧o.dst = some s∧zeroB C.P T ty t = true:=by
  unfold hidO at h
  split at h
  · rename_i s st s' f hop
    cases hb:Nat.beq s s' with
    | false=>rw [hb] at h; simp at h
    | true =>
      rw [hb] at h
      simp only [cond_true] at h
      split at h <;> simp at h
  · rename_i s t' ty hop
    split at h
    · rename_i d hd
      cases hb:(Nat.beq s d && zeroB C.P T ty t') with
      | false=>rw [hb] at h; simp at h
      | true =>
        rw [hb] at h
        rw [Bool.and_eq_true] at hb
        obtain rfl:=Nat.eq_of_beq_eq_true hb.1
        simp only [cond_true,Option.some.injEq,Hv.box.injEq] at h
        subst h
        exact ⟨s,ty,rfl,hop,hd,hb.2⟩
    · simp at h
  · simp at h
/-- All that is said of the operations is said by plain values. -/
def Plain (C:Cx T) (hid:Hd) (e0:Env T) (a0:Act) (bH B:Nat) (es:List Ent):Prop:=∀ x ∈ es,∀ R,x.R = some R → (∃ av:AV T,R = av.is a0∧isRes av = false∧∀ s,av.ment s = true → isRes (lk e0 s) = true) ∨ ∃ o y,hidO C hid o = some y∧R = hidP T bH B y
/-- What is known of the pointers into the box of which nothing else is told. -/
def Hidden (C:Cx T) (hid:Hd) (bH B:Nat) (g:Option (Nat × Bool)) (cs:List Oper) (es:List Ent):Prop:=
  g = none → ∀ j o y,nth cs j = some o → o.guard = none → hidO C hid o = some y → ∃ nd,nth es j = some ⟨some (hidP T bH B y),nd⟩
theorem Hidden.cons {hid:Hd} {bH B:Nat} {g:Option (Nat × Bool)} {cs:List Oper} {es:List Ent} {o:Oper} {x:Ent} (h:Hidden C hid bH B g cs es)
    (h0 : ∀ y,hidO C hid o = some y → o.guard = none → ∃ nd,x = ⟨some (hidP T bH B y),nd⟩):Hidden C hid bH B g (o::cs) (x::es):=by
  intro hg j o' y hj hgd ho
  cases j with
  | zero =>
    simp only [nth,Option.some.injEq] at hj
    subst hj
    obtain ⟨nd,h1⟩:=h0 y ho hgd
    exact ⟨nd,by simp [nth,h1]⟩
  | succ j=>exact h hg j o' y (by simpa [nth] using hj) hgd ho
theorem Hidden.skip {hid:Hd} {bH B:Nat} {g:Option (Nat × Bool)} : ∀ {gs cs:List Oper} {es1 es:List Ent},es1.length = gs.length → (∀ o ∈ gs,o.guard ≠ none) → Hidden C hid bH B g cs es → Hidden C hid bH B g (gs ++ cs) (es1 ++ es)
  | [],_,[],_,_,_,h=>h
  | o::gs,_,x::es1,_,hl,hn,h=>Hidden.cons (Hidden.skip (by simpa using hl) (fun o' ho'=>hn o' (by simp [ho'])) h) fun _ _ hg=>absurd hg (hn o (by simp))
  | [],_,_::_,_,hl,_,_=>by simp at hl
  | _::_,_,[],_,hl,_,_=>by simp at hl
theorem P1.res0 {pre:List Oper} {es:List Ent} {e:Env T} (p:P1 e0 a0 pre es e) {s:Nat} (h:isRes (lk e s) = true):isRes (lk e0 s) = true:=by
  have h1:=p.res s h
  have h2:=p.slot s
  rw [h1] at h2
  exact (show lk e s = lk e0 s from h2) ▸ h
theorem ev1_ok (hC:CxOk C) {hid:Hd} {bH B:Nat} (ops:List Oper) (hH : ∀ s,hid = .old s → a0.get s = .pointer (some ⟨bH,0,none⟩)∧notDst s ops = true) : ∀ (f:Nat) (R:Type) (g:Option (Nat × Bool)) (pre rest rr:List Oper) (e:Env T) (K:OpL → Env T → Option R) (r:R) (es:List Ent),
    ops = pre ++ (rest ++ rr) → P1 e0 a0 pre es e → (∀ es' o,o.guard = g → GuardIs (es ++ es') o true) → ev1 C hid ops f R g (ixs pre.length rest) e K = some r →
    ∃ (cs rest' : List Oper) (es1:List Ent) (e' : Env T),rest = cs ++ rest'∧es1.length = cs.length∧(g ≠ none → rest' = [])∧es1.map (·.need) = needs pre cs ∧
      K (ixs (pre ++ cs).length rest') e' = some r ∧ P1 e0 a0 (pre ++ cs) (es ++ es1) e' ∧ (∀ k0, Hl n F kk W aa e0 a0 k0 → B ≤ k0.w.heap.size → ∀ es', Steps C.P (es ++ (es1 ++ es')) a0 k0 cs es1) ∧ Plain C hid e0 a0 bH B es1 ∧ Hidden C hid bH B g cs es1
  | 0,_,_,_,_,_,_,_,_,_,_,_,_,h=>by simp [ev1] at h
  | f + 1, R, g, pre, [], rr, e, K, r, es, hops, p, hg, h => by
    simp only [ixs,ev1] at h
    exact ⟨[],[],[],e,rfl,rfl,fun _=>rfl,rfl,by simpa [ixs] using h,by simpa using p,fun _ _ _ _=>trivial,fun x hx=>by simp at hx,fun _ j o off hj=>by simp [nth] at hj⟩
  | f + 1, R, g, pre, o :: rest, rr, e, K, r, es, hops, p, hg, h => by
    simp only [ixs,ev1] at h
    split at h
    · rename_i hgo
      split at h
      · rename_i y d hho hd
        cases hrd:isRes (lk e d) with
        | true=>rw [hrd] at h; simp at h
        | false=>
        rw [hrd] at h
        simp only [cond_false] at h
        have p':=p.push (R':=hidP T bH B y) (nd:=needOf pre o) (av:=.top) hd hrd (fun s hs=>by simp [AV.ment] at hs) rfl (fun _ _ _=>trivial)
        have hops' : ops = (pre ++ [o]) ++ (rest ++ rr):=by rw [hops]; simp
        obtain ⟨cs, rest', es1, e', h1, h2, h3, h4, h5, h6, h7, h8, h9⟩ := ev1_ok hC ops hH f R g (pre ++ [o]) rest rr _ K r _ hops' p' (fun es' o' ho' => by
          have:=hg ([⟨some (hidP T bH B y),needOf pre o⟩] ++ es') o' ho'
          rwa [← List.append_assoc] at this) (by simpa using h)
        refine ⟨o :: cs, rest', ⟨some (hidP T bH B y), needOf pre o⟩ :: es1, e', by rw [h1]; rfl, by simp [h2], h3, by simp [needs, h4], by simpa using h5, by simpa using h6, fun k0 h0 hB es' => ⟨?_, ?_⟩, fun x hx R hR => ?_, h9.cons fun y' ho _ => (by rw [hho] at ho; exact ⟨_, by rw [Option.some.inj ho]⟩)⟩
        · refine ⟨inferInstance, .inl ⟨fun a k hk' hn' => ?_, hg _ o hgo⟩⟩
          cases y with
          | adr off =>
            obtain ⟨s, st, f', hs1, hop, hfo⟩ := hidO_adr hho
            obtain ⟨hbs,hnd⟩:=hH s hs1
            have hls:lastIdx s pre 0 none = none:=notDst_last (rest:=o::rest ++ rr) (by rw [hops] at hnd; simpa using hnd)
            refine ok_fieldAdr hop (fldOff_ok hfo) ?_
            have:=known_mem hn' s none (List.mem_map.2 ⟨s,mem_tmps (by rw [hop]; simp [Op.operands]),by rw [hls]⟩)
            exact (show a.get s = a0.get s from this).trans hbs
          | box t =>
            obtain ⟨s, ty, hs1, hop, hd', hz⟩ := hidO_box hho
            obtain ⟨_,zv,_,_,_,_,hrun,_,hv⟩:=zeroB_ok hz
            exact does_imp (ok_alloc B (Nat.le_trans hB hk'.size) hop ⟨zv,hrun,hv⟩) fun v k' _ hb=>⟨_,hb⟩
        · have := h7 k0 h0 hB es'
          simpa using this
        · rcases List.mem_cons.1 hx with rfl | hx
          · obtain rfl := Option.some.inj hR
            exact .inr ⟨o,y,hho,rfl⟩
          · exact h8 x hx R hR
      · rename_i hno
        cases hm:isMut C e o with
        | true =>
          rw [hm] at h
          simp only [cond_true] at h
          split at h
          · exact ⟨[],o::rest,[],e,rfl,rfl,fun hn=>absurd rfl hn,rfl,by simpa [ixs] using h,by simpa using p,fun _ _ _ _=>trivial,fun x hx=>by simp at hx,fun _ j o off hj=>by simp [nth] at hj⟩
          · simp at h
        | false =>
          rw [hm] at h
          simp only [cond_false] at h
          split at h
          · rename_i d hd
            have hho:hidO C hid o = none:=by
              cases hh:hidO C hid o with
              | none=>rfl
              | some y=>exact (hno y d hh hd).elim
            obtain ⟨av,hk,hgv⟩:=step1_ok hC p.inv h
            have hrd:isRes (lk e d) = false:=by
              unfold isMut at hm
              rw [hd] at hm
              simp only [Bool.or_eq_false_iff] at hm
              exact hm.1
            have p':=p.push (R':=av.is a0) (nd:=needOf pre o) hd hrd hgv.1 hgv.2.1 (fun _ _ h=>h)
            have hops' : ops = (pre ++ [o]) ++ (rest ++ rr):=by rw [hops]; simp
            obtain ⟨cs, rest', es1, e', h1, h2, h3, h4, h5, h6, h7, h8, h9⟩ := ev1_ok hC ops hH f R g (pre ++ [o]) rest rr _ K r _ hops' p' (fun es' o' ho' => by
              have:=hg ([⟨some (av.is a0),needOf pre o⟩] ++ es') o' ho'
              rwa [← List.append_assoc] at this) (by simpa using hk)
            refine ⟨o :: cs, rest', ⟨some (av.is a0), needOf pre o⟩ :: es1, e', by rw [h1]; rfl, by simp [h2], h3, by simp [needs, h4], by simpa using h5, by simpa using h6, fun k0 h0 hB es' => ⟨?_, ?_⟩, fun x hx R hR => ?_, h9.cons fun off ho _ => (by rw [hho] at ho; simp at ho)⟩
            · refine ⟨inferInstance,.inl ⟨fun a k hk' hn'=>hgv.2.2 a0 a k (p.rd1 h0 hk' hn'),hg _ o hgo⟩⟩
            · have := h7 k0 h0 hB es'
              simpa using this
            · rcases List.mem_cons.1 hx with rfl | hx
              · obtain rfl := Option.some.inj hR
                exact .inl ⟨av,rfl,hgv.2.1,fun s hs=>p.res0 (hgv.1 s hs)⟩
              · exact h8 x hx R hR
          · simp at h
    · rename_i hgo
      split at h
      · simp at h
      · rename_i j w hjw
        split at h
        · rename_i gr ip p' l' hsp
          split at h
          · rename_i c x y d tj hpo hpd hdj
            split at h
            · rename_i m hmm
              cases hchk:(Nat.beq tj c && lastIs c (ops.take pre.length) j && grpOk e c j w gr && !(isRes (lk e d))) with
              | false=>rw [hchk] at h; simp at h
              | true =>
                rw [hchk] at h
                simp only [cond_true] at h
                simp only [Bool.and_eq_true,Bool.not_eq_true'] at hchk
                obtain ⟨⟨⟨hc1,hc2⟩,hc3⟩,hc4⟩:=hchk
                obtain ⟨b,hk,hrun,hoth⟩:=pickC_ok h
                -- the group
                have hl:=spanG_eq hsp
                have hl:ixs pre.length (o::rest) = gr ++ (ip,p')::l':=hl
                obtain ⟨g1,g2,he1,he2,he3⟩:=ixs_split hl
                obtain ⟨q,rest2,rfl,rfl,rfl⟩ : ∃ q rest2,g2 = q::rest2∧p' = q∧l' = ixs (pre.length + g1.length + 1) rest2:=by
                  cases g2 with
                  | nil=>simp [ixs] at he3
                  | cons q rest2=>simp only [ixs,List.cons.injEq,Prod.mk.injEq] at he3; exact ⟨q,rest2,rfl,he3.1.2,he3.2⟩
                have htake:ops.take pre.length = pre:=by rw [hops,List.take_left']; rfl
                rw [htake] at hc2
                unfold lastIs at hc2
                -- the condition's entry
                have hslot:=p.slot c
                obtain ⟨Rj,ndj,hej,hRj⟩ : ∃ Rj nd,nth es j = some ⟨some Rj,nd⟩∧∀ v k,Rj v k → v = .bool m:=by
                  cases hli:lastIdx c pre 0 none with
                  | none=>rw [hli] at hc2; simp at hc2
                  | some j' =>
                    rw [hli] at hc2 hslot
                    obtain rfl:=Nat.eq_of_beq_eq_true hc2
                    obtain ⟨R1,nd,h1,h2⟩:=hslot
                    rcases h2 with h2 | ⟨R', rfl, h2⟩
                    · rw [h2] at hmm; simp [asB] at hmm
                    · exact ⟨R', nd, h1, fun v k hv => isV_bool.1 (asB_is hmm (h2 v k hv))⟩
                have hjl:j < es.length:=by have:=nth_lt hej; simpa using this
                have hgr : ∀ x ∈ gr, (∃ d, x.2.dst = some d ∧ isRes (lk e d) = false ∧ d ≠ c) ∧ ∃ j' w', x.2.guard = some (j', w') ∧ ((j' = j ∧ w' = w) ∨ ∃ y ∈ gr, y.1 = j') := by
                  intro x hx
                  have:=List.all_eq_true.1 hc3 x hx
                  rw [Bool.and_eq_true] at this
                  obtain ⟨h1,h2⟩:=this
                  constructor
                  · cases hxd : x.2.dst with
                    | none=>rw [hxd] at h2; simp at h2
                    | some dx =>
                      rw [hxd] at h2
                      simp only [Bool.and_eq_true,Bool.not_eq_true'] at h2
                      exact ⟨dx,rfl,h2.1,fun e=>by rw [e,Nat.beq_refl] at h2; simp at h2⟩
                  · cases hxg : x.2.guard with
                    | none=>rw [hxg] at h1; simp at h1
                    | some jw =>
                      obtain ⟨j', w'⟩ := jw
                      rw [hxg] at h1
                      simp only [Bool.or_eq_true,Bool.and_eq_true,beq_iff_eq,List.any_eq_true] at h1
                      refine ⟨j', w', rfl, ?_⟩
                      rcases h1 with h1 | ⟨y,hy,h1⟩
                      · exact .inl ⟨Nat.eq_of_beq_eq_true h1.1,h1.2⟩
                      · exact .inr ⟨y,hy,Nat.eq_of_beq_eq_true h1⟩
                have hcs:gr.map (·.2) = g1:=by rw [he2,ixs_map]
                have hnr : ∀ x ∈ gr,∀ d,x.2.dst = some d → isRes (lk e d) = false:=fun x hx d hd=>by
                  obtain ⟨⟨d', h1, h2, _⟩, _⟩ := hgr x hx
                  rw [hd] at h1; obtain rfl:=Option.some.inj h1; exact h2
                have hg1:ops = pre ++ (g1 ++ (p'::rest2 ++ rr)):=by rw [hops,he1]; simp
                -- the entries of the group, and what is picked
                obtain ⟨es1, q1, q2, q3, q4, q6, q5⟩ : ∃ es1 : List Ent, es1.length = g1.length ∧ es1.map (·.need) = needs pre g1 ∧ (∀ k0, Hl n F kk W aa e0 a0 k0 → B ≤ k0.w.heap.size → ∀ es', Steps C.P (es ++ (es1 ++ es')) a0 k0 g1 es1) ∧
                    P1 e0 a0 (pre ++ g1) (es ++ es1) (tops gr e)∧Plain C hid e0 a0 bH B es1 ∧
                    (m = w → ∃ e', P1 e0 a0 (pre ++ g1) (es ++ es1) e' ∧ asB (opv e' (if w then x else y)) = some b) := by
                  by_cases hmw:m = w
                  · have hr := hrun hmw
                    rw [he2] at hr
                    obtain ⟨cs, rest', es1, e', h1, h2, h3, h4, h5, h6, h7, h8, _⟩ := ev1_ok hC ops hH f Bool (some (j, w)) pre g1 (p' :: rest2 ++ rr) e _ b es hg1 p (fun es' o' ho' => by
                      unfold GuardIs
                      rw [ho']
                      dsimp only
                      rw [nth_app hej]
                      intro v k hv
                      rw [hRj v k hv,hmw]; rfl) hr
                    obtain rfl:=h3 (by simp)
                    rw [List.append_nil] at h1
                    subst h1
                    exact ⟨es1, h2, h4, h7, p.tops hcs (.inl h6) hnr, h8, fun _ => ⟨e', h6, h5⟩⟩
                  · refine ⟨(needs pre g1).map fun nd => ⟨none, nd⟩, by simp [needs_len], by simp [List.map_map, Function.comp_def], fun k0 h0 hB es' => ?_, p.tops (e' := e) hcs (.inr (by simp [needs_len])) hnr, fun x hx R hR => (by obtain ⟨nd, _, rfl⟩ := List.mem_map.1 hx; simp at hR), fun h => absurd h hmw⟩
                    refine grp_none (by simp [needs_len]) fun o' ho'=>?_
                    rw [← hcs] at ho'
                    obtain ⟨x', hx', rfl⟩ := List.mem_map.1 ho'
                    obtain ⟨_, j', w', hg', hor⟩ := hgr x' hx'
                    unfold GuardIs
                    rw [hg']
                    dsimp only
                    rcases hor with ⟨rfl, rfl⟩ | ⟨y', hy', rfl⟩
                    · rw [nth_app hej]
                      intro v k hv
                      rw [hRj v k hv]
                      cases m <;> cases w' <;> simp_all
                    · rw [he2] at hy'
                      obtain ⟨z1,z2⟩:=ixs_mem (i:=pre.length) (show (y'.1,y'.2) ∈ ixs pre.length g1 from hy')
                      have hlt:=nth_lt z2
                      rw [nth_mid (by rw [p.len]; exact z1) (by simp [needs_len,p.len]; omega),p.len,nth_eq,List.getElem?_map]
                      rw [List.getElem?_eq_getElem (by rw [needs_len]; exact hlt)]
                      rfl
                -- the pick itself
                have hlk:lk (tops gr e) c = lk e c:=by
                  rcases tops_lk (e := e) (gr := gr) (t := c) with ⟨_, x', hx', hd'⟩ | ⟨h1, _⟩
                  · obtain ⟨⟨d', h1, _, h2⟩, _⟩ := hgr x' hx'
                    rw [hd'] at h1; exact absurd (Option.some.inj h1).symm h2
                  · exact h1
                have hrd:isRes (lk (tops gr e) d) = false:=by
                  rcases tops_lk (e:=e) (gr:=gr) (t:=d) with ⟨h1,_⟩ | ⟨h1,_⟩
                  · rw [h1]; rfl
                  · rw [h1]; exact hc4
                have p2:=q4.push (o:=p') (R':=(AV.v (T:=T) .bool b).is a0) (nd:=needOf (pre ++ g1) p') hpd hrd (av:=.v .bool b) (fun s hs=>by simp [AV.ment] at hs) rfl (fun _ _ h=>h)
                have hgp:p'.guard = g:=by
                  have:=spanG_hd hsp
                  exact this
                have hops2:ops = ((pre ++ g1) ++ [p']) ++ (rest2 ++ rr):=by rw [hops,he1]; simp
                have hob : ∀ k0, Hl n F kk W aa e0 a0 k0 → ∀ es', Ob C.P (es ++ (es1 ++ es')) a0 k0 p' ⟨some ((AV.v (T := T) .bool b).is a0), needOf (pre ++ g1) p'⟩ := by
                  intro k0 h0 es'
                  refine ⟨inferInstance,.inl ⟨fun a k hk' hn'=>?_,hg _ p' hgp⟩⟩
                  rw [← List.append_assoc] at hn'
                  have rd:=q4.rd1 h0 hk' hn'
                  have hmc:c ∈ p'.op.operands.toList.filterMap (fun | .tmp t=>some t | _=>none):=by rw [hpo]; simp [Op.operands]
                  have hx1:x ∈ p'.op.operands.toList:=by rw [hpo]; simp [Op.operands]
                  have hy1:y ∈ p'.op.operands.toList:=by rw [hpo]; simp [Op.operands]
                  have hcv:IsV m (a.eval (.tmp c)) k:=by
                    have:=(rd.op (.tmp c) (by rw [hpo]; simp [Op.operands])).1
                    rw [hlk] at this
                    exact asB_is hmm this
                  refine ok_pickB (m:=m) (r:=b) hpo hcv (fun hm1=>?_) (fun hm1=>?_)
                  · cases w with
                    | true =>
                      obtain ⟨e', p', hb⟩ := q5 hm1
                      exact asB_is hb (opv_is ((p'.rd1 h0 hk' hn').op x hx1))
                    | false =>
                      have hb:=hoth (by rw [hm1]; simp)
                      exact asB_is hb (opv_is (rd.op x hx1))
                  · cases w with
                    | true =>
                      have hb:=hoth (by rw [hm1]; simp)
                      exact asB_is hb (opv_is (rd.op y hy1))
                    | false =>
                      obtain ⟨e', p', hb⟩ := q5 hm1
                      exact asB_is hb (opv_is ((p'.rd1 h0 hk' hn').op y hy1))
                obtain ⟨cs, rest', es2, e', h1, h2, h3, h4, h5, h6, h7, h8, h9⟩ := ev1_ok hC ops hH f R g ((pre ++ g1) ++ [p']) rest2 rr _ K r _ hops2 p2 (fun es' o' ho' => by
                  have:=hg (es1 ++ ([⟨some ((AV.v (T:=T) .bool b).is a0),needOf (pre ++ g1) p'⟩] ++ es')) o' ho'
                  simpa using this) (by simpa [Nat.add_assoc] using hk)
                refine ⟨g1 ++ p' :: cs, rest', es1 ++ ⟨some ((AV.v (T := T) .bool b).is a0), needOf (pre ++ g1) p'⟩ :: es2, e', by rw [he1, h1]; simp, by simp [q1, h2], h3, ?_, by simpa using h5, by simpa using h6, fun k0 h0 hB es' => ?_, fun x' hx R hR => ?_, Hidden.skip q1 (fun o' ho' => ?_) (h9.cons fun off ho _ => ?_)⟩
                · rw [needs_app]
                  simp [q2,needs,h4]
                · refine steps_app q1 ?_ ⟨?_, ?_⟩
                  · have := q3 k0 h0 hB (⟨some ((AV.v (T := T) .bool b).is a0), needOf (pre ++ g1) p'⟩ :: es2 ++ es')
                    simpa using this
                  · have := hob k0 h0 (⟨some ((AV.v (T := T) .bool b).is a0), needOf (pre ++ g1) p'⟩ :: es2 ++ es')
                    simpa using this
                  · have := h7 k0 h0 hB es'
                    simpa using this
                · rcases List.mem_append.1 hx with hx | hx
                  · exact q6 x' hx R hR
                  · rcases List.mem_cons.1 hx with rfl | hx
                    · obtain rfl := Option.some.inj hR
                      exact .inl ⟨.v .bool b,rfl,rfl,fun s hs=>by simp [AV.ment] at hs⟩
                    · exact h8 x' hx R hR
                · rw [← hcs] at ho'
                  obtain ⟨x', hx', rfl⟩ := List.mem_map.1 ho'
                  obtain ⟨_, j', w', hg', _⟩ := hgr x' hx'
                  rw [hg']; simp
                · cases off with
                  | adr off =>
                    obtain ⟨_, _, _, _, hop', _⟩ := hidO_adr ho
                    rw [hpo] at hop'; simp at hop'
                  | box t =>
                    obtain ⟨_, _, _, hop', _⟩ := hidO_box ho
                    rw [hpo] at hop'; simp at hop'
            · simp at h
          · simp at h
        · simp at h
end
end Go.Gb

/- General part of the proofs: operations one after the other. -/
namespace Go.Gb
variable {T:Tb} {R:Type}
section
variable {C:Cx T} {n:Nat} {F:FP} {k0:K} {W:List Nat} {a0:Act} {e:Env T} {a a' : Act} {k k' : K}

/-- As far as the operands go, all is known in an environment that holds. -/
theorem Hl.rd1 (h:Hl n F k0 W a0 e a k) (o:Oper):Rd1 e o a a k:=by
  refine ⟨fun x _=>?_,fun s _=>h.sl s,h.gl⟩
  cases x with
  | tmp t=>exact ⟨h.sl t,fun _=>rfl⟩
  | global _=>exact h.gl
  | _=>trivial

/-- A resource is changed in place. -/
theorem Hl.turn (h:Hl n F k0 W a0 e a k) {s:Nat} {av:AV T} {G:FP} (hs:unl (lk e s) = true) (c:Chg G k k') (hG : ∀ b,G b → (lk e s).fp (a.get s) b) (hv:av.is a (a.get s) k') (hm : ∀ t,av.ment t = false)
    (hu:unl av = true) (hf : ∀ b,av.fp (a.get s) b → (lk e s).fp (a.get s) b):Hl n F k0 W a0 ((s,av)::mapE (kl s) e) a k':=by
  have hn : ∀ b,G b → ¬ k.sh b:=fun b hb=>(h.lt s b (hG b hb)).2
  have hlt : ∀ b,G b → b < k.w.heap.size:=fun b hb=>(h.lt s b (hG b hb)).1
  have lks:lk ((s,av)::mapE (kl s) e) s = av:=by rw [lk_cons,if_pos rfl]
  have lkt : ∀ t,t ≠ s → lk ((s,av)::mapE (kl s) e) t = kl s (lk e t):=fun t ht=>by rw [lk_cons,if_neg (Ne.symm ht),lk_mapE rfl]
  refine ⟨h.g.step c (fun b hb=>h.wr s hs b (hG b hb)),h.s,h.d,h.old,fun t=>?_,fun t u hu'=>?_,fun t ht=>?_,fun t t' hne=>?_,h.gl.le (c.le hn)⟩
  · by_cases ht : t = s
    · subst ht; rw [lks]; exact hv
    · rw [lkt t ht]
      have h1:(kl s (lk e t)).is a (a.get t) k:=by
        rcases kl_or s (lk e t) with e1 | e1
        · rw [e1]; exact h.sl t
        · rw [e1]; trivial
      refine (kl s (lk e t)).keep c hn (fun b hb hb'=>?_) (fun u hu1 u' hu2 hu3 b hb hb'=>?_) h1
      · rcases kl_or s (lk e t) with e1 | e1
        · rw [e1] at hb; exact h.ap t s ht b hb (hG b hb')
        · rw [e1] at hb; exact hb
      · obtain ⟨hu4, hu5⟩ := kl_ment2 hu1
        exact h.apm (h.inv t u (AV.ment2_ment hu4)) hu5 hu2 hu3 b hb (hG b hb')
  · have : isRes (lk e u) = true := by
      by_cases ht:t = s
      · subst ht; rw [lks,hm] at hu'; simp at hu'
      · rw [lkt t ht] at hu'
        exact h.inv t u (kl_ment hu')
    by_cases hus:u = s
    · subst hus; rw [lks]; exact unl_res hu
    · rw [lkt u hus,kl_res this]; exact this
  · by_cases ht' : t = s
    · subst ht'; rw [lks]
      exact fun b hb=>h.wr t hs b (hf b hb)
    · rw [lkt t ht'] at ht ⊢
      rcases kl_or s (lk e t) with e1 | e1
      · rw [e1] at ht ⊢; exact h.wr t ht
      · rw [e1] at ht; simp [unl] at ht
  · have sub : ∀ t b, (lk ((s, av) :: mapE (kl s) e) t).fp (a.get t) b → (lk e t).fp (a.get t) b := by
      intro t b hb
      by_cases ht:t = s
      · subst ht; rw [lks] at hb; exact hf b hb
      · rw [lkt t ht] at hb
        rcases kl_or s (lk e t) with e1 | e1
        · rw [e1] at hb; exact hb
        · rw [e1] at hb; exact hb.elim
    exact fun b hb hb'=>h.ap t t' hne b (sub t b hb) (sub t' b hb')

/-- A resource is given up, or turned into something else. -/
theorem Hl.swap (h:Hl n F k0 W a0 e a k) {s:Nat} {av:AV T} {G:FP} (hg:Chg F k0 k')
    (hkeep : ∀ (x:AV T) (v:Value),Apart (x.fp v) G → (∀ u,x.ment2 u = true → ∀ y:AV T,isRes y = true → y.is a (a.get u) k → Apart (y.fp (a.get u)) G) → x.is a v k → x.is a v k')
    (hG : ∀ b,G b → (lk e s).fp (a.get s) b) (hv:av.is a (a.get s) k') (hm : ∀ t,av.ment t = false) (hw:unl av = true → Wr F k0 (av.fp (a.get s))) (hf : ∀ b,av.fp (a.get s) b → (lk e s).fp (a.get s) b) :
    Hl n F k0 W a0 ((s,av)::mapE (klA s) e) a k':=by
  have lks:lk ((s,av)::mapE (klA s) e) s = av:=by rw [lk_cons,if_pos rfl]
  have lkt : ∀ t,t ≠ s → lk ((s,av)::mapE (klA s) e) t = klA s (lk e t):=fun t ht=>by rw [lk_cons,if_neg (Ne.symm ht),lk_mapE rfl]
  refine ⟨hg,h.s,h.d,h.old,fun t=>?_,fun t u hu'=>?_,fun t ht=>?_,fun t t' hne=>?_,⟨fun g t x e1=>hkeep (.ref t x) _ (fun b hb _=>hb.elim) (fun u hu=>by simp [AV.ment2] at hu) (h.gl.1 g t x e1),
    fun g e1=>(h.gl.2 g e1).imp fun m r=>hkeep (.ref .int m) _ (fun b hb _=>hb.elim) (fun u hu=>by simp [AV.ment2] at hu) r⟩⟩
  · by_cases ht : t = s
    · subst ht; rw [lks]; exact hv
    · rw [lkt t ht]
      have h1:(klA s (lk e t)).is a (a.get t) k:=by
        rcases klA_or s (lk e t) with e1 | e1
        · rw [e1]; exact h.sl t
        · rw [e1]; trivial
      refine hkeep _ _ (fun b hb hb'=>?_) (fun u hu1 u' hu2 hu3 b hb hb'=>?_) h1
      · rcases klA_or s (lk e t) with e1 | e1
        · rw [e1] at hb; exact h.ap t s ht b hb (hG b hb')
        · rw [e1] at hb; exact hb
      · obtain ⟨hu4, hu5⟩ := klA_ment (AV.ment2_ment hu1)
        exact h.apm (h.inv t u hu4) hu5 hu2 hu3 b hb (hG b hb')
  · by_cases ht : t = s
    · subst ht; rw [lks,hm] at hu'; simp at hu'
    · rw [lkt t ht] at hu'
      obtain ⟨h1,h2⟩:=klA_ment hu'
      have:=h.inv t u h1
      rw [lkt u h2,klA_res this]; exact this
  · by_cases ht' : t = s
    · subst ht'; rw [lks] at ht ⊢; exact hw ht
    · rw [lkt t ht'] at ht ⊢
      rcases klA_or s (lk e t) with e1 | e1
      · rw [e1] at ht ⊢; exact h.wr t ht
      · rw [e1] at ht; simp [unl] at ht
  · have sub : ∀ t b, (lk ((s, av) :: mapE (klA s) e) t).fp (a.get t) b → (lk e t).fp (a.get t) b := by
      intro t b hb
      by_cases ht:t = s
      · subst ht; rw [lks] at hb; exact hf b hb
      · rw [lkt t ht] at hb
        rcases klA_or s (lk e t) with e1 | e1
        · rw [e1] at hb; exact hb
        · rw [e1] at hb; exact hb.elim
    exact fun b hb hb'=>h.ap t t' hne b (sub t b hb) (sub t' b hb')
theorem Hl.lose (h:Hl n F k0 W a0 e a k) {s:Nat} {G:FP} (hs:unl (lk e s) = true) (c:Chg G k k') (hG : ∀ b,G b → (lk e s).fp (a.get s) b):Hl n F k0 W a0 ((s,.top)::mapE (klA s) e) a k':=
  h.swap (h.g.step c fun b hb=>h.wr s hs b (hG b hb)) (fun x v h1 h2 h3=>x.keep c (fun b hb=>(h.lt s b (hG b hb)).2) h1 h2 h3) hG trivial (fun _=>rfl) (fun hu=>by simp [unl] at hu) (fun b hb=>hb.elim)
theorem Hl.hand (h:Hl n F k0 W a0 e a k) {s:Nat} {G:FP} {av:AV T} (hs:unl (lk e s) = true) (c:Handed k k' G) (hG : ∀ b,G b → (lk e s).fp (a.get s) b) (hv:av.is a (a.get s) k') (hm : ∀ t,av.ment t = false) (hr:isRes av = false) :
    Hl n F k0 W a0 ((s,av)::mapE (klA s) e) a k':=
  h.swap (h.g.hand c fun b hb=>h.wr s hs b (hG b hb)) (fun x v h1 h2 h3=>x.handed c h1 h2 h3) hG hv hm (fun hu=>by rw [unl_res hu] at hr; simp at hr) (fun b hb=>absurd hb (fp_nonres hr _ b))
/-- More is told of a slot. -/
theorem Hl.set (h:Hl n F k0 W a0 e a k) {s:Nat} {av:AV T} (hs:isRes (lk e s) = false) (hv:av.is a (a.get s) k) (hm : ∀ t,av.ment t = true → isRes (lk e t) = true) (hr:isRes av = false):Hl n F k0 W a0 ((s,av)::e) a k:=by
  have lks:lk ((s,av)::e) s = av:=by rw [lk_cons,if_pos rfl]
  have lkt : ∀ t,t ≠ s → lk ((s,av)::e) t = lk e t:=fun t ht=>by rw [lk_cons,if_neg (Ne.symm ht)]
  have ne : ∀ t,isRes (lk e t) = true → t ≠ s:=fun t ht e=>by rw [e,hs] at ht; simp at ht
  have fps : ∀ t b,(lk ((s,av)::e) t).fp (a.get t) b → (lk e t).fp (a.get t) b:=by
    intro t b hb
    by_cases ht:t = s
    · subst ht; rw [lks] at hb; exact absurd hb (fp_nonres hr _ b)
    · rw [lkt t ht] at hb; exact hb
  refine ⟨h.g,h.s,h.d,h.old,fun t=>?_,fun t u hu=>?_,fun t ht=>?_,fun t t' hne b hb hb'=>h.ap t t' hne b (fps t b hb) (fps t' b hb'),h.gl⟩
  · by_cases ht : t = s
    · subst ht; rw [lks]; exact hv
    · rw [lkt t ht]; exact h.sl t
  · have : isRes (lk e u) = true := by
      by_cases ht:t = s
      · subst ht; rw [lks] at hu; exact hm u hu
      · rw [lkt t ht] at hu; exact h.inv t u hu
    rw [lkt u (ne u this)]; exact this
  · by_cases ht' : t = s
    · subst ht'; rw [lks] at ht; rw [unl_res ht] at hr; simp at hr
    · rw [lkt t ht'] at ht ⊢; exact h.wr t ht
/-- A new resource in a slot. -/
theorem Hl.putFresh (h:Hl n F k0 W a0 e a k) {d:Nat} {av:AV T} (hd:d ∈ W) (hg:Grow k k') (hs:a'.tmps.size = a.tmps.size) (hdf:a'.defers = a.defers)
    (ho : ∀ t,t ≠ d → a'.get t = a.get t) (hv:av.is a' (a'.get d) k') (hm : ∀ s,av.ment s = true → isRes (lk e s) = true)
    (hf : ∀ b, av.fp (a'.get d) b → k.w.heap.size ≤ b) {r : R} {K : Env T → Option R} (hk : Gb.put e d av K = some r) : ∃ e', K e' = some r ∧ Hl n F k0 W a0 e' a' k' := by
  obtain ⟨e', h1, h2, _⟩ := h.put hd hg hs hdf ho hv hm (fun _ b hb => .inr (Nat.le_trans h.g.size (hf b hb))) (fun t _ b hb hb' => by
    have:=(h.lt t b hb').1; have:=hf b hb; omega) hk
  exact ⟨e', h1, h2⟩

theorem frz1_ok (h : Hl n F k0 W a0 e a k) {x : Operand} {K : Env T → Option R} {r : R} (hk : frz1 e x K = some r) : ∃ e' k', K e' = some r ∧ k'.w = k.w ∧ Hl n F k0 W a0 e' a k' := by
  have go : ∀ {s : Nat} {el : TypeId} {u : Tp} {xs : List (T.D u)}, lk e s = .own false el u xs → ∃ k', k'.w = k.w ∧ Hl n F k0 W a0 ((s, .v (.list u) xs) :: mapE (klA s) e) a k' ∧ IsV (α := List (T.D u)) xs (a.get s) k' := by
    intro s el u xs hl
    have hsl:=h.sl s
    rw [hl] at hsl
    obtain ⟨k', hh, hv⟩ := IsOwn.give (show IsOwn 0 el xs (a.get s) k from hsl)
    exact ⟨k', hh.w, h.hand (av := .v (.list u) xs) (by rw [hl]; rfl) hh (by rw [hl]; exact fun b hb => hb) hv (fun _ => rfl) rfl, hv⟩
  unfold frz1 at hk
  split at hk
  · rename_i t
    split at hk
    · rename_i el u xs hl
      rw [mapK_eq] at hk
      obtain ⟨k', h1, h2, _⟩ := go hl
      exact ⟨_, k', hk, h1, h2⟩
    · rename_i s hl
      split at hk
      · rename_i el u xs hl'
        rw [mapK_eq] at hk
        obtain ⟨k', h1, h2, h3⟩ := go hl'
        cases hr:isRes (lk (mapE (klA s) e) t) with
        | true=>rw [hr] at hk; simp at hk
        | false =>
          rw [hr] at hk
          simp only [cond_false] at hk
          have hts:a.get t = a.get s:=by have:=h.sl t; rw [hl] at this; exact this
          have hne:t ≠ s:=fun e=>by rw [e,hl'] at hl; simp at hl
          refine ⟨_, k', hk, h1, h2.set (av := .v (.list u) xs) ?_ (by rw [hts]; exact h3) (fun _ hm => by simp [AV.ment] at hm) rfl⟩
          rw [lk_cons,if_neg (Ne.symm hne)]; exact hr
      · exact ⟨e,k,hk,rfl,h⟩
    · exact ⟨e,k,hk,rfl,h⟩
  · exact ⟨e,k,hk,rfl,h⟩
end
section
variable {C:Cx T} {n:Nat} {F:FP} {k0:K} {W:List Nat} {a0:Act} {a:Act}
theorem frz_ok : ∀ {l : List Operand} {e : Env T} {k : K} {K : Env T → Option R} {r : R}, Hl n F k0 W a0 e a k → frz e l K = some r → ∃ e' k', K e' = some r ∧ k'.w = k.w ∧ Hl n F k0 W a0 e' a k'
  | [],e,k,_,_,h,hk=>⟨e,k,hk,rfl,h⟩
  | x :: l, e, k, _, _, h, hk => by
    obtain ⟨e1,k1,h1,h2,h3⟩:=frz1_ok h (show frz1 e x _ = _ from hk)
    obtain ⟨e2,k2,h4,h5,h6⟩:=frz_ok h3 h1
    exact ⟨e2,k2,h4,h5.trans h2,h6⟩
theorem shareK_ok : ∀ {l : List Oper} {e : Env T} {k : K} {K : Env T → Option R} {r : R}, Hl n F k0 W a0 e a k → shareK C l e K = some r → ∃ e' k', K e' = some r ∧ k'.w = k.w ∧ Hl n F k0 W a0 e' a k'
  | [],e,k,_,_,h,hk=>⟨e,k,hk,rfl,h⟩
  | o :: l, e, k, K, r, h, hk => by
    simp only [shareK] at hk
    split at hk
    · rename_i d _ _
      cases hc:C.own.contains d with
      | true=>rw [hc] at hk; exact shareK_ok h hk
      | false =>
        rw [hc] at hk
        simp only [cond_false] at hk
        split at hk
        · rename_i t x hl
          rw [mapK_eq] at hk
          have hsl:=h.sl d
          rw [hl] at hsl
          obtain ⟨b,hb,hbx⟩:=hsl
          obtain ⟨k', hh, hv⟩ := hbx.give
          have h1:=h.hand (av:=.ref t x) (by rw [hl]; rfl) hh (by rw [hl]; intro b' hb'; rw [← hb']; exact hb) (by rw [hb]; exact hv) (fun _=>rfl) rfl
          obtain ⟨e2,k2,h4,h5,h6⟩:=shareK_ok h1 hk
          exact ⟨e2,k2,h4,h5.trans hh.w,h6⟩
        · exact shareK_ok h hk
    · exact shareK_ok h hk
end
end Go.Gb

/- General part of the proofs: operations one after the other, continued; regions. -/
namespace Go.Gb
variable {T:Tb} {R:Type}
section
variable {C:Cx T} {n:Nat} {F:FP} {k0:K} {W:List Nat} {a0:Act} {e:Env T} {a a' : Act} {k k' : K}

theorem resSlot_ok (h:Hl n F k0 W a0 e a k) {x:Operand} {s:Nat} (hs:resSlot e x = some s):a.eval x = a.get s:=by
  unfold resSlot at hs
  split at hs
  · rename_i t
    split at hs
    · rename_i s' hl
      obtain rfl:=Option.some.inj hs
      have:=h.sl t; rw [hl] at this; exact this
    · obtain rfl:=Option.some.inj hs; rfl
    · obtain rfl:=Option.some.inj hs; rfl
    · simp at hs
  · simp at hs

theorem step2_ok (hC:CxOk C) (h:Hl n F k0 W a0 e a k) {A:Array Oper} {i:Nat} {rest:List Nat} {o:Oper} {Q:Exit → Act → World → Prop} {K:Env T → Option R} {r:R} (hA:nth A.toList i = some o) (hg:o.guard = none)
    (hn : ∀ d,o.dst = some d → d < n∧d ∈ W) (hk:step2 C e o K = some r)
    (hQ : ∀ e' a' k', K e' = some r → Hl n F k0 W a0 e' a' k' → wpOps C.P A Q rest a' k'.w) : wpOps C.P A Q (i :: rest) a k.w := by
  have is1 : ∀ x,(opv e x).is a (a.eval x) k:=fun x=>opv_is (e:=e) (a0:=a) (by
    cases x with
    | tmp t=>exact ⟨h.sl t,fun _=>rfl⟩
    | global _=>exact h.gl
    | _=>trivial)
  -- an operation that writes to nothing
  have pure1 : ∀ d,o.dst = some d → ∀ {K1:AV T → Option R},step1 C e o K1 = some r → ∃ av,K1 av = some r∧(∀ s,av.ment s = true → isRes (lk e s) = true)∧isRes av = false∧Does C.P o a k (av.is a):=by
    intro d hd K1 h1
    obtain ⟨av,h2,h3,h4,h5⟩:=step1_ok hC h.inv h1
    exact ⟨av,h2,h3,h4,h5 a a k (h.rd1 o)⟩
  have simple : ∀ d,o.dst = some d → (step1 C e o fun x=>put e d x K) = some r → wpOps C.P A Q (i::rest) a k.w:=by
    intro d hd h1
    obtain ⟨av,h2,h3,h4,h5⟩:=pure1 d hd h1
    obtain ⟨hdn,hdW⟩:=hn d hd
    refine tail_does hA hg hd (by rw [h.s]; exact hdn) trivial h5 fun a' k' hs hdf hoth hgr hv=>?_
    have hv' : av.is a' (a'.get d) k':=av.congr (fun s hs'=>hoth s (fun e=>by
      have:av.ment d = false:=by
        cases hmd:av.ment d with
        | false=>rfl
        | true=>unfold Gb.put at h2; rw [hmd] at h2; simp at h2
      rw [e,this] at hs'; simp at hs')) hv
    obtain ⟨e', h6, h7⟩ := h.putFresh hdW hgr hs hdf hoth hv' h3 (fun b hb => absurd hb (fp_nonres h4 _ b)) h2
    exact hQ e' a' k' h6 h7
  -- a new resource
  have fresh : ∀ d,o.dst = some d → ∀ {av:AV T},put e d av K = some r → (∀ t,av.ment t = false) → Does C.P o a k (fun v k'=>(∀ a1:Act,av.is a1 v k')∧∀ b,av.fp v b → k.w.heap.size ≤ b) → wpOps C.P A Q (i::rest) a k.w:=by
    intro d hd av h2 h3 h5
    obtain ⟨hdn,hdW⟩:=hn d hd
    refine tail_does hA hg hd (by rw [h.s]; exact hdn) trivial h5 fun a' k' hs hdf hoth hgr hv=>?_
    obtain ⟨e', h6, h7⟩ := h.putFresh hdW hgr hs hdf hoth (hv.1 a') (fun s hs => by rw [h3] at hs; simp at hs) hv.2 h2
    exact hQ e' a' k' h6 h7
  unfold step2 at hk
  split at hk
  · -- store
    rename_i ty p y hop hd
    split at hk
    · rename_i pt
      have hsel : ∀ av:AV T,(match lk e pt with | .al s=>(match lk e s with | .box _ t x=>AV.ab s t x t (Lens.id t) | _=>.top) | .box _ t x=>AV.ab pt t x t (Lens.id t) | a=>a) = av → av.is a (a.get pt) k:=by
        intro av hav
        have hsl:=h.sl pt
        split at hav
        · rename_i s hl
          rw [hl] at hsl
          split at hav
          · rename_i lck t x hl'
            have hsl':=h.sl s
            rw [hl'] at hsl'
            obtain ⟨b,hb,hbx⟩:=hsl'
            rw [← hav]
            exact ⟨Lens.id_ok,b,hb,(show a.get pt = a.get s from hsl).trans hb,hbx⟩
          · rw [← hav]; trivial
        · rename_i lck t x hl
          rw [hl] at hsl
          obtain ⟨b,hb,hbx⟩:=hsl
          rw [← hav]
          exact ⟨Lens.id_ok,b,hb,hb,hbx⟩
        · rw [← hav]; exact hsl
      split at hk
      · rename_i s t x u L hav
        have hp:=hsel _ hav
        split at hk
        · rename_i t' x' hl
          split at hk
          · rename_i z hz
            cases hb:tyB C.P T ty u with
            | false=>rw [hb] at hk; simp at hk
            | true =>
              rw [hb] at hk; simp only [cond_true] at hk
              rw [mapK_eq] at hk
              obtain ⟨hL,b,h1,h2,h3⟩:=hp
              have hfp : ∀ b', Eq b b' → (lk e s).fp (a.get s) b' := by rw [hl]; intro b' hb'; rw [← hb']; exact h1
              refine tail_storeB hA hg hop hd (tyB_sz hb) hL.2.1 h2 h3 (asT_is hz (is1 y)) fun k' hc hbx=>?_
              refine hQ _ a k' hk (h.turn (av:=.box false t (L.set x z)) (by rw [hl]; rfl) hc hfp ⟨b,h1,hbx⟩ (fun _=>rfl) rfl fun b' hb'=>?_)
              rw [hl]; exact hb'
          · simp at hk
        · simp at hk
      · rename_i s el t xs i' x u L hav
        have hp:=hsel _ hav
        split at hk
        · rename_i el' t' xs' hl
          split at hk
          · rename_i z hz
            cases hb:tyB C.P T ty u with
            | false=>rw [hb] at hk; simp at hk
            | true =>
              rw [hb] at hk; simp only [cond_true] at hk
              rw [mapK_eq] at hk
              obtain ⟨hL,h1,h2,h3⟩:=hp
              have hfp : ∀ b', obF (a.get s) b' → (lk e s).fp (a.get s) b' := by rw [hl]; intro b' hb'; exact hb'
              refine tail_storeS (u:=a.get s) (xs:=xs) (x:=x) hA hg hop hd (tyB_sz hb) hL.2.1 h1 h2 h3 (asT_is hz (is1 y)) fun k' hc hown=>?_
              refine hQ _ a k' hk (h.turn (av:=.own false el t (xs.set i' (L.set x z))) (by rw [hl]; rfl) hc hfp hown (fun _=>rfl) rfl fun b' hb'=>?_)
              rw [hl]; exact hb'
          · simp at hk
        · simp at hk
      · simp at hk
    · simp at hk
  · -- alloc
    rename_i ty d hop hd
    split at hk
    · rename_i t ht
      cases hz:zeroB C.P T ty t with
      | false=>rw [hz] at hk; simp at hk
      | true =>
        rw [hz] at hk; simp only [cond_true] at hk
        obtain ⟨_,zv,_,_,_,_,hrun,_,hv⟩:=zeroB_ok hz
        refine fresh d hd hk (fun _=>rfl) (does_imp (ok_alloc k.w.heap.size (Nat.le_refl _) hop ⟨zv,hrun,hv⟩) fun v k' _ hb=>?_)
        obtain ⟨b,rfl,h1,h2⟩:=hb
        exact ⟨fun _=>⟨b,rfl,h2⟩,fun b' hb'=>by
          simp only [AV.fp,Value.pointer.injEq,Option.some.injEq,Addr.mk.injEq,and_true] at hb'
          omega⟩
    · simp at hk
  · -- box
    rename_i ty x d hop hd
    split at hk
    · rename_i t y hx
      cases hz:tyB C.P T ty t with
      | false=>rw [hz] at hk; simp at hk
      | true =>
        rw [hz] at hk; simp only [cond_true] at hk
        have hxv:=is1 x
        rw [hx] at hxv
        refine fresh d hd hk (fun _=>rfl) (does_imp (ok_box k.w.heap.size (Nat.le_refl _) hop (show IsV y (a.eval x) k from hxv)) fun v k' _ hb=>?_)
        obtain ⟨b,rfl,h1,h2⟩:=hb
        exact ⟨fun _=>⟨b,rfl,h2⟩,fun b' hb'=>by
          simp only [AV.fp,Value.pointer.injEq,Option.some.injEq,Addr.mk.injEq,and_true] at hb'
          omega⟩
    · simp at hk
  · -- assign
    rename_i x d hop hd
    split at hk
    · rename_i s hs
      split at hk
      · rename_i el t xs hl
        rw [mapK_eq] at hk
        obtain ⟨hdn,hdW⟩:=hn d hd
        refine tail_assign hA hg (.inl hop) hd (by rw [h.s]; exact hdn) fun a' hsz hdf hnew hoth=>?_
        have hsl:=h.sl s
        rw [hl] at hsl
        have h1:=h.lose (k':=k) (G:=noF) (s:=s) (by rw [hl]; rfl) (Chg.refl _ k) (fun b hb=>hb.elim)
        have hv:a'.get d = a.get s:=hnew.trans (resSlot_ok h hs)
        have hfp : ∀ b,obF (a.get s) b → (lk e s).fp (a.get s) b:=by rw [hl]; exact fun b hb=>hb
        obtain ⟨e', h2, h3, h4, h5⟩ := h1.put (av := .own false el t xs) hdW (Grow.refl k) hsz hdf hoth (by rw [hv]; exact hsl) (fun s' hs' => by simp [AV.ment] at hs') (fun _ => by
            rw [hv]; exact fun b hb=>h.wr s (by rw [hl]; rfl) b (hfp b hb)) (fun t' ht' b hb hb'=>by
            rw [hv] at hb
            rw [lk_cons] at hb'
            by_cases e1:s = t'
            · rw [if_pos e1] at hb'; exact hb'
            · rw [if_neg e1, lk_mapE rfl] at hb'
              rcases klA_or s (lk e t') with e2 | e2
              · rw [e2] at hb'; exact h.ap s t' e1 b (hfp b hb) hb'
              · rw [e2] at hb'; exact hb') hk
        by_cases hsd:s = d
        · -- onto itself: nothing more is told
          subst hsd
          have hn' : isRes (lk e' s) = true:=by rw [h4]; rfl
          exact absurd h2 (by
            intro h2
            cases hb:isRes (lk e' s) with
            | false=>rw [hn'] at hb; simp at hb
            | true=>rw [hb] at h2; simp at h2)
        · have hns : isRes (lk e' s) = false := by
            rcases h5 s hsd with e1 | e1
            · rw [e1,lk_cons,if_pos rfl]; rfl
            · rw [e1]; rfl
          rw [hns] at h2
          simp only [cond_false] at h2
          refine hQ _ a' k h2 (h3.set (av := .al d) hns ?_ (fun t' ht' => by rw [← Nat.eq_of_beq_eq_true ht', h4]; rfl) rfl)
          exact (hoth s hsd).trans hv.symm
      · simp at hk
    · exact simple d hd hk
  · -- buildSlice
    rename_i ty m ps d hop hd
    split at hk
    · exact simple d hd hk
    · rename_i hm0
      split at hk
      · rename_i t el xs hb
        obtain ⟨h1,h2,h3,h4,h5⟩:=bslice_ok hb
        refine fresh d hd hk (fun _=>rfl) (does_imp (ok_buildSliceO (ps:=ps.toList) (B:=k.w.heap.size) (by rw [hop]) h1 h2 (Nat.le_refl _) h3 (Nat.pos_of_ne_zero fun e=>hm0 e) h4 (h5 a a k fun y _=>is1 y)) fun v k' _ hb=>⟨fun _=>hb.weaken (Nat.zero_le _),fun b hb'=>(hb.lt b hb').1⟩)
      · simp at hk
  · -- makeSlice
    rename_i ty lx cx d hop hd
    split at hk
    · rename_i n el hn hel
      split at hk
      · rename_i t ht
        cases hb:(sameTmp lx cx && elB C.P T el t && zeroB C.P T el t) with
        | false=>rw [hb] at hk; simp at hk
        | true =>
          rw [hb] at hk
          simp only [cond_true] at hk
          simp only [Bool.and_eq_true] at hb
          obtain ⟨⟨h1,h2⟩,h3⟩:=hb
          obtain ⟨r,hr,hk⟩:=bind_some hk
          obtain ⟨i,z,cs,hi,hz,hcs,_,hrep,_⟩:=zeroB_ok h3
          have hev:a.eval cx = a.eval lx:=by
            cases lx <;> cases cx <;> simp only [sameTmp] at h1 <;> first | (rw [Nat.eq_of_beq_eq_true h1]) | simp at h1
          have hlv:a.eval lx = .int .i64 n:=isV_int.1 (asI_is hn (is1 lx))
          refine fresh d hd hk (fun _=>rfl) (does_imp (ok_makeSliceO (B:=k.w.heap.size) hop (slOf_ok hel) (elB_ok h2) hi hz (by rw [hcs]; exact hrep k) (Nat.le_refl _) hlv (hev.trans hlv) hr) fun v k' _ hb=>⟨fun _=>hb.weaken (Nat.zero_le _),fun b hb'=>(hb.lt b hb').1⟩)
      · simp at hk
    · simp at hk
  · -- a call
    rename_i c d hop hd
    obtain ⟨cal,as_,ts⟩:=c
    dsimp only at hk
    split at hk
    · split at hk
      · rename_i x y ty ty' hx hty
        obtain rfl:=arr2 hx
        obtain rfl:=arr2 hty
        cases hb:Nat.beq ty ty' with
        | false=>rw [hb] at hk; simp at hk
        | true =>
          rw [hb] at hk; simp only [cond_true] at hk
          obtain rfl:=Nat.eq_of_beq_eq_true hb
          split at hk
          · rename_i el t ys hel hl
            have hy:=asL_is hl (is1 y) (opv_ment h.inv) (fun s _=>h.sl s)
            cases hb:elB C.P T el t with
            | false=>rw [hb] at hk; simp at hk
            | true =>
              rw [hb] at hk; simp only [cond_true] at hk
              split at hk
              · rename_i s hs
                split at hk
                · rename_i el' t' xs hls
                  split at hk
                  · rename_i xs' hxs
                    obtain ⟨he,hxe⟩:=cast?_eq hxs
                    injection he with he
                    subst he
                    obtain rfl:xs' = xs:=hxe
                    cases hb2:Nat.beq el el' with
                    | false=>rw [hb2] at hk; simp at hk
                    | true =>
                      rw [hb2] at hk; simp only [cond_true] at hk
                      obtain rfl:=Nat.eq_of_beq_eq_true hb2
                      obtain ⟨z,hz,hk⟩:=bind_some hk
                      rw [mapK_eq] at hk
                      obtain ⟨hdn,hdW⟩:=hn d hd
                      have hsl:=h.sl s
                      rw [hls] at hsl
                      have hev:=resSlot_ok h hs
                      have hfp : ∀ b,obF (a.get s) b → (lk e s).fp (a.get s) b:=by rw [hls]; exact fun b hb=>hb
                      refine tail_appendS hA hg hop hd (by rw [h.s]; exact hdn) (slOf_ok hel) (elB_ok hb) (by rw [hev]; exact hsl) hy hz fun a' k' hsz hdf hoth hc hown hob=>?_
                      rw [hev] at hc hob
                      have h1:=h.lose (s:=s) (by rw [hls]; rfl) hc hfp
                      obtain ⟨e', h2, h3, _⟩ := h1.put (av := .own false el t' z) hdW (Grow.refl k') hsz hdf hoth hown (fun s' hs' => by simp [AV.ment] at hs') (fun _ b hb => by
                          rcases hob b hb with hb | hb
                          · exact h.wr s (by rw [hls]; rfl) b (hfp b hb)
                          · exact .inr (Nat.le_trans h.g.size hb)) (fun t2 ht2 b hb hb'=>by
                          rw [lk_cons] at hb'
                          by_cases e1:s = t2
                          · rw [if_pos e1] at hb'; exact hb'
                          · rw [if_neg e1, lk_mapE rfl] at hb'
                            rcases klA_or s (lk e t2) with e2 | e2
                            · rw [e2] at hb'
                              rcases hob b hb with hb | hb
                              · exact h.ap s t2 e1 b (hfp b hb) hb'
                              · have:=(h.lt t2 b hb').1; omega
                            · rw [e2] at hb'; exact hb') hk
                      exact hQ e' a' k' h2 h3
                  · simp at hk
                · simp at hk
              · split at hk
                · rename_i hres
                  obtain ⟨z,hz,hk⟩:=bind_some hk
                  have hx0:=res_is (is1 x) (opv_ment h.inv) (fun s _=>h.sl s)
                  rw [hres] at hx0
                  exact fresh d hd hk (fun _=>rfl) (does_imp (ok_append0 (B:=k.w.heap.size) hop (slOf_ok hel) (elB_ok hb) (Nat.le_refl _) hx0 hy hz) fun v k' _ hb=>⟨fun _=>hb.weaken (Nat.zero_le _),fun b hb'=>(hb.lt b hb').1⟩)
                · simp at hk
          · simp at hk
      · simp at hk
    · exact simple d hd hk
  · exact simple _ (by assumption) hk
  · simp at hk
end
end Go.Gb

/- General part of the proofs: regions. -/
namespace Go.Gb
variable {T:Tb} {R:Type}
section
variable {C:Cx T} {F:FP} {k0:K} {W:List Nat} {a0:Act} {A:Array Oper} {Q:Exit → Act → World → Prop}

theorem ev2_ok (hC:CxOk C) : ∀ {l pre:List Oper} {e:Env T} {a:Act} {k:K} {K:Env T → Option R} {r:R},A.toList = pre ++ l → (∀ o ∈ l,∀ d,o.dst = some d → d ∈ W) → Hl C.n F k0 W a0 e a k → ev2 C (ixs pre.length l) e K = some r →
    (∀ e' a' k', K e' = some r → Hl C.n F k0 W a0 e' a' k' → Q .normal a' k'.w) → wpOps C.P A Q (List.range' pre.length l.length) a k.w
  | [], pre, e, a, k, K, r, hA, hW, h, hk, hQ => by
    simp only [ixs,ev2] at hk
    exact hQ e a k hk h
  | o :: l, pre, e, a, k, K, r, hA, hW, h, hk, hQ => by
    simp only [ixs,ev2] at hk
    split at hk
    · rename_i hg hd
      obtain ⟨e1,k1,h1,h2,h3⟩:=frz_ok h hk
      rw [List.length_cons,List.range'_succ,← h2]
      have hnth:nth A.toList pre.length = some o:=by rw [hA]; exact nth_at
      refine step2_ok hC h3 hnth hg (fun d hd'=>⟨?_,hW o (by simp) d hd'⟩) h1 fun e' a' k' hk' h'=>?_
      · rw [hd'] at hd
        simp only [Nat.blt_eq] at hd
        exact hd
      · have := ev2_ok hC (l := l) (pre := pre ++ [o]) (e := e') (a := a') (k := k') (K := K) (r := r) (by rw [hA]; simp) (fun o' ho' => hW o' (by simp [ho'])) h' (by simpa using hk') hQ
        simpa using this
    · simp at hk

theorem chk2_congr {n:Nat} {ops0:List Oper} {ms:List Nat} : ∀ {ops:List Oper} {es es' : List Ent} {i:Nat},es.map (·.need) = es'.map (·.need) → chk2 n ops0 ms i ops es = chk2 n ops0 ms i ops es'
  | [],_,_,_,_=>by simp [chk2]
  | o::ops,[],[],i,_=>rfl
  | o::ops,[],_::_,i,h=>by simp at h
  | o::ops,_::_,[],i,h=>by simp at h
  | o :: ops, x :: es, y :: es', i, h => by
    simp only [List.map_cons,List.cons.injEq] at h
    simp only [chk2,chk2_congr h.2]
    congr 1
    unfold chkOp
    rw [h.1]
theorem chkS_congr {n m:Nat} {ops:List Oper} {es es' : List Ent} (h:es.map (·.need) = es'.map (·.need)):chkS n m ops es = chkS n m ops es':=by
  have hl:es.length = es'.length:=by simpa using congrArg List.length h
  unfold chkS
  rw [hl,chk2_congr h]
theorem chk_congr {n m:Nat} {ops:List Oper} {es es' : List Ent} (h:es.map (·.need) = es'.map (·.need)):chk n m ops es = chk n m ops es':=by
  unfold chk
  rw [chkS_congr h]
theorem esOf_need {l:List Oper}:(esOf l).map (·.need) = needs [] l:=by simp [esOf,List.map_map,Function.comp_def]

theorem allI_of {α:Type} {f:Nat → α → Bool} : ∀ {l:List α} {i:Nat},(∀ j x,nth l j = some x → f (i + j) x = true) → allI f i l = true
  | [],_,_=>rfl
  | x :: l, i, h => by
    simp only [allI,Bool.and_eq_true]
    exact ⟨h 0 x rfl,allI_of fun j y hy=>by have:=h (j + 1) y hy; rwa [show i + (j + 1) = i + 1 + j by omega] at this⟩

/-- what is known when the first part of a region has run -/
theorem post_hl {e0 e:Env T} {a:Act} {k:K} {ak:Act} {kk:K} {pre l:List Oper} {es:List Ent} (h0:Hl C.n F k0 W a0 e0 ak kk) (hW : ∀ o ∈ pre,∀ d,o.dst = some d → d ∈ W)
    (p:P1 e0 ak pre es e) (q:Post (pre ++ l) es pre.length ak kk a k):Hl C.n F k0 W a0 e a k:=by
  have old : ∀ t,lastIdx t pre 0 none = none → a.get t = ak.get t:=by
    intro t ht
    refine q.old t (allI_of fun j o ho=>?_)
    simp only [Nat.zero_add,Bool.or_eq_true,decide_eq_true_eq,bne_iff_ne]
    by_cases hj:j < pre.length
    · refine .inr ((lastIdx_none ht).2 o ?_)
      rw [nth_eq,List.getElem?_append_left hj] at ho
      exact List.mem_of_getElem? ho
    · exact .inl (by omega)
  have resOld : ∀ t,isRes (lk e t) = true → lk e t = lk e0 t∧a.get t = ak.get t:=by
    intro t ht
    have h1:=p.res t ht
    have h2:=p.slot t
    rw [h1] at h2
    exact ⟨h2,old t h1⟩
  have fpOld : ∀ t b,(lk e t).fp (a.get t) b → (lk e0 t).fp (ak.get t) b:=by
    intro t b hb
    cases hr:isRes (lk e t) with
    | false=>exact absurd hb (fp_nonres hr _ b)
    | true =>
      obtain ⟨h1,h2⟩:=resOld t hr
      rw [h1,h2] at hb; exact hb
  refine ⟨h0.g.then q.grow,q.size.trans h0.s,q.defers.trans h0.d,fun t ht=>?_,fun t=>?_,p.inv,fun t ht=>?_,fun t t' hne b hb hb'=>h0.ap t t' hne b (fpOld t b hb) (fpOld t' b hb'),h0.gl.le q.grow.le⟩
  · rw [← h0.old t ht]
    refine old t ?_
    cases hl:lastIdx t pre 0 none with
    | none=>rfl
    | some j =>
      rcases lastIdx_spec hl with h1 | ⟨o,_,h1,h2⟩
      · simp at h1
      · rw [nth_eq] at h1
        exact absurd (hW o (List.mem_of_getElem? h1) t h2) ht
  · have key : (lk e t).is ak (a.get t) k := by
      have h1:=p.slot t
      cases hl:lastIdx t pre 0 none with
      | none =>
        rw [hl] at h1
        dsimp only at h1
        rw [h1,old t hl]
        exact (lk e0 t).mono q.grow (h0.sl t)
      | some j =>
        rw [hl] at h1
        obtain ⟨Rr,nd,h2,h3⟩:=h1
        rcases h3 with h3 | ⟨R', rfl, h3⟩
        · rw [h3]; trivial
        · rcases lastIdx_spec hl with h4 | ⟨o, _, h4, h5⟩
          · simp at h4
          · have hj := nth_lt h4
            exact h3 _ _ (q.val j t R' nd (by simpa using hj) (by rw [nth_app (show nth pre j = some o by simpa using h4)]; exact h5) h2)
    refine (lk e t).congr (fun s hs=>?_) key
    exact (resOld s (p.inv t s hs)).2
  · obtain ⟨h1, h2⟩ := resOld t (unl_res ht)
    rw [h1] at ht ⊢
    rw [h2]; exact h0.wr t ht

theorem Hl.grow {n:Nat} {a:Act} {e:Env T} {k k' : K} (h:Hl n F k0 W a0 e a k) (hg:Grow k k'):Hl n F k0 W a0 e a k':=
  ⟨h.g.then hg,h.s,h.d,h.old,fun t=>(lk e t).mono hg (h.sl t),h.inv,h.wr,h.ap,h.gl.le hg.le⟩
/-- A box is told of again. -/
theorem Hl.addBox {n:Nat} {a:Act} {e:Env T} {k:K} (h:Hl n F k0 W a0 e a k) {s b:Nat} {t:Tp} {z:T.D t} (hs:lk e s = .top) (hb:a.get s = .pointer (some ⟨b,0,none⟩)) (hz:Box b z k)
    (hw : Wr F k0 (Eq b)) (ha : ∀ t', t' ≠ s → Apart (Eq b) ((lk e t').fp (a.get t'))) : Hl n F k0 W a0 ((s, .box false t z) :: e) a k := by
  have lks:lk ((s,AV.box false t z)::e) s = .box false t z:=by rw [lk_cons,if_pos rfl]
  have lkt : ∀ t', t' ≠ s → lk ((s, AV.box false t z) :: e) t' = lk e t' := fun t' ht => by rw [lk_cons, if_neg (Ne.symm ht)]
  have hfp : ∀ c,(AV.box (T:=T) false t z).fp (a.get s) c → b = c:=fun c hc=>by
    have:a.get s = .pointer (some ⟨c,0,none⟩):=hc
    rw [hb] at this; simpa using this
  refine ⟨h.g,h.s,h.d,h.old,fun t'=>?_,fun t' u hu=>?_,fun t' hu=>?_,fun t1 t2 hne c hc hc'=>?_,h.gl⟩
  · by_cases ht : t' = s
    · subst ht; rw [lks]; exact ⟨b,hb,hz⟩
    · rw [lkt t' ht]; exact h.sl t'
  · by_cases ht : t' = s
    · subst ht; rw [lks] at hu; simp [AV.ment] at hu
    · rw [lkt t' ht] at hu
      have h1:=h.inv t' u hu
      have h2 : u ≠ s := fun e' => by rw [e', hs] at h1; simp [isRes] at h1
      rw [lkt u h2]; exact h1
  · by_cases ht : t' = s
    · subst ht; rw [lks]; exact fun c hc=>hw c (hfp c hc)
    · rw [lkt t' ht] at hu ⊢; exact h.wr t' hu
  · by_cases h1 : t1 = s
    · subst h1
      rw [lks] at hc; rw [lkt t2 (Ne.symm hne)] at hc'
      exact ha t2 (Ne.symm hne) c (hfp c hc) hc'
    · rw [lkt t1 h1] at hc
      by_cases h2:t2 = s
      · subst h2
        rw [lks] at hc'
        exact ha t1 h1 c (hfp c hc') hc
      · rw [lkt t2 h2] at hc'
        exact h.ap t1 t2 hne c hc hc'
theorem stAt_spec : ∀ {l:List Oper} {i m:Nat} {o:Oper},stAt l i = some (m,o) → i ≤ m∧nth l (m - i) = some o
  | [],_,_,_,h=>by simp [stAt] at h
  | x :: l, i, m, o, h => by
    simp only [stAt] at h
    split at h
    · simp only [Option.some.injEq, Prod.mk.injEq] at h
      obtain ⟨rfl,rfl⟩:=h
      exact ⟨Nat.le_refl _,by simp [nth]⟩
    · obtain ⟨h1, h2⟩ := stAt_spec h
      exact ⟨by omega,by rw [show m - i = (m - (i + 1)) + 1 by omega]; exact h2⟩
theorem stPtr_spec {ops:List Oper} {m s pt:Nat} {t u:Tp} {L:Lens T t u} (h:stPtr C ops m s pt t = some ⟨u,L⟩):L.ok∧((pt = s∧L.off = 0) ∨
    ∃ j o st f,lastIdx pt (ops.take m) 0 none = some j∧nth ops j = some o∧o.op = .fieldAddr st (.tmp s) f∧o.guard = none∧hasBit (masks ops []) m j = true∧fldOff C.P st f = some L.off):=by
  unfold stPtr at h
  cases hb:Nat.beq pt s with
  | true =>
    rw [hb] at h
    simp only [cond_true] at h
    cases hn:notDst pt ops with
    | false=>rw [hn] at h; simp at h
    | true =>
      rw [hn] at h
      simp only [cond_true,Option.some.injEq,Sigma.mk.injEq] at h
      obtain ⟨rfl,h⟩:=h
      obtain rfl:=eq_of_heq h
      exact ⟨Lens.id_ok,.inl ⟨Nat.eq_of_beq_eq_true hb,rfl⟩⟩
  | false =>
    rw [hb] at h
    simp only [cond_false] at h
    split at h
    rotate_left
    · simp at h
    rename_i j hj
    split at h
    rotate_left
    · simp at h
    rename_i o ho
    split at h
    rotate_left
    · simp at h
    rename_i st s' f hop hgd
    cases hc:(Nat.beq s s' && hasBit (masks ops []) m j) with
    | false=>rw [hc] at h; simp at h
    | true=>
    rw [hc] at h
    simp only [cond_true] at h
    rw [Bool.and_eq_true] at hc
    obtain rfl:=Nat.eq_of_beq_eq_true hc.1
    unfold fldL at h
    split at h
    rotate_left
    · simp at h
    rename_i n
    split at h
    rotate_left
    · simp at h
    rename_i off w L' hoff hfl
    cases hb2:Nat.beq L'.off off with
    | false=>rw [hb2] at h; simp at h
    | true=>
    rw [hb2] at h
    simp only [cond_true,Option.some.injEq,Sigma.mk.injEq] at h
    obtain ⟨rfl,h⟩:=h
    obtain rfl:=eq_of_heq h
    obtain rfl:=Nat.eq_of_beq_eq_true hb2
    exact ⟨flens_ok hfl,.inr ⟨j,o,st,f,hj,ho,hop,hgd,hc.2,hoff⟩⟩
theorem evX_ok (hC:CxOk C) {id:Nat} {e:Env T} {a:Act} {k:K} {K:Env T → Option R} {r:R} (hW : ∀ o ∈ A.toList,∀ d,o.dst = some d → d ∈ W) (h:Hl C.n F k0 W a0 e a k) (hk:evX C A.toList e K = some r)
    (hQ : ∀ e' a' k', K e' = some r → Hl C.n F k0 W a0 e' a' k' → Q .normal a' k'.w) : (Code.region id A true).wp C.P Q a k.w := by
  unfold evX at hk
  split at hk
  rotate_left
  · simp at hk
  rename_i m o hst
  split at hk
  rotate_left
  · simp at hk
  rename_i ty pt y hop hdst hgd
  split at hk
  rotate_left
  · simp at hk
  rename_i t x0 hls
  split at hk
  rotate_left
  · simp at hk
  rename_i u L hptr
  generalize hsdef:stSlot A.toList m pt = s at hk hls hptr
  cases c4:notDst s A.toList with
  | false=>rw [c4] at hk; simp at hk
  | true=>
  rw [c4] at hk
  simp only [Bool.not_true,cond_false] at hk
  obtain ⟨hL,hpt⟩:=stPtr_spec hptr
  obtain ⟨_,hno⟩:=stAt_spec hst
  simp only [Nat.sub_zero] at hno
  rw [mapK_eq] at hk
  have hsl:=h.sl s
  rw [hls] at hsl
  obtain ⟨b,hb,hbx⟩:=hsl
  have hunl:unl (lk e s) = true:=by rw [hls]; rfl
  have hfps : ∀ c,b = c → (lk e s).fp (a.get s) c:=fun c hc=>by rw [hls]; subst hc; exact hb
  have hnsh : ∀ c,b = c → ¬ k.sh c:=fun c hc=>(h.lt s c (hfps c hc)).2
  generalize he0:(s,AV.top)::mapE (klA s) e = e0 at hk
  have hl0:lk e0 s = .top:=by rw [← he0,lk_cons,if_pos rfl]
  have hlt : ∀ t', t' ≠ s → lk e0 t' = klA s (lk e t') := fun t' ht => by rw [← he0, lk_cons, if_neg (Ne.symm ht), lk_mapE rfl]
  have hide : ∀ k1 k2,Grow k k1 → Chg (Eq b) k1 k2 → Hl C.n F k0 W a0 e0 a k2:=fun k1 k2 g c=>by
    rw [← he0]; exact (h.grow g).lose hunl c hfps
  have hh0:Hl C.n F k0 W a0 e0 a k:=hide k k (Grow.refl k) (Chg.refl _ k)
  have p0:P1 e0 a [] [] e0:=⟨rfl,fun t=>rfl,fun t _=>rfl,hh0.inv⟩
  obtain ⟨cs,rest,es,e1,h1,h2,_,h4,h5,h6,h7,h8,h9⟩:=ev1_ok (n:=C.n) (F:=F) (kk:=k0) (W:=W) (aa:=a0) hC (bH:=b) (B:=0) A.toList (fun s' hs'=>by injection hs' with hs'; subst hs'; exact ⟨hb,c4⟩) (A.toList.length + 1) R none [] A.toList [] e0 _ r [] (by simp) p0 (fun es' o ho=>by unfold GuardIs; rw [ho]) hk
  simp only [List.nil_append] at h5 h6 h7
  cases rest with
  | nil=>simp [ixs] at h5
  | cons o1 rest=>
  simp only [ixs] at h5
  have hlen:A.toList.length - ((cs.length,o1)::ixs (cs.length + 1) rest).length = cs.length:=by
    have:(ixs (cs.length + 1) rest).length = rest.length:=by rw [← List.length_map (f:=(·.2)),ixs_map]
    rw [List.length_cons,this,h1]; simp
  rw [hlen] at h5
  cases hc:(Nat.beq cs.length m && chkS C.n m A.toList (esOf (A.toList.take m)) && chkB m A.toList && needSt m A.toList y && tyB C.P T ty u) with
  | false=>rw [hc] at h5; simp at h5
  | true=>
  rw [hc] at h5
  simp only [cond_true] at h5
  simp only [Bool.and_eq_true] at hc
  obtain ⟨⟨⟨⟨c1,c2⟩,c3⟩,c5⟩,c6⟩:=hc
  obtain rfl:=Nat.eq_of_beq_eq_true c1
  have ho1:o1 = o:=by
    rw [h1,nth_at,Option.some.injEq] at hno; exact hno
  subst ho1
  split at h5
  rotate_left
  · simp at h5
  rename_i z hz
  have htake:A.toList.take cs.length = cs:=by rw [h1,List.take_left']; rfl
  have hneed:(esOf cs).map (·.need) = es.map (·.need):=by rw [esOf_need,h4]
  rw [htake,chkS_congr hneed] at c2
  have hmA:cs.length < A.size:=by
    have:A.size = (cs ++ o1::rest).length:=by rw [← h1]; simp
    rw [this]; simp
  have hsz:A.size - (cs.length + 1) = rest.length:=by
    have:A.size = (cs ++ o1::rest).length:=by rw [← h1]; simp
    rw [this]; simp; omega
  have hst' : ∀ kb,Hl C.n F k0 W a0 e0 a kb → Steps C.P es a kb (A.toList.take cs.length) es:=fun kb hkb=>by
    rw [htake]
    have:=h7 kb hkb (Nat.zero_le _) []
    simpa using this
  have hl1:lk e1 s = .top:=by
    have:=h6.slot s
    rw [notDst_last (rest:=o1::rest) (by rw [← h1]; exact c4)] at this
    exact (show lk e1 s = lk e0 s from this).trans hl0
  refine wp_region_any hC.mix ?_
  let kd:Gb.K:=⟨{ k.w with drawn:=k.w.drawn + 1 },k.sh,k.lt⟩
  have hg:Grow k kd:=⟨rfl,rfl,rfl,Nat.le_refl _,fun _ _=>rfl,fun _ h=>h,fun _ _ h=>h,Nat.le_succ _⟩
  have hF : ∀ j,(Array.replicate A.size false).getD j false = true → False:=by
    intro j hj; simp [Array.getD_eq_getD_getElem?,Array.getElem?_replicate] at hj; split at hj <;> simp at hj
  have hwr:Wr F k0 (Eq b):=fun c hc=>h.wr s hunl c (hfps c hc)
  refine any_st (B:=fun kb=>Hl C.n F k0 W a0 e0 a kb∧Box b (L.set x0 z) kb) (k0:=k) h.s c2 hmA c3 (hst' k hh0) (fun kb hkb=>hst' kb hkb.1) trivial ?_ ?_ A.size _ a kd (by simp) (by simp) (fun j hj=>(hF j hj).elim) (.inl ⟨?_,?_⟩)
  · -- the store
    intro a' k' D hD hinv hbind C' hC'
    have hk' : Hl C.n F k0 W a0 e a k':=h.grow hinv.grow
    have hs' : a'.get s = a.get s:=hinv.rest s fun i o' _ ho'=>notDst_spec c4 i o' ho'
    have hyv:IsV (α:=T.D u) z (a'.eval y) k':=by
      refine asT_is (a:=a) hz (opv_is (e:=e1) ?_)
      cases y with
      | tmp yt =>
        have h9:=h6.slot yt
        simp only [needSt,htake] at c5
        cases hli:lastIdx yt cs 0 none with
        | none =>
          rw [hli] at h9 c5
          have hu:a'.get yt = a.get yt:=hinv.rest yt fun i o' _ ho'=>notDst_spec c5 i o' ho'
          refine ⟨?_,fun _=>hu⟩
          rw [hu,show lk e1 yt = lk e0 yt from h9]
          exact (lk e0 yt).mono hinv.grow (hh0.sl yt)
        | some j =>
          rw [hli] at h9 c5
          have hDj:D j:=hasBit_spec (L:=A.toList) (D:=D) hinv.closed (j:=cs.length) (i:=j) (fun o' ho'=>hbind o' ho') c5
          obtain ⟨Rr,nd,h10,h11⟩:=h9
          refine ⟨?_,fun hr=>by rw [h6.res yt hr] at hli; simp at hli⟩
          rcases h11 with h11 | ⟨R', rfl, h11⟩
          · rw [h11]; trivial
          · rcases lastIdx_spec hli with h12 | ⟨oj, _, h12, h13⟩
            · simp at h12
            · have hnj : nth A.toList j = some oj := by rw [h1]; exact nth_app (by simpa using h12)
              exact h11 _ _ (hinv.vals j oj yt _ hDj hnj h13 h10)
      | const v=>trivial
      | global g=>simp [needSt] at c5
      | func g=>simp [needSt] at c5
    have hpv:IsAdr b L.off (a'.eval (.tmp pt)) k':=by
      rcases hpt with ⟨rfl,hoff⟩ | ⟨j,oj,st,f,hj,hoj,hopj,hgj,hbit,hfo⟩
      · rw [hoff]; exact hs'.trans hb
      · rw [htake] at hj
        have hDj:D j:=hasBit_spec (L:=A.toList) (D:=D) hinv.closed (j:=cs.length) (i:=j) (fun o' ho'=>hbind o' ho') hbit
        rcases lastIdx_spec hj with h12 | ⟨o2,_,h12,h13⟩
        · simp at h12
        · simp only [Nat.sub_zero] at h12
          have hnj:nth A.toList j = some o2:=by rw [h1]; exact nth_app h12
          rw [hoj,Option.some.injEq] at hnj
          subst hnj
          obtain ⟨nd,hen⟩:=h9 rfl j oj (.adr L.off) h12 hgj (by simp [hidO,hopj,hfo,Nat.beq_refl])
          exact hinv.vals j oj pt _ hDj hoj h13 hen
    have hw:wpOps C.P A (fun ex a w=>match ex with | .normal=>C' a w | _=>False) [cs.length] a' k'.w:=by
      refine tail_storeB (set:=L.set) (x:=x0) (z:=z) (b:=b) (off:=L.off) hno hgd hop hdst (tyB_sz c6) hL.2.1 hpv (hbx.grow hinv.grow) hyv fun k1 hch hbz=>?_
      show wpOps C.P A _ [] a' k1.w
      simp only [wpOps]
      refine hC' k1 k1 ⟨hide k' k1 hinv.grow hch,hbz⟩ ⟨Grow.refl k1,hinv.size,hinv.defers,fun i oi d en hDi hoi hd hen=>?_,hinv.rest,hinv.closed,hinv.mem⟩
      have hv:=hinv.vals i oi d en hDi hoi hd hen
      obtain ⟨Rr,nd⟩:=en
      cases Rr with
      | none=>exact hv
      | some Rr =>
        have hmem:(⟨some Rr,nd⟩:Ent) ∈ es:=by rw [nth_eq] at hen; exact List.mem_of_getElem? hen
        rcases h8 _ hmem Rr rfl with ⟨av,rfl,hav1,hav2⟩ | ⟨ox,yx,hox,rfl⟩
        rotate_left
        · cases yx with
          | adr off=>exact hv
          | box t=>obtain ⟨_,_,h20,_⟩:=hidO_box hox; simp at h20
        refine av.keep hch (fun c hc=>(hk'.lt s c (hfps c hc)).2) (fun c hc=>absurd hc (fp_nonres hav1 _ c)) (fun s' hs' u hu hui c hc hc'=>?_) hv
        have h14:=hav2 s' (AV.ment2_ment hs')
        have hne : s' ≠ s := fun e' => by rw [e', hl0] at h14; simp [isRes] at h14
        rw [hlt s' hne] at h14
        have h15:isRes (lk e s') = true:=by
          rcases klA_or s (lk e s') with h16 | h16
          · rw [h16] at h14; exact h14
          · rw [h16] at h14; simp [isRes] at h14
        exact hk'.apm h15 hne hu hui c hc (hfps c hc')
    rw [wpOps_cons] at hw
    have hw2:wpOp C.P A (fun ex a w=>match ex with | .normal=>C' a w | _=>False) cs.length C' a' k'.w:=wpOp_mono (fun a2 w2 h2=>by simpa [wpOps] using h2) hw
    unfold wpOp at hw2 ⊢
    have hAo:A[cs.length]? = some o1:=by rw [← nth_toList]; exact hno
    rw [hAo] at hw2 ⊢
    dsimp only at hw2 ⊢
    split at hw2
    · rename_i hwant
      rw [if_pos hwant]
      rcases hw2 with hw2 | hw2
      · left
        unfold Oper.wp at *
        generalize (execOp a'.eval o1).run C.P k'.w = res at *
        cases res with
        | ok nx w'=>cases nx <;> simp only [Oper.upon] at hw2 ⊢ <;> first | exact hw2 | (refine Calls.mono hw2 fun ee w2 he=>?_; cases ee <;> first | exact he | exact he.elim | (obtain ⟨_,_,hb'⟩:=he; exact hb'.elim)) | (exact Rows.mono hw2 fun _ _ he=>he)
        | halt x w'=>cases x <;> simp only [Oper.upon] at hw2 ⊢ <;> first | exact hw2 | exact hw2.elim
      · obtain ⟨_,_,_,hb'⟩:=hw2; exact hb'.elim
    · rename_i hwant
      rw [if_neg hwant]; exact hw2
  · -- behind
    intro kb hkb a' k' hinv
    have hp:Post A.toList es cs.length a kb a' k':=Post.of hinv
    have hs' : a'.get s = a.get s:=hinv.rest s fun i o' _ ho'=>notDst_spec c4 i o' ho'
    have hp2:=hp
    rw [h1] at hp2
    have hh:=post_hl hkb.1 (fun o hoc=>hW o (by rw [h1]; simp [hoc])) h6 hp2
    have hh2:=hh.addBox (b:=b) (z:=L.set x0 z) hl1 (hs'.trans hb) (hkb.2.grow hinv.grow) hwr fun t' ht c hc hc'=>by
      cases hr:isRes (lk e1 t') with
      | false=>exact absurd hc' (fp_nonres hr _ c)
      | true =>
        have h9:=h6.res t' hr
        have h10:=h6.slot t'
        rw [h9] at h10
        have h11:lk e1 t' = lk e0 t':=h10
        have h12:a'.get t' = a.get t':=hinv.rest t' fun i o' hi ho' hd=>by
          have h13:=(lastIdx_none h9).2 o' (by
            rw [h1,nth_eq,List.getElem?_append_left hi] at ho'
            exact List.mem_of_getElem? ho')
          exact h13 hd
        rw [h11,h12,hlt t' ht] at hc'
        have h13:(lk e t').fp (a.get t') c:=by
          rcases klA_or s (lk e t') with h16 | h16
          · rw [h16] at hc'; exact hc'
          · rw [h16] at hc'; exact hc'.elim
        exact h.ap s t' (Ne.symm ht) c (hfps c hc) h13
    rw [hsz]
    have:=ev2_ok hC (A:=A) (Q:=Q) (l:=rest) (pre:=cs ++ [o1]) (e:=(s,.box false t (L.set x0 z))::e1) (a:=a') (k:=k') (r:=r) (by rw [h1]; simp) (fun o hor=>hW o (by rw [h1]; simp [hor])) hh2 (by simpa using h5) (fun e' a2 k2 hk2 h'=>by
      obtain ⟨e2,k3,g1,g2,g3⟩:=shareK_ok h' hk2
      rw [← g2]
      exact hQ e2 a2 k3 g1 g3)
    simpa using this
  · cases hx : (Array.replicate A.size false).getD cs.length false with
    | false=>rfl
    | true=>exact (hF _ hx).elim
  · exact ⟨hg,rfl,rfl,fun i o d e hi=>(hF i hi).elim,fun _ _=>rfl,fun j o _ hj=>(hF j hj).elim,fun i hi=>(hF i hi).elim⟩

theorem fp_sub {a:Act} {k:K} {x u:AV T} {v:Value} (hr:isRes x = true) (hsl:x.is a v k) (hu:isRes u = true) (hui:u.is a v k) : ∀ b,u.fp v b → x.fp v b:=by
  intro b hb
  cases u with
  | own l e' t xs => cases x with
    | own l' e'' t' xs'=>exact hb
    | box l' t' x'=>obtain ⟨c,rfl,_⟩:=hsl; simp [AV.fp,obF,ob] at hb
    | _=>simp [isRes] at hr
  | box l t y => cases x with
    | own l' e'' t' xs' =>
      obtain ⟨c,rfl,_⟩:=hui
      rcases (show IsOwn 0 e'' xs' _ k from hsl) with ⟨e1,_⟩ | ⟨_,e1,_⟩ | ⟨_,_,_,_,_,e1,_⟩ <;> simp at e1
    | box l' t' x'=>exact hb
    | _=>simp [isRes] at hr
  | _=>simp [isRes] at hu
/-- Something is changed that no slot has for its own. -/
theorem Hl.away {n:Nat} {a:Act} {e:Env T} {k k' : K} {G:FP} (h:Hl n F k0 W a0 e a k) (c:Chg G k k') (hn : ∀ b,G b → ¬ k.sh b) (hw:Wr F k0 G) (ha : ∀ t,Apart ((lk e t).fp (a.get t)) G):Hl n F k0 W a0 e a k':=
  ⟨h.g.step c hw,h.s,h.d,h.old,fun t=>(lk e t).keep c hn (ha t) (fun s hs u hu hui b hb hb'=>
      ha s b (fp_sub (h.inv t s (AV.ment2_ment hs)) (h.sl s) hu hui b hb) hb') (h.sl t),h.inv,h.wr,h.ap,h.gl.le (c.le hn)⟩
theorem onlyDst_spec {s j:Nat} {ops:List Oper} (h:onlyDst s j ops = true) : ∀ i o,i ≠ j → nth ops i = some o → o.dst ≠ some s:=by
  intro i o hi ho hd
  have:=allI_spec h i o ho
  simp only [Nat.zero_add,hd,Bool.or_eq_true] at this
  rcases this with h1 | h1
  · exact hi (Nat.eq_of_beq_eq_true h1)
  · simp [Nat.beq_refl] at h1
theorem evN_ok (hC:CxOk C) {id:Nat} {e:Env T} {a:Act} {k:K} {K:Env T → Option R} {r:R} (hW : ∀ o ∈ A.toList,∀ d,o.dst = some d → d ∈ W) (h:Hl C.n F k0 W a0 e a k) (hk:evN C A.toList e K = some r)
    (hQ : ∀ e' a' k', K e' = some r → Hl C.n F k0 W a0 e' a' k' → Q .normal a' k'.w) : (Code.region id A true).wp C.P Q a k.w := by
  unfold evN at hk
  split at hk
  rotate_left
  · simp at hk
  rename_i m o hst
  split at hk
  rotate_left
  · simp at hk
  rename_i ty pt y hop hdst hgd
  split at hk
  rotate_left
  · simp at hk
  rename_i ja hja
  split at hk
  rotate_left
  · simp at hk
  rename_i oa hoa
  split at hk
  rotate_left
  · simp at hk
  rename_i tya hopa hgda
  split at hk
  rotate_left
  · simp at hk
  rename_i t htid
  obtain ⟨_,hno⟩:=stAt_spec hst
  simp only [Nat.sub_zero] at hno
  have p0:P1 e a [] [] e:=⟨rfl,fun t=>rfl,fun t _=>rfl,h.inv⟩
  obtain ⟨cs,rest,es,e1,h1,h2,_,h4,h5,h6,h7,h8,h9⟩:=ev1_ok (n:=C.n) (F:=F) (kk:=k0) (W:=W) (aa:=a0) hC (bH:=0) (B:=k.w.heap.size) A.toList (fun s' hs'=>by simp at hs') (A.toList.length + 1) R none [] A.toList [] e _ r [] (by simp) p0 (fun es' o ho=>by unfold GuardIs; rw [ho]) hk
  simp only [List.nil_append] at h5 h6 h7
  cases rest with
  | nil=>simp [ixs] at h5
  | cons o1 rest=>
  simp only [ixs] at h5
  have hlen:A.toList.length - ((cs.length,o1)::ixs (cs.length + 1) rest).length = cs.length:=by
    have:(ixs (cs.length + 1) rest).length = rest.length:=by rw [← List.length_map (f:=(·.2)),ixs_map]
    rw [List.length_cons,this,h1]; simp
  rw [hlen] at h5
  cases hc:(Nat.beq cs.length m && chkS C.n m A.toList (esOf (A.toList.take m)) && chkC m (lateL m A.toList) A.toList && lateOk m (lateL m A.toList) A.toList.toArray && hasBit (masks A.toList []) m ja && onlyDst pt ja A.toList && needSt m A.toList y && tyB C.P T ty t && zeroB C.P T tya t && isTop (lk e1 pt) && !(isRes (lk e pt))) with
  | false=>rw [hc] at h5; simp at h5
  | true=>
  rw [hc] at h5
  simp only [cond_true] at h5
  simp only [Bool.and_eq_true,Bool.not_eq_true'] at hc
  obtain ⟨⟨⟨⟨⟨⟨⟨⟨⟨⟨c1,c2⟩,c3⟩,c11⟩,c4⟩,c7⟩,c5⟩,c6⟩,c8⟩,c9⟩,c10⟩:=hc
  rw [Array.toArray_toList] at c11
  obtain rfl:=Nat.eq_of_beq_eq_true c1
  have ho1:o1 = o:=by
    rw [h1,nth_at,Option.some.injEq] at hno; exact hno
  subst ho1
  split at h5
  rotate_left
  · simp at h5
  rename_i z hz
  have htake:A.toList.take cs.length = cs:=by rw [h1,List.take_left']; rfl
  have hneed:(esOf cs).map (·.need) = es.map (·.need):=by rw [esOf_need,h4]
  rw [htake,chkS_congr hneed] at c2
  rw [htake] at hja
  have hmA:cs.length < A.size:=by
    have:A.size = (cs ++ o1::rest).length:=by rw [← h1]; simp
    rw [this]; simp
  have hsz:A.size - (cs.length + 1) = rest.length:=by
    have:A.size = (cs ++ o1::rest).length:=by rw [← h1]; simp
    rw [this]; simp; omega
  have hst' : ∀ kb,Hl C.n F k0 W a0 e a kb → k.w.heap.size ≤ kb.w.heap.size → Steps C.P es a kb (A.toList.take cs.length) es:=fun kb hkb hkz=>by
    rw [htake]
    have:=h7 kb hkb hkz []
    simpa using this
  have hl1:lk e1 pt = .top:=by
    cases hlt:lk e1 pt <;> rw [hlt] at c9 <;> first | rfl | simp [isTop] at c9
  -- the operation that makes the box
  obtain ⟨hjl,hdpt,nda,hea⟩:nth cs ja = some oa∧oa.dst = some pt∧∃ nd,nth es ja = some ⟨some (IsBoxS (T.D t) k.w.heap.size),nd⟩:=by
    rcases lastIdx_spec hja with h12 | ⟨o2,_,h12,h13⟩
    · simp at h12
    · simp only [Nat.sub_zero] at h12
      have hnj:nth A.toList ja = some o2:=by rw [h1]; exact nth_app h12
      rw [hoa,Option.some.injEq] at hnj
      subst hnj
      refine ⟨h12,h13,?_⟩
      exact h9 rfl ja oa (.box t) h12 hgda (by simp [hidO,hopa,h13,Nat.beq_refl,c8])
  refine wp_mono (Q:=QN Q) ?_ (fun e a w h=>by cases e <;> first | exact h | exact h.elim)
  refine wp_region_any hC.mix ?_
  let kd:Gb.K:=⟨{ k.w with drawn:=k.w.drawn + 1 },k.sh,k.lt⟩
  have hg:Grow k kd:=⟨rfl,rfl,rfl,Nat.le_refl _,fun _ _=>rfl,fun _ h=>h,fun _ _ h=>h,Nat.le_succ _⟩
  have hF : ∀ j,(Array.replicate A.size false).getD j false = true → False:=by
    intro j hj; simp [Array.getD_eq_getD_getElem?,Array.getElem?_replicate] at hj; split at hj <;> simp at hj
  -- what the new box's block is to the rest
  have hwr : ∀ b,k.w.heap.size ≤ b → Wr F k0 (Eq b):=fun b hb c hc=>by subst hc; exact .inr (Nat.le_trans h.g.size hb)
  have hap : ∀ b, k.w.heap.size ≤ b → ∀ t', Apart ((lk e t').fp (a.get t')) (Eq b) := fun b hb t' c hc hc' => by
    subst hc'
    have:=(h.lt t' b hc).1
    omega
  refine any_stP (pt:=pt) (ja:=ja) (B:=fun kb u=>∃ b,u = .pointer (some ⟨b,0,none⟩)∧k.w.heap.size ≤ b∧k.w.heap.size ≤ kb.w.heap.size∧Hl C.n F k0 W a0 e a kb∧Box b z kb) (k0:=k) (fun i o' hi ho'=>onlyDst_spec c7 i o' hi ho') c4 h.s c2 hmA c3 c11 (fun _ _ _ h=>h) (hst' k h (Nat.le_refl _)) (fun kb u ⟨b,_,_,hkz,hkb,_⟩=>hst' kb hkb hkz) trivial ?_ ?_ A.size _ a kd (by simp) (by simp) (fun j hj=>(hF j hj).elim) (.inl ⟨?_,?_⟩)
  · -- the store
    intro a' k' D hD hinv hbind C' hC'
    have hk' : Hl C.n F k0 W a0 e a k':=h.grow hinv.grow
    obtain ⟨x,b,hpv,hsb,hbx⟩:IsBoxS (T.D t) k.w.heap.size (a'.get pt) k':=by
      have hDj:D ja:=hasBit_spec (L:=A.toList) (D:=D) hinv.closed (j:=cs.length) (i:=ja) (fun o' ho'=>hbind o' ho') c4
      exact hinv.vals ja oa pt _ hDj hoa hdpt hea
    have hyv:IsV (α:=T.D t) z (a'.eval y) k':=by
      refine asT_is (a:=a) hz (opv_is (e:=e1) ?_)
      cases y with
      | tmp yt =>
        have h9:=h6.slot yt
        simp only [needSt,htake] at c5
        cases hli:lastIdx yt cs 0 none with
        | none =>
          rw [hli] at h9 c5
          have hu:a'.get yt = a.get yt:=hinv.rest yt fun i o' _ ho'=>notDst_spec c5 i o' ho'
          refine ⟨?_,fun _=>hu⟩
          rw [hu,show lk e1 yt = lk e yt from h9]
          exact (lk e yt).mono hinv.grow (h.sl yt)
        | some j =>
          rw [hli] at h9 c5
          have hDj:D j:=hasBit_spec (L:=A.toList) (D:=D) hinv.closed (j:=cs.length) (i:=j) (fun o' ho'=>hbind o' ho') c5
          obtain ⟨Rr,nd,h10,h11⟩:=h9
          refine ⟨?_,fun hr=>by rw [h6.res yt hr] at hli; simp at hli⟩
          rcases h11 with h11 | ⟨R', rfl, h11⟩
          · rw [h11]; trivial
          · rcases lastIdx_spec hli with h12 | ⟨oj, _, h12, h13⟩
            · simp at h12
            · have hnj : nth A.toList j = some oj := by rw [h1]; exact nth_app (by simpa using h12)
              exact h11 _ _ (hinv.vals j oj yt _ hDj hnj h13 h10)
      | const v=>trivial
      | global g=>simp [needSt] at c5
      | func g=>simp [needSt] at c5
    have hw:wpOps C.P A (fun ex a w=>match ex with | .normal=>C' a w | _=>False) [cs.length] a' k'.w:=by
      refine tail_storeB (set:=fun _ y=>y) (x:=x) (z:=z) (b:=b) (off:=0) hno hgd hop hdst (tyB_sz c6) Upd.self (show IsAdr b 0 (a'.eval (.tmp pt)) k' from hpv) hbx hyv fun k1 hch hbz=>?_
      show wpOps C.P A _ [] a' k1.w
      simp only [wpOps]
      have hnsh : ∀ c,b = c → ¬ k'.sh c:=fun c hc=>hbx.nshF c hc
      refine hC' k1 k1 ⟨b,hpv,hsb,Nat.le_trans hinv.grow.size hch.size,hk'.away hch hnsh (hwr b hsb) (hap b hsb),hbz⟩ ⟨Grow.refl k1,hinv.size,hinv.defers,fun i oi d en hDi hoi hd hen=>?_,hinv.rest,hinv.closed,hinv.mem⟩
      have hv:=hinv.vals i oi d en hDi hoi hd hen
      obtain ⟨Rr,nd⟩:=en
      cases Rr with
      | none=>exact hv
      | some Rr =>
        have hmem:(⟨some Rr,nd⟩:Ent) ∈ es:=by rw [nth_eq] at hen; exact List.mem_of_getElem? hen
        rcases h8 _ hmem Rr rfl with ⟨av,rfl,hav1,hav2⟩ | ⟨ox,yx,hox,rfl⟩
        rotate_left
        · cases yx with
          | adr off=>exact hv
          | box t2 =>
            obtain ⟨_,_,h20,_⟩:=hidO_box hox
            injection h20 with h21 h22
            subst h22
            obtain ⟨x2,b2,hp2,hs2,hb2⟩:=hv
            by_cases hbb:b2 = b
            · subst hbb; exact ⟨z,b2,hp2,hs2,hbz⟩
            · exact ⟨x2,b2,hp2,hs2,hb2.keep hch (fun e'=>hbb e'.symm) hnsh⟩
        refine av.keep hch hnsh (fun c hc=>absurd hc (fp_nonres hav1 _ c)) (fun s' hs' u hu hui c hc hc'=>?_) hv
        have h14:=hav2 s' (AV.ment2_ment hs')
        subst hc'
        have:=(h.lt s' b (fp_sub h14 (hk'.sl s') hu hui b hc)).1
        omega
    rw [wpOps_cons] at hw
    have hw2:wpOp C.P A (fun ex a w=>match ex with | .normal=>C' a w | _=>False) cs.length C' a' k'.w:=wpOp_mono (fun a2 w2 h2=>by simpa [wpOps] using h2) hw
    unfold wpOp at hw2 ⊢
    have hAo:A[cs.length]? = some o1:=by rw [← nth_toList]; exact hno
    rw [hAo] at hw2 ⊢
    dsimp only at hw2 ⊢
    split at hw2
    · rename_i hwant
      rw [if_pos hwant]
      rcases hw2 with hw2 | hw2
      · left
        unfold Oper.wp at *
        generalize (execOp a'.eval o1).run C.P k'.w = res at *
        cases res with
        | ok nx w'=>cases nx <;> simp only [Oper.upon] at hw2 ⊢ <;> first | exact hw2 | (refine Calls.mono hw2 fun ee w2 he=>?_; cases ee <;> first | exact he | exact he.elim | (obtain ⟨_,_,hb'⟩:=he; exact hb'.elim)) | (exact Rows.mono hw2 fun _ _ he=>he)
        | halt x w'=>cases x <;> simp only [Oper.upon] at hw2 ⊢ <;> first | exact hw2 | exact hw2.elim
      · obtain ⟨_,_,_,hb'⟩:=hw2; exact hb'.elim
    · rename_i hwant
      rw [if_neg hwant]; exact hw2
  · -- behind
    intro kb a' k' ⟨b,hpv,hsb,hkz,hkb,hbz⟩ hinv
    have hp:Post A.toList es cs.length a kb a' k':=Post.of hinv
    have hp2:=hp
    rw [h1] at hp2
    have hh:=post_hl hkb (fun o hoc=>hW o (by rw [h1]; simp [hoc])) h6 hp2
    have hh2:=hh.addBox (b:=b) (z:=z) hl1 hpv (hbz.grow hinv.grow) (hwr b hsb) fun t' ht c hc hc'=>by
      subst hc
      cases hr:isRes (lk e1 t') with
      | false=>exact absurd hc' (fp_nonres hr _ b)
      | true =>
        have h9:=h6.res t' hr
        have h10:=h6.slot t'
        rw [h9] at h10
        have h11:lk e1 t' = lk e t':=h10
        have h12:a'.get t' = a.get t':=hinv.rest t' fun i o' hi ho' hd=>by
          have h13:=(lastIdx_none h9).2 o' (by
            rw [h1,nth_eq,List.getElem?_append_left hi] at ho'
            exact List.mem_of_getElem? ho')
          exact h13 hd
        rw [h11,h12] at hc'
        exact hap b hsb t' b hc' rfl
    rw [hsz]
    have:=ev2_ok hC (A:=A) (Q:=QN Q) (l:=rest) (pre:=cs ++ [o1]) (e:=(pt,.box false t z)::e1) (a:=a') (k:=k') (r:=r) (by rw [h1]; simp) (fun o hor=>hW o (by rw [h1]; simp [hor])) hh2 (by simpa using h5) (fun e' a2 k2 hk2 h'=>by
      obtain ⟨e2,k3,g1,g2,g3⟩:=shareK_ok h' hk2
      rw [← g2]
      exact hQ e2 a2 k3 g1 g3)
    simpa using this
  · cases hx : (Array.replicate A.size false).getD cs.length false with
    | false=>rfl
    | true=>exact (hF _ hx).elim
  · exact ⟨hg,rfl,rfl,fun i o d e hi=>(hF i hi).elim,fun _ _=>rfl,fun j o _ hj=>(hF j hj).elim,fun i hi=>(hF i hi).elim⟩

theorem evR_ok (hC:CxOk C) {id:Nat} {draw:Bool} {e:Env T} {a:Act} {k:K} {K:Env T → Option R} {r:R} (hW : ∀ o ∈ A.toList,∀ d,o.dst = some d → d ∈ W) (h:Hl C.n F k0 W a0 e a k) (hk:evR C A.toList draw e K = some r)
    (hQ : ∀ e' a' k', K e' = some r → Hl C.n F k0 W a0 e' a' k' → Q .normal a' k'.w) : (Code.region id A draw).wp C.P Q a k.w := by
  unfold evR at hk
  cases hlate:(draw && lateSt A.toList) with
  | true =>
    rw [hlate] at hk
    simp only [cond_true] at hk
    simp only [Bool.and_eq_true] at hlate
    obtain rfl:=hlate.1
    cases hnw:newSt A.toList with
    | true=>rw [hnw] at hk; exact evN_ok hC hW h hk hQ
    | false=>rw [hnw] at hk; exact evX_ok hC hW h hk hQ
  | false=>
  rw [hlate] at hk
  simp only [cond_false] at hk
  have p0:P1 e a [] [] e:=⟨rfl,fun t=>rfl,fun t _=>rfl,h.inv⟩
  obtain ⟨cs,rest,es,e1,h1,h2,_,h4,h5,h6,h7,_⟩:=ev1_ok (n:=C.n) (F:=F) (kk:=k0) (W:=W) (aa:=a0) hC (bH:=0) (B:=0) A.toList (fun s hs=>by simp at hs) (A.toList.length + 1) R none [] A.toList [] e _ r [] (by simp) p0 (fun es' o ho=>by unfold GuardIs; rw [ho]) hk
  simp only [List.nil_append] at h5 h6 h7
  have hlen:A.toList.length - (ixs cs.length rest).length = cs.length:=by
    have:(ixs cs.length rest).length = rest.length:=by rw [← List.length_map (f:=(·.2)),ixs_map]
    rw [this,h1]; simp
  have htake:A.toList.take cs.length = cs:=by rw [h1,List.take_left']; rfl
  rw [hlen,htake] at h5
  have hneed:(esOf cs).map (·.need) = es.map (·.need):=by rw [esOf_need,h4]
  have hst:Steps C.P es a k (A.toList.take cs.length) es:=by
    rw [htake]
    have:=h7 k h (Nat.zero_le _) []
    simpa using this
  have hsz:A.size - cs.length = rest.length:=by
    have:A.size = (cs ++ rest).length:=by rw [← h1]; simp
    rw [this]; simp
  -- behind the first part
  have tail:(ev2 C (ixs cs.length rest) e1 fun e''=>shareK C A.toList e'' K) = some r → ∀ b q,Post A.toList es cs.length a k b q → wpOps C.P A Q (List.range' cs.length (A.size - cs.length)) b q.w:=by
    intro hev b q hp
    rw [hsz]
    rw [h1] at hp
    have hh:=post_hl h (fun o ho=>hW o (by rw [h1]; simp [ho])) h6 hp
    exact ev2_ok hC h1 (fun o ho=>hW o (by rw [h1]; simp [ho])) hh hev fun e' a' k' hk' h'=>by
      obtain ⟨e2,k2,g1,g2,g3⟩:=shareK_ok h' hk'
      rw [← g2]
      exact hQ e2 a' k2 g1 g3
  cases draw with
  | false =>
    simp only [cond_false] at h5
    rw [chkS_congr hneed] at h5
    cases hc:chkS C.n cs.length A.toList es with
    | false=>rw [hc] at h5; simp at h5
    | true =>
      rw [hc] at h5
      exact regionS es h.s hc hst trivial (tail h5)
  | true =>
    simp only [cond_true] at h5
    rw [chk_congr hneed] at h5
    cases hc:chk C.n cs.length A.toList es with
    | false=>rw [hc] at h5; simp at h5
    | true =>
      rw [hc] at h5
      exact region es hC.mix h.s hc hst trivial (tail h5)
end
end Go.Gb

/- General part of the proofs: environments over joins. -/
namespace Go.Gb
variable {T:Tb} {R:Type}

def lockE (W:List Nat) (e:Env T):Env T:=e.map fun p=>(p.1,bif W.contains p.1 then p.2 else lkA p.2)
theorem lockK_eq (W:List Nat) : ∀ (e:Env T) (k:Env T → Option R),lockK W e k = k (lockE W e)
  | [],_=>rfl
  | (t,a)::e,k=>by rw [lockK,lockK_eq W e]; rfl
theorem lk_lockE {W:List Nat} : ∀ (e:Env T) (t:Nat),lk (lockE W e) t = bif W.contains t then lk e t else lkA (lk e t)
  | [],t=>by show AV.top = _; cases W.contains t <;> rfl
  | (s, x) :: e, t => by
    show lk ((s,_)::lockE W e) t = _
    rw [lk_cons,lk_cons,lk_lockE e]
    split
    · rename_i h; subst h; rfl
    · rfl
def keepE (lock:Bool) (W Wd:List Nat):Env T → Env T
  | []=>[]
  | (t,a)::e=>bif W.contains t then keepE lock W Wd e else (t,bif Wd.contains t then a else keepA lock (W ++ Wd) a)::keepE lock W Wd e
theorem keepK_eq (lock:Bool) (W Wd:List Nat) : ∀ (e:Env T) (k:Env T → Option R),keepK lock W Wd e k = k (keepE lock W Wd e)
  | [],_=>rfl
  | (t,a)::e,k=>by rw [keepK,keepK_eq lock W Wd e]; rfl
theorem lk_keepE {lock:Bool} {W Wd:List Nat} : ∀ (e:Env T) (t:Nat),lk (keepE lock W Wd e) t = bif W.contains t then .top else bif Wd.contains t then lk e t else keepA lock (W ++ Wd) (lk e t)
  | [],t=>by show AV.top = _; cases W.contains t <;> cases Wd.contains t <;> rfl
  | (s, x) :: e, t => by
    simp only [keepE]
    cases hs:W.contains s with
    | true =>
      simp only [cond_true]
      rw [lk_keepE e,lk_cons]
      split
      · rename_i h; subst h; rw [hs]; rfl
      · rfl
    | false =>
      simp only [cond_false]
      rw [lk_cons,lk_cons,lk_keepE e]
      split
      · rename_i h; subst h; rw [hs]; rfl
      · rfl

theorem lkA_is {a:Act} {x:AV T} {v:Value} {k:K} (h:x.is a v k):(lkA x).is a v k:=by cases x <;> exact h
theorem lkA_fp {x:AV T} {v:Value}:(lkA x).fp v = x.fp v:=by cases x <;> rfl
theorem lkA_res {x:AV T}:isRes (lkA x) = isRes x:=by cases x <;> rfl
theorem lkA_ment {x:AV T} {s:Nat}:(lkA x).ment s = x.ment s:=by cases x <;> rfl
theorem lkA_unl {x:AV T}:unl (lkA x) = false:=by cases x <;> rfl

/-- the blocks of some slots -/
def FU (e:Env T) (a:Act) (L:List Nat):FP:=fun b=>∃ t,L.contains t = true∧unl (lk e t) = true∧(lk e t).fp (a.get t) b

section
variable {n:Nat} {F:FP} {k0:K} {W:List Nat} {a0:Act} {e e' : Env T} {a a' : Act} {k k' : K}
theorem Hl.lock (h:Hl n F k0 W a0 e a k) (L Wc:List Nat):Hl n (FU e a L) k Wc a (lockE L e) a k:=by
  have fpe : ∀ t,(lk (lockE L e) t).fp (a.get t) = (lk e t).fp (a.get t):=fun t=>by
    rw [lk_lockE]; cases L.contains t
    · exact lkA_fp
    · rfl
  refine ⟨Chg.refl _ k,h.s,h.d,fun _ _=>rfl,fun t=>?_,fun t s hs=>?_,fun t ht=>?_,fun t t' hne=>by rw [fpe,fpe]; exact h.ap t t' hne,h.gl⟩
  · rw [lk_lockE]; cases L.contains t
    · exact lkA_is (h.sl t)
    · exact h.sl t
  · have h1 : (lk e t).ment s = true := by
      rw [lk_lockE] at hs
      cases hc:L.contains t <;> rw [hc] at hs
      · rwa [cond_false,lkA_ment] at hs
      · exact hs
    rw [lk_lockE]
    cases L.contains s
    · rw [cond_false,lkA_res]; exact h.inv t s h1
    · exact h.inv t s h1
  · rw [fpe]
    rw [lk_lockE] at ht
    cases hc:L.contains t <;> rw [hc] at ht
    · rw [cond_false,lkA_unl] at ht; simp at ht
    · exact fun b hb=>.inl ⟨t,hc,ht,hb⟩

theorem keepA_is {a:Act} {lock:Bool} {L:List Nat} {x:AV T} {v:Value} {k:K} (h:x.is a v k):(keepA lock L x).is a v k:=by
  cases x <;> first | exact h | trivial | skip
  rename_i s
  simp only [keepA]
  cases L.contains s
  · exact h
  · trivial
theorem keepA_fp {lock:Bool} {L:List Nat} {x:AV T} {v:Value} : ∀ b,(keepA lock L x).fp v b → x.fp v b:=by
  intro b hb
  cases x <;> first | exact hb | skip
  rename_i s
  simp only [keepA] at hb
  cases hc:L.contains s <;> rw [hc] at hb <;> exact hb
theorem keepA_ment2 {lock:Bool} {L:List Nat} {x:AV T} {s:Nat}:(keepA lock L x).ment2 s = false:=by
  cases x <;> first | rfl | skip
  rename_i s'
  simp only [keepA]
  cases L.contains s' <;> rfl
theorem keepA_ment {lock:Bool} {L:List Nat} {x:AV T} {s:Nat} (h:(keepA lock L x).ment s = true):x = .al s∧L.contains s = false:=by
  cases x <;> first | (simp [keepA,AV.ment] at h; done) | skip
  rename_i s'
  simp only [keepA] at h
  cases hc:L.contains s' with
  | true=>rw [hc] at h; simp [AV.ment] at h
  | false =>
    rw [hc] at h
    have:s' = s:=Nat.eq_of_beq_eq_true h
    subst this
    exact ⟨rfl,hc⟩
theorem keepA_res {lock:Bool} {L:List Nat} {x:AV T} (h:isRes x = true):isRes (keepA lock L x) = true:=by
  cases x <;> first | rfl | simp [isRes] at h
theorem keepA_unl {lock:Bool} {L:List Nat} {x:AV T} (h:unl (keepA lock L x) = true):lock = false∧unl x = true:=by
  cases x with
  | own b e t xs=>cases lock <;> cases b <;> simp [keepA,unl] at h ⊢
  | box b t x=>cases lock <;> cases b <;> simp [keepA,unl] at h ⊢
  | al s=>simp only [keepA] at h; cases hc:L.contains s <;> rw [hc] at h <;> simp [unl] at h
  | _=>simp [keepA,unl] at h

theorem takeS_is (h:Hl n F k0 W a0 e a k) {t:Nat} {κ:Kd} {x:κ.D T} (ht:takeS e t κ = some x):(avK κ x).is a (a.get t) k∧(∀ s,(avK κ x).ment s = false)∧∀ b,(avK κ x).fp (a.get t) b → unl (lk e t) = true∧(lk e t).fp (a.get t) b:=by
  have hsl:=h.sl t
  cases κ with
  | v u =>
    simp only [takeS] at ht
    exact ⟨mkv_is.2 (asT_is ht (nrm_is hsl)),fun _=>mkv_ment,fun b hb=>absurd hb (fp_nonres mkv_res _ b)⟩
  | o el u =>
    simp only [takeS] at ht
    split at ht
    · rename_i el' u' xs hl
      cases hb:Nat.beq el el' with
      | false=>rw [hb] at ht; simp at ht
      | true =>
        rw [hb] at ht
        obtain rfl:=Nat.eq_of_beq_eq_true hb
        obtain ⟨he,hx⟩:=cast?_eq ht
        injection he with he
        subst he
        obtain rfl:x = xs:=hx
        rw [hl] at hsl
        exact ⟨hsl,fun _=>rfl,fun b hb=>⟨by rw [hl]; rfl,by rw [hl]; exact hb⟩⟩
    · rename_i hl
      obtain rfl:=Option.some.inj ht
      rw [hl] at hsl
      exact ⟨IsE0.own0 hsl,fun _=>rfl,fun b hb=>absurd hb (IsE0.noOb (k:=k) hsl b)⟩
    · simp at ht
  | b u =>
    simp only [takeS] at ht
    split at ht
    · rename_i u' y hl
      obtain ⟨rfl,hx⟩:=cast?_eq ht
      obtain rfl:x = y:=hx
      rw [hl] at hsl
      exact ⟨hsl,fun _=>rfl,fun b hb=>⟨by rw [hl]; rfl,by rw [hl]; exact hb⟩⟩
    · simp at ht
theorem take_congr {ds:List Nat} {e e' : Env T} : ∀ {sp:Sp},(∀ t,t ∈ spW sp → lk e t = lk e' t) → take ds e sp = take ds e' sp:=by
  have one : ∀ p:Nat × Kd,lk e p.1 = lk e' p.1 → takeS e p.1 p.2 = takeS e' p.1 p.2:=by
    intro p hp
    obtain ⟨s,κ⟩:=p
    cases κ <;> simp only [takeS] <;> rw [show lk e s = lk e' s from hp]
  intro sp
  induction sp with
  | nil=>intro _; rfl
  | cons p l ih =>
    intro h
    cases l with
    | nil=>simp only [take]; rw [one p (h p.1 (by simp [spW]))]
    | cons q l=>simp only [take]; rw [one p (h p.1 (by simp [spW])),ih fun t ht=>h t (by simp only [spW,List.map_cons,List.mem_cons] at ht ⊢; exact .inr ht)]
theorem give_lk {ds xs:List Nat} (hds : ∀ d,ds.contains d = true → xs.contains d = true) {e base:Env T} : ∀ {sp:Sp} {s:SpD T sp},take ds e sp = some s → ∀ t,
    ((spW sp).contains t = false∧lk (give xs sp s base) t = lk base t) ∨ ((spW sp).contains t = true∧(lk (give xs sp s base) t = .top ∨ ∃ κ x,takeS e t κ = some x∧lk (give xs sp s base) t = avK κ x)):=by
  have one : ∀ {p:Nat × Kd} {y:p.2.D T} {b:Env T} (t:Nat),(bif ds.contains p.1 then some p.2.dflt else takeS e p.1 p.2) = some y → p.1 = t →
      (lk ((p.1,bif xs.contains p.1 then .top else avK p.2 y)::b) t = .top ∨ ∃ κ x,takeS e t κ = some x∧lk ((p.1,bif xs.contains p.1 then .top else avK p.2 y)::b) t = avK κ x):=by
    intro p y b t hy ht
    rw [lk_cons,if_pos ht]
    cases hx:xs.contains p.1 with
    | true=>exact .inl rfl
    | false =>
      have hd:ds.contains p.1 = false:=by
        cases hd:ds.contains p.1 with
        | false=>rfl
        | true=>rw [hds _ hd] at hx; simp at hx
      rw [hd] at hy
      rw [← ht]
      exact .inr ⟨p.2,y,hy,rfl⟩
  have cont : ∀ (p:Nat × Kd) (l:Sp) (t:Nat),(spW (p::l)).contains t = (t == p.1 || (spW l).contains t):=fun p l t=>by simp [spW]
  intro sp
  induction sp with
  | nil=>intro s _ t; exact .inl ⟨rfl,rfl⟩
  | cons p l ih =>
    intro s hs t
    cases l with
    | nil =>
      simp only [take] at hs
      rw [cont]
      by_cases ht:p.1 = t
      · exact .inr ⟨by simp [ht],one t hs ht⟩
      · have : (t == p.1) = false := by simpa using fun e => ht e.symm
        exact .inl ⟨by rw [this]; rfl,by simp only [give]; rw [lk_cons,if_neg ht]⟩
    | cons q l =>
      simp only [take] at hs
      split at hs
      · rename_i y ys hy hys
        obtain rfl:=Option.some.inj hs
        rw [cont]
        by_cases ht:p.1 = t
        · exact .inr ⟨by simp [ht],one t hy ht⟩
        · have hne : (t == p.1) = false := by simpa using fun e => ht e.symm
          have:=ih hys t
          rw [hne,Bool.false_or]
          simp only [give]
          rw [lk_cons,if_neg ht]
          exact this
      · simp at hs

theorem rejoin (h:Hl n F k0 W a0 e a k) {Wc:List Nat} {sp:Sp} {ds xs:List Nat} (hds : ∀ d,ds.contains d = true → xs.contains d = true) {s:SpD T sp}
    (i:Hl n (FU e a (Wc ++ spW sp)) k Wc a e' a' k') (ht:take ds e' sp = some s) (lock:Bool) :
    let E:=give xs sp s (keepE lock Wc (spW sp) e)
    (∀ t, (lk E t).is a' (a'.get t) k') ∧ (∀ t u, (lk E t).ment u = true → isRes (lk E u) = true) ∧ (∀ t t', t ≠ t' → Apart ((lk E t).fp (a'.get t)) ((lk E t').fp (a'.get t'))) ∧
    ∀ t,unl (lk E t) = true → Wr (FU e a (Wc ++ spW sp)) k ((lk E t).fp (a'.get t)) ∨ (lock = false∧unl (lk e t) = true∧∀ b,(lk E t).fp (a'.get t) b → (lk e t).fp (a.get t) b):=by
  intro E
  have hFn : ∀ b,FU e a (Wc ++ spW sp) b → ¬ k.sh b:=fun b ⟨t,_,_,hb⟩=>(h.lt t b hb).2
  -- the three kinds of slots
  have cases3 : ∀ t,(Wc.contains t = false∧(spW sp).contains t = false∧lk E t = keepA lock (Wc ++ spW sp) (lk e t)) ∨ lk E t = .top ∨ ((spW sp).contains t = true∧∃ κ x,takeS e' t κ = some x∧lk E t = avK κ x):=by
    intro t
    rcases give_lk hds (base:=keepE lock Wc (spW sp) e) ht t with ⟨h1,h2⟩ | ⟨h1,h2 | h2⟩
    · rw [lk_keepE] at h2
      cases hw:Wc.contains t with
      | true=>rw [hw] at h2; exact .inr (.inl h2)
      | false=>rw [hw,h1] at h2; exact .inl ⟨rfl,h1,h2⟩
    · exact .inr (.inl h2)
    · exact .inr (.inr ⟨h1,h2⟩)
  have hold : ∀ t,Wc.contains t = false → a'.get t = a.get t:=fun t ht=>i.old t (by simpa using ht)
  have apK : ∀ t,Wc.contains t = false → (spW sp).contains t = false → ∀ b,(lk e t).fp (a.get t) b → ¬ FU e a (Wc ++ spW sp) b:=by
    intro t h1 h2 b hb ⟨t2,h3,h4,h5⟩
    by_cases e1:t = t2
    · subst e1
      simp at h1 h2 h3
      exact h3.elim h1 h2
    · exact h.ap t t2 e1 b hb h5
  have fpT : ∀ t κ x,takeS e' t κ = some x → ∀ b,(avK κ x).fp (a'.get t) b → (lk e' t).fp (a'.get t) b∧(FU e a (Wc ++ spW sp) b ∨ k.w.heap.size ≤ b):=by
    intro t κ x hx b hb
    obtain ⟨_,_,h3⟩:=takeS_is i hx
    obtain ⟨h4,h5⟩:=h3 b hb
    exact ⟨h5,i.wr t h4 b h5⟩
  refine ⟨fun t=>?_,fun t u hu=>?_,fun t t' hne b hb hb'=>?_,fun t hu=>?_⟩
  · rcases cases3 t with ⟨h1, h2, h3⟩ | h3 | ⟨_, κ, x, h2, h3⟩
    · rw [h3, hold t h1]
      have h4:(keepA lock (Wc ++ spW sp) (lk e t)).is a (a.get t) k':=AV.keep _ i.g hFn (fun b hb hb'=>apK t h1 h2 b (keepA_fp b hb) hb') (fun s hs=>by rw [keepA_ment2] at hs; simp at hs) (keepA_is (h.sl t))
      refine AV.congr _ (fun s hs=>?_) h4
      have:=(keepA_ment hs).2
      exact hold s (by simp at this ⊢; exact this.1)
    · rw [h3]; trivial
    · rw [h3]; exact (takeS_is i h2).1
  · rcases cases3 t with ⟨h1, h2, h3⟩ | h3 | ⟨_, κ, x, h2, h3⟩
    · rw [h3] at hu
      obtain ⟨h4,h5⟩:=keepA_ment hu
      have h6:=h.inv t u (by rw [h4]; exact Nat.beq_refl u)
      simp at h5
      rcases give_lk hds (base:=keepE lock Wc (spW sp) e) ht u with ⟨h7,h8⟩ | ⟨h7,_⟩
      · show isRes (lk (give xs sp s (keepE lock Wc (spW sp) e)) u) = true
        rw [h8,lk_keepE,h7]
        have:Wc.contains u = false:=by simpa using h5.1
        rw [this]
        exact keepA_res h6
      · simp at h7; exact absurd h7 h5.2
    · rw [h3] at hu; simp [AV.ment] at hu
    · rw [h3,(takeS_is i h2).2.1] at hu; simp at hu
  · rcases cases3 t with ⟨h1, h2, h3⟩ | h3 | ⟨_, κ, x, h2, h3⟩
    · rw [h3, hold t h1] at hb
      have hb:=keepA_fp b hb
      rcases cases3 t' with ⟨h4, h5, h6⟩ | h6 | ⟨_, κ', x', h5, h6⟩
      · rw [h6, hold t' h4] at hb'
        exact h.ap t t' hne b hb (keepA_fp b hb')
      · rw [h6] at hb'; exact hb'
      · rw [h6] at hb'
        rcases (fpT t' κ' x' h5 b hb').2 with h7 | h7
        · exact apK t h1 h2 b hb h7
        · have:=(h.lt t b hb).1; omega
    · rw [h3] at hb; exact hb
    · rw [h3] at hb
      obtain ⟨h7,h8⟩:=fpT t κ x h2 b hb
      rcases cases3 t' with ⟨h4, h5, h6⟩ | h6 | ⟨_, κ', x', h5, h6⟩
      · rw [h6, hold t' h4] at hb'
        have hb':=keepA_fp b hb'
        rcases h8 with h8 | h8
        · exact apK t' h4 h5 b hb' h8
        · have:=(h.lt t' b hb').1; omega
      · rw [h6] at hb'; exact hb'
      · rw [h6] at hb'
        exact i.ap t t' hne b h7 (fpT t' κ' x' h5 b hb').1
  · rcases cases3 t with ⟨h1, h2, h3⟩ | h3 | ⟨_, κ, x, h2, h3⟩
    · rw [h3] at hu
      obtain ⟨h4,h5⟩:=keepA_unl hu
      refine .inr ⟨h4,h5,fun b hb=>?_⟩
      rw [h3,hold t h1] at hb
      exact keepA_fp b hb
    · rw [h3] at hu; simp [unl] at hu
    · refine .inl fun b hb => ?_
      rw [h3] at hb
      exact (fpT t κ x h2 b hb).2
theorem rejoinT (h:Hl n F k0 W a0 e a k) {Wc:List Nat} {sp:Sp} {ds xs:List Nat} (hds : ∀ d,ds.contains d = true → xs.contains d = true) {s:SpD T sp}
    (i:Hl n (FU e a (Wc ++ spW sp)) k Wc a e' a' k') (ht:take ds e' sp = some s):Hl n (FU e a (Wc ++ spW sp)) k Wc a (give xs sp s (keepE true Wc (spW sp) e)) a' k':=by
  obtain ⟨h1,h2,h3,h4⟩:=rejoin h hds i ht true
  refine ⟨i.g,i.s,i.d,i.old,h1,h2,fun t hu=>?_,h3,i.gl⟩
  rcases h4 t hu with h5 | ⟨h5,_⟩
  · exact h5
  · simp at h5
theorem rejoinF (h:Hl n F k0 W a0 e a k) {Wc:List Nat} {sp:Sp} {ds xs:List Nat} (hds : ∀ d,ds.contains d = true → xs.contains d = true) {s:SpD T sp} (hW : ∀ t ∈ Wc,t ∈ W)
    (i:Hl n (FU e a (Wc ++ spW sp)) k Wc a e' a' k') (ht:take ds e' sp = some s):Hl n F k0 W a0 (give xs sp s (keepE false Wc (spW sp) e)) a' k':=by
  obtain ⟨h1,h2,h3,h4⟩:=rejoin h hds i ht false
  have hwr:Wr F k0 (FU e a (Wc ++ spW sp)):=fun b ⟨t,_,h5,h6⟩=>h.wr t h5 b h6
  refine ⟨h.g.step i.g hwr,i.s,i.d,fun t ht=>?_,h1,h2,fun t hu b hb=>?_,h3,i.gl⟩
  · rw [i.old t (fun h'=>ht (hW t h')),h.old t ht]
  · rcases h4 t hu with h5 | ⟨_, h5, h6⟩
    · rcases h5 b hb with h5 | h5
      · exact hwr b h5
      · exact .inr (Nat.le_trans h.g.size h5)
    · exact h.wr t h5 b (h6 b hb)
end
end Go.Gb

/- General part of the proofs: the code of a function does what the evaluator says. -/
namespace Go.Gb
variable {T:Tb} {R:Type}

/-- The results of a function, and what else it leaves. -/
def RetOk (C:Cx T) (cod:List Tp) (F:FP) (k0:K) (x:HL T.S cod) (a:Act) (k:K):Prop:=
  a.defers = [] ∧ ∃ k', k'.w = k.w ∧ Chg F k0 k' ∧ ∀ fn : Func, fn.results.toList = C.rs → ∃ v, (results fn a.tmps).run C.P k'.w = .ok v k'.w ∧ (resV cod x).is ⟨#[], []⟩ v k'
theorem RetOk.step {C:Cx T} {cod:List Tp} {F G:FP} {k0 k1 k:K} {x:HL T.S cod} {a:Act} (h:RetOk C cod G k1 x a k) (g:Chg F k0 k1) (hw:Wr F k0 G):RetOk C cod F k0 x a k:=by
  obtain ⟨h1, k', h2, h3, h4⟩ := h
  exact ⟨h1, k', h2, g.step h3 hw, h4⟩

section
variable {C:Cx T} {cod:List Tp} {F:FP} {k0:K} {W:List Nat} {a0:Act} {e:Env T} {a:Act} {k:K}

theorem resH1_ok (h:Hl C.n F k0 W a0 e a k) {t:Tp} {rv:ResultVar} {x:T.D t} (hx:resH.resH1 C e t rv = some x) : ∃ v,(resVal a.tmps rv).run C.P k.w = .ok v k.w∧IsV x v k:=by
  cases rv with
  | tmp s =>
    simp only [resH.resH1] at hx
    exact ⟨_,rfl,asT_is hx (nrm_is (h.sl s))⟩
  | cell s ty =>
    simp only [resH.resH1] at hx
    have hsl:=h.sl s
    split at hx
    · rename_i l u y hl
      rw [hl] at hsl
      obtain ⟨b,hb,hbx⟩:=hsl
      cases ht:tyB C.P T ty u with
      | false=>rw [ht] at hx; simp at hx
      | true =>
        rw [ht] at hx
        obtain ⟨rfl,hxy⟩:=cast?_eq hx
        obtain rfl:x = y:=hxy
        exact resOk_run (resCell (tyB_ok ht) hb hbx)
    · simp at hx
theorem resH_ok (h:Hl C.n F k0 W a0 e a k) : ∀ {l:List Tp} {rs:List ResultVar} {x:HL T.S l},resH C e l rs = some x →
    ∃ vs:List Value,(rs.mapM (resVal a.tmps)).run C.P k.w = .ok vs k.w∧vs.length = l.length∧Fa2 (unH l x) vs k
  | [],[],x,_=>⟨[],by simp,rfl,trivial⟩
  | [t], [rv], x, hx => by
    simp only [resH] at hx
    obtain ⟨v,h1,h2⟩:=resH1_ok h hx
    exact ⟨[v],by simp [h1],rfl,h2,trivial⟩
  | t :: t' :: l, rv :: rs, x, hx => by
    simp only [resH] at hx
    split at hx
    · rename_i y ys hy hys
      obtain rfl:=Option.some.inj hx
      obtain ⟨v,h1,h2⟩:=resH1_ok h hy
      obtain ⟨vs,h3,h4,h5⟩:=resH_ok h hys
      exact ⟨v::vs,by simp [List.mapM_cons,h1,h3],by simp [h4],h2,h5⟩
    · simp at hx
  | [],_::_,_,hx=>by simp [resH] at hx
  | [_],[],_,hx=>by simp [resH] at hx
  | [_],_::_::_,_,hx=>by simp [resH] at hx
  | _::_::_,[],_,hx=>by simp [resH] at hx
theorem ret_ok (h:Hl C.n F k0 W a0 e a k) {x:HL T.S cod} (hx:resH C e cod C.rs = some x):RetOk C cod F k0 x a k:=by
  refine ⟨h.d,k,rfl,h.g,fun fn hfn=>?_⟩
  obtain ⟨vs,h1,h2,h3⟩:=resH_ok h hx
  rw [← hfn] at h1
  have h4:(fn.results.mapM (resVal a.tmps)).run C.P k.w = .ok vs.toArray k.w:=by
    rw [Array.mapM_eq_mapM_toList]; simp [h1]
  rw [results_eq]
  match cod,x,vs,h2,h3 with
  | [],x,[],_,_=>exact ⟨.tuple #[],by simp [h4],trivial⟩
  | [t],x,[v],_,h3=>exact ⟨v,by simp [h4],mkv_is.2 h3.1⟩
  | t::t'::l,x,v::v'::vs,_,h3=>exact ⟨.tuple (v::v'::vs).toArray,by simp [h4],_,rfl,h3⟩

theorem takeF_ok (h : Hl C.n F k0 W a0 e a k) {ds : List Nat} {sp : Sp} {K : SpD T sp → Option R} {r : R} (hk : takeF ds e sp K = some r) : ∃ s e' k', K s = some r ∧ take ds e' sp = some s ∧ k'.w = k.w ∧ Hl C.n F k0 W a0 e' a k' := by
  unfold takeF at hk
  obtain ⟨e', k', h1, h2, h3⟩ := frz_ok h hk
  split at h1
  · rename_i s hs; exact ⟨s, e', k', h1, hs, h2, h3⟩
  · simp at h1
theorem app_r {xs:Ls} : ∀ d,xs.2.contains d = true → (xs.1 ++ xs.2).contains d = true:=by
  intro d h; simp at h ⊢; exact .inr h
theorem exAt_cons {i j:Nat} {x:Ls} {l:List (Nat × Ls)} {y:Ls} (h:exAt ((i,x)::l) j = some y):(i = j∧x = y) ∨ (i ≠ j∧exAt l j = some y):=by
  simp only [exAt] at h
  cases hb:Nat.beq i j with
  | true=>rw [hb] at h; exact .inl ⟨Nat.eq_of_beq_eq_true hb,Option.some.inj h⟩
  | false=>rw [hb] at h; exact .inr ⟨fun e=>by rw [e,Nat.beq_refl] at hb; simp at hb,h⟩
theorem exK_ok {ρ:Type} {sp:Sp} {base:Env T} {K:Kt T ρ R} {r:R} {s:SpD T sp} : ∀ {l:List (Nat × Ls)} {j:Nat} {x:Ls},exAt l j = some x → exK base K l j s = some r → K.ex j (give (x.1 ++ x.2) sp s base) = some r
  | [],j,x,h,_=>by simp [exAt] at h
  | [(i, y)], j, x, h, hk => by
    rcases exAt_cons h with ⟨rfl,rfl⟩ | ⟨_,h⟩
    · exact hk
    · simp [exAt] at h
  | (i, y) :: z :: l, j, x, h, hk => by
    simp only [exK] at hk
    rcases exAt_cons h with ⟨rfl,rfl⟩ | ⟨hne,h⟩
    · rw [if_pos rfl] at hk; exact hk
    · rw [if_neg (Ne.symm hne)] at hk; exact exK_ok h hk
/-- The statement about a piece of code. -/
def CodeOk (C:Cx T) (cod:List Tp) (c:Code):Prop:=
  ∀ (h:Hn T) (R:Type) (e:Env T) (M:Kt T (HL T.S cod) R) (r:R),ev C cod c h R e M = some r →
  ∀ (F:FP) (k0:K) (W:List Nat) (a0:Act) (a:Act) (k:K) (Q:Exit → Act → World → Prop),(∀ t ∈ wrs c,t ∈ W) → Hl C.n F k0 W a0 e a k →
  (∀ e' a' k', M.go e' = some r → Hl C.n F k0 W a0 e' a' k' → Q .normal a' k'.w) →
  (∀ i e' a' k', M.ex i e' = some r → Hl C.n F k0 W a0 e' a' k' → Q (.exit i) a' k'.w) →
  (∀ x a' k', M.rv x = some r → RetOk C cod F k0 x a' k' → Q .ret a' k'.w) → c.wp C.P Q a k.w

/-- what is behind a join of a code that may leave -/
theorem flow_ok {h:Hl C.n F k0 W a0 e a k} {Wc:List Nat} {sp:Sp} {xs:Ls} {exs:List (Nat × Ls)} {M:Kt T (HL T.S cod) R} {r:R} {Q:Exit → Act → World → Prop} {fl:Flow (SpD T sp) (HL T.S cod)}
    (hW : ∀ t ∈ Wc,t ∈ W)
    (hk:(match fl with | .go s=>M.go (give (xs.1 ++ xs.2) sp s (keepE false Wc (spW sp) e)) | .ex i s=>exK (keepE false Wc (spW sp) e) M exs i s | .ret x=>M.rv x) = some r)
    (hgo : ∀ e' a' k', M.go e' = some r → Hl C.n F k0 W a0 e' a' k' → Q .normal a' k'.w)
    (hex : ∀ i e' a' k', M.ex i e' = some r → Hl C.n F k0 W a0 e' a' k' → Q (.exit i) a' k'.w)
    (hrv : ∀ x a' k', M.rv x = some r → RetOk C cod F k0 x a' k' → Q .ret a' k'.w) :
    (∀ e' a' k', (takeF xs.2 e' sp fun s => some (.go s)) = some fl → Hl C.n (FU e a (Wc ++ spW sp)) k Wc a e' a' k' → Q .normal a' k'.w) ∧
    (∀ i e' a' k', exF exs sp i e' = some fl → Hl C.n (FU e a (Wc ++ spW sp)) k Wc a e' a' k' → Q (.exit i) a' k'.w) ∧
    (∀ x a' k', some (.ret x) = some fl → RetOk C cod (FU e a (Wc ++ spW sp)) k x a' k' → Q .ret a' k'.w) := by
  refine ⟨fun e' a' k' h1 h2=>?_,fun i e' a' k' h1 h2=>?_,fun x a' k' h1 h2=>?_⟩
  · obtain ⟨s, e2, k2, h3, h4, h5, h6⟩ := takeF_ok h2 h1
    obtain rfl:=Option.some.inj h3
    rw [← h5]
    exact hgo _ a' k2 hk (rejoinF h app_r hW h6 h4)
  · unfold exF at h1
    split at h1
    · rename_i x hx
      obtain ⟨s,e2,k2,h3,h4,h5,h6⟩:=takeF_ok h2 h1
      obtain rfl:=Option.some.inj h3
      rw [← h5]
      exact hex i _ a' k2 (exK_ok hx hk) (rejoinF h app_r hW h6 h4)
    · simp at h1
  · obtain rfl := Option.some.inj h1
    exact hrv x a' k' hk (h2.step h.g fun b ⟨t,_,h5,h6⟩=>h.wr t h5 b h6)

theorem seq_ok {x y:Code} (hx:CodeOk C cod x) (hy:CodeOk C cod y):CodeOk C cod (.seq x y):=by
  intro h R e M r hk F k0 W a0 a k Q hW hl hgo hex hrv
  have main : ∀ hxx hyy,ev C cod x hxx R e { M with go:=fun e'=>ev C cod y hyy R e' M } = some r → (Code.seq x y).wp C.P Q a k.w:=by
    intro hxx hyy hk
    refine wp_seq (hx hxx R e _ r hk F k0 W a0 a k _ (fun t ht=>hW t (by simp [wrs,ht])) hl (fun e' a' k' h1 h2=>?_) (fun i e' a' k' h1 h2=>hex i e' a' k' h1 h2) (fun x a' k' h1 h2=>hrv x a' k' h1 h2))
    exact hy hyy R e' M r h1 F k0 W a0 a' k' Q (fun t ht=>hW t (by simp [wrs,ht])) h2 hgo hex hrv
  cases h <;> exact main _ _ hk
theorem cond_ok {c:Operand} {x y:Code} (hx:CodeOk C cod x) (hy:CodeOk C cod y):CodeOk C cod (.cond c x y):=by
  intro h R e M r hk F k0 W a0 a k Q hW hl hgo hex hrv
  have hWx : ∀ t ∈ wrs x,t ∈ W:=fun t ht=>hW t (by simp [wrs,ht])
  have hWy : ∀ t ∈ wrs y,t ∈ W:=fun t ht=>hW t (by simp [wrs,ht])
  have cv : ∀ {F:FP} {k0:K} {W:List Nat} {a0:Act} {e:Env T} {k:K} {m:Bool},Hl C.n F k0 W a0 e a k → asB (opv e c) = some m → a.eval c = .bool m:=by
    intro F k0 W a0 e k m hl hm
    exact isV_bool.1 (asB_is hm (opv_is (a0:=a) (by
      cases c with
      | tmp t=>exact ⟨hl.sl t,fun _=>rfl⟩
      | global _=>exact hl.gl
      | _=>trivial)))
  have plain : ∀ hxx hyy,(match asB (opv e c) with | some m=>if m then ev C cod x hxx R e M else ev C cod y hyy R e M | none=>none) = some r → (Code.cond c x y).wp C.P Q a k.w:=by
    intro hxx hyy hk
    split at hk
    · rename_i m hm
      refine wp_cond_split (cv hl hm) (fun hm1=>?_) (fun hm0=>?_)
      · rw [if_pos hm1] at hk
        exact hx hxx R e M r hk F k0 W a0 a k Q hWx hl hgo hex hrv
      · rw [if_neg (by rw [hm0]; simp)] at hk
        exact hy hyy R e M r hk F k0 W a0 a k Q hWy hl hgo hex hrv
    · simp at hk
  have hwc : ∀ t ∈ wrs x ++ wrs y,t ∈ W:=fun t ht=>hW t (by simpa [wrs] using ht)
  unfold ev at hk
  split at hk
  · rename_i fz sp xs hxx hyy
    obtain ⟨e0,k1,h1,h2,h3⟩:=frz_ok hl hk
    rw [lockK_eq,keepK_eq] at h1
    rw [← h2]
    have hin:=h3.lock (wrs x ++ wrs y ++ spW sp) (wrs x ++ wrs y)
    split at h1
    · rename_i m hm
      obtain ⟨s,hs,h1⟩:=bind_some h1
      have fin : ∀ e' a' k', (takeF xs.2 e' sp some) = some s → Hl C.n (FU e0 a (wrs x ++ wrs y ++ spW sp)) k1 (wrs x ++ wrs y) a e' a' k' → Q .normal a' k'.w := by
        intro e' a' k' g1 g2
        obtain ⟨s', e2, k2, g3, g4, g5, g6⟩ := takeF_ok g2 g1
        obtain rfl:=Option.some.inj g3
        rw [← g5]
        exact hgo _ a' k2 h1 (rejoinF h3 app_r hwc g6 g4)
      refine wp_cond_split (cv hin hm) (fun hm1=>?_) (fun hm0=>?_)
      · rw [if_pos hm1] at hs
        exact hx hxx _ _ _ s hs _ _ _ _ a k1 Q (fun t ht=>by simp [ht]) hin fin (fun i e' a' k' g1 _=>by simp at g1) (fun x' a' k' g1 _=>by simp at g1)
      · rw [if_neg (by rw [hm0]; simp)] at hs
        exact hy hyy _ _ _ s hs _ _ _ _ a k1 Q (fun t ht=>by simp [ht]) hin fin (fun i e' a' k' g1 _=>by simp at g1) (fun x' a' k' g1 _=>by simp at g1)
    · simp at h1
  · rename_i fz sp xs exs hxx hyy
    obtain ⟨e0,k1,h1,h2,h3⟩:=frz_ok hl hk
    rw [lockK_eq,keepK_eq] at h1
    rw [← h2]
    have hin:=h3.lock (wrs x ++ wrs y ++ spW sp) (wrs x ++ wrs y)
    split at h1
    · rename_i m hm
      obtain ⟨fl,hs,h1⟩:=bind_some h1
      obtain ⟨f1,f2,f3⟩:=flow_ok (h:=h3) (Q:=Q) (xs:=xs) hwc h1 hgo hex hrv
      refine wp_cond_split (cv hin hm) (fun hm1=>?_) (fun hm0=>?_)
      · rw [if_pos hm1] at hs
        exact hx hxx _ _ _ fl hs _ _ _ _ a k1 Q (fun t ht=>by simp [ht]) hin f1 f2 f3
      · rw [if_neg (by rw [hm0]; simp)] at hs
        exact hy hyy _ _ _ fl hs _ _ _ _ a k1 Q (fun t ht=>by simp [ht]) hin f1 f2 f3
    · simp at h1
  · exact plain _ _ hk
  · exact plain _ _ hk
theorem block_ok {id:Nat} {x:Code} (hx:CodeOk C cod x):CodeOk C cod (.block id x):=by
  intro h R e M r hk F k0 W a0 a k Q hW hl hgo hex hrv
  have hWx : ∀ t ∈ wrs x,t ∈ W:=fun t ht=>hW t (by simpa [wrs] using ht)
  have inb : ∀ {i:Nat} {a:Act} {w:World},(i = id → Q .normal a w) → (i ≠ id → Q (.exit i) a w) → Exit.inBlock id Q (.exit i) a w:=by
    intro i a w h1 h2
    simp only [Exit.inBlock]
    split
    · rename_i h; exact h1 (by simpa using h)
    · rename_i h; exact h2 (by simpa using h)
  have plain : ∀ hxx,ev C cod x hxx R e { M with ex:=fun i e'=>bif Nat.beq i id then M.go e' else M.ex i e' } = some r → (Code.block id x).wp C.P Q a k.w:=by
    intro hxx hk
    refine wp_block (hx hxx R e _ r hk F k0 W a0 a k _ hWx hl hgo (fun i e' a' k' h1 h2=>inb (fun e1=>?_) (fun e1=>?_)) hrv)
    · subst e1; simp only [Nat.beq_refl,cond_true] at h1; exact hgo e' a' k' h1 h2
    · simp only [beq_ne e1,cond_false] at h1; exact hex i e' a' k' h1 h2
  unfold ev at hk
  split at hk
  · rename_i fz sp xs hxx
    obtain ⟨e0,k1,h1,h2,h3⟩:=frz_ok hl hk
    rw [lockK_eq,keepK_eq] at h1
    rw [← h2]
    have hin:=h3.lock (wrs x ++ spW sp) (wrs x)
    obtain ⟨s,hs,h1⟩:=bind_some h1
    have fin : ∀ e' a' k', (takeF xs.2 e' sp some) = some s → Hl C.n (FU e0 a (wrs x ++ spW sp)) k1 (wrs x) a e' a' k' → Q .normal a' k'.w := by
      intro e' a' k' g1 g2
      obtain ⟨s', e2, k2, g3, g4, g5, g6⟩ := takeF_ok g2 g1
      obtain rfl:=Option.some.inj g3
      rw [← g5]
      exact hgo _ a' k2 h1 (rejoinF h3 app_r hWx g6 g4)
    refine wp_block (hx hxx _ _ _ s hs _ _ _ _ a k1 _ (fun t ht=>ht) hin fin (fun i e' a' k' g1 g2=>inb (fun e1=>?_) (fun e1=>?_)) (fun x' a' k' g1 _=>by simp at g1))
    · subst e1; simp only [Nat.beq_refl,cond_true] at g1; exact fin e' a' k' g1 g2
    · simp only [beq_ne e1,cond_false] at g1; simp at g1
  · rename_i fz sp xs exs hxx
    obtain ⟨e0,k1,h1,h2,h3⟩:=frz_ok hl hk
    rw [lockK_eq,keepK_eq] at h1
    rw [← h2]
    have hin:=h3.lock (wrs x ++ spW sp) (wrs x)
    obtain ⟨fl,hs,h1⟩:=bind_some h1
    obtain ⟨f1,f2,f3⟩:=flow_ok (h:=h3) (Q:=Q) (xs:=xs) hWx h1 hgo hex hrv
    refine wp_block (hx hxx _ _ _ fl hs _ _ _ _ a k1 _ (fun t ht=>ht) hin f1 (fun i e' a' k' g1 g2=>inb (fun e1=>?_) (fun e1=>?_)) f3)
    · subst e1; simp only [Nat.beq_refl,cond_true] at g1; exact f1 e' a' k' g1 g2
    · simp only [beq_ne e1,cond_false] at g1; exact f2 i e' a' k' g1 g2
  · exact plain _ hk
theorem loop_ok {x:Code} (hx:CodeOk C cod x):CodeOk C cod (.loop x):=by
  intro h R e M r hk F k0 W a0 a k Q hW hl hgo hex hrv
  have hWx : ∀ t ∈ wrs x,t ∈ W:=fun t ht=>hW t (by simpa [wrs] using ht)
  unfold ev at hk
  split at hk
  · rename_i fz sp exs fuel hxx
    obtain ⟨e0,k1,h1,h2,h3⟩:=frz_ok hl hk
    rw [keepK_eq,keepK_eq] at h1
    rw [← h2]
    split at h1
    · rename_i s0 hs0
      obtain ⟨fl,hs,h1⟩:=bind_some h1
      have hin:=h3.lock (wrs x ++ spW sp) (wrs x)
      have hs0' : take [] (lockE (wrs x ++ spW sp) e0) sp = some s0:=by
        rw [← hs0]
        refine take_congr fun t ht=>?_
        rw [lk_lockE]
        have:(wrs x ++ spW sp).contains t = true:=by simpa using Or.inr ht
        rw [this]; rfl
      have hst:=rejoinT h3 (ds:=[]) (xs:=[]) (fun d hd=>by simp at hd) hin hs0'
      have hsim:Sim C.P (.loop x) (fun s a' k'=>Hl C.n (FU e0 a (wrs x ++ spW sp)) k1 (wrs x) a (give [] sp s (keepE true (wrs x) (spW sp) e0)) a' k')
          (iterL (fun s=>ev C cod x hxx (Flow (SpD T sp) (HL T.S cod)) (give [] sp s (keepE true (wrs x) (spW sp) e0)) ⟨fun e'=>takeF [] e' sp fun s=>some (.go s),exF exs sp,fun r=>some (.ret r)⟩) (fuel e0))
          (fun s a' k'=>Hl C.n (FU e0 a (wrs x ++ spW sp)) k1 (wrs x) a (give [] sp s (keepE true (wrs x) (spW sp) e0)) a' k')
          (fun i s a' k'=>∃ y,exAt exs i = some y∧Hl C.n F k0 W a0 (give (y.1 ++ y.2) sp s (keepE false (wrs x) (spW sp) e0)) a' k')
          (fun x' a' k'=>RetOk C cod (FU e0 a (wrs x ++ spW sp)) k1 x' a' k'):=by
        refine sim_loop ?_ _
        intro s f a2 k2 hb hS Q' _ hgo' hex' hret'
        refine hx hxx _ _ _ f hb _ _ _ _ a2 k2 Q' (fun t ht=>ht) hS (fun e' a' k' g1 g2=>?_) (fun i e' a' k' g1 g2=>?_) (fun x' a' k' g1 g2=>?_)
        · obtain ⟨s', e2, k3, g3, g4, g5, g6⟩ := takeF_ok g2 g1
          rw [← g5]
          exact hgo' s' a' k3 (Option.some.inj g3).symm (rejoinT h3 (fun d hd=>by simp at hd) g6 g4)
        · have g1 : exF exs sp i e' = some f := g1
          unfold exF at g1
          split at g1
          · rename_i y hy
            obtain ⟨s', e2, k3, g3, g4, g5, g6⟩ := takeF_ok g2 g1
            rw [← g5]
            exact hex' i s' a' k3 (Option.some.inj g3).symm ⟨y,hy,rejoinF h3 app_r hWx g6 g4⟩
          · simp at g1
        · exact hret' x' a' k' (Option.some.inj g1).symm g2
      refine hsim s0 fl a k1 hs hst Q trivial (fun s a' k' g1 _=>?_) (fun i s a' k' g1 g2=>?_) (fun x' a' k' g1 g2=>?_)
      · rw [g1] at h1; simp at h1
      · rw [g1] at h1
        obtain ⟨y,hy,g3⟩:=g2
        exact hex i _ a' k' (exK_ok hy h1) g3
      · rw [g1] at h1
        exact hrv x' a' k' h1 (g2.step h3.g fun b ⟨t,_,h5,h6⟩=>h3.wr t h5 b h6)
    · simp at h1
  · simp at hk
theorem region_ok (hC:CxOk C) {id:Nat} {A:Array Oper} {draw:Bool}:CodeOk C cod (.region id A draw):=by
  intro h R e M r hk F k0 W a0 a k Q hW hl hgo hex hrv
  have hWx : ∀ o ∈ A.toList,∀ d,o.dst = some d → d ∈ W:=fun o ho d hd=>hW d (List.mem_filterMap.2 ⟨o,ho,hd⟩)
  unfold ev at hk
  split at hk
  · obtain ⟨e1, k1, h1, h2, h3⟩ := frz_ok hl hk
    rw [← h2]
    exact evR_ok hC hWx h3 h1 hgo
  · exact evR_ok hC hWx hl hk hgo
theorem code_ok (hC:CxOk C) : ∀ c:Code,CodeOk C cod c
  | .skip=>fun h R e M r hk F k0 W a0 a k Q hW hl hgo _ _=>wp_skip (hgo e a k hk hl)
  | .region _ _ _=>region_ok hC
  | .seq x y=>seq_ok (code_ok hC x) (code_ok hC y)
  | .cond _ x y=>cond_ok (code_ok hC x) (code_ok hC y)
  | .block _ x=>block_ok (code_ok hC x)
  | .loop x=>loop_ok (code_ok hC x)
  | .exit i=>fun h R e M r hk F k0 W a0 a k Q hW hl _ hex _=>wp_exit (hex i e a k hk hl)
  | .ret => fun h R e M r hk F k0 W a0 a k Q hW hl _ _ hrv => by
    unfold ev at hk
    obtain ⟨e1,k1,h1,h2,h3⟩:=frz_ok hl hk
    split at h1
    · rename_i x hx
      rw [← h2]
      exact wp_ret (hrv x a k1 h1 (ret_ok h3 hx))
    · simp at h1
  | .rangeFunc _ _ _ _=>fun h R e M r hk=>by simp [ev] at hk
  | .scope _=>fun h R e M r hk=>by simp [ev] at hk
  | .label _=>fun h R e M r hk=>by simp [ev] at hk
  | .goto _=>fun h R e M r hk=>by simp [ev] at hk
  | .refuse _=>fun h R e M r hk=>by simp [ev] at hk
end
end Go.Gb

/- General part of the proofs: whole functions. -/
namespace Go.Gb
variable {T:Tb} {R:Type}
def body (f:Func):Code:=f.body.getD .skip
def tidL:List (Nat × Tp) → Nat → Option Tp
  | [],_=>none
  | (a,t)::l,i=>bif Nat.beq a i then some t else tidL l i
def fI (s:Nat) (e:Env T):Nat:=match lk e s with | .v .int n=>n.toNat + 1 | _=>0
def lenS (e:Env T) (s:Nat):Nat:=match nrm (lk e s) with | .v (.list _) xs=>xs.length | .own _ _ _ xs=>xs.length | _=>0
def fLs (e:Env T):Nat → List Nat → Nat
  | a,[]=>a + 1
  | a,s::l=>fLs e (a + lenS e s) l
def fL (l:List Nat) (e:Env T):Nat:=match l with
  | []=>1
  | s::l=>fLs e (lenS e s) l
def EqsOk (P:Program) (T:Tb):List (TypeId × Nat) → Prop
  | []=>True
  | (t,n)::l=>@EqOk P t (T.S n) (T.enc n) (T.deq n)∧EqsOk P T l
theorem EqsOk.at {P:Program} : ∀ {l:List (TypeId × Nat)},EqsOk P T l → ∀ t n,l.contains (t,n) = true → @EqOk P t (T.S n) (T.enc n) (T.deq n)
  | [],_,_,_,h=>by simp at h
  | (t', n') :: l, h, t, n, hc => by
    simp only [List.contains_cons,Bool.or_eq_true,beq_iff_eq,Prod.mk.injEq] at hc
    rcases hc with ⟨rfl,rfl⟩ | hc
    · exact h.1
    · exact EqsOk.at h.2 t n hc
/-- A function, and that it computes what it is said to. -/
structure Fk (T:Tb) (P:Program) where
  f:FuncId
  d:FnE T
  ok:FnOk P f d
def depsOf {P:Program} (l:List (Fk T P)):Deps T:=l.map fun k=>(k.f,k.d)
theorem depsOf_ok {P:Program} : ∀ (l:List (Fk T P)) (f:FuncId) (d:FnE T),dep (depsOf l) f = some d → FnOk P f d
  | [],_,_,h=>by simp [depsOf,dep] at h
  | k :: l, f, d, h => by
    simp only [depsOf,List.map_cons,dep] at h
    cases hb:Nat.beq k.f f with
    | true =>
      rw [hb] at h
      obtain rfl:=Nat.eq_of_beq_eq_true hb
      obtain rfl:=Option.some.inj h
      exact k.ok
    | false=>rw [hb] at h; exact depsOf_ok l f d h

theorem HIs.cons {a b:Tp} {l:List Tp} {x:HL T.S (a::b::l)} {vs:List Value} {k:K} (h:HIs (a::b::l) x vs k) : ∃ u us,vs = u::us∧IsV x.1 u k∧HIs (b::l) x.2 us k:=by
  cases vs with
  | nil=>exact h.elim
  | cons u us=>exact ⟨u,us,rfl,h.1,h.2⟩
theorem HIs.one {a:Tp} {x:HL T.S [a]} {vs:List Value} {k:K} (h:HIs [a] x vs k) : ∃ u,vs = [u]∧IsV (α:=T.D a) x u k:=by
  cases vs with
  | nil=>exact h.elim
  | cons u us => cases us with
    | nil=>exact ⟨u,rfl,h⟩
    | cons _ _=>exact h.elim
theorem HIs.nil {x:HL T.S []} {vs:List Value} {k:K} (h:HIs [] x vs k):vs = []:=by
  cases vs with
  | nil=>rfl
  | cons u us=>exact h.elim
theorem initE_lk {a:Act} {k:K} : ∀ {l:List Tp} {x:HL T.S l} {vs:List Value} {i:Nat},HIs l x vs k → ArgsAre a i vs → ∀ t,(lk (initE i l x) t).is a (a.get t) k∧isRes (lk (initE i l x) t) = false∧∀ s,(lk (initE i l x) t).ment s = false
  | [],_,_,_,_,_,t=>⟨trivial,rfl,fun _=>rfl⟩
  | [b], x, vs, i, h, ha, t => by
    obtain ⟨u,rfl,hu⟩:=h.one
    simp only [initE]
    rw [lk_cons]
    split
    · rename_i e; subst e
      rw [ha.1]
      exact ⟨mkv_is.2 hu,mkv_res,fun _=>mkv_ment⟩
    · exact ⟨trivial,rfl,fun _=>rfl⟩
  | b :: c :: l, x, vs, i, h, ha, t => by
    obtain ⟨u,us,rfl,hu,h'⟩:=h.cons
    simp only [initE]
    rw [lk_cons]
    split
    · rename_i e; subst e
      rw [ha.1]
      exact ⟨mkv_is.2 hu,mkv_res,fun _=>mkv_ment⟩
    · exact initE_lk h' ha.2 t
theorem HIs.len {k:K} : ∀ {l:List Tp} {x:HL T.S l} {vs:List Value},HIs l x vs k → vs.length = l.length
  | [],_,_,h=>by rw [h.nil]; rfl
  | [_],_,_,h=>by obtain ⟨u,rfl,_⟩:=h.one; rfl
  | _::_::_,_,_,h=>by obtain ⟨u,us,rfl,_,h'⟩:=h.cons; simp [HIs.len h']

theorem fnOk {P:Program} {tid:TypeId → Option Tp} {eqs:List (TypeId × Nat)} {d:FnE T} {f:FuncId} (ks:List (Fk T P)) (own:List Nat) (fn:Func) (h:Hn T) (hE:EqsOk P T eqs) (hm:P.follows .mixedOrders = true) (hpe:P = T.P)
    (hf:P.funcs[f]? = some fn) (hc : ∀ args w,(callFunc f args).run P w = .ok (.enter f args) w) (hb:fn.body = some (body fn)) (hl:Nat.ble d.dom.length fn.ntmps = true)
    (he : ∀ x,evF ⟨P,tid,eqs,depsOf ks,own,fn.results.toList,fn.ntmps⟩ (body fn) h d.dom d.cod x = d.run x):FnOk P f d:=by
  let C:Cx T:=⟨P,tid,eqs,depsOf ks,own,fn.results.toList,fn.ntmps⟩
  have hC:CxOk C:=⟨depsOf_ok ks,hE.at,hm,hpe⟩
  refine ⟨hc,fun k0 vs x r hG hi hr=>?_⟩
  refine Ret.ofC ?_
  refine enterK hf hb rfl (by
    have:=hi.len
    have h2:=Nat.le_of_ble_eq_true hl
    simpa [this] using h2) fun a k hk0 hs hd ha=>?_
  subst hk0
  have hev:evF C (body fn) h d.dom d.cod x = some r:=(he x).trans hr
  have hin:=initE_lk hi ha
  have h0:Hl C.n noF k (wrs (body fn)) a (initE 0 d.dom x) a k:=⟨Chg.refl _ k,hs,hd,fun _ _=>rfl,fun t=>(hin t).1,fun t s hms=>by rw [(hin t).2.2] at hms; simp at hms,
    fun t ht=>by have h1:=unl_res ht; rw [(hin t).2.1] at h1; simp at h1,fun t t' _ b hb=>absurd hb (fp_nonres (hin t).2.1 _ b),hG⟩
  refine code_ok hC (body fn) h _ _ _ r hev noF k _ a a k _ (fun t ht=>ht) h0 (fun e' a' k' g=>by simp at g) (fun i e' a' k' g=>by simp at g) (fun y a' k' g hret=>?_)
  obtain rfl:=Option.some.inj g
  obtain ⟨h1,k2,h2,h3,h4⟩:=hret
  obtain ⟨v,h5,h6⟩:=h4 fn rfl
  rw [← h2]
  exact bodyPost_ret' h1 h5 h3 h6

/-! package-level variables -/
theorem GOk.none {k:K} (h : ∀ g,T.gl g = .none) (h' : ∀ g,T.gi = some g → ∃ m:Int,IsRef m (.pointer (some ⟨g,0,.none⟩)) k):GOk T k:=⟨fun g t x e=>by rw [h g] at e; simp at e,h'⟩
/-- in the world of a call -/
theorem GOk.at {k0 k k' : K} (h:GOk T k0) (g:Chg noF k0 k) (g' : Grow k k'):GOk T k':=(h.le (g.le fun _ f=>f.elim)).le g'.le
/-- the same structs, and what the package-level variables hold -/
def Tb.withG (T:Tb) (gl:Nat → Option (Σ t:Tp,t.den T.S)) (gi:Option Nat):Tb:={ T with gl:=gl,gi:=gi }
theorem HIs.low {gl:Nat → Option (Σ t:Tp,t.den T.S)} {gi:Option Nat} {k:K} : ∀ {l:List Tp} {x:HL T.S l} {vs:List Value},HIs (T:=T.withG gl gi) l x vs k → HIs (T:=T) l x vs k
  | [],_,[],_=>trivial
  | [_],_,[_],h=>h
  | _::_::_,_,_::_,h=>⟨h.1,HIs.low h.2⟩
  | [],_,_::_,h=>h.elim
  | [_],_,[],h=>h.elim
  | [_],_,_::_::_,h=>h.elim
  | _::_::_,_,[],h=>h.elim
/-! from and to the other form -/
section
variable {P:Program} {f:FuncId} {vs:Array Value} {w:World} {k:K}
theorem retImp {R S : Pred} (h : Calls P f vs w (Ret k R)) (hi : ∀ v k', R v k' → S v k') : Calls P f vs w (Ret k S) := by
  refine Calls.mono h fun e w' he=>?_
  cases e with
  | returned v => obtain ⟨k', h1, h2, h3⟩ := he; exact ⟨k', h1, h2, hi _ _ h3⟩
  | panicked c=>exact he.elim
  | outgrown=>exact he.elim
theorem ret2T {a b:Tp} {x:HL T.S [a,b]} (h:Calls P f vs w (Ret k fun u k'=>(resV [a,b] x).is ⟨#[],[]⟩ u k')):Calls P f vs w (Ret k (IsTup2 (IsV (α:=T.D a) x.1) (IsV (α:=T.D b) x.2))):=
  retImp h fun v k' ⟨us,e,hf⟩=>by
    match us,hf with
    | [u1,u2],hf=>exact ⟨u1,u2,e,hf.1,hf.2.1⟩
theorem ret2F {a b:Tp} {x:HL T.S [a,b]} (h:Calls P f vs w (Ret k (IsTup2 (IsV (α:=T.D a) x.1) (IsV (α:=T.D b) x.2)))):Calls P f vs w (Ret k fun u k'=>(resV [a,b] x).is ⟨#[],[]⟩ u k'):=
  retImp h fun v k' ⟨u1,u2,e,h1,h2⟩=>⟨[u1,u2],e,h1,h2,trivial⟩
end
end Go.Gb


