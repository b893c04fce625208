/- The general part of the proofs (no program in sight): worlds with shared blocks, regions, operations, calls, loops, what comes in as data, part 8 -/
import Derived.Test.YtljfakcblkdhbaaDoorL7
set_option linter.unusedVariables false
set_option linter.unusedSimpArgs false
/- General part of the proofs: whole functions. -/
namespace Go.Gb
variable {T:Tb} {R:Type}
def body (f:Func):Code:=f.body.getD .skip
def tidL:List (Nat × Tp) → Nat → Option Tp
  | [],_=>none
  | (a,t)::l,i=>bif Nat.beq a i then some t else tidL l i
def lenS (e:Env T) (s:Nat):Nat:=match nrm (lk e s) with | .v (.list _) xs=>xs.length | .own _ _ _ xs=>xs.length | _=>0
def fLs (e:Env T):Nat → List Nat → Nat
  | a,[]=>a + 1
  | a,s::l=>fLs e (a + lenS e s) l
def fL (l:List Nat) (e:Env T):Nat:=match l with
  | []=>1
  | s::l=>fLs e (lenS e s) l
def EqsOk (P:Program) (T:Tb):List (TypeId × Nat) → Prop
  | []=>True
  | (t,n)::l=>@EqOk P t (T.S n) (T.enc n) (T.deq n)∧EqsOk P T l
theorem EqsOk.at {P:Program} : ∀ {l:List (TypeId × Nat)},EqsOk P T l → ∀ t n,l.contains (t,n) = true → @EqOk P t (T.S n) (T.enc n) (T.deq n)
  | [],_,_,_,h=>by simp at h
  | (t', n') :: l, h, t, n, hc => by
    simp only [List.contains_cons,Bool.or_eq_true,beq_iff_eq,Prod.mk.injEq] at hc
    rcases hc with ⟨rfl,rfl⟩ | hc
    · exact h.1
    · exact EqsOk.at h.2 t n hc
/-- A function, and that it computes what it is said to. -/
structure Fk (T:Tb) (P:Program) where
  f:FuncId
  d:FnE T
  ok:FnOk P f d
def depsOf {P:Program} (l:List (Fk T P)):Deps T:=l.map fun k=>(k.f,k.d)
theorem depsOf_ok {P:Program} : ∀ (l:List (Fk T P)) (f:FuncId) (d:FnE T),dep (depsOf l) f = some d → FnOk P f d
  | [],_,_,h=>by simp [depsOf,dep] at h
  | k :: l, f, d, h => by
    simp only [depsOf,List.map_cons,dep] at h
    cases hb:Nat.beq k.f f with
    | true =>
      rw [hb] at h
      obtain rfl:=Nat.eq_of_beq_eq_true hb
      obtain rfl:=Option.some.inj h
      exact k.ok
    | false=>rw [hb] at h; exact depsOf_ok l f d h

theorem HIs.cons {a b:Tp} {l:List Tp} {x:HL T.S (a::b::l)} {vs:List Value} {k:K} (h:HIs (a::b::l) x vs k) : ∃ u us,vs = u::us∧IsV x.1 u k∧HIs (b::l) x.2 us k:=by
  cases vs with
  | nil=>exact h.elim
  | cons u us=>exact ⟨u,us,rfl,h.1,h.2⟩
theorem HIs.one {a:Tp} {x:HL T.S [a]} {vs:List Value} {k:K} (h:HIs [a] x vs k) : ∃ u,vs = [u]∧IsV (α:=T.D a) x u k:=by
  cases vs with
  | nil=>exact h.elim
  | cons u us => cases us with
    | nil=>exact ⟨u,rfl,h⟩
    | cons _ _=>exact h.elim
theorem HIs.nil {x:HL T.S []} {vs:List Value} {k:K} (h:HIs [] x vs k):vs = []:=by
  cases vs with
  | nil=>rfl
  | cons u us=>exact h.elim
theorem initE_lk {a:Act} {k:K} : ∀ {l:List Tp} {x:HL T.S l} {vs:List Value} {i:Nat},HIs l x vs k → ArgsAre a i vs → ∀ t,(lk (initE i l x) t).is a (a.get t) k∧isRes (lk (initE i l x) t) = false∧∀ s,(lk (initE i l x) t).ment s = false
  | [],_,_,_,_,_,t=>⟨trivial,rfl,fun _=>rfl⟩
  | [b], x, vs, i, h, ha, t => by
    obtain ⟨u,rfl,hu⟩:=h.one
    simp only [initE]
    rw [lk_cons]
    split
    · rename_i e; subst e
      rw [ha.1]
      exact ⟨mkv_is.2 hu,mkv_res,fun _=>mkv_ment⟩
    · exact ⟨trivial,rfl,fun _=>rfl⟩
  | b :: c :: l, x, vs, i, h, ha, t => by
    obtain ⟨u,us,rfl,hu,h'⟩:=h.cons
    simp only [initE]
    rw [lk_cons]
    split
    · rename_i e; subst e
      rw [ha.1]
      exact ⟨mkv_is.2 hu,mkv_res,fun _=>mkv_ment⟩
    · exact initE_lk h' ha.2 t
theorem HIs.len {k:K} : ∀ {l:List Tp} {x:HL T.S l} {vs:List Value},HIs l x vs k → vs.length = l.length
  | [],_,_,h=>by rw [h.nil]; rfl
  | [_],_,_,h=>by obtain ⟨u,rfl,_⟩:=h.one; rfl
  | _::_::_,_,_,h=>by obtain ⟨u,us,rfl,_,h'⟩:=h.cons; simp [HIs.len h']

/-- A function that turns, takes over or makes things of its own, and that it does what it is said to. -/
structure FkR (T:Tb) (P:Program) where
  f:FuncId
  d:FnR T
  ok:FnROk P f d
def rdepsOf {P:Program} (l:List (FkR T P)):RDeps T:=l.map fun k=>(k.f,k.d)
theorem rdepsOf_ok {P:Program} : ∀ (l:List (FkR T P)) (f:FuncId) (d:FnR T),rdep (rdepsOf l) f = some d → FnROk P f d
  | [],_,_,h=>by simp [rdepsOf,rdep] at h
  | k :: l, f, d, h => by
    simp only [rdepsOf,List.map_cons,rdep] at h
    cases hb:Nat.beq k.f f with
    | true =>
      rw [hb] at h
      obtain rfl:=Nat.eq_of_beq_eq_true hb
      obtain rfl:=Option.some.inj h
      exact k.ok
    | false=>rw [hb] at h; exact rdepsOf_ok l f d h

/-- A function that only looks at a thing, and that it does what it is said to. -/
structure FkQ (T:Tb) (P:Program) where
  f:FuncId
  d:FnQ T
  ok:FnQOk P f d
def qdepsOf {P:Program} (l:List (FkQ T P)):QDeps T:=l.map fun k=>(k.f,k.d)
theorem qdepsOf_ok {P:Program} : ∀ (l:List (FkQ T P)) (f:FuncId) (d:FnQ T),qdep (qdepsOf l) f = some d → FnQOk P f d
  | [],_,_,h=>by simp [qdepsOf,qdep] at h
  | k :: l, f, d, h => by
    simp only [qdepsOf,List.map_cons,qdep] at h
    cases hb:Nat.beq k.f f with
    | true =>
      rw [hb] at h
      obtain rfl:=Nat.eq_of_beq_eq_true hb
      obtain rfl:=Option.some.inj h
      exact k.ok
    | false=>rw [hb] at h; exact qdepsOf_ok l f d h

theorem fnOkW {P:Program} {tid:TypeId → Option Tp} {eqs:List (TypeId × Nat)} {d:FnE T} {f:FuncId} (ks:List (Fk T P)) (rks:List (FkR T P)) (qks:List (FkQ T P)) (wr:Bool) (own:List Nat) (fn:Func) (hk:Nat → Code → Env T → (R:Type) → (Env T → Option R) → Option R) (hH:HksOk ⟨P,tid,eqs,depsOf ks,rdepsOf rks,wr,own,fn.results.toList,fn.ntmps,hk,fun c=>c ∈ subs (body fn),qdepsOf qks⟩) (h:Hn T) (hE:EqsOk P T eqs) (hm:P.follows .mixedOrders = true) (hpe:P = T.P)
    (hf:P.funcs[f]? = some fn) (hc : ∀ args w,(callFunc f args).run P w = .ok (.enter f args) w) (hb:fn.body = some (body fn)) (hl:Nat.ble d.dom.length fn.ntmps = true)
    (he : ∀ x,evF ⟨P,tid,eqs,depsOf ks,rdepsOf rks,wr,own,fn.results.toList,fn.ntmps,hk,fun c=>c ∈ subs (body fn),qdepsOf qks⟩ (body fn) h d.dom d.cod x = d.run x):FnOk P f d:=by
  let C:Cx T:=⟨P,tid,eqs,depsOf ks,rdepsOf rks,wr,own,fn.results.toList,fn.ntmps,hk,fun c=>c ∈ subs (body fn),qdepsOf qks⟩
  have hC:CxOk C:=⟨depsOf_ok ks,rdepsOf_ok rks,hE.at,hm,hpe,qdepsOf_ok qks⟩
  refine ⟨hc,fun k0 vs x r hG hi hr=>?_⟩
  refine Ret.ofC ?_
  refine enterK hf hb rfl (by
    have:=hi.len
    have h2:=Nat.le_of_ble_eq_true hl
    simpa [this] using h2) fun a k hk0 hs hd ha=>?_
  subst hk0
  have hev:evF C (body fn) h d.dom d.cod x = some r:=(he x).trans hr
  have hin:=initE_lk hi ha
  have h0:Hl C.n noF k (wrs (body fn)) a (initE 0 d.dom x) a k:=⟨Chg.refl _ k,hs,hd,fun _ _=>rfl,fun t=>(hin t).1,fun t s hms=>by rw [(hin t).2.2] at hms; simp at hms,
    fun t ht=>by have h1:=unl_res ht; rw [(hin t).2.1] at h1; simp at h1,fun t t' _ b hb=>absurd hb (fp_nonres (hin t).2.1 _ _ b),hG⟩
  refine code_ok hC hH (body fn) (fun _ h=>h) h _ _ _ r hev noF k _ a a k _ (fun t ht=>ht) (fun hN=>by simp [isN] at hN) h0 (fun e' a' k' g=>by simp at g) (fun i e' a' k' g=>by simp at g) (fun y a' k' g hret=>?_)
  obtain rfl:=Option.some.inj g
  obtain ⟨h1,_,k2,h2,h3,_,_,h4⟩:=hret
  obtain ⟨v,h5,h6,_⟩:=h4 fn rfl
  rw [← h2]
  exact bodyPost_ret' h1 h5 h3 h6
theorem noHk_ok {C:Cx T} (h0:C.hk = noHk:=by rfl):HksOk C:=fun _ _ _ _ _ _ _ h=>by rw [h0] at h; simp [noHk] at h
theorem fnOk {P:Program} {tid:TypeId → Option Tp} {eqs:List (TypeId × Nat)} {d:FnE T} {f:FuncId} (ks:List (Fk T P)) (own:List Nat) (fn:Func) (h:Hn T) (hE:EqsOk P T eqs) (hm:P.follows .mixedOrders = true) (hpe:P = T.P)
    (hf:P.funcs[f]? = some fn) (hc : ∀ args w,(callFunc f args).run P w = .ok (.enter f args) w) (hb:fn.body = some (body fn)) (hl:Nat.ble d.dom.length fn.ntmps = true)
    (he : ∀ x,evF ⟨P,tid,eqs,depsOf ks,[],false,own,fn.results.toList,fn.ntmps,noHk,fun c=>c ∈ subs (body fn),[]⟩ (body fn) h d.dom d.cod x = d.run x):FnOk P f d:=
  fnOkW ks [] [] false own fn noHk (noHk_ok rfl) h hE hm hpe hf hc hb hl he

/-! functions with things of their own -/
theorem PIs.len {k:K} {u1 u2:Value} : ∀ {l:List Pm} {x:HL T.S (valsP l)} {vs:List Value},PIs l x u1 u2 vs k → vs.length = l.length
  | [],_,[],_=>rfl
  | [],_,_::_,h=>h.elim
  | .v _::_,_,[],h=>h.elim
  | .tu::_,_,[],h=>h.elim
  | .tk::_,_,[],h=>h.elim
  | .v _::l,_,_::_,h=>by simp [PIs.len (l:=l) h.2]
  | .tu::l,_,_::_,h=>by simp [PIs.len (l:=l) h.2]
  | .tk::l,_,_::_,h=>by simp [PIs.len (l:=l) h.2]
  | .fn _::_,_,[],h=>h.elim
  | .fn _::l,_,_::_,h=>by simp [PIs.len (l:=l) h.2]
/-! from the other form -/
section
variable {P:Program} {f:FuncId}
theorem callsRetC {vs : Array Value} {w : World} {k : K} {F G : FP} {R S : Pred} (h : Calls P f vs w (RetC F k R)) (hF : ∀ b, F b ↔ G b) (hi : ∀ v k', Chg F k k' → R v k' → S v k') : Calls P f vs w (RetC G k S) := by
  have e:F = G:=funext fun b=>propext (hF b)
  subst e
  refine Calls.mono h fun e w' he=>?_
  cases e with
  | returned v => obtain ⟨k', h1, h2, h3⟩ := he; exact ⟨k', h1, h2, hi _ _ h2 h3⟩
  | panicked c=>exact he.elim
  | outgrown=>exact he.elim
end
/-! package-level variables -/
theorem GOk.none {k:K} (h : ∀ g,T.gl g = .none) (h' : ∀ g,T.gi = some g → ∃ m:Int,IsRef m (.pointer (some ⟨g,0,.none⟩)) k):GOk T k:=⟨fun g t x e=>by rw [h g] at e; simp at e,h'⟩
/-- in the world of a call -/
theorem GOk.at {k0 k k' : K} (h:GOk T k0) (g:Chg noF k0 k) (g' : Grow k k'):GOk T k':=(h.le (g.le fun _ f=>f.elim)).le g'.le
/-- the same structs, and what the package-level variables hold -/
def Tb.withG (T:Tb) (gl:Nat → Option (Σ t:Tp,t.den T.S)) (gi:Option Nat):Tb:={ T with gl:=gl,gi:=gi }
theorem HIs.low {gl:Nat → Option (Σ t:Tp,t.den T.S)} {gi:Option Nat} {k:K} : ∀ {l:List Tp} {x:HL T.S l} {vs:List Value},HIs (T:=T.withG gl gi) l x vs k → HIs (T:=T) l x vs k
  | [],_,[],_=>trivial
  | [_],_,[_],h=>h
  | _::_::_,_,_::_,h=>⟨h.1,HIs.low h.2⟩
  | [],_,_::_,h=>h.elim
  | [_],_,[],h=>h.elim
  | [_],_,_::_::_,h=>h.elim
  | _::_::_,_,[],h=>h.elim
/-! from and to the other form -/
section
variable {P:Program} {f:FuncId} {vs:Array Value} {w:World} {k:K}
theorem retImp {R S : Pred} (h : Calls P f vs w (Ret k R)) (hi : ∀ v k', R v k' → S v k') : Calls P f vs w (Ret k S) := by
  refine Calls.mono h fun e w' he=>?_
  cases e with
  | returned v => obtain ⟨k', h1, h2, h3⟩ := he; exact ⟨k', h1, h2, hi _ _ h3⟩
  | panicked c=>exact he.elim
  | outgrown=>exact he.elim
end
end Go.Gb
namespace Go.Gb
variable {T:Tb}
theorem PIs.v {t:Tp} {l:List Pm} {x:HL T.S (valsP (.v t::l))} {u1 u2:Value} {vs:List Value} {k:K} (h:PIs (.v t::l) x u1 u2 vs k) : ∃ v ws,vs = v::ws∧IsV (α:=T.D t) (hdH x) v k∧PIs l (tlH x) u1 u2 ws k:=by
  cases vs with
  | nil=>exact h.elim
  | cons v ws=>exact ⟨v,ws,rfl,h.1,h.2⟩
theorem PIs.tu {l:List Pm} {x:HL T.S (valsP (.tu::l))} {u1 u2:Value} {vs:List Value} {k:K} (h:PIs (.tu::l) x u1 u2 vs k) : ∃ ws,vs = u1::ws∧PIs l x u1 u2 ws k:=by
  cases vs with
  | nil=>exact h.elim
  | cons v ws=>exact ⟨ws,by rw [h.1],h.2⟩
theorem PIs.tk {l:List Pm} {x:HL T.S (valsP (.tk::l))} {u1 u2:Value} {vs:List Value} {k:K} (h:PIs (.tk::l) x u1 u2 vs k) : ∃ ws,vs = u2::ws∧PIs l x u1 u2 ws k:=by
  cases vs with
  | nil=>exact h.elim
  | cons v ws=>exact ⟨ws,by rw [h.1],h.2⟩
theorem PIs.fn {g:Nat} {l:List Pm} {x:HL T.S (valsP (.fn g::l))} {u1 u2:Value} {vs:List Value} {k:K} (h:PIs (.fn g::l) x u1 u2 vs k) : ∃ ws,vs = .func (.func g) #[] #[]::ws∧PIs l x u1 u2 ws k:=by
  cases vs with
  | nil=>exact h.elim
  | cons v ws=>exact ⟨ws,by rw [h.1],h.2⟩
theorem PIs.nil {x:HL T.S (valsP [])} {u1 u2:Value} {vs:List Value} {k:K} (h:PIs [] x u1 u2 vs k):vs = []:=by
  cases vs with
  | nil=>rfl
  | cons v ws=>exact h.elim
end Go.Gb

/- General part of the proofs: what a program tells of its own regions (no program in sight). -/
namespace Go.Gb

/-- as chkL; moves of the first part may be late too -/
def chkM (n m:Nat) (late ord:List Nat) (A:Array Oper) (es:List Ent):Bool:=
  chkS n m A.toList es && Region.noSelect A && chkLate A (Array.replicate A.size false) late && late.all (fun l=>decide (l < A.size)) &&
  allI (fun j _=>decide (j < m) || late.contains j || (List.range m).all fun i=>late.contains i || hasBit (masks A.toList []) j i) 0 A.toList &&
  chkT A (fullL A m late) ord && ((fullL A m late).toList.filter (· = false)).length == ord.length && decide late.Nodup &&
  late.all (fun l=>late.all fun l'=>(mvOf A l).2 != (mvOf A l').1 && (l == l' || (mvOf A l).1 != (mvOf A l').1)) && late.all (fun l=>decide ((mvOf A l).1 < n)) &&
  late.all fun l=>match nth es l with | some e=>e.need.all fun x=>x.1 != (mvOf A l).1 | none=>true
section
variable {P:Program} {a0:Act} {k0:K} {es:List Ent}
theorem any_mid {A:Array Oper} {n m:Nat} {late ord:List Nat} {Q:Exit → Act → World → Prop} (hn:a0.tmps.size = n) (hchk:chkM n m late ord A es = true)
    (hst:Steps P es a0 k0 (A.toList.take m) es) (hQ:LetsOut Q) (hQp : ∀ c a w,¬ Q (.panic c) a w) (hQo : ∀ a w,¬ Q .outgrown a w)
    (hpost : ∀ a k,Inv A.toList es a0 k0 (· < m) a k → wpOps P A Q ord a k.w) :
    ∀ (fuel:Nat) (listed:Array Bool) (a:Act) (k:K),listed.size = A.size → fuel = (listed.toList.filter (· = false)).length →
      (∀ l ∈ late,listed.getD l false = true) → (∀ j,listed.getD j false = true → j < m ∨ j ∈ late) → Inv A.toList es a0 k0 (fun j=>listed.getD j false = true∧j < m) a k → wpAny P .any A Q fuel listed a k.w:=by
  have hchk':=hchk
  simp only [chkM,Bool.and_eq_true,beq_iff_eq,decide_eq_true_eq] at hchk'
  obtain ⟨⟨⟨⟨⟨⟨⟨⟨⟨⟨hS,hnos⟩,hlate⟩,hlm⟩,htail⟩,hT⟩,hcnt⟩,hnd⟩,hsrc⟩,hdst⟩,hown⟩:=hchk'
  have hS':=hS
  simp only [chkS,Bool.and_eq_true,beq_iff_eq,decide_eq_true_eq] at hS'
  obtain ⟨⟨⟨⟨hlen,hml⟩,h2⟩,hedge⟩,hdist⟩:=hS'
  have hmA:m ≤ A.size:=by simpa using hml
  have hmv : ∀ l ∈ late,∃ o,A[l]? = some o∧o.after = #[]:=by
    have : ∀ (r:List Nat) (b:Array Bool),chkLate A b r = true → ∀ l ∈ r,isMv A l = true:=by
      intro r
      induction r with
      | nil=>intro b _ l hl; simp at hl
      | cons x r ih =>
        intro b hb l hl
        simp only [chkLate,Bool.and_eq_true] at hb
        rcases List.mem_cons.1 hl with rfl | hl
        · exact hb.1.1.1
        · exact ih _ hb.2 l hl
    intro l hl
    obtain ⟨o,ho,_,ha,_⟩:=isMv_spec (P:=P) (this late _ hlate l hl)
    exact ⟨o,ho,ha⟩
  intro fuel
  induction fuel with
  | zero =>
    intro listed a k hls hf hL hDm hinv
    have hall : ∀ j,j < A.size → listed.getD j false = true:=by
      intro j hj
      have hz:=List.eq_nil_of_length_eq_zero hf.symm
      have:listed[j]'(by omega) ∉ listed.toList.filter (· = false):=by rw [hz]; simp
      simp only [List.mem_filter,Array.mem_toList_iff,Array.getElem_mem,true_and,decide_eq_true_eq,Bool.not_eq_false] at this
      simp [Array.getD_eq_getD_getElem?,Array.getElem?_eq_getElem (show j < listed.size by omega),this]
    have hfl:listed = fullL A m late:=by
      refine Array.ext (by simp [fullL,hls]) fun j h1 h2=>?_
      have h3:=hall j (by omega)
      have h4:=hDm j h3
      have h5:listed[j] = true:=by simpa [Array.getD_eq_getD_getElem?,Array.getElem?_eq_getElem h1] using h3
      rw [h5]
      simp only [fullL,Array.getElem_map,Array.getElem_range]
      simpa using h4
    have hinv' : Inv A.toList es a0 k0 (· < m) a k:=by
      have he:(fun j=>listed.getD j false = true∧j < m) = (· < m):=funext fun j=>propext ⟨fun h=>h.2,fun h=>⟨hall j (by omega),h⟩⟩
      rw [he] at hinv; exact hinv
    have h0:ord.length = 0:=by rw [← hcnt,← hfl]; exact hf.symm
    have:=tail_ord hnos hQp hQo ord listed a k.w (by rw [hfl]; exact hT) (hpost a k hinv')
    rw [h0] at this
    exact this
  | succ fuel ih =>
    intro listed a k hls hf hL hDm hinv
    by_cases hfull : ∀ j,j < m → listed.getD j false = true
    · have hfl : listed = fullL A m late := by
        refine Array.ext (by simp [fullL,hls]) fun j h1 h2=>?_
        have hg:listed.getD j false = listed[j]:=by simp [Array.getD_eq_getD_getElem?,Array.getElem?_eq_getElem h1]
        have e:(fullL A m late)[j] = (decide (j < m) || late.contains j):=by simp [fullL]
        rw [e,← hg,Bool.eq_iff_iff]
        simp only [Bool.or_eq_true,decide_eq_true_eq,List.contains_iff_mem]
        exact ⟨hDm j,fun h=>h.elim (hfull j) (hL j)⟩
      have hinv' : Inv A.toList es a0 k0 (· < m) a k:=by
        have he:(fun j=>listed.getD j false = true∧j < m) = (· < m):=funext fun j=>propext ⟨fun h=>h.2,fun h=>⟨hfull j h,h⟩⟩
        rw [he] at hinv; exact hinv
      have h0:ord.length = fuel + 1:=by rw [← hcnt,← hfl]; exact hf.symm
      have:=tail_ord hnos hQp hQo ord listed a k.w (by rw [hfl]; exact hT) (hpost a k hinv')
      rw [h0] at this
      exact this
    · have hex : ∃ j, j < m ∧ listed.getD j false = false ∧ ∀ i, i < j → listed.getD i false = true := by
        obtain ⟨j,hj⟩:=Classical.not_forall.1 hfull
        have hj:j < m∧listed.getD j false = false:=by
          by_cases h:j < m
          · exact ⟨h,by cases hb:listed.getD j false with | false=>rfl | true=>exact absurd (fun _=>hb) hj⟩
          · exact absurd (fun h'=>absurd h' h) hj
        clear hfull
        induction j using Nat.strongRecOn with
        | _ j ihj =>
          by_cases hall : ∀ i,i < j → listed.getD i false = true
          · exact ⟨j,hj.1,hj.2,hall⟩
          · obtain ⟨i, hi⟩ := Classical.not_forall.1 hall
            obtain ⟨hij,hib⟩:i < j∧¬ listed.getD i false = true:=⟨Classical.byContradiction fun h=>hi fun h'=>absurd h' h,fun h=>hi fun _=>h⟩
            exact ihj i hij (fun h=>absurd (h (by omega)) hib) ⟨by omega,by simpa using hib⟩
      have hT2 : ∀ j,j < A.size → listed.getD j true = listed.getD j false:=by
        intro j hj; simp [Array.getD_eq_getD_getElem?,Array.getElem?_eq_getElem (show j < listed.size by omega)]
      have hbind : ∀ j,j < A.size → ((A[j]?).map (·.after.all fun e=>!Region.binds .any e || listed.getD e.on false)).getD false = true →
          ∀ o,nth A.toList j = some o → ∀ e ∈ binding o,listed.getD e false = true:=by
        intro j hjA hj2 o ho e he
        have hA:A[j]? = some o:=by rw [← nth_toList]; exact ho
        rw [hA] at hj2
        simp only [Option.map_some,Option.getD_some,Array.all_eq_true_iff_forall_mem] at hj2
        simp only [binding,List.mem_map,List.mem_filter,Array.mem_toList_iff] at he
        obtain ⟨y,⟨hy,hyb⟩,rfl⟩:=he
        have:=hj2 y hy
        simpa only [hyb,Bool.not_true,Bool.false_or] using this
      have hclosed : ∀ x o', nth A.toList x = some o' → listed.getD x false = true → ∀ e ∈ binding o', listed.getD e false = true := by
        intro x o' ho' hx e he
        rcases hDm x hx with h | h
        · exact (hinv.closed x o' ho' ⟨hx,h⟩ e he).1
        · obtain ⟨o2, h1, h2⟩ := hmv x h
          rw [nth_toList,h1,Option.some.injEq] at ho'
          subst ho'
          simp [binding,h2] at he
      refine ⟨fun hnil=>?_,fun i hi=>?_⟩
      · exfalso
        obtain ⟨j,hjm,hjb,hlow⟩:=hex
        have hjr:j ∈ Region.ready .any A listed:=by
          simp only [Region.ready,List.mem_filter,List.mem_range,Bool.and_eq_true,Bool.not_eq_true']
          refine ⟨by omega,by rw [hT2 j (by omega)]; exact hjb,?_⟩
          have hA:A[j]? = some A[j]:=by simp [show j < A.size by omega]
          rw [hA]
          simp only [Option.map_some,Option.getD_some,Array.all_eq_true_iff_forall_mem]
          intro y hy
          cases hyb:Region.binds .any y with
          | false=>rfl
          | true =>
            simp only [Bool.not_true,Bool.false_or]
            have ho:nth A.toList j = some A[j]:=by rw [nth_toList]; exact hA
            have:=allI_spec hedge j _ ho
            simp only [Nat.zero_add,List.all_eq_true,decide_eq_true_eq] at this
            exact hlow _ (this y.on (by simp only [binding,List.mem_map,List.mem_filter,Array.mem_toList_iff]; exact ⟨y,⟨hy,hyb⟩,rfl⟩))
        rw [hnil] at hjr; simp at hjr
      · simp only [Region.ready, List.mem_filter, List.mem_range, Bool.and_eq_true, Bool.not_eq_true'] at hi
        obtain ⟨hiA,hi1,hi2⟩:=hi
        rw [hT2 i hiA] at hi1
        have ho:nth A.toList i = some A[i]:=by rw [nth_toList]; simp [hiA]
        have hb:=hbind i hiA hi2 _ ho
        have him:i < m:=by
          rcases Nat.lt_or_ge i m with h | h
          · exact h
          · exfalso
            have hnl:i ∉ late:=fun hl=>by rw [hL i hl] at hi1; simp at hi1
            have hc:=allI_spec htail i _ ho
            simp only [Nat.zero_add,Bool.or_eq_true,decide_eq_true_eq,List.contains_iff_mem] at hc
            have hc:=(hc.resolve_left (fun h'=>h'.elim (fun h''=>by omega) hnl))
            obtain ⟨j,hjm,hjb,hlow⟩:=hex
            have hbit:=List.all_eq_true.1 hc j (by simp; omega)
            have hjl:late.contains j = false:=by
              cases hcj:late.contains j with
              | false=>rfl
              | true=>rw [hL j (by simpa using hcj)] at hjb; simp at hjb
            rw [hjl,Bool.false_or] at hbit
            have:=hasBit_spec (L:=A.toList) (D:=fun x=>listed.getD x false = true) hclosed (j:=i) (i:=j)
              (fun o' ho'=>hbind i hiA hi2 o' ho') hbit
            rw [this] at hjb; simp at hjb
        have hbm : ∀ e ∈ binding A[i],e < i:=by
          have:=allI_spec hedge i _ ho
          simp only [Nat.zero_add,List.all_eq_true,decide_eq_true_eq] at this
          exact this
        refine step_op hn hS hst hinv (fun j h=>h.2) ho him (fun j hj=>⟨hb j hj,by have:=hbm j hj; omega⟩) (fun h=>by rw [h.1] at hi1; simp at hi1) hQ fun a' k' hinv'=>?_
        refine ih _ a' k' (by simp [hls]) ?_ (fun l hl=>getD_set_true (hL l hl)) (fun j hj=>?_) ?_
        · have hil : i < listed.size := by omega
          have h0:listed[i] = false:=by simpa [Array.getD_eq_getD_getElem?,Array.getElem?_eq_getElem hil] using hi1
          have hsplit:listed.toList = listed.toList.take i ++ false::listed.toList.drop (i + 1):=by
            have h1:=List.take_append_drop i listed.toList
            have h2:listed.toList.drop i = listed.toList[i]'(by simpa using hil)::listed.toList.drop (i + 1):=List.drop_eq_getElem_cons (by simpa using hil)
            rw [Array.getElem_toList,h0] at h2
            exact (h1.symm.trans (by rw [h2]))
          have hset:(listed.setIfInBounds i true).toList = listed.toList.take i ++ true::listed.toList.drop (i + 1):=by
            rw [Array.toList_setIfInBounds,List.set_eq_take_append_cons_drop,if_pos (by simpa using hil)]
          rw [hset,List.filter_append,List.length_append]
          rw [hsplit,List.filter_append,List.length_append] at hf
          simp only [List.filter_cons] at hf ⊢
          simp at hf ⊢
          omega
        · by_cases hji : j = i
          · exact .inl (by omega)
          · rw [getD_set_ne _ (fun e=>hji e.symm)] at hj; exact hDm j hj
        · have he : (fun j => (listed.setIfInBounds i true).getD j false = true ∧ j < m) = (fun j => (listed.getD j false = true ∧ j < m) ∨ j = i) := by
            funext j
            by_cases hji:j = i
            · subst hji; simp [Array.getD_eq_getD_getElem?,show j < listed.size by omega,him]
            · rw [getD_set_ne _ (fun e=>hji e.symm)]; simp [hji]
          rw [he]; exact hinv'


/-- What is known when the operations in any order, and the moves, have run. -/
structure PostM (A:Array Oper) (es:List Ent) (m:Nat) (late:List Nat) (a0:Act) (k0:K) (a:Act) (k:K):Prop where
  grow:Grow k0 k
  size:a.tmps.size = a0.tmps.size
  defers:a.defers = a0.defers
  val : ∀ i d R nd,i < m → (nth A.toList i).bind (·.dst) = some d → nth es i = some ⟨some R,nd⟩ → R (a.get d) k
  old : ∀ t,allI (fun i o=>(decide (i ≥ m) && !late.contains i) || o.dst != some t) 0 A.toList = true → a.get t = a0.get t
  moved : ∀ l d s,late.contains l = true → m ≤ l → mvOf A l = (d,s) → a.get d = a0.get s

set_option maxHeartbeats 2000000 in
theorem region_mid {id:Nat} {A:Array Oper} {n m:Nat} {Q:Exit → Act → World → Prop} (es:List Ent) (late ord:List Nat) (hm:P.follows .mixedOrders = true)
    (hn:a0.tmps.size = n) (hchk:chkM n m late ord A es = true) (hst:Steps P es a0 k0 (A.toList.take m) es) (hQ:LetsOut Q)
    (hlo : ∀ l ∈ late,l < m → ∀ e,nth es l = some e → ∃ R,e.R = some R∧∀ k,Grow k0 k → R (a0.get (mvOf A l).2) k)
    (hpost : ∀ a k,PostM A es m late a0 k0 a k → wpOps P A (QN Q) ord a k.w):(Code.region id A true).wp P Q a0 k0.w:=by
  have hchk':=hchk
  simp only [chkM,Bool.and_eq_true,beq_iff_eq,decide_eq_true_eq] at hchk'
  obtain ⟨⟨⟨⟨⟨⟨⟨⟨⟨⟨hS,hnos⟩,hlate⟩,hlm⟩,htail⟩,hT⟩,hcnt⟩,hnd⟩,hsrc⟩,hdst⟩,hown⟩:=hchk'
  have hS':=hS
  simp only [chkS,Bool.and_eq_true,beq_iff_eq,decide_eq_true_eq] at hS'
  obtain ⟨⟨⟨⟨hlen,hml⟩,h2⟩,hedge⟩,hdist⟩:=hS'
  have hlm' : ∀ l ∈ late,l < A.size:=fun l hl=>by
    have:=List.all_eq_true.1 hlm l hl
    simpa using this
  have hdst' : ∀ l ∈ late,(mvOf A l).1 < n:=fun l hl=>by
    have:=List.all_eq_true.1 hdst l hl
    simpa using this
  have hsrc' : ∀ l ∈ late,∀ l' ∈ late,(mvOf A l).2 ≠ (mvOf A l').1∧(l = l' ∨ (mvOf A l).1 ≠ (mvOf A l').1):=fun l hl l' hl'=>by
    have:=List.all_eq_true.1 (List.all_eq_true.1 hsrc l hl) l' hl'
    simpa using this
  have hmv : ∀ l ∈ late,∃ o,A[l]? = some o∧o.after = #[]∧o.dst = some (mvOf A l).1:=by
    have : ∀ (r:List Nat) (b:Array Bool),chkLate A b r = true → ∀ l ∈ r,isMv A l = true:=by
      intro r
      induction r with
      | nil=>intro b _ l hl; simp at hl
      | cons x r ih =>
        intro b hb l hl
        simp only [chkLate,Bool.and_eq_true] at hb
        rcases List.mem_cons.1 hl with rfl | hl
        · exact hb.1.1.1
        · exact ih _ hb.2 l hl
    intro l hl
    obtain ⟨o,ho,_,ha,hd,_⟩:=isMv_spec (P:=P) (this late _ hlate l hl)
    exact ⟨o,ho,ha,hd⟩
  -- what no move writes
  have hbase : ∀ t,(∀ l ∈ late,(mvOf A l).1 ≠ t) → (lateAct A late a0).get t = a0.get t:=fun t ht=>lateAct_old (n:=n) late a0 hn hdst' ht
  have hst' : Steps P es (lateAct A late a0) k0 (A.toList.take m) es:=by
    refine steps_base (fun i o e ho he t ht=>hbase t fun l hl hd=>?_) hst
    have hi:i < m:=by
      have:=nth_lt ho
      simp only [List.length_take] at this
      omega
    obtain ⟨e', he', hc⟩ := chk2_spec h2 i o ho
    rw [he,Option.some.injEq] at he'
    subst he'
    simp only [chkOp,Bool.and_eq_true,Nat.zero_add] at hc
    have:=List.all_eq_true.1 hc.2 _ ht
    simp only at this
    obtain ⟨ol,hol,hal,hdl⟩:=hmv l hl
    have hnl:nth A.toList l = some ol:=by rw [nth_toList]; exact hol
    have h3:=allI_spec this l ol hnl
    simp only [Nat.zero_add,Bool.or_eq_true,bne_iff_ne,beq_iff_eq,hdl] at h3
    rcases h3 with (h3 | h3) | h3
    · exact h3 (by rw [hd])
    · subst h3
      have h5:=List.all_eq_true.1 hown l hl
      simp only [he,List.all_eq_true,bne_iff_ne] at h5
      exact h5 _ ht hd.symm
    · have hf := hasBit_spec (L := A.toList) (D := fun _ => False) (fun _ _ _ hx => hx.elim) (j := l) (i := i) (fun o' ho' e he => by
        rw [hnl,Option.some.injEq] at ho'
        subst ho'
        simp [binding,hal] at he) h3
      exact hf
  have hp : ∀ a k,Inv A.toList es (lateAct A late a0) k0 (· < m) a k → wpOps P A (QN Q) ord a k.w:=by
    intro a k hinv
    refine hpost a k ⟨hinv.grow,hinv.size.trans (lateAct_size late a0),hinv.defers.trans (lateAct_defers late a0),?_,?_,?_⟩
    · intro i d R nd him hd he
      cases ho:nth A.toList i with
      | none=>rw [ho] at hd; simp at hd
      | some o=>rw [ho] at hd; exact hinv.vals i o d _ him ho hd he
    · intro t ht
      rw [hinv.rest t ?_,hbase t ?_]
      · intro l hl hd
        obtain ⟨ol,hol,_,hdl⟩:=hmv l hl
        have:=allI_spec ht l ol (by rw [nth_toList]; exact hol)
        simp only [Nat.zero_add, Bool.or_eq_true, Bool.and_eq_true, decide_eq_true_eq, Bool.not_eq_true', bne_iff_ne, ne_eq, hdl] at this
        rcases this with h | h
        · exact absurd (List.contains_iff_mem.2 hl) (by rw [h.2]; simp)
        · exact h (by rw [hd])
      · intro i o hi ho hd
        have:=allI_spec ht i o ho
        simp only [Nat.zero_add,Bool.or_eq_true,Bool.and_eq_true,decide_eq_true_eq,bne_iff_ne,ne_eq] at this
        rcases this with h | h
        · omega
        · exact h hd
    · intro l d s hl hml hds
      have hlm2:=List.contains_iff_mem.1 hl
      obtain ⟨ol,hol,_,hdl⟩:=hmv l hlm2
      have hd:(mvOf A l).1 = d:=by rw [hds]
      have hs:(mvOf A l).2 = s:=by rw [hds]
      rw [hinv.rest d ?_,← hd,← hs,lateAct_new (n:=n) late a0 hn hdst' hnd hsrc' l hlm2]
      intro i o hi ho hod
      have:=allI_spec (allI_spec hdist i o ho) l ol (by rw [nth_toList]; exact hol)
      simp only [Nat.zero_add,Bool.or_eq_true,beq_iff_eq,bne_iff_ne,ne_eq] at this
      rcases this with (h | h) | h
      · omega
      · rw [hod] at h; simp at h
      · exact h (by rw [hod,hdl,hd])
  refine wp_mono (Q:=QN Q) ?_ (fun e a w h=>by cases e <;> first | exact h | exact h.elim)
  refine wp_region_any hm ?_
  let k1:K:=⟨{ k0.w with drawn:=k0.w.drawn + 1 },k0.sh,k0.lt⟩
  have hg:Grow k0 k1:=⟨rfl,rfl,rfl,Nat.le_refl _,fun _ _=>rfl,fun _ h=>h,fun _ _ h=>h,Nat.le_succ _⟩
  have hF : ∀ j,¬ (Array.replicate A.size false).getD j false = true:=by
    intro j hj; simp [Array.getD_eq_getD_getElem?,Array.getElem?_replicate] at hj; split at hj <;> simp at hj
  have hLg : ∀ j,(listL (Array.replicate A.size false) late).getD j false = true ↔ j ∈ late:=by
    intro j
    rw [listL_get late _ j (fun l hl=>by simpa using hlm' l hl)]
    exact ⟨fun h=>h.resolve_left (hF j),.inr⟩
  obtain ⟨fuel,hfuel⟩ : ∃ f,f = ((listL (Array.replicate A.size false) late).toList.filter (· = false)).length:=⟨_,rfl⟩
  have hsum : ∀ (r:List Nat) (b:Array Bool),r.Nodup → (∀ l ∈ r,l < b.size∧b.getD l false = false) → ((listL b r).toList.filter (· = false)).length + r.length = (b.toList.filter (· = false)).length:=by
    intro r
    induction r with
    | nil=>intro b _ _; rfl
    | cons l r ih =>
      intro b hn hb
      obtain ⟨hx,hn'⟩:=List.nodup_cons.1 hn
      obtain ⟨hl,hlb⟩:=hb l List.mem_cons_self
      have ih:=ih (b.setIfInBounds l true) hn' fun l' hl'=>⟨by simpa using (hb l' (List.mem_cons_of_mem _ hl')).1,by rw [getD_set_ne _ (fun e:l = l'=>hx (by rw [e]; exact hl'))]; exact (hb l' (List.mem_cons_of_mem _ hl')).2⟩
      have h0:b[l] = false:=by simpa [Array.getD_eq_getD_getElem?,Array.getElem?_eq_getElem hl] using hlb
      have hsplit:b.toList = b.toList.take l ++ false::b.toList.drop (l + 1):=by
        have h1:=List.take_append_drop l b.toList
        have h2:b.toList.drop l = b.toList[l]'(by simpa using hl)::b.toList.drop (l + 1):=List.drop_eq_getElem_cons (by simpa using hl)
        rw [Array.getElem_toList,h0] at h2
        exact (h1.symm.trans (by rw [h2]))
      have hset:(b.setIfInBounds l true).toList = b.toList.take l ++ true::b.toList.drop (l + 1):=by
        rw [Array.toList_setIfInBounds,List.set_eq_take_append_cons_drop,if_pos (by simpa using hl)]
      rw [listL]
      rw [hset,List.filter_append,List.length_append] at ih
      rw [hsplit,List.filter_append,List.length_append]
      simp only [List.filter_cons] at ih ⊢
      simp at ih ⊢
      omega
  have hs:=hsum late (Array.replicate A.size false) hnd fun l hl=>⟨by simpa using hlm' l hl,by simpa using hF l⟩
  have hsz:A.size = fuel + late.length:=by rw [hfuel,hs]; simp
  have hbig:=take_late (P:=P) (A:=A) (Q:=QN Q) hnos (fun _ _ _ h=>h) late (Array.replicate A.size false) a0 k1.w fuel hlate ?_
  · rw [← hsz] at hbig; exact hbig
  refine any_mid (by rw [lateAct_size]; exact hn) hchk hst' trivial (fun _ _ _ h=>h) (fun _ _ h=>h) hp fuel _ _ k1 (by rw [listL_size]; simp) hfuel (fun l hl=>(hLg l).2 hl) (fun j hj=>.inr ((hLg j).1 hj)) ?_
  refine ⟨hg,rfl,rfl,fun i o d e hi ho hd he=>?_,fun _ _=>rfl,fun j o ho hj x hx=>?_,fun i hi=>by simpa using hlm' i ((hLg i).1 hi.1)⟩
  · have hl := (hLg i).1 hi.1
    obtain ⟨ol,hol,_,hdl⟩:=hmv i hl
    rw [nth_toList,hol,Option.some.injEq] at ho
    subst ho
    rw [hdl,Option.some.injEq] at hd
    subst hd
    obtain ⟨R,hR,hk⟩:=hlo i hl hi.2 e he
    rw [hR,lateAct_new (n:=n) late a0 hn hdst' hnd hsrc' i hl]
    exact hk k1 hg
  · obtain ⟨ol, hol, hal, _⟩ := hmv j ((hLg j).1 hj.1)
    rw [nth_toList,hol,Option.some.injEq] at ho
    subst ho
    simp [binding,hal] at hx
end

section
variable {T:Tb} {n:Nat} {F:FP} {k0:K} {W:List Nat} {a0:Act} {e:Env T} {a a' : Act} {k k' : K}
/-- are these slots free? -/
def topsE (D:List Nat) (e:Env T):Bool:=D.all fun t=>match lk e t with | .top=>true | _=>false
theorem topsE_at {D:List Nat} (h:topsE D e = true) {t:Nat} (ht:t ∈ D):lk e t = .top:=by
  have:=List.all_eq_true.1 h t ht
  cases hl:lk e t <;> rw [hl] at this <;> first | rfl | simp at this
/-- Behind a region: a slot holds something else, which takes over its blocks; what the slots D hold is forgotten. -/
theorem Hl.redo (h:Hl n F k0 W a0 e a k) {s:Nat} {av:AV T} {G:FP} {D:List Nat} (hD:topsE D e = true) (hW : ∀ t ∈ D,t ∈ W) (hsW:s ∈ W ∨ a'.get s = a.get s) (c:Chg G k k')
    (hG : ∀ b,G b → unl (lk e s) = true∧(lk e s).fp (a.get s) k b) (hs:a'.tmps.size = a.tmps.size) (hd:a'.defers = a.defers) (ho : ∀ t,t ∉ D → t ≠ s → a'.get t = a.get t)
    (hv:av.is a' (a'.get s) k') (hm : ∀ t,av.ment t = false) (hf : ∀ b,av.fp (a'.get s) k' b → (unl (lk e s) = true∧(lk e s).fp (a.get s) k b) ∨ k.w.heap.size ≤ b) :
    Hl n F k0 W a0 ((s,av)::mapE (klA s) e) a' k':=by
  have lks:lk ((s,av)::mapE (klA s) e) s = av:=by rw [lk_cons,if_pos rfl]
  have lkt : ∀ t,t ≠ s → lk ((s,av)::mapE (klA s) e) t = klA s (lk e t):=fun t ht=>by rw [lk_cons,if_neg (Ne.symm ht),lk_mapE rfl]
  have top : ∀ t ∈ D,t ≠ s → lk ((s,av)::mapE (klA s) e) t = .top:=fun t ht hne=>by rw [lkt t hne,topsE_at hD ht]; rfl
  refine h.multi (fun t=>t = s ∨ t ∈ D) c (fun b hb=>⟨s,.inl rfl,hG b hb⟩) hs hd (fun t ht=>?_) (fun t ht=>ho t (fun h=>ht (.inr h)) fun h=>ht (.inl h)) (fun t ht=>?_) (fun t ht u=>?_) (fun t ht hu b hb=>?_) (fun t ht b hb=>?_) (fun t u ht hu hne=>?_) (fun t ht=>?_) (fun t ht hr=>?_)
  · by_cases hts : t = s
    · subst hts; exact hsW.resolve_left ht
    · exact ho t (fun hd=>ht (hW t hd)) hts
  · by_cases hts : t = s
    · subst hts; rw [lks]; exact hv
    · rw [top t (ht.resolve_left hts) hts]; trivial
  · by_cases hts : t = s
    · subst hts; rw [lks]; exact hm u
    · rw [top t (ht.resolve_left hts) hts]; rfl
  · by_cases hts : t = s
    · subst hts; rw [lks] at hb
      exact (hf b hb).elim (fun h=>.inr (.inl ⟨t,.inl rfl,h⟩)) fun h=>.inr (.inr h)
    · rw [top t (ht.resolve_left hts) hts] at hb; exact hb.elim
  · by_cases hts : t = s
    · subst hts; rw [lks] at hb
      exact (hf b hb).elim (fun h=>.inl ⟨t,.inl rfl,h.2⟩) .inr
    · rw [top t (ht.resolve_left hts) hts] at hb; exact hb.elim
  · intro b hb hb'
    by_cases hts:t = s
    · have hus : u ≠ s := fun e => hne (hts.trans e.symm)
      rw [top u (hu.resolve_left hus) hus] at hb'; exact hb'
    · rw [top t (ht.resolve_left hts) hts] at hb; exact hb
  · have hts : t ≠ s := fun h => ht (.inl h)
    rw [lkt t hts]
    rcases klA_or s (lk e t) with e1 | e1
    · refine .inr ⟨e1, fun u hu hS => ?_⟩
      rcases hS with rfl | hS
      · rw [← e1] at hu; exact absurd rfl (klA_ment hu).2
      · have := h.inv t u hu
        rw [topsE_at hD hS] at this
        simp [isRes] at this
    · exact .inl e1
  · have hts : t ≠ s := fun h => ht (.inl h)
    rw [lkt t hts,klA_res hr]
end

section
variable {P:Program} {o:Oper} {a:Act} {k:K} {α:Type} [Enc α] {b:Nat} {all hs:List (Hole α)} {x:α} {F G:FP} {v:Value}
theorem Box.cells_eq {cs cs' : List Value} {n:Nat} (h:Box b (⟨cs⟩:RawC n) k) (h' : Box b (⟨cs'⟩:RawC n) k):cs = cs':=by
  obtain ⟨_,arr,t,hh,e,_⟩:=h
  obtain ⟨_, arr', t', hh', e', _⟩ := h'
  rw [hh] at hh'
  simp only [Option.some.injEq,Obj.cells.injEq] at hh'
  obtain ⟨rfl,_⟩:=hh'
  exact (show arr.toList = cs from e).symm.trans e'
omit [Enc α] in
theorem Owns.one {cs:List Value} {y:α} : ∀ {l:List (Hole α)} {F G:FP},Owns cs x k l F → Owns cs y k l G → F = G
  | [],_,_,h,h'=>(show _ = noF from h).trans (show _ = noF from h').symm
  | _ :: _, _, _, ⟨w, H, h0, _, h2, _, e⟩, ⟨w', H', h0', _, h2', _, e'⟩ => by
    rw [h0] at h0'
    obtain rfl:=Option.some.inj h0'
    rw [e, e', h2.one h2']
/-- the blocks of such a box -/
theorem BoxH.one {b b' : Nat} {y:α} (h:BoxH b all hs x F v k) (h' : BoxH b' all hs y G v k):F = G:=by
  obtain ⟨e,cs,H,hb,_,ho,_,eF⟩:=h
  obtain ⟨e', cs', H', hb', _, ho', _, eG⟩ := h'
  rw [e] at e'
  have e' : b = b':=by simpa using e'
  subst e'
  obtain rfl:=hb.cells_eq hb'
  rw [eF,eG,ho.one ho']
theorem Handed.trans {k k1 k2:K} {F G:FP} (c1:Handed k k1 F) (c2:Handed k1 k2 G) (h : ∀ b,G b → F b):Handed k k2 F:=
  ⟨c2.w.trans c1.w,⟨fun b hb=>(c2.le.blk b (c1.le.up b hb)).trans (c1.le.blk b hb),fun b hb=>c2.le.up b (c1.le.up b hb)⟩,fun b hb=>(c2.sh b hb).elim (c1.sh b) fun hb=>.inr (h b hb)⟩
/-- .. handed over as a whole -/
theorem BoxH.ref (h:BoxH b all hs x F v k) (hc:CloseOk x all) (hm : ∀ g ∈ all,g ∈ hs) : ∃ k' : K,Handed k k' F∧IsRef x v k':=by
  obtain ⟨k1,c1,h1⟩:=h.close hc hm
  obtain ⟨k2,c2,h2⟩:=h1.give
  exact ⟨k2,c1.trans c2 h.sub,by rw [h.ptr]; exact h2⟩
end

theorem Rsc.ex {ι:Type} {R:ι → FP → Pred} (h : ∀ i,Rsc (R i)):Rsc (fun F v k=>∃ i,R i F v k):=
  ⟨fun ⟨i,h1⟩ c ha hn=>⟨i,(h i).keep h1 c ha hn⟩,fun ⟨i,h1⟩ c ha=>⟨i,(h i).handed h1 c ha⟩,fun ⟨i,h1⟩=>(h i).lt h1,fun ⟨i,h1⟩=>(h i).nsh h1⟩
section
variable {T:Tb} {e:Env T} {n:Nat} {F:FP} {k0:K} {W:List Nat} {a0 a:Act} {k:K}
/-- what a slot points to -/
def refAt (e:Env T) (s:Nat) (t:Tp):Option (T.D t):=match lk e s with
  | .ref u x=>cast? u t x
  | _=>none
end
end Go.Gb


