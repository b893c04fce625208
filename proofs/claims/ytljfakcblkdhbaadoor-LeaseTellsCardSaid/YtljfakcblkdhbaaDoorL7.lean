/- The general part of the proofs (no program in sight): worlds with shared blocks, regions, operations, calls, loops, what comes in as data, part 7 -/
import Derived.Test.YtljfakcblkdhbaaDoorL6
set_option linter.unusedVariables false
set_option linter.unusedSimpArgs false
/- General part of the proofs: regions with one call that turns a thing, and a box that is made at any time. -/
namespace Go.Gb
set_option linter.unusedVariables false
variable {T:Tb} {R:Type}
/-- What lasts while what is a call's own is written to. -/
def Lasts (R:Pred):Prop:=∀ {v:Value} {k k' : K} {G:FP},R v k → Chg G k k' → (∀ b,G b → ¬ k.sh b) → R v k'
theorem persA_lasts {a:Act} {av:AV T} (h:persA av = true):Lasts (av.is a):=fun {v k k' G} hv c hn=>by
  have hr:isRes av = false:=by cases av <;> first | rfl | simp [persA,isRes] at h
  have h2 : ∀ s,av.ment2 s = false:=fun s=>by cases av <;> first | rfl | simp [persA] at h
  exact av.keep c hn (fun b hb=>absurd hb (fp_nonres hr _ _ b)) (fun s hs=>by rw [h2] at hs; cases hs) hv
section
variable {C:Cx T} {n:Nat} {F:FP} {kk:K} {W:List Nat} {aa:Act} {e0:Env T} {a0:Act}
/-- What is known of an operation that writes to nothing: number i, behind pl. -/
def StepP (C:Cx T) (hp:Option Nat) (n:Nat) (F:FP) (kk:K) (W:List Nat) (aa:Act) (e0:Env T) (a0:Act) (es:List Ent) (pl:List Oper) (i:Nat) (o:Oper):Prop:=
  o.guard = none∧∃ d,o.dst = some d∧((isHid hp o d = true∧nth es i = some ⟨some (fun _ _=>True),needOf pl o⟩) ∨ isHid hp o d = false∧∃ R,nth es i = some ⟨some R,needOf pl o⟩∧Lasts R∧∀ a k,Hl n F kk W aa e0 a0 k → Known es a0 a k (needOf pl o) → Does C.P o a k R)
theorem evP_ok (hC:CxOk C) {hp:Option Nat} : ∀ {l pre:List Oper} {es:List Ent} {e:Env T} {K:Env T → Option R} {r:R},evP C hp l e K = some r → P1 e0 a0 pre es e →
    ∃ (es1:List Ent) (e' : Env T),es1.length = l.length∧K e' = some r∧P1 e0 a0 (pre ++ l) (es ++ es1) e'∧∀ es' j o,nth l j = some o → StepP C hp n F kk W aa e0 a0 (es ++ (es1 ++ es')) (pre ++ l.take j) (pre.length + j) o
  | [],pre,es,e,K,r,h,p=>⟨[],e,rfl,h,by simpa using p,fun _ j o hj=>by simp [nth] at hj⟩
  | o :: l, pre, es, e, K, r, h, p => by
    simp only [evP] at h
    split at h
    rotate_left
    · simp at h
    rename_i d hg hd
    cases hrd:isRes (lk e d) with
    | true=>rw [hrd] at h; simp at h
    | false=>
    rw [hrd] at h
    simp only [cond_false] at h
    -- one more entry
    have more : ∀ {av : AV T} {R' : Pred}, evP C hp l ((d, av) :: e) K = some r → P1 e0 a0 (pre ++ [o]) (es ++ [⟨some R', needOf pre o⟩]) ((d, av) :: e) →
        (∀ es', StepP C hp n F kk W aa e0 a0 (es ++ (⟨some R', needOf pre o⟩ :: es')) pre pre.length o) →
        ∃ (es1 : List Ent) (e' : Env T), es1.length = (o :: l).length ∧ K e' = some r ∧ P1 e0 a0 (pre ++ o :: l) (es ++ es1) e' ∧ ∀ es' j o', nth (o :: l) j = some o' → StepP C hp n F kk W aa e0 a0 (es ++ (es1 ++ es')) (pre ++ (o :: l).take j) (pre.length + j) o' := by
      intro av R' hk p' hs
      obtain ⟨es1, e', h1, h2, h3, h4⟩ := evP_ok hC (hp := hp) (l := l) (pre := pre ++ [o]) hk p'
      refine ⟨⟨some R', needOf pre o⟩ :: es1, e', by simp [h1], h2, by simpa using h3, fun es' j o' hj => ?_⟩
      cases j with
      | zero =>
        simp only [nth,Option.some.injEq] at hj
        subst hj
        simpa using hs (es1 ++ es')
      | succ j =>
        have:=h4 es' j o' (by simpa [nth] using hj)
        simpa [Nat.add_assoc,Nat.add_comm 1 j] using this
    cases hh:isHid hp o d with
    | true =>
      rw [hh] at h
      simp only [cond_true] at h
      exact more h (p.push (R':=fun _ _=>True) hd hrd (fun s hs=>by simp [AV.ment] at hs) rfl (fun _ _ _=>trivial)) fun es'=>⟨hg,d,hd,.inl ⟨hh,by rw [← p.len]; exact nth_at⟩⟩
    | false =>
      rw [hh] at h
      simp only [cond_false] at h
      cases hm:isMut C e o with
      | true=>rw [hm] at h; simp at h
      | false=>
      rw [hm] at h
      simp only [cond_false] at h
      obtain ⟨av,hk,hgv⟩:=step1_ok hC p.inv h
      obtain ⟨hpa,hk⟩:=bif_some hk
      refine more hk (p.push (R':=av.is a0) hd hrd hgv.1 hgv.2.1 (fun _ _ h=>h)) fun es'=>⟨hg,d,hd,.inr ⟨hh,av.is a0,?_,persA_lasts hpa,fun a k hl hkn=>?_⟩⟩
      · rw [← p.len]; exact nth_at
      · exact hgv.2.2 a0 a k (p.rd1 hl (Grow.refl k) hkn)
theorem P1.hide {pre:List Oper} {es:List Ent} {e:Env T} (p:P1 e0 a0 pre es e) {s:Nat} (hs:lastIdx s pre 0 none = none):P1 ((s,.top)::mapE (klA s) e0) a0 pre es ((s,.top)::mapE (klA s) e):=by
  have lkt : ∀ (e:Env T) t,lk ((s,AV.top)::mapE (klA s) e) t = if s = t then .top else klA s (lk e t):=fun e t=>by rw [lk_cons,lk_mapE rfl]
  refine ⟨p.len,fun t=>?_,fun t ht=>?_,fun t u hu=>?_⟩
  · have := p.slot t
    rw [lkt,lkt]
    by_cases hst:s = t
    · subst hst; rw [hs]; rw [if_pos rfl,if_pos rfl]
    · rw [if_neg hst, if_neg hst]
      split
      · rename_i j hj
        rw [hj] at this
        obtain ⟨Rr,nd,h1,h2⟩:=this
        refine ⟨Rr,nd,h1,?_⟩
        rcases klA_or s (lk e t) with e1 | e1
        · rw [e1]; exact h2
        · exact .inl e1
      · rename_i hj
        rw [hj] at this
        rw [show lk e t = lk e0 t from this]
  · rw [lkt] at ht
    split at ht
    · simp [isRes] at ht
    · refine p.res t ?_
      rcases klA_or s (lk e t) with e1 | e1
      · rw [← e1]; exact ht
      · rw [e1] at ht; simp [isRes] at ht
  · rw [lkt] at hu
    split at hu
    · simp [AV.ment] at hu
    · obtain ⟨h1, h2⟩ := klA_ment hu
      rw [lkt,if_neg (Ne.symm h2),klA_res (p.inv t u h1)]
      exact p.inv t u h1
theorem P1.push0 {pre:List Oper} {es:List Ent} {e:Env T} {o:Oper} {x:Ent} (p:P1 e0 a0 pre es e) (hd:o.dst = none):P1 e0 a0 (pre ++ [o]) (es ++ [x]) e:=by
  have hl : ∀ t,lastIdx t (pre ++ [o]) 0 none = lastIdx t pre 0 none:=fun t=>by rw [lastIdx_snoc,hd]; simp
  refine ⟨by simp [p.len],fun t=>?_,fun t ht=>by rw [hl]; exact p.res t ht,p.inv⟩
  rw [hl]
  have:=p.slot t
  split
  · rename_i j hj
    rw [hj] at this
    obtain ⟨Rr,nd,h1,h2⟩:=this
    exact ⟨Rr,nd,nth_app h1,h2⟩
  · rename_i hj
    rw [hj] at this; exact this
theorem known_ofX {xs:List EntL} {es:List Ent} {a:Act} {k:K} (hx : ∀ j R nd,nth es j = some ⟨some R,nd⟩ → ∃ e,nth xs j = some e∧∀ F v k,e.R F v k → R v k) :
    ∀ {l:List (Nat × Option Nat)},KnownL xs a0 a k l → Known es a0 a k l
  | [],_=>trivial
  | (t,none)::l,h=>⟨h.1,known_ofX hx h.2⟩
  | (t, some j) :: l, h => by
    refine ⟨?_,known_ofX hx h.2⟩
    cases hj:nth es j with
    | none=>trivial
    | some x =>
      obtain ⟨Rr,nd⟩:=x
      cases Rr with
      | none=>trivial
      | some Rr =>
        obtain ⟨e,he,hR⟩:=hx j Rr nd hj
        have h1:=h.1
        rw [he] at h1
        obtain ⟨F,h1⟩:=h1
        exact hR F _ _ h1
theorem knownL_app {xs:List EntL} {a:Act} {k:K} : ∀ {l m:List (Nat × Option Nat)},KnownL xs a0 a k (l ++ m) → KnownL xs a0 a k l∧KnownL xs a0 a k m
  | [],m,h=>⟨trivial,h⟩
  | (t,none)::l,m,h=>⟨⟨h.1,(knownL_app h.2).1⟩,(knownL_app h.2).2⟩
  | (t,some j)::l,m,h=>⟨⟨h.1,(knownL_app h.2).1⟩,(knownL_app h.2).2⟩
theorem callAt_spec : ∀ {l:List Oper} {i mc:Nat} {f:FuncId} {d:FnR T} {as_:List Operand} {dc:Nat},callAt C l i = some (mc,f,d,as_,dc) → i ≤ mc∧∃ o c,nth l (mc - i) = some o∧o.op = .call c∧c.callee = .value (.func f)∧rdep C.rdeps f = some d∧c.args.toList = as_∧o.dst = some dc∧o.guard = none
  | [],_,_,_,_,_,_,h=>by simp [callAt] at h
  | o :: l, i, mc, f, d, as_, dc, h => by
    have rest:callAt C l (i + 1) = some (mc,f,d,as_,dc) → i ≤ mc∧∃ o' c,nth (o::l) (mc - i) = some o'∧o'.op = .call c∧c.callee = .value (.func f)∧rdep C.rdeps f = some d∧c.args.toList = as_∧o'.dst = some dc∧o'.guard = none:=fun h=>by
      obtain ⟨h1, o', c, h2, h3⟩ := callAt_spec h
      exact ⟨by omega, o', c, by rw [show mc - i = (mc - (i + 1)) + 1 by omega]; exact h2, h3⟩
    simp only [callAt] at h
    split at h
    · rename_i c dc' hop hd hg
      split at h
      · rename_i f' hf'
        split at h
        · rename_i d' hd'
          simp only [Option.some.injEq,Prod.mk.injEq] at h
          obtain ⟨rfl,rfl,rfl,rfl,rfl⟩:=h
          exact ⟨Nat.le_refl _, o, c, by simp [nth], hop, hf', hd', rfl, hd, hg⟩
        · exact rest h
      · exact rest h
    · exact rest h
end
section
variable {C:Cx T} {F:FP} {k0:K} {W:List Nat} {a0:Act} {A:Array Oper}
theorem nth_take' {α:Type} {l:List α} {m j:Nat} (h:j < m):nth (l.take m) j = nth l j:=by
  rw [nth_eq,nth_eq,List.getElem?_take,if_pos h]
theorem nth_drop' {α:Type} {l:List α} {m j:Nat}:nth (l.drop m) j = nth l (m + j):=by
  rw [nth_eq,nth_eq,List.getElem?_drop]
theorem take_mid {α:Type} (l:List α) {m M j:Nat} (h:m + j ≤ M):l.take m ++ ((l.take M).drop m).take j = l.take (m + j):=by
  rw [List.drop_take,List.take_take,Nat.min_eq_left (by omega),List.take_add]
theorem nilR_is {κ:Rk} {z:κ.D T} (h:nilR κ = some z) {v:Value} {k:K}:κ.is z v k∧κ.fp T v k = noF:=by
  cases κ <;> first | exact ⟨trivial,rfl⟩ | simp [nilR] at h
/-- a call that turns a thing that is there -/
theorem doesL_turn (hC:CxOk C) {o:Oper} {a a0:Act} {k:K} {f:FuncId} {d:FnR T} {as_:List Operand} {u u2:Value} {x:HL T.S (valsP d.pm)} {y:d.tu.D T} {z:d.tk.D T} {q:d.ρ} {dc:Nat} {G:FP}
    (hd:FnROk C.P f d) (hdst:o.dst = some dc) (hdc:dc < a.tmps.size) (hg:o.guard = none) (hx:(execOp a.eval o).run C.P k.w = .ok (.enter f (as_.map a.eval).toArray) k.w) (hGO:GOk T k)
    (hp:PIs d.pm x u u2 (as_.map a.eval) k) (hy:d.tu.is y u k) (hz:nilR d.tk = some z) (hG:G = d.tu.fp T u k) (hr:d.run x y z = some q) (hro:isN d.ro = true) :
    DoesL C.P o a k G (fun F v k=>(resV d.cod (d.inj q).2.2).is a0 v k∧d.tu.is (d.inj q).1 u k∧F = d.tu.fp T u k) dc:=by
  intro next Q hQ hn
  have hzf:=nilR_is (T:=T) hz (v:=u2) (k:=k)
  have hcall:=hd.ok k (as_.map a.eval) u u2 x y z q hGO hp hy hzf.1 (fun b _ hb=>by rw [hzf.2] at hb; exact hb) hr
  refine wp_of_tail hg (tail_enter (A:=#[o]) (i:=0) rfl hg hx (fun d' hd'=>by rw [hdst] at hd'; rw [← Option.some.inj hd']; exact hdc) hcall fun a' k' v hsz hdf hoth hnew hch hpost=>?_)
  have hput:a' = a.put o.dst v:=by
    rw [hdst]
    cases a' with | mk tm df=>
    cases a with | mk tm0 df0=>
    simp only at hsz hdf
    subst hdf
    simp only [Act.put,Act.mk.injEq,and_true]
    refine Array.ext (by simpa using hsz) fun i hi1 hi2=>?_
    by_cases hid:i = dc
    · subst hid
      have:=hnew i hdst
      simp only [Act.get,Array.getD_eq_getD_getElem?] at this
      rw [Array.getElem?_eq_getElem hi1] at this
      simp only [Option.getD_some] at this
      rw [this]; simp
    · have := hoth i (fun h => hid (by rw [hdst] at h; exact (Option.some.inj h).symm))
      simp only [Act.get,Array.getD_eq_getD_getElem?] at this
      simp at hi2
      rw [Array.getElem?_eq_getElem hi1,Array.getElem?_eq_getElem hi2] at this
      simp only [Option.getD_some] at this
      rw [this,Array.getElem_setIfInBounds_ne _ (fun e=>hid e.symm)]
  show wpOps C.P #[o] _ [] a' k'.w
  simp only [wpOps]
  have eF:(fun b=>d.tu.fp T u k b ∨ d.tk.fp T u2 k b) = G:=by
    rw [hG,hzf.2]; funext b; exact propext ⟨fun h=>h.elim id False.elim,.inl⟩
  rw [eF] at hch hpost
  have key:=hn v k' (d.tu.fp T u k') hch hpost.w1 ⟨?_,hpost.tu,rfl⟩
  · rw [hput]; exact key
  · rw [put_d hdst hdc]
    have:=hpost.res
    have eR:resR d.ro d.cod (d.inj q).2.1 (d.inj q).2.2 = resV d.cod (d.inj q).2.2:=by unfold resR; rw [hro]; rfl
    rw [eR] at this
    exact is_act (fun s=>resV_ment) this
theorem rscX_call {κ:Rk} {y:κ.D T} {u:Value} {S:Pred} (hS:Lasts S):RscX (fun F v k=>S v k∧κ.is y u k∧F = κ.fp T u k) where
  keep:=fun {F G v k k'} ⟨hs,h,e⟩ c ha hn=>by
    obtain ⟨h1,h2⟩:=Rk.keep h c hn (by rw [← e]; exact ha)
    exact ⟨hS hs c hn,h1,by rw [h2]; exact e⟩
  lt:=fun {F v k} ⟨_,h,e⟩ b hb=>Rk.lt h b (by rw [← e]; exact hb)
theorem resV_lasts {l:List Tp} {x:HL T.S l} {a:Act}:Lasts ((resV l x).is a):=persA_lasts (by
  match l,x with
  | [],_=>rfl
  | [t],x=>show persA (mkv t x) = true; cases t <;> rfl
  | _::_::_,_=>rfl)
theorem unal_is {a a' : Act} {av:AV T} {v:Value} {k:K} (h:av.is a v k):(unal av).is a' v k∧isRes (unal av) = false∧∀ s,(unal av).ment s = false:=by
  cases av <;> first | exact ⟨trivial,rfl,fun _=>rfl⟩ | exact ⟨h,rfl,fun _=>rfl⟩
theorem lk_dstE {e3:Env T} {t:Nat} : ∀ {l:List Oper} {e:Env T},((∃ o ∈ l,o.dst = some t)∧lk (dstE e3 l e) t = unal (lk e3 t)) ∨ ((∀ o ∈ l,o.dst ≠ some t)∧lk (dstE e3 l e) t = lk e t)
  | [],e=>.inr ⟨fun _ h=>by simp at h,rfl⟩
  | o :: l, e => by
    simp only [dstE]
    cases hd:o.dst with
    | none =>
      rcases lk_dstE (e3 := e3) (t := t) (l := l) (e := e) with ⟨⟨o', h1, h2⟩, h3⟩ | ⟨h1, h3⟩
      · exact .inl ⟨⟨o', by simp [h1], h2⟩, h3⟩
      · exact .inr ⟨fun o' ho'=>by
          rcases List.mem_cons.1 ho' with rfl | ho'
          · rw [hd]; simp
          · exact h1 o' ho', h3⟩
    | some d =>
      dsimp only
      rw [lk_cons]
      by_cases hdt:d = t
      · subst hdt
        exact .inl ⟨⟨o,by simp,hd⟩,if_pos rfl⟩
      · rw [if_neg hdt]
        rcases lk_dstE (e3 := e3) (t := t) (l := l) (e := e) with ⟨⟨o', h1, h2⟩, h3⟩ | ⟨h1, h3⟩
        · exact .inl ⟨⟨o', by simp [h1], h2⟩, h3⟩
        · exact .inr ⟨fun o' ho'=>by
            rcases List.mem_cons.1 ho' with rfl | ho'
            · rw [hd]; exact fun h=>hdt (Option.some.inj h)
            · exact h1 o' ho', h3⟩
theorem ins_lk {e:Env T} {s t:Nat} (h:e.all (fun p=>!(p.2.ins s)) = true):(lk e t).ment2 s = false:=by
  have e1 : ∀ av:AV T,av.ment2 s = av.ins s:=fun av=>by cases av <;> rfl
  rw [e1]
  induction e with
  | nil=>rfl
  | cons p e ih =>
    obtain ⟨s', x⟩ := p
    simp only [List.all_cons,Bool.and_eq_true,Bool.not_eq_true'] at h
    rw [lk_cons]
    split
    · exact h.1
    · exact ih (by simpa using h.2)
theorem slotC_spec {e:Env T} {d:FnR T} {as_:List Operand} {s:Nat} (h:slotC e d as_ = some s) : ∀ x,resArg false d.pm as_ = some x → resSlot e x = some s:=by
  intro x hx
  unfold slotC at h
  rw [hx] at h
  exact h
theorem opk_slot {e:Env T} {a a1:Act} {k:K} {x:Operand} {s:Nat} (h:resSlot e x = some s) (ho:Opk e a a1 k x):a1.eval x = a.get s:=by
  unfold resSlot at h
  cases x with
  | tmp t =>
    obtain ⟨h1,h2⟩:=ho
    dsimp only at h
    generalize hl:lk e t = av at h h1 h2
    cases av with
    | al s' =>
      obtain rfl:=Option.some.inj h
      exact h1
    | own _ _ _ _=>obtain rfl:=Option.some.inj h; exact h2 rfl
    | box _ _ _=>obtain rfl:=Option.some.inj h; exact h2 rfl
    | rs _ _ _=>obtain rfl:=Option.some.inj h; exact h2 rfl
    | tr _ _ _ _=>obtain rfl:=Option.some.inj h; exact h2 rfl
    | _=>simp at h
  | _=>simp at h
theorem takeR_av {κ:Rk} {av:AV T} {y:κ.D T} (h:takeR κ av = some y) (hn:isN κ = false) (hu:unl av = true):av = κ.av y:=by
  cases κ with
  | n=>simp [isN] at hn
  | o e t =>
    cases av with
    | own l e' u xs =>
      cases l with
      | true=>simp [unl] at hu
      | false =>
        simp only [takeR] at h
        cases hb:Nat.beq e e' with
        | false=>rw [hb] at h; simp at h
        | true =>
          rw [hb] at h
          obtain rfl:=Nat.eq_of_beq_eq_true hb
          obtain ⟨e1,e2⟩:=cast?_eq (by simpa using h)
          cases e1
          subst e2
          rfl
    | _=>first | (exfalso; simp [unl] at hu; done) | (exfalso; simp [takeR] at h; done)
  | b t =>
    cases av with
    | box l u x =>
      cases l with
      | true=>simp [unl] at hu
      | false =>
        simp only [takeR] at h
        obtain ⟨rfl,rfl⟩:=cast?_eq h
        rfl
    | _=>first | (exfalso; simp [unl] at hu; done) | (exfalso; simp [takeR] at h; done)
  | c m =>
    cases av with
    | rs l m' x =>
      cases l with
      | true=>simp [unl] at hu
      | false =>
        simp only [takeR] at h
        split at h
        · rename_i hm _
          obtain rfl:=hm.down
          obtain rfl:=Option.some.inj h
          rfl
        · simp at h
    | _=>first | (exfalso; simp [unl] at hu; done) | (exfalso; simp [takeR] at h; done)
theorem stAt_spec' : ∀ {l:List Oper} {i m:Nat} {o:Oper},stAt l i = some (m,o) → i ≤ m∧nth l (m - i) = some o
  | [],_,_,_,h=>by simp [stAt] at h
  | x :: l, i, m, o, h => by
    simp only [stAt] at h
    split at h
    · simp only [Option.some.injEq, Prod.mk.injEq] at h
      obtain ⟨rfl,rfl⟩:=h
      exact ⟨Nat.le_refl _,by simp [nth]⟩
    · obtain ⟨h1, h2⟩ := stAt_spec' h
      exact ⟨by omega,by rw [show m - i = (m - (i + 1)) + 1 by omega]; exact h2⟩
theorem evC_ok (hC:CxOk C) {id:Nat} {e:Env T} {a:Act} {k:K} {Kc:Env T → Option R} {r:R} {Q:Exit → Act → World → Prop} (hW : ∀ o ∈ A.toList,∀ d,o.dst = some d → d ∈ W) (h:Hl C.n F k0 W a0 e a k) (hk:evC C A.toList e Kc = some r)
    (hQ : ∀ e' a' k', Kc e' = some r → Hl C.n F k0 W a0 e' a' k' → Q .normal a' k'.w) : (Code.region id A true).wp C.P Q a k.w := by
  generalize hops:A.toList = ops at hk hW
  unfold evC at hk
  split at hk
  rotate_left
  · simp at hk
  rename_i mc f d as_ dc ms os hca hst
  split at hk
  rotate_left
  · simp at hk
  rename_i ty pt y hop hdst hgd
  split at hk
  rotate_left
  · simp at hk
  rename_i ma hma
  split at hk
  rotate_left
  · simp at hk
  rename_i oa hoa
  split at hk
  rotate_left
  · simp at hk
  rename_i tya hoop hoag
  split at hk
  rotate_left
  · simp at hk
  rename_i t htid
  have p0:P1 e a [] [] e:=⟨rfl,fun t=>rfl,fun t _=>rfl,h.inv⟩
  obtain ⟨es1,e1,l1,hk,p1,st1⟩:=evP_ok hC (n:=C.n) (F:=F) (kk:=k0) (W:=W) (aa:=a0) (e0:=e) (a0:=a) hk p0
  split at hk
  rotate_left
  · simp at hk
  rename_i s hsl
  split at hk
  rotate_left
  · simp at hk
  rename_i y0 z x hy0 hz0 hx0
  obtain ⟨hchk,hk⟩:=bif_some hk
  simp only [Bool.and_eq_true,Bool.not_eq_true'] at hchk
  obtain ⟨⟨⟨⟨⟨⟨⟨⟨⟨⟨⟨⟨⟨hX,huq⟩,hntk⟩,hro⟩,htu⟩,hunl⟩,hnd⟩,honly⟩,hmcma⟩,hmams⟩,hzB⟩,htyB⟩,hfree⟩,hins⟩:=hchk
  rw [Nat.blt_eq] at hmcma hmams
  obtain ⟨q,hq,hk⟩:=bind_some hk
  rw [mapK_eq] at hk
  -- the operations
  obtain ⟨_,oc,c,hoc,hocop,hcal,hdep,hargs,hdc,hocg⟩:=callAt_spec hca
  rw [Nat.sub_zero] at hoc
  obtain ⟨_,hos⟩:=stAt_spec' hst
  rw [Nat.sub_zero] at hos
  have hN:ops.length = A.size:=by rw [← hops]; simp
  have hmcN:=nth_lt hoc
  have hmsN:=nth_lt hos
  have hmaN:=nth_lt hoa
  have hoad:oa.dst = some pt:=by
    rcases lastIdx_spec hma with h1 | ⟨o,_,h1,h2⟩
    · simp at h1
    · rw [Nat.sub_zero, nth_take' hmams, hoa] at h1
      rw [Option.some.inj h1]; exact h2
  have nds : ∀ i o,nth ops i = some o → o.dst ≠ some s:=notDst_spec hnd
  have ndl : ∀ m,lastIdx s (ops.take m) 0 none = none:=fun m=>notDst_last (rest:=ops.drop m) (by rw [List.take_append_drop]; exact hnd)
  have honly' : ∀ i o,i ≠ ma → nth ops i = some o → o.dst ≠ some pt:=fun i o hi ho hd=>by
    have:=allI_spec honly i o ho
    simp only [Nat.zero_add,hd,Bool.or_eq_true] at this
    rcases this with h1 | h1
    · exact hi (Nat.eq_of_beq_eq_true h1)
    · simp [Nat.beq_refl] at h1
  have hres0 : ∀ i o dd,nth ops i = some o → o.dst = some dd → isRes (lk e dd) = false:=fun i o dd ho hd=>by
    rw [nth_eq] at ho
    have:=List.all_eq_true.1 hfree o (List.mem_of_getElem? ho)
    rw [hd] at this
    simpa using this
  have tk1 : ∀ {m:Nat} {o:Oper},nth ops m = some o → ops.take m ++ [o] = ops.take (m + 1):=fun {m o} ho=>by
    rw [List.take_add_one,← nth_eq,ho]; rfl
  -- the environments
  generalize he0:(s,AV.top)::mapE (klA s) e = e0h
  have p1h:P1 e0h a (ops.take mc) es1 ((s,.top)::mapE (klA s) e1):=by
    rw [← he0]
    have:=p1.hide (s:=s) (by simpa using ndl mc)
    simpa using this
  have hrdc:isRes (lk ((s,AV.top)::mapE (klA s) e1) dc) = false:=by
    cases hh:isRes (lk ((s,AV.top)::mapE (klA s) e1) dc) with
    | false=>rfl
    | true =>
      have:=p1h.res0 hh
      rw [← he0,lk_cons] at this
      split at this
      · simp [isRes] at this
      · rw [lk_mapE rfl] at this
        have h2:=hres0 mc oc dc hoc hdc
        rcases klA_or s (lk e dc) with e2 | e2
        · rw [e2,h2] at this; cases this
        · rw [e2] at this; simp [isRes] at this
  have pc:=p1h.push (o:=oc) (R':=(resV d.cod (d.inj q).2.2).is a) (nd:=needOf (ops.take mc) oc) hdc hrdc (av:=resV d.cod (d.inj q).2.2) (fun s hs=>by rw [resV_ment] at hs; simp at hs) resV_nonres (fun _ _ h=>h)
  rw [tk1 hoc] at pc
  obtain ⟨es2,e2,l2,hk,p2,st2⟩:=evP_ok hC (n:=C.n) (F:=F) (kk:=k0) (W:=W) (aa:=a0) (e0:=e0h) (a0:=a) hk pc
  have hmid:ops.take (mc + 1) ++ (ops.take ms).drop (mc + 1) = ops.take ms:=by
    have:ops.take (mc + 1) = (ops.take ms).take (mc + 1):=by rw [List.take_take,Nat.min_eq_left (by omega)]
    rw [this,List.take_append_drop]
  rw [hmid] at p2
  split at hk
  rotate_left
  · simp at hk
  rename_i w hw
  have p3:=p2.push0 (o:=os) (x:=⟨none,[]⟩) hdst
  rw [tk1 hos] at p3
  obtain ⟨es3,e3,l3,hk,p4,st3⟩:=evP_ok hC (n:=C.n) (F:=F) (kk:=k0) (W:=W) (aa:=a0) (e0:=e0h) (a0:=a) hk p3
  rw [List.take_append_drop] at p4
  generalize hec:(⟨some ((resV d.cod (d.inj q).2.2).is a),needOf (ops.take mc) oc⟩:Ent) = ec at *
  obtain ⟨esA,hesA⟩ : ∃ x,x = es1 ++ (ec::(es2 ++ (⟨none,[]⟩::es3))):=⟨_,rfl⟩
  have eA:es1 ++ [ec] ++ es2 ++ [⟨none,[]⟩] ++ es3 = esA:=by rw [hesA]; simp
  rw [eA] at p4
  have lA:esA.length = ops.length:=by rw [p4.len]
  have l1' : es1.length = mc:=by rw [l1]; simp; omega
  have l2' : es2.length = ms - (mc + 1):=by rw [l2]; simp; omega
  have hAmc:nth esA mc = some ec:=by rw [hesA,← l1']; exact nth_at
  have hAms:nth esA ms = some ⟨none,[]⟩:=by
    have:esA = (es1 ++ [ec] ++ es2) ++ (⟨none,[]⟩::es3):=by rw [hesA]; simp
    rw [this,show ms = (es1 ++ [ec] ++ es2).length by simp; omega]; exact nth_at
  have s1 : ∀ i o,i < mc → nth ops i = some o → StepP C none C.n F k0 W a0 e a esA (ops.take i) i o:=fun i o hi ho=>by
    have:=st1 (ec::(es2 ++ (⟨none,[]⟩::es3))) i o (by rw [nth_take' hi]; exact ho)
    rw [List.take_take,Nat.min_eq_left (by omega)] at this
    simpa [hesA] using this
  have s2 : ∀ i o,mc < i → i < ms → nth ops i = some o → StepP C (some pt) C.n F k0 W a0 e0h a esA (ops.take i) i o:=fun i o h1 h2 ho=>by
    have := st2 (⟨none, []⟩ :: es3) (i - (mc + 1)) o (by rw [nth_drop', nth_take' (by omega), show mc + 1 + (i - (mc + 1)) = i by omega]; exact ho)
    rw [take_mid _ (by omega),show mc + 1 + (i - (mc + 1)) = i by omega,show (ops.take (mc + 1)).length + (i - (mc + 1)) = i by rw [List.length_take,Nat.min_eq_left (by omega)]; omega] at this
    simpa [hesA] using this
  have s3 : ∀ i o,ms < i → nth ops i = some o → StepP C none C.n F k0 W a0 e0h a esA (ops.take i) i o:=fun i o h1 ho=>by
    have hi:=nth_lt ho
    have := st3 [] (i - (ms + 1)) o (by rw [nth_drop', show ms + 1 + (i - (ms + 1)) = i by omega]; exact ho)
    rw [← List.take_add,show ms + 1 + (i - (ms + 1)) = i by omega,show (ops.take (ms + 1)).length + (i - (ms + 1)) = i by rw [List.length_take,Nat.min_eq_left (by omega)]; omega] at this
    simpa [hesA] using this
  -- the thing that is turned
  obtain ⟨u,hu⟩ : ∃ u,u = a.get s:=⟨_,rfl⟩
  have hyis:=takeR_is hy0 (h.sl s) (unl_res hunl)
  rw [← hu] at hyis
  obtain ⟨hy1,hfp⟩:=hyis
  obtain ⟨hfp,_⟩:=hfp htu
  obtain ⟨F0,hF0⟩ : ∃ G,G = d.tu.fp T u k:=⟨_,rfl⟩
  have hF0b : ∀ b,F0 b → (lk e s).fp (a.get s) k b:=fun b hb=>by rw [← hu,← hfp,← hF0]; exact hb
  have hF0n : ∀ b,F0 b → ¬ k.sh b:=fun b hb=>(h.lt s b (hF0b b hb)).2
  -- what is told of the operations
  let R0:FP → Pred:=fun F _ k=>(d.tu.is y0 u k∧F = d.tu.fp T u k)∧F = F0
  let Rc:FP → Pred:=fun F v k=>(resV d.cod (d.inj q).2.2).is a v k∧d.tu.is (d.inj q).1 u k∧F = d.tu.fp T u k
  let Rp:Nat → Pred:=fun j=>match nth esA j with | some ⟨some R,_⟩=>R | _=>fun _ _=>False
  let Rx:Nat → FP → Pred:=fun j=>if j = mc then Rc else if j = ms then BoxR w else if j = ma then BoxR (T.dflt t) else PlainR (Rp j)
  let N:=ops.length
  let mk:Nat → EntL:=fun j=>⟨Rx j,(shapeX N s mc ms ma pt ops j).vs,(shapeX N s mc ms ma pt ops j).need,(shapeX N s mc ms ma pt ops j).cons⟩
  let xs:List EntL:=(List.range N).map mk ++ [⟨R0,s,[],[]⟩]
  have hsh:xs.map EntL.sh = shapesX N s mc ms ma pt ops:=by
    simp only [xs,shapesX,List.map_append,List.map_map,List.map_cons,List.map_nil]
    rfl
  have hnx : ∀ j,j < N → nth xs j = some (mk j):=fun j hj=>by
    rw [nth_eq,List.getElem?_append_left (by simpa using hj),List.getElem?_map,List.getElem?_range hj]; rfl
  have hnN:nth xs A.size = some ⟨R0,s,[],[]⟩:=by
    rw [← hN]
    have:((List.range N).map mk).length = ops.length:=by simp [N]
    rw [← this]; exact nth_at
  have hvs : ∀ j o dd,nth ops j = some o → o.dst = some dd → (mk j).vs = dd:=fun j o dd ho hd=>by
    show (shapeX N s mc ms ma pt ops j).vs = dd
    unfold shapeX; rw [ho]; dsimp only; rw [hd]
  have hneed : ∀ j o,nth ops j = some o → (mk j).need = (s,none)::((bif Nat.blt j mc then [(s,some N)] else []) ++ needOf (ops.take j) o):=fun j o ho=>by
    show (shapeX N s mc ms ma pt ops j).need = _
    unfold shapeX; rw [ho]
  have hcons : ∀ j o,nth ops j = some o → (mk j).cons = bif Nat.beq j mc then [N] else bif Nat.beq j ms then [ma] else []:=fun j o ho=>by
    show (shapeX N s mc ms ma pt ops j).cons = _
    unfold shapeX; rw [ho]
  have hkx : ∀ j Rr nd,nth esA j = some ⟨some Rr,nd⟩ → ∃ x,nth xs j = some x∧∀ F v k,x.R F v k → Rr v k:=fun j Rr nd hj=>by
    have hjN:j < N:=by have:=nth_lt hj; omega
    refine ⟨mk j,hnx j hjN,fun G v k' hR=>?_⟩
    have hR:Rx j G v k':=hR
    simp only [Rx] at hR
    by_cases h1:j = mc
    · rw [if_pos h1] at hR
      rw [h1,hAmc,← hec] at hj
      injection hj with hj; injection hj with hj _; injection hj with hj
      rw [← hj]; exact hR.1
    · rw [if_neg h1] at hR
      by_cases h2:j = ms
      · rw [h2,hAms] at hj; simp at hj
      · rw [if_neg h2] at hR
        by_cases h3:j = ma
        · obtain ⟨_, d', hd', h4⟩ := s2 ma oa hmcma hmams hoa
          rcases h4 with ⟨_,h5⟩ | ⟨h5,_⟩
          · rw [h3, h5] at hj
            injection hj with hj; injection hj with hj _; injection hj with hj
            rw [← hj]; trivial
          · rw [hoad] at hd'
            obtain rfl:=Option.some.inj hd'
            unfold isHid at h5
            rw [hoop] at h5
            simp at h5
        · rw [if_neg h3] at hR
          have:=hR.2
          simp only [Rp,hj] at this
          exact this
  have hdn : ∀ i o dd,nth ops i = some o → o.dst = some dd → dd < C.n:=fun i o dd ho hd=>by
    obtain ⟨ee,_,hc⟩:=chkXs_spec hX i o ho
    simp only [chkXo,hd,Bool.and_eq_true,decide_eq_true_eq] at hc
    exact hc.1.1.1.2.1.1.1
  -- the environments in later worlds
  have hlE : ∀ k1,Chg F0 k k1 → d.tu.is y0 u k1 → d.tu.fp T u k1 = F0 → Hl C.n F k0 W a0 e a k1:=fun k1 c hy hyf=>by
    have hsl2:lk e s = d.tu.av y0:=takeR_av hy0 htu hunl
    have hav : ∀ k,(lk e s).is a (a.get s) k ↔ d.tu.is y0 u k:=fun k=>by rw [hsl2,← hu]; exact Rk.av_is htu
    have hfp' : (lk e s).fp (a.get s) k1 = d.tu.fp T u k1:=by rw [hsl2,← hu]; exact Rk.av_fp htu
    have hfpe:d.tu.fp T u k1 = d.tu.fp T u k:=hyf.trans hF0
    refine h.multi (fun t=>t = s) c (fun b hb=>⟨s,rfl,hunl,hF0b b hb⟩) rfl rfl (fun _ _=>rfl) (fun _ _=>rfl) (fun t ht=>by subst ht; exact (hav k1).2 hy) (fun t ht u=>by subst ht; rw [hsl2]; exact Rk.av_ment)
      (fun t ht _ b hb=>?_) (fun t ht b hb=>?_) (fun t u ht hu hne=>absurd (ht.trans hu.symm) hne) (fun t ht=>.inr ⟨rfl,fun s' hs' he=>?_⟩) (fun _ _ _=>rfl)
    · subst ht
      rw [hfp', hfpe, hfp, hu] at hb
      exact .inr (.inl ⟨t,rfl,hunl,hb⟩)
    · subst ht
      rw [hfp', hfpe, hfp, hu] at hb
      exact .inl ⟨t,rfl,hb⟩
    · subst he
      exact ⟨rfl,unl_res hunl,ins_lk hins⟩
  have hlH : ∀ k1,Chg F0 k k1 → Hl C.n F k0 W a0 e0h a k1:=fun k1 c=>by
    rw [← he0]; exact h.lose hunl c hF0b
  have hcxn:GOk T k:=h.gl
  -- what an operation that writes to nothing does
  have plain : ∀ (i : Nat) (o : Oper) (hp : Option Nat) (eb : Env T), nth ops i = some o → i ≠ mc → i ≠ ms → i ≠ ma → StepP C hp C.n F k0 W a0 eb a esA (ops.take i) i o → (∀ d', o.dst = some d' → isHid hp o d' = false) →
      (∀ k1,Chg F0 k k1 → (i < mc → d.tu.is y0 u k1∧d.tu.fp T u k1 = F0) → Hl C.n F k0 W a0 eb a k1) → ObX C.P xs a k F0 o (mk i):=by
    intro i o hp eb ho h1 h2 h3 hs hhid hl
    obtain ⟨hg, d', hd', hs⟩ := hs
    rcases hs with ⟨hs,_⟩ | ⟨_,Rr,hR,hlast,hdo⟩
    · rw [hhid d' hd'] at hs; cases hs
    have hRx:(mk i).R = PlainR Rr:=by
      show Rx i = _
      simp only [Rx]
      rw [if_neg h1,if_neg h2,if_neg h3]
      simp only [Rp,hR]
    refine ⟨by rw [hRx]; exact rscX_plain hlast,fun a1 k1 G hsz hch hkn htk=>?_⟩
    rw [hneed i o ho] at hkn
    obtain ⟨_,hkn⟩:=hkn
    obtain ⟨hk1,hk2⟩:=knownL_app hkn
    rw [hcons i o ho,beq_ne h1,cond_false,beq_ne h2,cond_false] at htk
    obtain rfl:=taken0 htk
    rw [hRx,hvs i o d' ho hd']
    refine doesL_plain hd' (by rw [hsz,h.s]; exact hdn i o d' ho hd') (hdo a1 k1 (hl k1 hch fun hi=>?_) (known_ofX hkx hk2))
    rw [show Nat.blt i mc = true from by rw [Nat.blt_eq]; exact hi,cond_true] at hk1
    have hk1:=hk1.1
    rw [show nth xs N = some ⟨R0,s,[],[]⟩ by rw [← hnN,← hN]] at hk1
    obtain ⟨G', ⟨hy, hf⟩, hG'⟩ := hk1
    exact ⟨hy,by rw [← hf,hG']⟩
  have hstep : ∀ i o x,nth A.toList i = some o → nth xs i = some x → ObX C.P xs a k F0 o x:=by
    rw [hops]
    intro i o x' ho hx'
    have hiN:=nth_lt ho
    rw [hnx i hiN] at hx'
    obtain rfl:=Option.some.inj hx'
    by_cases h1:i = mc
    · -- the call
      subst h1
      rw [hoc] at ho
      obtain rfl:=Option.some.inj ho
      have hRx:(mk i).R = Rc:=by show Rx i = _; simp only [Rx]; rw [if_pos trivial]
      refine ⟨by rw [hRx]; exact rscX_call resV_lasts,fun a1 k1 G hsz hch hkn htk=>?_⟩
      rw [hneed i oc hoc] at hkn
      obtain ⟨_,hkn⟩:=hkn
      obtain ⟨_,hk2⟩:=knownL_app hkn
      rw [hcons i oc hoc,Nat.beq_refl,cond_true] at htk
      have htk:=taken1 htk (show nth xs N = some ⟨R0,s,[],[]⟩ by rw [← hnN,← hN])
      obtain ⟨⟨hyk,hGf⟩,hG0⟩:(d.tu.is y0 u k1∧G = d.tu.fp T u k1)∧G = F0:=htk
      have hl1:=hlE k1 hch hyk (by rw [← hGf,hG0])
      have hp1:P1 e a (ops.take i) es1 e1:=by simpa using p1
      have hkn1:Known (es1 ++ (ec::(es2 ++ (⟨none,[]⟩::es3)))) a a1 k1 (needOf (ops.take i) oc):=by rw [← hesA]; exact known_ofX hkx hk2
      have rd:=hp1.rd1 hl1 (Grow.refl k1) hkn1
      rw [hRx,hvs i oc dc hoc hdc]
      have hf:=hC.rdeps f d hdep
      have hop1 : ∀ y ∈ as_,Opk e1 a a1 k1 y:=fun y hy=>rd.op y (by
        rw [hocop]
        obtain ⟨cal,cargs,cts⟩:=c
        dsimp only at hargs
        simp [Op.operands,Call.operands]
        exact .inr (by rw [← hargs] at hy; simpa using hy))
      refine doesL_turn hC (as_:=as_) (u2:=undef) (x:=x) (y:=y0) (z:=z) (q:=q) hf hdc (by rw [hsz,h.s]; exact hdn i oc dc hoc hdc) hocg ?_ rd.gl ?_ hyk hz0 hGf hq hro
      · obtain ⟨cal, cargs, cts⟩ := c
        dsimp only at hargs hcal
        subst hcal
        subst hargs
        simp [execOp,hocop,resolve,invoke,Deferred.ofValue,Act.eval,hf.call]
        apply Array.ext'; simp
      · refine argsP_is (opvF C e1) (b := a) _ _ _ hx0 huq (fun y hy => opvF_is hC (opv_is (hop1 y hy)) rd.gl) (fun y hy => ?_) (fun y hy => by rw [noP_arg hntk] at hy; cases hy)
        rw [hu]
        have hm : ∀ {l:List Pm} {xs:List Operand} {y:Operand},resArg false l xs = some y → y ∈ xs:=by
          intro l
          induction l with
          | nil=>intro xs y h; simp [resArg] at h
          | cons p l ih =>
            intro xs y h
            cases xs with
            | nil=>cases p <;> simp [resArg] at h
            | cons x xs =>
              cases p with
              | v t=>exact List.mem_cons_of_mem _ (ih h)
              | tu =>
                have h:some x = some y:=h
                rw [Option.some.inj h]; exact List.mem_cons_self
              | tk=>exact List.mem_cons_of_mem _ (ih h)
              | fn g=>exact List.mem_cons_of_mem _ (ih h)
        exact opk_slot (slotC_spec hsl y hy) (hop1 y (hm hy))
    by_cases h2:i = ms
    · -- the store
      subst h2
      rw [hos] at ho
      obtain rfl:=Option.some.inj ho
      have hRx:(mk i).R = BoxR w:=by show Rx i = _; simp only [Rx]; rw [if_neg h1,if_pos trivial]
      refine ⟨by rw [hRx]; exact inferInstance,fun a1 k1 G hsz hch hkn htk=>?_⟩
      rw [hneed i os hos] at hkn
      obtain ⟨_,hkn⟩:=hkn
      obtain ⟨_,hk2⟩:=knownL_app hkn
      rw [hcons i os hos,beq_ne h1,cond_false,Nat.beq_refl,cond_true] at htk
      have htk:=taken1 htk (hnx ma (by omega))
      have hvp:(mk ma).vs = pt:=hvs ma oa pt hoa hoad
      rw [hvp] at htk
      have hb:BoxR (T.dflt t) G (a1.get pt) k1:=by
        have e1:(mk ma).R = BoxR (T.dflt t):=by show Rx ma = _; simp only [Rx]; rw [if_neg (by omega),if_neg (by omega),if_pos trivial]
        rw [e1] at htk; exact htk
      have hkn1:Known ((es1 ++ [ec] ++ es2) ++ (⟨none,[]⟩::es3)) a a1 k1 (needOf (ops.take i) os):=by
        have:(es1 ++ [ec] ++ es2) ++ (⟨none,[]⟩::es3) = esA:=by rw [hesA]; simp
        rw [this]; exact known_ofX hkx hk2
      have rd:=p2.rd1 (hlH k1 hch) (Grow.refl k1) hkn1
      have hyv:IsV (α:=T.D t) w (a1.eval y) k1:=asT_is hw (opv_is (rd.op y (by rw [hop]; simp [Op.operands])))
      have hvs2:(mk i).vs = pt:=by
        show (shapeX N s mc i ma pt ops i).vs = pt
        unfold shapeX; rw [hos]; dsimp only; rw [hdst]
      rw [hRx,hvs2]
      exact doesL_store hdst hgd hop (tyB_sz htyB) hb hyv
    by_cases h3:i = ma
    · subst h3
      rw [hoa] at ho
      obtain rfl:=Option.some.inj ho
      have hRx:(mk i).R = BoxR (T.dflt t):=by show Rx i = _; simp only [Rx]; rw [if_neg h1,if_neg h2,if_pos trivial]
      refine ⟨by rw [hRx]; exact inferInstance,fun a1 k1 G hsz hch hkn htk=>?_⟩
      rw [hcons i oa hoa,beq_ne h1,cond_false,beq_ne h2,cond_false] at htk
      obtain rfl:=taken0 htk
      obtain ⟨_,zv,_,_,_,_,hrun,_,hv⟩:=zeroB_ok hzB
      rw [hRx,hvs i oa pt hoa hoad]
      exact doesL_box hoad (by rw [hsz,h.s]; exact hdn i oa pt hoa hoad) (ok_alloc k1.w.heap.size (Nat.le_refl _) hoop ⟨zv,hrun,hv⟩)
    have noh : ∀ {o' : Oper} {d' : Nat},isHid none o' d' = false:=fun {o' d'}=>rfl
    by_cases h4:i < mc
    · exact plain i o none e ho h1 h2 h3 (s1 i o h4 ho) (fun _ _=>rfl) fun k1 c hy=>hlE k1 c (hy h4).1 (hy h4).2
    by_cases h5:i < ms
    · refine plain i o (some pt) e0h ho h1 h2 h3 (s2 i o (by omega) h5 ho) (fun d' hd' => ?_) fun k1 c _ => hlH k1 c
      have hne : d' ≠ pt := fun e => honly' i o h3 ho (by rw [hd', e])
      cases hop' : o.op <;> simp only [isHid,hop'] <;> exact beq_ne (by first | exact hne | exact Ne.symm hne)
    · exact plain i o none e0h ho h1 h2 h3 (s3 i o (by omega) ho) (fun _ _=>rfl) fun k1 c _=>hlH k1 c
  have hX' : chkXs C.n A.size A.toList (xs.map EntL.sh) (masks A.toList []) 0 A.toList (xs.map EntL.sh) = true:=by
    rw [hsh,hops,← hN]; exact hX
  refine region_X (F0:=F0) xs hC.mix h.s hX' hstep trivial ⟨R0,s,[],[]⟩ hnN ?_ ⟨⟨hy1,hF0⟩,rfl⟩ fun Fs a' k' hp=>?_
  · exact ⟨fun {G G' v k1 k2} ⟨⟨h1,h2⟩,h3⟩ c ha hn=>by
      obtain ⟨g1,g2⟩:=Rk.keep h1 c hn (by rw [← h2]; exact ha)
      exact ⟨⟨g1,by rw [g2]; exact h2⟩,h3⟩,fun {G v k1} ⟨⟨h1,h2⟩,_⟩ b hb=>Rk.lt h1 b (by rw [← h2]; exact hb)⟩
  -- behind the region
  have unused : ∀ j,j ≠ ma → j ≠ N → xs.all (fun x=>!(x.cons.contains j)) = true:=fun j h1 h2=>by
    refine List.all_eq_true.2 fun x hx=>?_
    rcases List.mem_append.1 hx with hx | hx
    · obtain ⟨i, hi, rfl⟩ := List.mem_map.1 hx
      have hi:i < N:=List.mem_range.1 hi
      obtain ⟨o,ho⟩ : ∃ o,nth ops i = some o:=⟨_,by rw [nth_eq]; exact List.getElem?_eq_getElem hi⟩
      rw [hcons i o ho]
      cases Nat.beq i mc
      · cases Nat.beq i ms
        · rfl
        · simp [h1]
      · simp [h2]
    · obtain rfl:=List.mem_singleton.1 hx; rfl
  have old : ∀ t', (∀ o ∈ ops, o.dst ≠ some t') → a'.get t' = a.get t' := fun t' ht => hp.old t' (by
    rw [hops]; exact List.all_eq_true.2 fun o ho=>by simpa using ht o ho)
  have memN : ∀ {o:Oper},o ∈ ops → ∃ i,nth ops i = some o:=fun {o} ho=>by
    obtain ⟨i,hi,rfl⟩:=List.getElem_of_mem ho
    exact ⟨i,by rw [nth_eq]; exact List.getElem?_eq_getElem hi⟩
  have hsold:a'.get s = a.get s:=old s fun o ho=>by obtain ⟨i,hi⟩:=memN ho; exact nds i o hi
  have hptmem:oa ∈ ops:=by rw [nth_eq] at hoa; exact List.mem_of_getElem? hoa
  have hpts:pt ≠ s:=fun e=>nds ma oa hoa (by rw [hoad,e])
  have outc:Rc (Fs mc) (a'.get (mk mc).vs) k':=by
    have:=hp.out mc (mk mc) (hnx mc hmcN) (unused mc (by omega) (by show mc ≠ ops.length; omega))
    have e1:(mk mc).R = Rc:=by show Rx mc = _; simp only [Rx]; rw [if_pos trivial]
    rw [e1] at this; exact this
  have outs:BoxR w (Fs ms) (a'.get pt) k':=by
    have:=hp.out ms (mk ms) (hnx ms hmsN) (unused ms (by omega) (by show ms ≠ ops.length; omega))
    have e1:(mk ms).R = BoxR w:=by show Rx ms = _; simp only [Rx]; rw [if_neg (by omega),if_pos trivial]
    have e2:(mk ms).vs = pt:=by
      show (shapeX N s mc ms ma pt ops ms).vs = pt
      unfold shapeX; rw [hos]; dsimp only; rw [hdst]
    rw [e1,e2] at this; exact this
  obtain ⟨bx,hbp,hbF,hbB⟩:=outs
  obtain ⟨_,hq1,hqF⟩:=outc
  -- the slots of operations
  have slotv : ∀ t', t' ≠ pt → (∃ o ∈ ops, o.dst = some t') → (lk e3 t').is a (a'.get t') k' := fun t' hne ⟨o, ho, hd⟩ => by
    have h1:=p4.slot t'
    cases hl:lastIdx t' ops 0 none with
    | none=>exact absurd hd ((lastIdx_none hl).2 o ho)
    | some j =>
      rw [hl] at h1
      obtain ⟨Rr,nd,h2,h3⟩:=h1
      rcases h3 with h3 | ⟨R', rfl, h3⟩
      · rw [h3]; trivial
      · rcases lastIdx_spec hl with h4 | ⟨oj, _, h4, h5⟩
        · simp at h4
        · rw [Nat.sub_zero] at h4
          have hjN:=nth_lt h4
          have hjma:j ≠ ma:=fun e=>hne (by rw [e,hoa] at h4; rw [← Option.some.inj h4,hoad] at h5; exact (Option.some.inj h5).symm)
          obtain ⟨x', hx', hx2⟩ := hkx j R' nd h2
          rw [hnx j hjN] at hx'
          obtain rfl:=Option.some.inj hx'
          have:=hp.out j (mk j) (hnx j hjN) (unused j hjma (by show j ≠ ops.length; omega))
          rw [hvs j oj t' h4 h5] at this
          exact h3 _ _ (hx2 _ _ _ this)
  have lkE : ∀ t', lk ((pt, AV.box false t w) :: (s, d.tu.av (d.inj q).1) :: dstE e3 ops e) t' = if pt = t' then .box false t w else if s = t' then d.tu.av (d.inj q).1 else lk (dstE e3 ops e) t' := fun t' => by rw [lk_cons, lk_cons]
  generalize (pt,AV.box false t w)::(s,d.tu.av (d.inj q).1)::dstE e3 ops e = E at hk lkE
  have lkp:lk E pt = .box false t w:=by rw [lkE,if_pos rfl]
  have lks:lk E s = d.tu.av (d.inj q).1:=by rw [lkE,if_neg hpts,if_pos rfl]
  have cases3 : ∀ t', (t' = s ∨ ∃ o ∈ ops, o.dst = some t') → t' = pt ∨ t' = s ∨ ((∃ o ∈ ops, o.dst = some t') ∧ t' ≠ pt ∧ lk E t' = unal (lk e3 t')) := fun t' ht => by
    by_cases h1:t' = pt
    · exact .inl h1
    by_cases h2:t' = s
    · exact .inr (.inl h2)
    have ht:=ht.resolve_left h2
    refine .inr (.inr ⟨ht,h1,?_⟩)
    rw [lkE,if_neg (Ne.symm h1),if_neg (Ne.symm h2)]
    rcases lk_dstE (e3:=e3) (t:=t') (l:=ops) (e:=e) with ⟨_,h3⟩ | ⟨h3,_⟩
    · exact h3
    · obtain ⟨o, ho, hd⟩ := ht
      exact absurd hd (h3 o ho)
  have hfs : ∀ i b,Fs i b → (F0 b ∨ k.w.heap.size ≤ b):=fun i b hb=>(hp.own i b hb).1
  have fpp : ∀ b,(lk E pt).fp (a'.get pt) k' b → Fs ms b:=fun b hb=>by
    rw [lkp] at hb
    have hb:a'.get pt = .pointer (some ⟨b,0,none⟩):=hb
    rw [hbp] at hb
    simp only [Value.pointer.injEq,Option.some.injEq,Addr.mk.injEq,and_true] at hb
    rw [hbF]; exact hb
  have fps : ∀ b,(lk E s).fp (a'.get s) k' b → Fs mc b:=fun b hb=>by
    rw [lks,Rk.av_fp htu,hsold,← hu] at hb
    rw [hqF]; exact hb
  refine hQ E a' k' hk (h.multi (fun t'=>t' = s ∨ ∃ o ∈ ops,o.dst = some t') hp.chg (fun b hb=>⟨s,.inl rfl,hunl,hF0b b hb⟩) (hp.size) hp.defers (fun t' ht=>old t' fun o ho hd=>ht (hW o ho t' hd))
    (fun t' ht=>old t' fun o ho hd=>ht (.inr ⟨o,ho,hd⟩)) (fun t' ht=>?_) (fun t' ht x'=>?_) (fun t' ht _ b hb=>?_) (fun t' ht b hb=>?_) (fun t1 t2 ht1 ht2 hne b hb hb'=>?_) (fun t' ht=>?_) (fun t' ht _=>?_))
  · rcases cases3 t' ht with rfl | rfl | ⟨h1, h2, h3⟩
    · rw [lkp]; exact ⟨bx,hbp,hbB⟩
    · rw [lks]; refine (Rk.av_is htu).2 ?_; rw [hsold,← hu]; exact hq1
    · rw [h3]; exact (unal_is (slotv t' h2 h1)).1
  · rcases cases3 t' ht with rfl | rfl | ⟨h1, h2, h3⟩
    · rw [lkp]; rfl
    · rw [lks]; exact Rk.av_ment
    · rw [h3]; exact (unal_is (a':=a) (slotv t' h2 h1)).2.2 x'
  · rcases cases3 t' ht with rfl | rfl | ⟨h1, h2, h3⟩
    · exact (hfs ms b (fpp b hb)).imp (fun h=>h) .inr
    · exact (hfs mc b (fps b hb)).imp (fun h=>h) .inr
    · rw [h3] at hb; exact absurd hb (fp_nonres (unal_is (a':=a) (slotv t' h2 h1)).2.1 _ _ b)
  · rcases cases3 t' ht with rfl | rfl | ⟨h1, h2, h3⟩
    · exact (hfs ms b (fpp b hb)).imp (fun h=>⟨s,.inl rfl,hF0b b h⟩) (fun h=>h)
    · exact (hfs mc b (fps b hb)).imp (fun h => ⟨t', .inl rfl, hF0b b h⟩) (fun h => h)
    · rw [h3] at hb; exact absurd hb (fp_nonres (unal_is (a':=a) (slotv t' h2 h1)).2.1 _ _ b)
  · have nn : ∀ t' b, ((∃ o ∈ ops, o.dst = some t') ∧ t' ≠ pt ∧ lk E t' = unal (lk e3 t')) → ¬ (lk E t').fp (a'.get t') k' b := fun t' b ⟨h1, h2, h3⟩ hb => by
      rw [h3] at hb; exact absurd hb (fp_nonres (unal_is (a':=a) (slotv t' h2 h1)).2.1 _ _ b)
    rcases cases3 t1 ht1 with e1 | e1 | e1
    · subst e1
      rcases cases3 t2 ht2 with e2 | e2 | e2
      · exact hne e2.symm
      · subst e2; exact hp.apart ms mc (by omega) b (fpp b hb) (fps b hb')
      · exact nn t2 b e2 hb'
    · subst e1
      rcases cases3 t2 ht2 with e2 | e2 | e2
      · subst e2; exact hp.apart mc ms (by omega) b (fps b hb) (fpp b hb')
      · exact hne e2.symm
      · exact nn t2 b e2 hb'
    · exact nn t1 b e1 hb
  · have hlk : lk E t' = lk e t' := by
      rw [lkE,if_neg (fun e1=>ht (.inr ⟨oa,hptmem,by rw [hoad,e1]⟩)),if_neg (fun e1=>ht (.inl e1.symm))]
      rcases lk_dstE (e3:=e3) (t:=t') (l:=ops) (e:=e) with ⟨h3,_⟩ | ⟨_,h3⟩
      · exact absurd (.inr h3) ht
      · exact h3
    refine .inr ⟨hlk,fun s' hs' hS=>?_⟩
    have hr:=h.inv t' s' hs'
    rcases hS with rfl | ⟨o,ho,hd⟩
    · exact ⟨hsold,by rw [lks]; exact unl_res (Rk.av_unl htu),ins_lk hins⟩
    · obtain ⟨i, hi⟩ := memN ho
      rw [hres0 i o s' hi hd] at hr; cases hr
  · rw [lkE, if_neg (fun e1 => ht (.inr ⟨oa, hptmem, by rw [hoad, e1]⟩)), if_neg (fun e1 => ht (.inl e1.symm))]
    rcases lk_dstE (e3:=e3) (t:=t') (l:=ops) (e:=e) with ⟨h3,_⟩ | ⟨_,h3⟩
    · exact absurd (.inr h3) ht
    · exact h3
end
end Go.Gb

/- General part of the proofs: regions. -/
namespace Go.Gb
variable {T:Tb} {R:Type}
section
variable {C:Cx T} {F:FP} {k0:K} {W:List Nat} {a0:Act} {A:Array Oper} {Q:Exit → Act → World → Prop}

theorem Hl.lit {n:Nat} {e:Env T} {a:Act} {k:K} (h:Hl n F k0 W a0 e a k) {c:Nat} {m:Bool} (hm:asB (lk e c) = some m):Hl n F k0 W a0 ((c,.v .bool m)::e) a k:=by
  have hnr:isRes (lk e c) = false:=by
    generalize lk e c = av at hm
    cases av with
    | v t x=>rfl
    | _=>simp [asB] at hm
  have lkt : ∀ t,lk ((c,AV.v (T:=T) .bool m)::e) t = if c = t then .v .bool m else lk e t:=fun t=>lk_cons _ _ _ _
  have hres : ∀ t,isRes (lk ((c,AV.v (T:=T) .bool m)::e) t) = isRes (lk e t):=fun t=>by
    rw [lkt]; split
    · rename_i h1; subst h1; rw [hnr]; rfl
    · rfl
  have hfp : ∀ t b,(lk ((c,AV.v (T:=T) .bool m)::e) t).fp (a.get t) k b → (lk e t).fp (a.get t) k b:=fun t b hb=>by
    rw [lkt] at hb; split at hb
    · exact hb.elim
    · exact hb
  refine ⟨h.g,h.s,h.d,h.old,fun t=>?_,fun t s hs=>?_,fun t ht=>?_,fun t t' hne b hb hb'=>h.ap t t' hne b (hfp t b hb) (hfp t' b hb'),h.gl⟩
  · rw [lkt]; split
    · rename_i h1; subst h1; exact asB_is hm (h.sl c)
    · exact h.sl t
  · rw [lkt] at hs; split at hs
    · simp [AV.ment] at hs
    · rw [hres]; exact h.inv t s hs
  · rw [lkt] at ht ⊢; split at ht
    · simp [unl] at ht
    · rename_i h1; rw [if_neg h1]; exact h.wr t ht
theorem set_at {A:Array Oper} {i:Nat} {o:Oper} (h:i < A.size) (j:Nat):(A.setIfInBounds i o)[j]? = if i = j then some o else A[j]?:=by
  rw [Array.getElem?_setIfInBounds]; split <;> simp_all
theorem wpOps_congr {A' : Array Oper} (hd : ∀ j:Nat,(A[j]?).bind (fun o:Oper=>o.dst) = (A'[j]?).bind (fun o:Oper=>o.dst)) : ∀ {rest:List Nat} {a:Act} {w:World},(∀ j ∈ rest,A[j]? = A'[j]?) → wpOps C.P A Q rest a w → wpOps C.P A' Q rest a w
  | [],_,_,_,h=>h
  | i :: rest, a, w, hr, h => by
    have hy : ∀ tm,yielded A tm = yielded A' tm:=fun tm=>by funext j; unfold yielded; rw [hd]
    rw [wpOps_cons] at h ⊢
    have h2:wpOp C.P A Q i (wpOps C.P A' Q rest) a w:=wpOp_mono (fun a w h=>wpOps_congr hd (fun j hj=>hr j (by simp [hj])) h) h
    unfold wpOp at h2 ⊢
    rw [← hr i (by simp),← hy]
    exact h2
/-- an operation that is wanted, as if it were without a guard -/
theorem wpOps_wanted {i:Nat} {rest:List Nat} {o:Oper} {a:Act} {w:World} (hA:nth A.toList i = some o) (hr:i ∉ rest) (hw:Region.wanted o (yielded A a.tmps) = true)
    (h:wpOps C.P (A.setIfInBounds i { o with guard:=none }) Q (i::rest) a w):wpOps C.P A Q (i::rest) a w:=by
  have hAi:A[i]? = some o:=by rw [← nth_toList]; exact hA
  have hlt:i < A.size:=(Array.getElem?_eq_some_iff.1 hAi).1
  have hd : ∀ j:Nat,((A.setIfInBounds i { o with guard:=none })[j]?).bind (fun o:Oper=>o.dst) = (A[j]?).bind (fun o:Oper=>o.dst):=fun j=>by
    rw [set_at hlt]
    split
    · rename_i e; subst e; rw [hAi]; rfl
    · rfl
  rw [wpOps_cons] at h ⊢
  have h2:=wpOp_mono (K':=wpOps C.P A Q rest) (fun a w h=>wpOps_congr hd (fun j hj=>by
    rw [set_at hlt,if_neg (fun e1:i = j=>hr (e1 ▸ hj))]) h) h
  unfold wpOp at h2 ⊢
  rw [hAi]
  rw [set_at hlt,if_pos rfl] at h2
  dsimp only at h2 ⊢
  rw [if_pos hw]
  rw [if_pos (by rfl)] at h2
  exact h2
theorem skip_ok {o:Oper} {i:Nat} {rest:List Nat} {e:Env T} {a:Act} {k:K} {K:Env T → Option R} {r:R} (h:Hl C.n F k0 W a0 e a k) (hA:nth A.toList i = some o) (hw:Region.wanted o (yielded A a.tmps) = false)
    (hn : ∀ d, o.dst = some d → d < C.n ∧ d ∈ W) (hk : skipO e o K = some r) (hQ : ∀ e' a' k', K e' = some r → Hl C.n F k0 W a0 e' a' k' → wpOps C.P A Q rest a' k'.w) : wpOps C.P A Q (i :: rest) a k.w := by
  have hAi:A[i]? = some o:=by rw [← nth_toList]; exact hA
  rw [wpOps_cons]
  unfold wpOp
  rw [hAi]
  dsimp only
  rw [if_neg (by rw [hw]; simp)]
  unfold skipO at hk
  cases hd:o.dst with
  | none =>
    rw [hd] at hk
    exact hQ e a k hk h
  | some d =>
    rw [hd] at hk
    obtain ⟨hdn,hdW⟩:=hn d hd
    obtain ⟨e', h1, h2, _, _⟩ := h.put (d := d) (av := .tup []) (a' := a.put (some d) undef) hdW (Grow.refl k) (put_size _ _ _) (put_defers' _ _ _) (fun t ht => by rw [get_put _ _ _ _ (by rw [h.s]; exact hdn), if_neg (Ne.symm ht)]) ⟨[], by rw [get_put _ _ _ _ (by rw [h.s]; exact hdn), if_pos rfl]; rfl, trivial⟩ (fun s hs => by simp [AV.ment] at hs) (fun hu => by simp [unl] at hu) (fun t _ b hb => hb.elim) hk
    exact hQ e' _ k h1 h2
theorem yield_get {a:Act} {c:Nat} {m:Bool} (h:a.get c = .bool m):(match (some c).bind (a.tmps[·]?) with | some (.bool b)=>some b | _=>none) = some m:=by
  have h1:a.tmps[c]? = some (.bool m):=by
    unfold Act.get at h
    rw [Array.getD_eq_getD_getElem?] at h
    cases h2:a.tmps[c]? with
    | none=>rw [h2] at h; simp [undef] at h
    | some v=>rw [h2] at h; simp at h; rw [h]
  simp [h1]
theorem yield_no {a:Act} {c:Nat} (h:a.get c = .tuple #[]):(match (some c).bind (a.tmps[·]?) with | some (.bool b)=>some b | _=>none) = none:=by
  unfold Act.get at h
  rw [Array.getD_eq_getD_getElem?] at h
  cases h2:a.tmps[c]? with
  | none=>simp [h2]
  | some v=>rw [h2] at h; simp at h; simp [h2,h]
theorem step2_guard {e:Env T} {o:Oper} {K:Env T → Option R}:step2 C e { o with guard:=none } K = step2 C e o K:=rfl
theorem ev2_ok (hC:CxOk C) : ∀ {l pre:List Oper} {e:Env T} {a:Act} {k:K} {K:Env T → Option R} {r:R},A.toList = pre ++ l → (∀ o ∈ l,∀ d,o.dst = some d → d ∈ W) → Hl C.n F k0 W a0 e a k → ev2 C A.toList (ixs pre.length l) e K = some r →
    (∀ e' a' k', K e' = some r → Hl C.n F k0 W a0 e' a' k' → Q .normal a' k'.w) → wpOps C.P A Q (List.range' pre.length l.length) a k.w
  | [], pre, e, a, k, K, r, hA, hW, h, hk, hQ => by
    simp only [ixs,ev2] at hk
    exact hQ e a k hk h
  | o :: l, pre, e, a, k, K, r, hA, hW, h, hk, hQ => by
    simp only [ixs,ev2] at hk
    have hnth:nth A.toList pre.length = some o:=by rw [hA]; exact nth_at
    have hnr:pre.length ∉ List.range' (pre.length + 1) l.length:=fun hm=>by
      have:=(List.mem_range'_1.1 hm).1; omega
    -- the rest
    have more : ∀ e' a' k', ev2 C A.toList (ixs (pre.length + 1) l) e' K = some r → Hl C.n F k0 W a0 e' a' k' → wpOps C.P A Q (List.range' (pre.length + 1) l.length) a' k'.w := fun e' a' k' hk' h' => by
      have:=ev2_ok hC (l:=l) (pre:=pre ++ [o]) (e:=e') (a:=a') (k:=k') (K:=K) (r:=r) (by rw [hA]; simp) (fun o' ho'=>hW o' (by simp [ho'])) h' (by simpa using hk') hQ
      simpa using this
    rw [List.length_cons,List.range'_succ]
    split at hk
    · rename_i hg hd
      obtain ⟨e1,k1,h1,h2,h3⟩:=frz_ok h hk
      rw [← h2]
      refine step2_ok hC h3 hnth hg (fun d hd'=>⟨?_,hW o (by simp) d hd'⟩) h1 fun e' a' k' hk' h'=>more e' a' k' hk' h'
      rw [hd'] at hd
      simp only [Nat.blt_eq] at hd
      exact hd
    · rename_i j w hg hd
      have hdn : ∀ d,o.dst = some d → d < C.n∧d ∈ W:=fun d hd'=>⟨by rw [hd'] at hd; simpa using hd,hW o (by simp) d hd'⟩
      split at hk
      rotate_left
      · simp at hk
      rename_i c hc
      split at hk
      rotate_left
      · split at hk
        · rename_i hlc
          obtain ⟨vs,hv,hF⟩:=(hlc ▸ h.sl c:(AV.tup (T:=T) []).is a (a.get c) k)
          cases vs with
          | cons _ _=>exact hF.elim
          | nil =>
            have hy:yielded A a.tmps j = none:=by
              unfold yielded
              unfold dstOf at hc
              rw [nth_toList] at hc
              rw [hc]
              exact yield_no hv
            exact skip_ok h hnth (by unfold Region.wanted; rw [hg]; simp [hy]) hdn hk fun e' a' k' hk' h'=>more e' a' k' hk' h'
        · simp at hk
      rename_i m hm
      have hcv:a.get c = .bool m:=isV_bool.1 (asB_is hm (h.sl c))
      have hy:yielded A a.tmps j = some m:=by
        unfold yielded
        unfold dstOf at hc
        rw [nth_toList] at hc
        rw [hc]
        exact yield_get hcv
      have run : ∀ w', w = w' → m = w' → (frz ((c, .v .bool w') :: e) (frzOps C ((c, .v .bool w') :: e) o) fun e' => step2 C e' o fun e'' => ev2 C A.toList (ixs (pre.length + 1) l) e'' K) = some r → wpOps C.P A Q (pre.length :: List.range' (pre.length + 1) l.length) a k.w := by
        rintro w' rfl rfl hk
        refine wpOps_wanted hnth hnr (by unfold Region.wanted; rw [hg]; simp [hy]) ?_
        have hAi:A[pre.length]? = some o:=by rw [← nth_toList]; exact hnth
        have hlt:pre.length < A.size:=(Array.getElem?_eq_some_iff.1 hAi).1
        obtain ⟨e1,k1,h1,h2,h3⟩:=frz_ok (h.lit hm) hk
        rw [← h2]
        refine step2_ok (o:={ o with guard:=none }) hC h3 (by rw [nth_toList,set_at hlt,if_pos rfl]) rfl hdn (by rw [step2_guard]; exact h1) fun e' a' k' hk' h'=>?_
        refine wpOps_congr (A:=A) (fun jj=>?_) (fun jj hj=>?_) (more e' a' k' hk' h')
        · rw [set_at hlt]
          split
          · rename_i e; subst e; rw [hAi]; rfl
          · rfl
        · rw [set_at hlt,if_neg (fun e1:pre.length = jj=>hnr (e1 ▸ hj))]
      have skip : ∀ w', w = !w' → m = w' → (skipO ((c, .v .bool w') :: e) o fun e'' => ev2 C A.toList (ixs (pre.length + 1) l) e'' K) = some r → wpOps C.P A Q (pre.length :: List.range' (pre.length + 1) l.length) a k.w := by
        rintro w' rfl rfl hk
        exact skip_ok (h.lit hm) hnth (by unfold Region.wanted; rw [hg]; simp [hy]) hdn hk fun e' a' k' hk' h'=>more e' a' k' hk' h'
      cases w with
      | true =>
        cases m with
        | true=>exact run true rfl rfl (by simpa using hk)
        | false=>exact skip false rfl rfl (by simpa using hk)
      | false =>
        cases m with
        | true=>exact skip true rfl rfl (by simpa using hk)
        | false=>exact run false rfl rfl (by simpa using hk)
    · simp at hk

theorem chk2_congr {n:Nat} {ops0:List Oper} {ms:List Nat} : ∀ {ops:List Oper} {es es' : List Ent} {i:Nat},es.map (·.need) = es'.map (·.need) → chk2 n ops0 ms i ops es = chk2 n ops0 ms i ops es'
  | [],_,_,_,_=>by simp [chk2]
  | o::ops,[],[],i,_=>rfl
  | o::ops,[],_::_,i,h=>by simp at h
  | o::ops,_::_,[],i,h=>by simp at h
  | o :: ops, x :: es, y :: es', i, h => by
    simp only [List.map_cons,List.cons.injEq] at h
    simp only [chk2,chk2_congr h.2]
    congr 1
    unfold chkOp
    rw [h.1]
theorem chkS_congr {n m:Nat} {ops:List Oper} {es es' : List Ent} (h:es.map (·.need) = es'.map (·.need)):chkS n m ops es = chkS n m ops es':=by
  have hl:es.length = es'.length:=by simpa using congrArg List.length h
  unfold chkS
  rw [hl,chk2_congr h]
theorem chk_congr {n m:Nat} {ops:List Oper} {es es' : List Ent} (h:es.map (·.need) = es'.map (·.need)):chk n m ops es = chk n m ops es':=by
  unfold chk
  rw [chkS_congr h]
theorem esOf_need {l:List Oper}:(esOf l).map (·.need) = needs [] l:=by simp [esOf,List.map_map,Function.comp_def]

theorem allI_of {α:Type} {f:Nat → α → Bool} : ∀ {l:List α} {i:Nat},(∀ j x,nth l j = some x → f (i + j) x = true) → allI f i l = true
  | [],_,_=>rfl
  | x :: l, i, h => by
    simp only [allI,Bool.and_eq_true]
    exact ⟨h 0 x rfl,allI_of fun j y hy=>by have:=h (j + 1) y hy; rwa [show i + (j + 1) = i + 1 + j by omega] at this⟩

/-- what is known when the first part of a region has run -/
theorem post_hl {e0 e:Env T} {a:Act} {k:K} {ak:Act} {kk:K} {pre l:List Oper} {es:List Ent} (h0:Hl C.n F k0 W a0 e0 ak kk) (hW : ∀ o ∈ pre,∀ d,o.dst = some d → d ∈ W)
    (p:P1 e0 ak pre es e) (q:Post (pre ++ l) es pre.length ak kk a k):Hl C.n F k0 W a0 e a k:=by
  have old : ∀ t,lastIdx t pre 0 none = none → a.get t = ak.get t:=by
    intro t ht
    refine q.old t (allI_of fun j o ho=>?_)
    simp only [Nat.zero_add,Bool.or_eq_true,decide_eq_true_eq,bne_iff_ne]
    by_cases hj:j < pre.length
    · refine .inr ((lastIdx_none ht).2 o ?_)
      rw [nth_eq,List.getElem?_append_left hj] at ho
      exact List.mem_of_getElem? ho
    · exact .inl (by omega)
  have resOld : ∀ t,isRes (lk e t) = true → lk e t = lk e0 t∧a.get t = ak.get t:=by
    intro t ht
    have h1:=p.res t ht
    have h2:=p.slot t
    rw [h1] at h2
    exact ⟨h2,old t h1⟩
  have fpOld : ∀ t b,(lk e t).fp (a.get t) k b → (lk e0 t).fp (ak.get t) kk b:=by
    intro t b hb
    cases hr:isRes (lk e t) with
    | false=>exact absurd hb (fp_nonres hr _ _ b)
    | true =>
      obtain ⟨h1,h2⟩:=resOld t hr
      rw [h1,h2,AV.fp_grow _ q.grow (h0.sl t)] at hb; exact hb
  refine ⟨h0.g.then q.grow,q.size.trans h0.s,q.defers.trans h0.d,fun t ht=>?_,fun t=>?_,p.inv,fun t ht=>?_,fun t t' hne b hb hb'=>h0.ap t t' hne b (fpOld t b hb) (fpOld t' b hb'),h0.gl.le q.grow.le⟩
  · rw [← h0.old t ht]
    refine old t ?_
    cases hl:lastIdx t pre 0 none with
    | none=>rfl
    | some j =>
      rcases lastIdx_spec hl with h1 | ⟨o,_,h1,h2⟩
      · simp at h1
      · rw [nth_eq] at h1
        exact absurd (hW o (List.mem_of_getElem? h1) t h2) ht
  · have key : (lk e t).is ak (a.get t) k := by
      have h1:=p.slot t
      cases hl:lastIdx t pre 0 none with
      | none =>
        rw [hl] at h1
        dsimp only at h1
        rw [h1,old t hl]
        exact (lk e0 t).mono q.grow (h0.sl t)
      | some j =>
        rw [hl] at h1
        obtain ⟨Rr,nd,h2,h3⟩:=h1
        rcases h3 with h3 | ⟨R', rfl, h3⟩
        · rw [h3]; trivial
        · rcases lastIdx_spec hl with h4 | ⟨o, _, h4, h5⟩
          · simp at h4
          · have hj := nth_lt h4
            exact h3 _ _ (q.val j t R' nd (by simpa using hj) (by rw [nth_app (show nth pre j = some o by simpa using h4)]; exact h5) h2)
    refine (lk e t).congr (fun s hs=>?_) key
    exact (resOld s (p.inv t s hs)).2
  · obtain ⟨h1, h2⟩ := resOld t (unl_res ht)
    rw [h1] at ht ⊢
    rw [h2,AV.fp_grow _ q.grow (h0.sl t)]; exact h0.wr t ht

theorem Hl.grow {n:Nat} {a:Act} {e:Env T} {k k' : K} (h:Hl n F k0 W a0 e a k) (hg:Grow k k'):Hl n F k0 W a0 e a k':=
  ⟨h.g.then hg,h.s,h.d,h.old,fun t=>(lk e t).mono hg (h.sl t),h.inv,fun t ht=>by rw [AV.fp_grow _ hg (h.sl t)]; exact h.wr t ht,fun t t' hne=>by rw [AV.fp_grow _ hg (h.sl t),AV.fp_grow _ hg (h.sl t')]; exact h.ap t t' hne,h.gl.le hg.le⟩
/-- A box is told of again. -/
theorem Hl.addBox {n:Nat} {a:Act} {e:Env T} {k:K} (h:Hl n F k0 W a0 e a k) {s b:Nat} {t:Tp} {z:T.D t} (hs:lk e s = .top) (hb:a.get s = .pointer (some ⟨b,0,none⟩)) (hz:Box b z k)
    (hw : Wr F k0 (Eq b)) (ha : ∀ t', t' ≠ s → Apart (Eq b) ((lk e t').fp (a.get t') k)) : Hl n F k0 W a0 ((s, .box false t z) :: e) a k := by
  have lks:lk ((s,AV.box false t z)::e) s = .box false t z:=by rw [lk_cons,if_pos rfl]
  have lkt : ∀ t', t' ≠ s → lk ((s, AV.box false t z) :: e) t' = lk e t' := fun t' ht => by rw [lk_cons, if_neg (Ne.symm ht)]
  have hfp : ∀ c,(AV.box (T:=T) false t z).fp (a.get s) k c → b = c:=fun c hc=>by
    have:a.get s = .pointer (some ⟨c,0,none⟩):=hc
    rw [hb] at this; simpa using this
  refine ⟨h.g,h.s,h.d,h.old,fun t'=>?_,fun t' u hu=>?_,fun t' hu=>?_,fun t1 t2 hne c hc hc'=>?_,h.gl⟩
  · by_cases ht : t' = s
    · subst ht; rw [lks]; exact ⟨b,hb,hz⟩
    · rw [lkt t' ht]; exact h.sl t'
  · by_cases ht : t' = s
    · subst ht; rw [lks] at hu; simp [AV.ment] at hu
    · rw [lkt t' ht] at hu
      have h1:=h.inv t' u hu
      have h2 : u ≠ s := fun e' => by rw [e', hs] at h1; simp [isRes] at h1
      rw [lkt u h2]; exact h1
  · by_cases ht : t' = s
    · subst ht; rw [lks]; exact fun c hc=>hw c (hfp c hc)
    · rw [lkt t' ht] at hu ⊢; exact h.wr t' hu
  · by_cases h1 : t1 = s
    · subst h1
      rw [lks] at hc; rw [lkt t2 (Ne.symm hne)] at hc'
      exact ha t2 (Ne.symm hne) c (hfp c hc) hc'
    · rw [lkt t1 h1] at hc
      by_cases h2:t2 = s
      · subst h2
        rw [lks] at hc'
        exact ha t1 h1 c (hfp c hc') hc
      · rw [lkt t2 h2] at hc'
        exact h.ap t1 t2 hne c hc hc'
theorem stAt_spec : ∀ {l:List Oper} {i m:Nat} {o:Oper},stAt l i = some (m,o) → i ≤ m∧nth l (m - i) = some o
  | [],_,_,_,h=>by simp [stAt] at h
  | x :: l, i, m, o, h => by
    simp only [stAt] at h
    split at h
    · simp only [Option.some.injEq, Prod.mk.injEq] at h
      obtain ⟨rfl,rfl⟩:=h
      exact ⟨Nat.le_refl _,by simp [nth]⟩
    · obtain ⟨h1, h2⟩ := stAt_spec h
      exact ⟨by omega,by rw [show m - i = (m - (i + 1)) + 1 by omega]; exact h2⟩
theorem stPtr_spec {ops:List Oper} {m s pt:Nat} {t u:Tp} {L:Lens T t u} (h:stPtr C ops m s pt t = some ⟨u,L⟩):L.ok∧((pt = s∧L.off = 0) ∨
    ∃ j o st f,lastIdx pt (ops.take m) 0 none = some j∧nth ops j = some o∧o.op = .fieldAddr st (.tmp s) f∧o.guard = none∧hasBit (masks ops []) m j = true∧fldOff C.P st f = some L.off):=by
  unfold stPtr at h
  cases hb:Nat.beq pt s with
  | true =>
    rw [hb] at h
    simp only [cond_true] at h
    cases hn:notDst pt ops with
    | false=>rw [hn] at h; simp at h
    | true =>
      rw [hn] at h
      simp only [cond_true,Option.some.injEq,Sigma.mk.injEq] at h
      obtain ⟨rfl,h⟩:=h
      obtain rfl:=eq_of_heq h
      exact ⟨Lens.id_ok,.inl ⟨Nat.eq_of_beq_eq_true hb,rfl⟩⟩
  | false =>
    rw [hb] at h
    simp only [cond_false] at h
    split at h
    rotate_left
    · simp at h
    rename_i j hj
    split at h
    rotate_left
    · simp at h
    rename_i o ho
    split at h
    rotate_left
    · simp at h
    rename_i st s' f hop hgd
    cases hc:(Nat.beq s s' && hasBit (masks ops []) m j) with
    | false=>rw [hc] at h; simp at h
    | true=>
    rw [hc] at h
    simp only [cond_true] at h
    rw [Bool.and_eq_true] at hc
    obtain rfl:=Nat.eq_of_beq_eq_true hc.1
    unfold fldL at h
    split at h
    rotate_left
    · simp at h
    rename_i n
    split at h
    rotate_left
    · simp at h
    rename_i off w L' hoff hfl
    cases hb2:Nat.beq L'.off off with
    | false=>rw [hb2] at h; simp at h
    | true=>
    rw [hb2] at h
    simp only [cond_true,Option.some.injEq,Sigma.mk.injEq] at h
    obtain ⟨rfl,h⟩:=h
    obtain rfl:=eq_of_heq h
    obtain rfl:=Nat.eq_of_beq_eq_true hb2
    exact ⟨flens_ok hfl,.inr ⟨j,o,st,f,hj,ho,hop,hgd,hc.2,hoff⟩⟩
theorem evX_ok (hC:CxOk C) {id:Nat} {e:Env T} {a:Act} {k:K} {K:Env T → Option R} {r:R} (hW : ∀ o ∈ A.toList,∀ d,o.dst = some d → d ∈ W) (h:Hl C.n F k0 W a0 e a k) (hk:evX C A.toList e K = some r)
    (hQ : ∀ e' a' k', K e' = some r → Hl C.n F k0 W a0 e' a' k' → Q .normal a' k'.w) : (Code.region id A true).wp C.P Q a k.w := by
  unfold evX at hk
  split at hk
  rotate_left
  · simp at hk
  rename_i m o hst
  split at hk
  rotate_left
  · simp at hk
  rename_i ty pt y hop hdst hgd
  split at hk
  rotate_left
  · simp at hk
  rename_i t x0 hls
  split at hk
  rotate_left
  · simp at hk
  rename_i u L hptr
  generalize hsdef:stSlot A.toList m pt = s at hk hls hptr
  cases c4:notDst s A.toList with
  | false=>rw [c4] at hk; simp at hk
  | true=>
  rw [c4] at hk
  simp only [Bool.not_true,cond_false] at hk
  obtain ⟨hL,hpt⟩:=stPtr_spec hptr
  obtain ⟨_,hno⟩:=stAt_spec hst
  simp only [Nat.sub_zero] at hno
  rw [mapK_eq] at hk
  have hsl:=h.sl s
  rw [hls] at hsl
  obtain ⟨b,hb,hbx⟩:=hsl
  have hunl:unl (lk e s) = true:=by rw [hls]; rfl
  have hfps : ∀ (kx:Gb.K) c,b = c → (lk e s).fp (a.get s) kx c:=fun kx c hc=>by rw [hls]; subst hc; exact hb
  have hnsh : ∀ c,b = c → ¬ k.sh c:=fun c hc=>(h.lt s c (hfps _ c hc)).2
  generalize he0:(s,AV.top)::mapE (klA s) e = e0 at hk
  have hl0:lk e0 s = .top:=by rw [← he0,lk_cons,if_pos rfl]
  have hlt : ∀ t', t' ≠ s → lk e0 t' = klA s (lk e t') := fun t' ht => by rw [← he0, lk_cons, if_neg (Ne.symm ht), lk_mapE rfl]
  have hide : ∀ k1 k2,Grow k k1 → Chg (Eq b) k1 k2 → Hl C.n F k0 W a0 e0 a k2:=fun k1 k2 g c=>by
    rw [← he0]; exact (h.grow g).lose hunl c (hfps _)
  have hh0:Hl C.n F k0 W a0 e0 a k:=hide k k (Grow.refl k) (Chg.refl _ k)
  have p0:P1 e0 a [] [] e0:=⟨rfl,fun t=>rfl,fun t _=>rfl,hh0.inv⟩
  obtain ⟨cs,rest,es,e1,h1,h2,_,h4,h5,h6,h7,h8,h9⟩:=ev1_ok (n:=C.n) (F:=F) (kk:=k0) (W:=W) (aa:=a0) hC (bH:=b) (B:=0) A.toList (fun s' hs'=>by injection hs' with hs'; subst hs'; exact ⟨hb,c4⟩) (A.toList.length + 1) R none [] A.toList [] e0 _ r [] (by simp) p0 (fun es' o ho=>by unfold GuardIs; rw [ho]) hk
  simp only [List.nil_append] at h5 h6 h7
  cases rest with
  | nil=>simp [ixs] at h5
  | cons o1 rest=>
  simp only [ixs] at h5
  have hlen:A.toList.length - ((cs.length,o1)::ixs (cs.length + 1) rest).length = cs.length:=by
    have:(ixs (cs.length + 1) rest).length = rest.length:=by rw [← List.length_map (f:=(·.2)),ixs_map]
    rw [List.length_cons,this,h1]; simp
  rw [hlen] at h5
  cases hc:(Nat.beq cs.length m && chkS C.n m A.toList (esOf (A.toList.take m)) && chkB m A.toList && needSt m A.toList y && tyB C.P T ty u) with
  | false=>rw [hc] at h5; simp at h5
  | true=>
  rw [hc] at h5
  simp only [cond_true] at h5
  simp only [Bool.and_eq_true] at hc
  obtain ⟨⟨⟨⟨c1,c2⟩,c3⟩,c5⟩,c6⟩:=hc
  obtain rfl:=Nat.eq_of_beq_eq_true c1
  have ho1:o1 = o:=by
    rw [h1,nth_at,Option.some.injEq] at hno; exact hno
  subst ho1
  split at h5
  rotate_left
  · simp at h5
  rename_i z hz
  have htake:A.toList.take cs.length = cs:=by rw [h1,List.take_left']; rfl
  have hneed:(esOf cs).map (·.need) = es.map (·.need):=by rw [esOf_need,h4]
  rw [htake,chkS_congr hneed] at c2
  have hmA:cs.length < A.size:=by
    have:A.size = (cs ++ o1::rest).length:=by rw [← h1]; simp
    rw [this]; simp
  have hsz:A.size - (cs.length + 1) = rest.length:=by
    have:A.size = (cs ++ o1::rest).length:=by rw [← h1]; simp
    rw [this]; simp; omega
  have hst' : ∀ kb,Hl C.n F k0 W a0 e0 a kb → Steps C.P es a kb (A.toList.take cs.length) es:=fun kb hkb=>by
    rw [htake]
    have:=h7 kb hkb (Nat.zero_le _) []
    simpa using this
  have hl1:lk e1 s = .top:=by
    have:=h6.slot s
    rw [notDst_last (rest:=o1::rest) (by rw [← h1]; exact c4)] at this
    exact (show lk e1 s = lk e0 s from this).trans hl0
  refine wp_region_any hC.mix ?_
  let kd:Gb.K:=⟨{ k.w with drawn:=k.w.drawn + 1 },k.sh,k.lt⟩
  have hg:Grow k kd:=⟨rfl,rfl,rfl,Nat.le_refl _,fun _ _=>rfl,fun _ h=>h,fun _ _ h=>h,Nat.le_succ _⟩
  have hF : ∀ j,(Array.replicate A.size false).getD j false = true → False:=by
    intro j hj; simp [Array.getD_eq_getD_getElem?,Array.getElem?_replicate] at hj; split at hj <;> simp at hj
  have hwr:Wr F k0 (Eq b):=fun c hc=>h.wr s hunl c (hfps _ c hc)
  refine any_st (B := fun kb => Hl C.n F k0 W a0 e0 a kb ∧ Box b (L.set x0 z) kb ∧ ∀ t', t' ≠ s → (lk e t').fp (a.get t') kb = (lk e t').fp (a.get t') k) (k0 := k) h.s c2 hmA c3 (hst' k hh0) (fun kb hkb => hst' kb hkb.1) trivial ?_ ?_ A.size _ a kd (by simp) (by simp) (fun j hj => (hF j hj).elim) (.inl ⟨?_, ?_⟩)
  · -- the store
    intro a' k' D hD hinv hbind C' hC'
    have hk' : Hl C.n F k0 W a0 e a k':=h.grow hinv.grow
    have hs' : a'.get s = a.get s:=hinv.rest s fun i o' _ ho'=>notDst_spec c4 i o' ho'
    have hyv:IsV (α:=T.D u) z (a'.eval y) k':=by
      refine asT_is (a:=a) hz (opv_is (e:=e1) ?_)
      cases y with
      | tmp yt =>
        have h9:=h6.slot yt
        simp only [needSt,htake] at c5
        cases hli:lastIdx yt cs 0 none with
        | none =>
          rw [hli] at h9 c5
          have hu:a'.get yt = a.get yt:=hinv.rest yt fun i o' _ ho'=>notDst_spec c5 i o' ho'
          refine ⟨?_,fun _=>hu⟩
          rw [hu,show lk e1 yt = lk e0 yt from h9]
          exact (lk e0 yt).mono hinv.grow (hh0.sl yt)
        | some j =>
          rw [hli] at h9 c5
          have hDj:D j:=hasBit_spec (L:=A.toList) (D:=D) hinv.closed (j:=cs.length) (i:=j) (fun o' ho'=>hbind o' ho') c5
          obtain ⟨Rr,nd,h10,h11⟩:=h9
          refine ⟨?_,fun hr=>by rw [h6.res yt hr] at hli; simp at hli⟩
          rcases h11 with h11 | ⟨R', rfl, h11⟩
          · rw [h11]; trivial
          · rcases lastIdx_spec hli with h12 | ⟨oj, _, h12, h13⟩
            · simp at h12
            · have hnj : nth A.toList j = some oj := by rw [h1]; exact nth_app (by simpa using h12)
              exact h11 _ _ (hinv.vals j oj yt _ hDj hnj h13 h10)
      | const v=>trivial
      | global g=>simp [needSt] at c5
      | func g=>simp [needSt] at c5
    have hpv:IsAdr b L.off (a'.eval (.tmp pt)) k':=by
      rcases hpt with ⟨rfl,hoff⟩ | ⟨j,oj,st,f,hj,hoj,hopj,hgj,hbit,hfo⟩
      · rw [hoff]; exact hs'.trans hb
      · rw [htake] at hj
        have hDj:D j:=hasBit_spec (L:=A.toList) (D:=D) hinv.closed (j:=cs.length) (i:=j) (fun o' ho'=>hbind o' ho') hbit
        rcases lastIdx_spec hj with h12 | ⟨o2,_,h12,h13⟩
        · simp at h12
        · simp only [Nat.sub_zero] at h12
          have hnj:nth A.toList j = some o2:=by rw [h1]; exact nth_app h12
          rw [hoj,Option.some.injEq] at hnj
          subst hnj
          obtain ⟨nd,hen⟩:=h9 rfl j oj (.adr L.off) h12 hgj (by simp [hidO,hopj,hfo,Nat.beq_refl])
          exact hinv.vals j oj pt _ hDj hoj h13 hen
    have hw:wpOps C.P A (fun ex a w=>match ex with | .normal=>C' a w | _=>False) [cs.length] a' k'.w:=by
      refine tail_storeB (set:=L.set) (x:=x0) (z:=z) (b:=b) (off:=L.off) hno hgd hop hdst (tyB_sz c6) hL.2.1 hpv (hbx.grow hinv.grow) hyv fun k1 hch hbz=>?_
      show wpOps C.P A _ [] a' k1.w
      simp only [wpOps]
      refine hC' k1 k1 ⟨hide k' k1 hinv.grow hch,hbz,fun t' ht'=>(AV.fp_keep _ hch (fun c hc=>((h.grow hinv.grow).lt s c (hfps _ c hc)).2) (fun c hc hc'=>(h.grow hinv.grow).ap s t' (Ne.symm ht') c (hfps _ c hc') hc) ((h.grow hinv.grow).sl t')).trans (AV.fp_grow _ hinv.grow (h.sl t'))⟩ ⟨Grow.refl k1,hinv.size,hinv.defers,fun i oi d en hDi hoi hd hen=>?_,hinv.rest,hinv.closed,hinv.mem⟩
      have hv:=hinv.vals i oi d en hDi hoi hd hen
      obtain ⟨Rr,nd⟩:=en
      cases Rr with
      | none=>exact hv
      | some Rr =>
        have hmem:(⟨some Rr,nd⟩:Ent) ∈ es:=by rw [nth_eq] at hen; exact List.mem_of_getElem? hen
        rcases h8 _ hmem Rr rfl with ⟨av,rfl,hav1,hav2⟩ | ⟨ox,yx,hox,rfl⟩
        rotate_left
        · cases yx with
          | adr off=>exact hv
          | box t=>obtain ⟨_,_,h20,_⟩:=hidO_box hox; simp at h20
        refine av.keep hch (fun c hc=>(hk'.lt s c (hfps _ c hc)).2) (fun c hc=>absurd hc (fp_nonres hav1 _ _ c)) (fun s' hs' u hu hui c hc hc'=>?_) hv
        have h14:=hav2 s' (AV.ment2_ment hs')
        have hne : s' ≠ s := fun e' => by rw [e', hl0] at h14; simp [isRes] at h14
        rw [hlt s' hne] at h14
        have h15:isRes (lk e s') = true:=by
          rcases klA_or s (lk e s') with h16 | h16
          · rw [h16] at h14; exact h14
          · rw [h16] at h14; simp [isRes] at h14
        exact hk'.apm h15 hne hu hui c hc (hfps _ c hc')
    rw [wpOps_cons] at hw
    have hw2:wpOp C.P A (fun ex a w=>match ex with | .normal=>C' a w | _=>False) cs.length C' a' k'.w:=wpOp_mono (fun a2 w2 h2=>by simpa [wpOps] using h2) hw
    unfold wpOp at hw2 ⊢
    have hAo:A[cs.length]? = some o1:=by rw [← nth_toList]; exact hno
    rw [hAo] at hw2 ⊢
    dsimp only at hw2 ⊢
    split at hw2
    · rename_i hwant
      rw [if_pos hwant]
      rcases hw2 with hw2 | hw2
      · left
        unfold Oper.wp at *
        generalize (execOp a'.eval o1).run C.P k'.w = res at *
        cases res with
        | ok nx w'=>cases nx <;> simp only [Oper.upon] at hw2 ⊢ <;> first | exact hw2 | (refine Calls.mono hw2 fun ee w2 he=>?_; cases ee <;> first | exact he | exact he.elim | (obtain ⟨_,_,hb'⟩:=he; exact hb'.elim)) | (exact Rows.mono hw2 fun _ _ he=>he)
        | halt x w'=>cases x <;> simp only [Oper.upon] at hw2 ⊢ <;> first | exact hw2 | exact hw2.elim
      · obtain ⟨_,_,_,hb'⟩:=hw2; exact hb'.elim
    · rename_i hwant
      rw [if_neg hwant]; exact hw2
  · -- behind
    intro kb hkb a' k' hinv
    have hp:Post A.toList es cs.length a kb a' k':=Post.of hinv
    have hs' : a'.get s = a.get s:=hinv.rest s fun i o' _ ho'=>notDst_spec c4 i o' ho'
    have hp2:=hp
    rw [h1] at hp2
    have hh:=post_hl hkb.1 (fun o hoc=>hW o (by rw [h1]; simp [hoc])) h6 hp2
    have hh2:=hh.addBox (b:=b) (z:=L.set x0 z) hl1 (hs'.trans hb) (hkb.2.1.grow hinv.grow) hwr fun t' ht c hc hc'=>by
      cases hr:isRes (lk e1 t') with
      | false=>exact absurd hc' (fp_nonres hr _ _ c)
      | true =>
        have h9:=h6.res t' hr
        have h10:=h6.slot t'
        rw [h9] at h10
        have h11:lk e1 t' = lk e0 t':=h10
        have h12:a'.get t' = a.get t':=hinv.rest t' fun i o' hi ho' hd=>by
          have h13:=(lastIdx_none h9).2 o' (by
            rw [h1,nth_eq,List.getElem?_append_left hi] at ho'
            exact List.mem_of_getElem? ho')
          exact h13 hd
        rw [h11,h12,hlt t' ht] at hc'
        have h13:(lk e t').fp (a.get t') k c:=by
          rcases klA_or s (lk e t') with h16 | h16
          · have hslb : (lk e t').is a (a.get t') kb := by have := hkb.1.sl t'; rw [hlt t' ht, h16] at this; exact this
            rw [h16,AV.fp_grow _ hinv.grow hslb,hkb.2.2 t' ht] at hc'; exact hc'
          · rw [h16] at hc'; exact hc'.elim
        exact h.ap s t' (Ne.symm ht) c (hfps _ c hc) h13
    rw [hsz]
    have:=ev2_ok hC (A:=A) (Q:=Q) (l:=rest) (pre:=cs ++ [o1]) (e:=(s,.box false t (L.set x0 z))::e1) (a:=a') (k:=k') (r:=r) (by rw [h1]; simp) (fun o hor=>hW o (by rw [h1]; simp [hor])) hh2 (by simpa using h5) (fun e' a2 k2 hk2 h'=>by
      obtain ⟨e2,k3,g1,g2,g3⟩:=shareK_ok h' hk2
      rw [← g2]
      exact hQ e2 a2 k3 g1 g3)
    simpa using this
  · cases hx : (Array.replicate A.size false).getD cs.length false with
    | false=>rfl
    | true=>exact (hF _ hx).elim
  · exact ⟨hg,rfl,rfl,fun i o d e hi=>(hF i hi).elim,fun _ _=>rfl,fun j o _ hj=>(hF j hj).elim,fun i hi=>(hF i hi).elim⟩

theorem fp_sub {a:Act} {k:K} {x u:AV T} {v:Value} (hr:isRes x = true) (hsl:x.is a v k) (hu:isOB u = true) (hui:u.is a v k) : ∀ b,u.fp v k b → x.fp v k b:=by
  intro b hb
  have hnsh:=(u.lt hui b hb).2
  cases u with
  | own l e' t xs => cases x with
    | own l' e'' t' xs'=>exact hb
    | box l' t' x'=>obtain ⟨c,rfl,_⟩:=hsl; simp [AV.fp,obF,ob] at hb
    | rs l' m z =>
      obtain ⟨F,h1⟩:=hsl
      show Rk.fp T (.c m) v k b
      rw [rp_fp h1]
      exact T.RProot _ _ _ _ _ _ h1 (.inr hb) hnsh
    | tr lf κ z l' =>
      obtain ⟨u,vs,rfl,_⟩:=hsl
      simp [AV.fp,obF,ob] at hb
    | _=>simp [isRes] at hr
  | box l t y => cases x with
    | own l' e'' t' xs' =>
      obtain ⟨c,rfl,_⟩:=hui
      rcases (show IsOwn 0 e'' xs' _ k from hsl) with ⟨e1,_⟩ | ⟨_,e1,_⟩ | ⟨_,_,_,_,_,e1,_⟩ <;> simp at e1
    | box l' t' x'=>exact hb
    | rs l' m z =>
      obtain ⟨F,h1⟩:=hsl
      show Rk.fp T (.c m) v k b
      rw [rp_fp h1]
      exact T.RProot _ _ _ _ _ _ h1 (.inl hb) hnsh
    | tr lf κ z l' =>
      obtain ⟨u,vs,rfl,_⟩:=hsl
      obtain ⟨c,e,_⟩:=hui
      simp at e
    | _=>simp [isRes] at hr
  | _=>simp [isOB] at hu
/-- Something is changed that no slot has for its own. -/
theorem Hl.away {n:Nat} {a:Act} {e:Env T} {k k' : K} {G:FP} (h:Hl n F k0 W a0 e a k) (c:Chg G k k') (hn : ∀ b,G b → ¬ k.sh b) (hw:Wr F k0 G) (ha : ∀ t,Apart ((lk e t).fp (a.get t) k) G):Hl n F k0 W a0 e a k':=
  have fpk : ∀ t,(lk e t).fp (a.get t) k' = (lk e t).fp (a.get t) k:=fun t=>AV.fp_keep _ c hn (ha t) (h.sl t)
  ⟨h.g.step c hw,h.s,h.d,h.old,fun t=>(lk e t).keep c hn (ha t) (fun s hs u hu hui b hb hb'=>
      ha s b (fp_sub (h.inv t s (AV.ment2_ment hs)) (h.sl s) hu hui b hb) hb') (h.sl t),h.inv,fun t ht=>by rw [fpk]; exact h.wr t ht,fun t t' hne=>by rw [fpk,fpk]; exact h.ap t t' hne,h.gl.le (c.le hn)⟩
theorem onlyDst_spec {s j:Nat} {ops:List Oper} (h:onlyDst s j ops = true) : ∀ i o,i ≠ j → nth ops i = some o → o.dst ≠ some s:=by
  intro i o hi ho hd
  have:=allI_spec h i o ho
  simp only [Nat.zero_add,hd,Bool.or_eq_true] at this
  rcases this with h1 | h1
  · exact hi (Nat.eq_of_beq_eq_true h1)
  · simp [Nat.beq_refl] at h1
theorem evN_ok (hC:CxOk C) {id:Nat} {e:Env T} {a:Act} {k:K} {K:Env T → Option R} {r:R} (hW : ∀ o ∈ A.toList,∀ d,o.dst = some d → d ∈ W) (h:Hl C.n F k0 W a0 e a k) (hk:evN C A.toList e K = some r)
    (hQ : ∀ e' a' k', K e' = some r → Hl C.n F k0 W a0 e' a' k' → Q .normal a' k'.w) : (Code.region id A true).wp C.P Q a k.w := by
  unfold evN at hk
  split at hk
  rotate_left
  · simp at hk
  rename_i m o hst
  split at hk
  rotate_left
  · simp at hk
  rename_i ty pt y hop hdst hgd
  split at hk
  rotate_left
  · simp at hk
  rename_i ja hja
  split at hk
  rotate_left
  · simp at hk
  rename_i oa hoa
  split at hk
  rotate_left
  · simp at hk
  rename_i tya hopa hgda
  split at hk
  rotate_left
  · simp at hk
  rename_i t htid
  obtain ⟨_,hno⟩:=stAt_spec hst
  simp only [Nat.sub_zero] at hno
  have p0:P1 e a [] [] e:=⟨rfl,fun t=>rfl,fun t _=>rfl,h.inv⟩
  obtain ⟨cs,rest,es,e1,h1,h2,_,h4,h5,h6,h7,h8,h9⟩:=ev1_ok (n:=C.n) (F:=F) (kk:=k0) (W:=W) (aa:=a0) hC (bH:=0) (B:=k.w.heap.size) A.toList (fun s' hs'=>by simp at hs') (A.toList.length + 1) R none [] A.toList [] e _ r [] (by simp) p0 (fun es' o ho=>by unfold GuardIs; rw [ho]) hk
  simp only [List.nil_append] at h5 h6 h7
  cases rest with
  | nil=>simp [ixs] at h5
  | cons o1 rest=>
  simp only [ixs] at h5
  have hlen:A.toList.length - ((cs.length,o1)::ixs (cs.length + 1) rest).length = cs.length:=by
    have:(ixs (cs.length + 1) rest).length = rest.length:=by rw [← List.length_map (f:=(·.2)),ixs_map]
    rw [List.length_cons,this,h1]; simp
  rw [hlen] at h5
  cases hc:(Nat.beq cs.length m && chkS C.n m A.toList (esOf (A.toList.take m)) && chkC m (lateL m A.toList) A.toList && lateOk m (lateL m A.toList) A.toList.toArray && hasBit (masks A.toList []) m ja && onlyDst pt ja A.toList && needSt m A.toList y && tyB C.P T ty t && zeroB C.P T tya t && isTop (lk e1 pt) && !(isRes (lk e pt))) with
  | false=>rw [hc] at h5; simp at h5
  | true=>
  rw [hc] at h5
  simp only [cond_true] at h5
  simp only [Bool.and_eq_true,Bool.not_eq_true'] at hc
  obtain ⟨⟨⟨⟨⟨⟨⟨⟨⟨⟨c1,c2⟩,c3⟩,c11⟩,c4⟩,c7⟩,c5⟩,c6⟩,c8⟩,c9⟩,c10⟩:=hc
  rw [Array.toArray_toList] at c11
  obtain rfl:=Nat.eq_of_beq_eq_true c1
  have ho1:o1 = o:=by
    rw [h1,nth_at,Option.some.injEq] at hno; exact hno
  subst ho1
  split at h5
  rotate_left
  · simp at h5
  rename_i z hz
  have htake:A.toList.take cs.length = cs:=by rw [h1,List.take_left']; rfl
  have hneed:(esOf cs).map (·.need) = es.map (·.need):=by rw [esOf_need,h4]
  rw [htake,chkS_congr hneed] at c2
  rw [htake] at hja
  have hmA:cs.length < A.size:=by
    have:A.size = (cs ++ o1::rest).length:=by rw [← h1]; simp
    rw [this]; simp
  have hsz:A.size - (cs.length + 1) = rest.length:=by
    have:A.size = (cs ++ o1::rest).length:=by rw [← h1]; simp
    rw [this]; simp; omega
  have hst' : ∀ kb,Hl C.n F k0 W a0 e a kb → k.w.heap.size ≤ kb.w.heap.size → Steps C.P es a kb (A.toList.take cs.length) es:=fun kb hkb hkz=>by
    rw [htake]
    have:=h7 kb hkb hkz []
    simpa using this
  have hl1:lk e1 pt = .top:=by
    cases hlt:lk e1 pt <;> rw [hlt] at c9 <;> first | rfl | simp [isTop] at c9
  -- the operation that makes the box
  obtain ⟨hjl,hdpt,nda,hea⟩:nth cs ja = some oa∧oa.dst = some pt∧∃ nd,nth es ja = some ⟨some (IsBoxS (T.D t) k.w.heap.size),nd⟩:=by
    rcases lastIdx_spec hja with h12 | ⟨o2,_,h12,h13⟩
    · simp at h12
    · simp only [Nat.sub_zero] at h12
      have hnj:nth A.toList ja = some o2:=by rw [h1]; exact nth_app h12
      rw [hoa,Option.some.injEq] at hnj
      subst hnj
      refine ⟨h12,h13,?_⟩
      exact h9 rfl ja oa (.box t) h12 hgda (by simp [hidO,hopa,h13,Nat.beq_refl,c8])
  refine wp_mono (Q:=QN Q) ?_ (fun e a w h=>by cases e <;> first | exact h | exact h.elim)
  refine wp_region_any hC.mix ?_
  let kd:Gb.K:=⟨{ k.w with drawn:=k.w.drawn + 1 },k.sh,k.lt⟩
  have hg:Grow k kd:=⟨rfl,rfl,rfl,Nat.le_refl _,fun _ _=>rfl,fun _ h=>h,fun _ _ h=>h,Nat.le_succ _⟩
  have hF : ∀ j,(Array.replicate A.size false).getD j false = true → False:=by
    intro j hj; simp [Array.getD_eq_getD_getElem?,Array.getElem?_replicate] at hj; split at hj <;> simp at hj
  -- what the new box's block is to the rest
  have hwr : ∀ b,k.w.heap.size ≤ b → Wr F k0 (Eq b):=fun b hb c hc=>by subst hc; exact .inr (Nat.le_trans h.g.size hb)
  have hap : ∀ b, k.w.heap.size ≤ b → ∀ t', Apart ((lk e t').fp (a.get t') k) (Eq b) := fun b hb t' c hc hc' => by
    subst hc'
    have:=(h.lt t' b hc).1
    omega
  refine any_stP (pt := pt) (ja := ja) (B := fun kb u => ∃ b, u = .pointer (some ⟨b, 0, none⟩) ∧ k.w.heap.size ≤ b ∧ k.w.heap.size ≤ kb.w.heap.size ∧ Hl C.n F k0 W a0 e a kb ∧ Box b z kb ∧ ∀ t', (lk e t').fp (a.get t') kb = (lk e t').fp (a.get t') k) (k0 := k) (fun i o' hi ho' => onlyDst_spec c7 i o' hi ho') c4 h.s c2 hmA c3 c11 (fun _ _ _ h => h) (hst' k h (Nat.le_refl _)) (fun kb u ⟨b, _, _, hkz, hkb, _, _⟩ => hst' kb hkb hkz) trivial ?_ ?_ A.size _ a kd (by simp) (by simp) (fun j hj => (hF j hj).elim) (.inl ⟨?_, ?_⟩)
  · -- the store
    intro a' k' D hD hinv hbind C' hC'
    have hk' : Hl C.n F k0 W a0 e a k':=h.grow hinv.grow
    obtain ⟨x,b,hpv,hsb,hbx⟩:IsBoxS (T.D t) k.w.heap.size (a'.get pt) k':=by
      have hDj:D ja:=hasBit_spec (L:=A.toList) (D:=D) hinv.closed (j:=cs.length) (i:=ja) (fun o' ho'=>hbind o' ho') c4
      exact hinv.vals ja oa pt _ hDj hoa hdpt hea
    have hyv:IsV (α:=T.D t) z (a'.eval y) k':=by
      refine asT_is (a:=a) hz (opv_is (e:=e1) ?_)
      cases y with
      | tmp yt =>
        have h9:=h6.slot yt
        simp only [needSt,htake] at c5
        cases hli:lastIdx yt cs 0 none with
        | none =>
          rw [hli] at h9 c5
          have hu:a'.get yt = a.get yt:=hinv.rest yt fun i o' _ ho'=>notDst_spec c5 i o' ho'
          refine ⟨?_,fun _=>hu⟩
          rw [hu,show lk e1 yt = lk e yt from h9]
          exact (lk e yt).mono hinv.grow (h.sl yt)
        | some j =>
          rw [hli] at h9 c5
          have hDj:D j:=hasBit_spec (L:=A.toList) (D:=D) hinv.closed (j:=cs.length) (i:=j) (fun o' ho'=>hbind o' ho') c5
          obtain ⟨Rr,nd,h10,h11⟩:=h9
          refine ⟨?_,fun hr=>by rw [h6.res yt hr] at hli; simp at hli⟩
          rcases h11 with h11 | ⟨R', rfl, h11⟩
          · rw [h11]; trivial
          · rcases lastIdx_spec hli with h12 | ⟨oj, _, h12, h13⟩
            · simp at h12
            · have hnj : nth A.toList j = some oj := by rw [h1]; exact nth_app (by simpa using h12)
              exact h11 _ _ (hinv.vals j oj yt _ hDj hnj h13 h10)
      | const v=>trivial
      | global g=>simp [needSt] at c5
      | func g=>simp [needSt] at c5
    have hw:wpOps C.P A (fun ex a w=>match ex with | .normal=>C' a w | _=>False) [cs.length] a' k'.w:=by
      refine tail_storeB (set:=fun _ y=>y) (x:=x) (z:=z) (b:=b) (off:=0) hno hgd hop hdst (tyB_sz c6) Upd.self (show IsAdr b 0 (a'.eval (.tmp pt)) k' from hpv) hbx hyv fun k1 hch hbz=>?_
      show wpOps C.P A _ [] a' k1.w
      simp only [wpOps]
      have hnsh : ∀ c,b = c → ¬ k'.sh c:=fun c hc=>hbx.nshF c hc
      refine hC' k1 k1 ⟨b,hpv,hsb,Nat.le_trans hinv.grow.size hch.size,hk'.away hch hnsh (hwr b hsb) (fun t'=>by rw [AV.fp_grow _ hinv.grow (h.sl t')]; exact hap b hsb t'),hbz,fun t'=>(AV.fp_keep _ hch hnsh (by rw [AV.fp_grow _ hinv.grow (h.sl t')]; exact hap b hsb t') (hk'.sl t')).trans (AV.fp_grow _ hinv.grow (h.sl t'))⟩ ⟨Grow.refl k1,hinv.size,hinv.defers,fun i oi d en hDi hoi hd hen=>?_,hinv.rest,hinv.closed,hinv.mem⟩
      have hv:=hinv.vals i oi d en hDi hoi hd hen
      obtain ⟨Rr,nd⟩:=en
      cases Rr with
      | none=>exact hv
      | some Rr =>
        have hmem:(⟨some Rr,nd⟩:Ent) ∈ es:=by rw [nth_eq] at hen; exact List.mem_of_getElem? hen
        rcases h8 _ hmem Rr rfl with ⟨av,rfl,hav1,hav2⟩ | ⟨ox,yx,hox,rfl⟩
        rotate_left
        · cases yx with
          | adr off=>exact hv
          | box t2 =>
            obtain ⟨_,_,h20,_⟩:=hidO_box hox
            injection h20 with h21 h22
            subst h22
            obtain ⟨x2,b2,hp2,hs2,hb2⟩:=hv
            by_cases hbb:b2 = b
            · subst hbb; exact ⟨z,b2,hp2,hs2,hbz⟩
            · exact ⟨x2,b2,hp2,hs2,hb2.keep hch (fun e'=>hbb e'.symm) hnsh⟩
        refine av.keep hch hnsh (fun c hc=>absurd hc (fp_nonres hav1 _ _ c)) (fun s' hs' u hu hui c hc hc'=>?_) hv
        have h14:=hav2 s' (AV.ment2_ment hs')
        subst hc'
        have h15:=fp_sub h14 (hk'.sl s') hu hui b hc
        rw [AV.fp_grow _ hinv.grow (h.sl s')] at h15
        have:=(h.lt s' b h15).1
        omega
    rw [wpOps_cons] at hw
    have hw2:wpOp C.P A (fun ex a w=>match ex with | .normal=>C' a w | _=>False) cs.length C' a' k'.w:=wpOp_mono (fun a2 w2 h2=>by simpa [wpOps] using h2) hw
    unfold wpOp at hw2 ⊢
    have hAo:A[cs.length]? = some o1:=by rw [← nth_toList]; exact hno
    rw [hAo] at hw2 ⊢
    dsimp only at hw2 ⊢
    split at hw2
    · rename_i hwant
      rw [if_pos hwant]
      rcases hw2 with hw2 | hw2
      · left
        unfold Oper.wp at *
        generalize (execOp a'.eval o1).run C.P k'.w = res at *
        cases res with
        | ok nx w'=>cases nx <;> simp only [Oper.upon] at hw2 ⊢ <;> first | exact hw2 | (refine Calls.mono hw2 fun ee w2 he=>?_; cases ee <;> first | exact he | exact he.elim | (obtain ⟨_,_,hb'⟩:=he; exact hb'.elim)) | (exact Rows.mono hw2 fun _ _ he=>he)
        | halt x w'=>cases x <;> simp only [Oper.upon] at hw2 ⊢ <;> first | exact hw2 | exact hw2.elim
      · obtain ⟨_,_,_,hb'⟩:=hw2; exact hb'.elim
    · rename_i hwant
      rw [if_neg hwant]; exact hw2
  · -- behind
    intro kb a' k' ⟨b,hpv,hsb,hkz,hkb,hbz,hfk⟩ hinv
    have hp:Post A.toList es cs.length a kb a' k':=Post.of hinv
    have hp2:=hp
    rw [h1] at hp2
    have hh:=post_hl hkb (fun o hoc=>hW o (by rw [h1]; simp [hoc])) h6 hp2
    have hh2:=hh.addBox (b:=b) (z:=z) hl1 hpv (hbz.grow hinv.grow) (hwr b hsb) fun t' ht c hc hc'=>by
      subst hc
      cases hr:isRes (lk e1 t') with
      | false=>exact absurd hc' (fp_nonres hr _ _ b)
      | true =>
        have h9:=h6.res t' hr
        have h10:=h6.slot t'
        rw [h9] at h10
        have h11:lk e1 t' = lk e t':=h10
        have h12:a'.get t' = a.get t':=hinv.rest t' fun i o' hi ho' hd=>by
          have h13:=(lastIdx_none h9).2 o' (by
            rw [h1,nth_eq,List.getElem?_append_left hi] at ho'
            exact List.mem_of_getElem? ho')
          exact h13 hd
        rw [h11,h12,AV.fp_grow _ hinv.grow (hkb.sl t'),hfk t'] at hc'
        exact hap b hsb t' b hc' rfl
    rw [hsz]
    have:=ev2_ok hC (A:=A) (Q:=QN Q) (l:=rest) (pre:=cs ++ [o1]) (e:=(pt,.box false t z)::e1) (a:=a') (k:=k') (r:=r) (by rw [h1]; simp) (fun o hor=>hW o (by rw [h1]; simp [hor])) hh2 (by simpa using h5) (fun e' a2 k2 hk2 h'=>by
      obtain ⟨e2,k3,g1,g2,g3⟩:=shareK_ok h' hk2
      rw [← g2]
      exact hQ e2 a2 k3 g1 g3)
    simpa using this
  · cases hx : (Array.replicate A.size false).getD cs.length false with
    | false=>rfl
    | true=>exact (hF _ hx).elim
  · exact ⟨hg,rfl,rfl,fun i o d e hi=>(hF i hi).elim,fun _ _=>rfl,fun j o _ hj=>(hF j hj).elim,fun i hi=>(hF i hi).elim⟩

theorem Grow.fresh {k k1 k2:K} {b:Nat} (g:Grow k k1) (c:Chg (Eq b) k1 k2) (hb:k.w.heap.size ≤ b):Grow k k2 where
  tape:=c.tape.trans g.tape
  os:=c.os.trans g.os
  out:=c.out.trans g.out
  size:=Nat.le_trans g.size c.size
  blk i hi:=(c.blk i (Nat.lt_of_lt_of_le hi g.size) (fun e=>by omega)).trans (g.blk i hi)
  up i hi:=c.up i (g.up i hi)
  new i hi hs:=(c.new i (Nat.lt_of_lt_of_le hi g.size) hs).elim (fun h=>g.new i hi h) fun e=>by omega
  drawn:=Nat.le_trans g.drawn c.drawn
theorem evT_cases {ops:List Oper} {l:List Oper} {m:Nat} {e:Env T} {K:Env T → Option R} {r:R} (h:evT C ops (ixs m l) e K = some r) :
    (∃ oa os d t z,l = [oa,os]∧rawAS C e oa os = some (d,⟨t,z⟩)∧put e d (.box false t z) K = some r) ∨ (ev2 C ops (ixs m l) e fun e''=>shareK C ops e'' K) = some r:=by
  match l,h with
  | [oa, os], h =>
    simp only [ixs,evT] at h
    cases hr:rawAS C e oa os with
    | none=>rw [hr] at h; exact .inr h
    | some x =>
      obtain ⟨d,t,z⟩:=x
      rw [hr] at h
      exact .inl ⟨oa,os,d,t,z,rfl,hr,h⟩
  | [],h=>exact .inr h
  | [_],h=>exact .inr h
  | _::_::_::_,h=>exact .inr h
theorem rawB_ok {P:Program} {ty:TypeId} {t:Tp} (h:rawB P T ty t = true):(T.e t).agg = true∧∃ z:Array Value,(∀ w,(zeroValue ty).run P w = .ok (.agg z) w)∧z.size = (T.e t).sz∧∀ u ∈ z.toList,u.oneCell' = true:=by
  unfold rawB at h
  split at h
  · rename_i i hi
    split at h
    · rename_i z hz
      simp only [Bool.and_eq_true,List.all_eq_true] at h
      exact ⟨h.1.1,z,fun w=>by simp [zeroValue,typeInfo,hi,hz],Nat.eq_of_beq_eq_true h.1.2,h.2⟩
    · simp at h
  · simp at h
theorem raw_ok {pre:List Oper} {oa os:Oper} {e:Env T} {a:Act} {k:K} {d:Nat} {t:Tp} {z:T.D t} {Kc:Env T → Option R} {r:R} (hA:A.toList = pre ++ [oa,os]) (hW : ∀ o ∈ [oa,os],∀ d,o.dst = some d → d ∈ W) (h:Hl C.n F k0 W a0 e a k)
    (hr : rawAS C e oa os = some (d, ⟨t, z⟩)) (hput : put e d (.box false t z) Kc = some r) (hQ : ∀ e' a' k', Kc e' = some r → Hl C.n F k0 W a0 e' a' k' → Q .normal a' k'.w) : wpOps C.P A Q (List.range' pre.length 2) a k.w := by
  unfold rawAS at hr
  split at hr
  · rename_i ty d0 ty' d' y ho1 hd1 hg1 ho2 hd2 hg2
    cases hb:(Nat.beq d' d0 && Nat.blt d0 C.n && !(sameTmp (.tmp d0) y)) with
    | false=>rw [hb] at hr; simp at hr
    | true =>
      rw [hb] at hr
      simp only [cond_true] at hr
      simp only [Bool.and_eq_true,Bool.not_eq_true'] at hb
      obtain ⟨⟨hb1,hb2⟩,hb3⟩:=hb
      obtain rfl:=Nat.eq_of_beq_eq_true hb1
      rw [Nat.blt_eq] at hb2
      split at hr
      · rename_i t0 ht0
        cases hc:(!(zeroB C.P T ty t0) && rawB C.P T ty t0 && tyB C.P T ty' t0) with
        | false=>rw [hc] at hr; simp at hr
        | true =>
          rw [hc] at hr
          simp only [cond_true] at hr
          simp only [Bool.and_eq_true] at hc
          split at hr
          · rename_i z0 hz0
            simp only [Option.some.injEq,Prod.mk.injEq] at hr
            obtain ⟨rfl,hr⟩:=hr
            injection hr with hr1 hr2
            subst hr1
            obtain rfl:=eq_of_heq hr2
            obtain ⟨hag,zc,hzr,hzs,hz1⟩:=rawB_ok hc.1.2
            have hA1:nth A.toList pre.length = some oa:=by rw [hA]; exact nth_at
            have hA2:nth A.toList (pre.length + 1) = some os:=by
              rw [hA,show pre ++ [oa,os] = (pre ++ [oa]) ++ [os] by simp,show pre.length + 1 = (pre ++ [oa]).length by simp]; exact nth_at
            have hv0:IsV z0 (a.eval y) k:=asT_is hz0 (opv_is (e:=e) (a0:=a) (by
              cases y with
              | tmp t=>exact ⟨h.sl t,fun _=>rfl⟩
              | global _=>exact h.gl
              | _=>trivial))
            show wpOps C.P A Q [pre.length,pre.length + 1] a k.w
            have hraw : ∀ k:Go.Gb.K,IsV (⟨zc.toList⟩:RawC (T.e t0).sz) (.agg zc) k:=fun k=>⟨zc.toList,by show Value.agg zc = .agg zc.toList.toArray; simp,rfl,by simpa using hzs,hz1⟩
            refine tail_does hA1 hg1 hd1 (by rw [h.s]; exact hb2) trivial (ok_alloc (x:=(⟨zc.toList⟩:RawC (T.e t0).sz)) k.w.heap.size (Nat.le_refl _) ho1 ⟨.agg zc,hzr,hraw⟩) fun a' k' hsz hdf hoth hgr hbx=>?_
            obtain ⟨b,hpb,hbs,hBx⟩:=hbx
            have hye:a'.eval y = a.eval y:=by
              cases y with
              | tmp t =>
                refine hoth t fun e1=>?_
                subst e1
                simp [sameTmp] at hb3
              | _=>rfl
            have hv1:IsV z0 (a'.eval y) k':=by rw [hye]; exact Mono.mono hgr hv0
            obtain ⟨cs,ecs,hrep⟩:=hv1
            refine tail_storeB (α:=RawC (T.e t0).sz) (β:=RawC (T.e t0).sz) (z:=⟨cs⟩) (b:=b) hA2 hg2 ho2 hd2 (tyB_sz hc.2) Upd.self ?_ hBx ⟨cs,?_,rfl,Enc.len hrep,Enc.one hrep⟩ fun k'' hch hz=>?_
            · show a'.get d' = _
              rw [hpb]
            · rw [ecs,hag]; rfl
            · have hle := hch.le (fun c e => e ▸ hBx.own)
              have hB:Box b z0 k'':=hz.unraw (Enc.mono hle hrep)
              obtain ⟨e', h1, h2⟩ := h.putFresh (d := d') (av := .box false t0 z0) (hW oa (by simp) _ hd1) (Grow.fresh hgr hch hbs) hsz hdf hoth ⟨b, hpb, hB⟩ (fun _ hm => by simp [AV.ment] at hm) (fun c hcf => by
                have:a'.get d' = .pointer (some ⟨c,0,none⟩):=hcf
                rw [hpb] at this
                simp only [Value.pointer.injEq,Option.some.injEq,Addr.mk.injEq,and_true] at this
                omega) hput
              exact hQ e' a' k'' h1 h2
          · simp at hr
      · simp at hr
  · simp at hr
theorem evR_ok (hC:CxOk C) {id:Nat} {draw:Bool} {e:Env T} {a:Act} {k:K} {K:Env T → Option R} {r:R} (hW : ∀ o ∈ A.toList,∀ d,o.dst = some d → d ∈ W) (h:Hl C.n F k0 W a0 e a k) (hk:evR C A.toList draw e K = some r)
    (hQ : ∀ e' a' k', K e' = some r → Hl C.n F k0 W a0 e' a' k' → Q .normal a' k'.w) : (Code.region id A draw).wp C.P Q a k.w := by
  unfold evR at hk
  cases hdr:(draw && (newSt A.toList && lateA A.toList) && (callAt C A.toList 0).isSome) with
  | true =>
    rw [hdr] at hk
    simp only [cond_true] at hk
    rw [Bool.and_eq_true,Bool.and_eq_true] at hdr
    obtain rfl:=hdr.1.1
    exact evC_ok hC hW h hk fun e' a' k' hk' h'=>by
      obtain ⟨e2,k2,g1,g2,g3⟩:=shareK_ok h' hk'
      rw [← g2]
      exact hQ e2 a' k2 g1 g3
  | false=>
  rw [hdr] at hk
  simp only [cond_false] at hk
  cases hlate:(draw && (lateSt A.toList || (newSt A.toList && lateA A.toList))) with
  | true =>
    rw [hlate] at hk
    simp only [cond_true] at hk
    rw [Bool.and_eq_true] at hlate
    obtain rfl:=hlate.1
    cases hnw:newSt A.toList with
    | true=>rw [hnw] at hk; exact evN_ok hC hW h hk hQ
    | false=>rw [hnw] at hk; exact evX_ok hC hW h hk hQ
  | false=>
  rw [hlate] at hk
  simp only [cond_false] at hk
  have p0:P1 e a [] [] e:=⟨rfl,fun t=>rfl,fun t _=>rfl,h.inv⟩
  obtain ⟨cs,rest,es,e1,h1,h2,_,h4,h5,h6,h7,_⟩:=ev1_ok (n:=C.n) (F:=F) (kk:=k0) (W:=W) (aa:=a0) hC (bH:=0) (B:=0) A.toList (fun s hs=>by simp at hs) (A.toList.length + 1) R none [] A.toList [] e _ r [] (by simp) p0 (fun es' o ho=>by unfold GuardIs; rw [ho]) hk
  simp only [List.nil_append] at h5 h6 h7
  have hlen:A.toList.length - (ixs cs.length rest).length = cs.length:=by
    have:(ixs cs.length rest).length = rest.length:=by rw [← List.length_map (f:=(·.2)),ixs_map]
    rw [this,h1]; simp
  have htake:A.toList.take cs.length = cs:=by rw [h1,List.take_left']; rfl
  rw [hlen,htake] at h5
  have hneed:(esOf cs).map (·.need) = es.map (·.need):=by rw [esOf_need,h4]
  have hst:Steps C.P es a k (A.toList.take cs.length) es:=by
    rw [htake]
    have:=h7 k h (Nat.zero_le _) []
    simpa using this
  have hsz:A.size - cs.length = rest.length:=by
    have:A.size = (cs ++ rest).length:=by rw [← h1]; simp
    rw [this]; simp
  -- behind the first part
  have tail:evT C A.toList (ixs cs.length rest) e1 K = some r → ∀ b q,Post A.toList es cs.length a k b q → wpOps C.P A Q (List.range' cs.length (A.size - cs.length)) b q.w:=by
    intro hev b q hp
    rw [hsz]
    rw [h1] at hp
    have hh:=post_hl h (fun o ho=>hW o (by rw [h1]; simp [ho])) h6 hp
    rcases evT_cases hev with ⟨oa,os,d,t,z,rfl,hr,hput⟩ | hev
    · exact raw_ok h1 (fun o ho=>hW o (by rw [h1]; simp [ho])) hh hr hput hQ
    exact ev2_ok hC h1 (fun o ho=>hW o (by rw [h1]; simp [ho])) hh hev fun e' a' k' hk' h'=>by
      obtain ⟨e2,k2,g1,g2,g3⟩:=shareK_ok h' hk'
      rw [← g2]
      exact hQ e2 a' k2 g1 g3
  cases draw with
  | false =>
    simp only [cond_false] at h5
    rw [chkS_congr hneed] at h5
    cases hc:chkS C.n cs.length A.toList es with
    | false=>rw [hc] at h5; simp at h5
    | true =>
      rw [hc] at h5
      exact regionS es h.s hc hst trivial (tail h5)
  | true =>
    simp only [cond_true] at h5
    rw [chk_congr hneed] at h5
    cases hc:chk C.n cs.length A.toList es with
    | false=>rw [hc] at h5; simp at h5
    | true =>
      rw [hc] at h5
      exact region es hC.mix h.s hc hst trivial (tail h5)
end
end Go.Gb

/- General part of the proofs: environments over joins. -/
namespace Go.Gb
variable {T:Tb} {R:Type}

def lockE (W:List Nat) (e:Env T):Env T:=e.map fun p=>(p.1,bif W.contains p.1 then p.2 else lkA p.2)
theorem lockK_eq (W:List Nat) : ∀ (e:Env T) (k:Env T → Option R),lockK W e k = k (lockE W e)
  | [],_=>rfl
  | (t,a)::e,k=>by rw [lockK,lockK_eq W e]; rfl
theorem lk_lockE {W:List Nat} : ∀ (e:Env T) (t:Nat),lk (lockE W e) t = bif W.contains t then lk e t else lkA (lk e t)
  | [],t=>by show AV.top = _; cases W.contains t <;> rfl
  | (s, x) :: e, t => by
    show lk ((s,_)::lockE W e) t = _
    rw [lk_cons,lk_cons,lk_lockE e]
    split
    · rename_i h; subst h; rfl
    · rfl
def keepE (lock:Bool) (W Wd:List Nat):Env T → Env T
  | []=>[]
  | (t,a)::e=>bif W.contains t then keepE lock W Wd e else (t,bif Wd.contains t then a else keepA lock (W ++ Wd) a)::keepE lock W Wd e
theorem keepK_eq (lock:Bool) (W Wd:List Nat) : ∀ (e:Env T) (k:Env T → Option R),keepK lock W Wd e k = k (keepE lock W Wd e)
  | [],_=>rfl
  | (t,a)::e,k=>by rw [keepK,keepK_eq lock W Wd e]; rfl
theorem lk_keepE {lock:Bool} {W Wd:List Nat} : ∀ (e:Env T) (t:Nat),lk (keepE lock W Wd e) t = bif W.contains t then .top else bif Wd.contains t then lk e t else keepA lock (W ++ Wd) (lk e t)
  | [],t=>by show AV.top = _; cases W.contains t <;> cases Wd.contains t <;> rfl
  | (s, x) :: e, t => by
    simp only [keepE]
    cases hs:W.contains s with
    | true =>
      simp only [cond_true]
      rw [lk_keepE e,lk_cons]
      split
      · rename_i h; subst h; rw [hs]; rfl
      · rfl
    | false =>
      simp only [cond_false]
      rw [lk_cons,lk_cons,lk_keepE e]
      split
      · rename_i h; subst h; rw [hs]; rfl
      · rfl

theorem lkA_is {a:Act} {x:AV T} {v:Value} {k:K} (h:x.is a v k):(lkA x).is a v k:=by cases x <;> exact h
theorem lkA_fp {x:AV T} {v:Value} {k:K}:(lkA x).fp v k = x.fp v k:=by cases x <;> rfl
theorem lkA_res {x:AV T}:isRes (lkA x) = isRes x:=by cases x <;> rfl
theorem lkA_ment {x:AV T} {s:Nat}:(lkA x).ment s = x.ment s:=by cases x <;> rfl
theorem lkA_unl {x:AV T}:unl (lkA x) = false:=by cases x <;> rfl

/-- the blocks of some slots -/
def FU (e:Env T) (a:Act) (k:K) (L:List Nat):FP:=fun b=>∃ t,L.contains t = true∧unl (lk e t) = true∧(lk e t).fp (a.get t) k b

section
variable {n:Nat} {F:FP} {k0:K} {W:List Nat} {a0:Act} {e e' : Env T} {a a' : Act} {k k' : K}
theorem Hl.lock (h:Hl n F k0 W a0 e a k) (L Wc:List Nat):Hl n (FU e a k L) k Wc a (lockE L e) a k:=by
  have fpe : ∀ t,(lk (lockE L e) t).fp (a.get t) k = (lk e t).fp (a.get t) k:=fun t=>by
    rw [lk_lockE]; cases L.contains t
    · exact lkA_fp
    · rfl
  refine ⟨Chg.refl _ k,h.s,h.d,fun _ _=>rfl,fun t=>?_,fun t s hs=>?_,fun t ht=>?_,fun t t' hne=>by rw [fpe,fpe]; exact h.ap t t' hne,h.gl⟩
  · rw [lk_lockE]; cases L.contains t
    · exact lkA_is (h.sl t)
    · exact h.sl t
  · have h1 : (lk e t).ment s = true := by
      rw [lk_lockE] at hs
      cases hc:L.contains t <;> rw [hc] at hs
      · rwa [cond_false,lkA_ment] at hs
      · exact hs
    rw [lk_lockE]
    cases L.contains s
    · rw [cond_false,lkA_res]; exact h.inv t s h1
    · exact h.inv t s h1
  · rw [fpe]
    rw [lk_lockE] at ht
    cases hc:L.contains t <;> rw [hc] at ht
    · rw [cond_false,lkA_unl] at ht; simp at ht
    · exact fun b hb=>.inl ⟨t,hc,ht,hb⟩

theorem keepA_is {a:Act} {lock:Bool} {L:List Nat} {x:AV T} {v:Value} {k:K} (h:x.is a v k):(keepA lock L x).is a v k:=by
  cases x with
  | al s=>simp only [keepA]; cases L.contains s; exact h; trivial
  | mv f s=>simp only [keepA]; cases L.contains s; exact h; trivial
  | _=>first | exact h | trivial
theorem keepA_fp {lock:Bool} {L:List Nat} {x:AV T} {v:Value} {k:K} : ∀ b,(keepA lock L x).fp v k b → x.fp v k b:=by
  intro b hb
  cases x with
  | al s=>simp only [keepA] at hb; cases hc:L.contains s <;> rw [hc] at hb <;> exact hb
  | mv f s=>simp only [keepA] at hb; cases hc:L.contains s <;> rw [hc] at hb <;> exact hb
  | _=>exact hb
theorem keepA_ment2 {lock:Bool} {L:List Nat} {x:AV T} {s:Nat}:(keepA lock L x).ment2 s = false:=by
  cases x with
  | al s'=>simp only [keepA]; cases L.contains s' <;> rfl
  | mv f s'=>simp only [keepA]; cases L.contains s' <;> rfl
  | _=>rfl
theorem keepA_ment {lock:Bool} {L:List Nat} {x:AV T} {s:Nat} (h:(keepA lock L x).ment s = true):x.ment s = true∧L.contains s = false:=by
  cases x with
  | al s' =>
    simp only [keepA] at h
    cases hc:L.contains s' with
    | true=>rw [hc] at h; simp [AV.ment] at h
    | false =>
      rw [hc] at h
      have:s' = s:=Nat.eq_of_beq_eq_true h
      subst this
      exact ⟨h,hc⟩
  | mv f s' =>
    simp only [keepA] at h
    cases hc:L.contains s' with
    | true=>rw [hc] at h; simp [AV.ment] at h
    | false =>
      rw [hc] at h
      have:s' = s:=Nat.eq_of_beq_eq_true h
      subst this
      exact ⟨h,hc⟩
  | _=>simp [keepA,AV.ment] at h
theorem keepA_res {lock:Bool} {L:List Nat} {x:AV T} (h:isRes x = true):isRes (keepA lock L x) = true:=by
  cases x <;> first | rfl | simp [isRes] at h
theorem keepA_unl {lock:Bool} {L:List Nat} {x:AV T} (h:unl (keepA lock L x) = true):lock = false∧unl x = true:=by
  cases x with
  | own b e t xs=>cases lock <;> cases b <;> simp [keepA,unl] at h ⊢
  | box b t x=>cases lock <;> cases b <;> simp [keepA,unl] at h ⊢
  | rs b m x=>cases lock <;> cases b <;> simp [keepA,unl] at h ⊢
  | tr b κ x l=>cases lock <;> cases b <;> simp [keepA,unl] at h ⊢
  | al s=>simp only [keepA] at h; cases hc:L.contains s <;> rw [hc] at h <;> simp [unl] at h
  | mv f s=>simp only [keepA] at h; cases hc:L.contains s <;> rw [hc] at h <;> simp [unl] at h
  | _=>simp [keepA,unl] at h

theorem takeS_is (h:Hl n F k0 W a0 e a k) {t:Nat} {κ:Kd} {x:κ.D T} (ht:takeS e t κ = some x):(avK κ x).is a (a.get t) k∧(∀ s,(avK κ x).ment s = false)∧∀ b,(avK κ x).fp (a.get t) k b → unl (lk e t) = true∧(lk e t).fp (a.get t) k b:=by
  have hsl:=h.sl t
  cases κ with
  | v u =>
    simp only [takeS] at ht
    exact ⟨mkv_is.2 (asT_is ht (nrm_is hsl)),fun _=>mkv_ment,fun b hb=>absurd hb (fp_nonres mkv_res _ _ b)⟩
  | o el u =>
    simp only [takeS] at ht
    split at ht
    · rename_i el' u' xs hl
      cases hb:Nat.beq el el' with
      | false=>rw [hb] at ht; simp at ht
      | true =>
        rw [hb] at ht
        obtain rfl:=Nat.eq_of_beq_eq_true hb
        obtain ⟨he,hx⟩:=cast?_eq ht
        injection he with he
        subst he
        obtain rfl:x = xs:=hx
        rw [hl] at hsl
        exact ⟨hsl,fun _=>rfl,fun b hb=>⟨by rw [hl]; rfl,by rw [hl]; exact hb⟩⟩
    · rename_i hl
      obtain rfl:=Option.some.inj ht
      rw [hl] at hsl
      exact ⟨IsE0.own0 hsl,fun _=>rfl,fun b hb=>absurd hb (IsE0.noOb (k:=k) hsl b)⟩
    · simp at ht
  | b u =>
    simp only [takeS] at ht
    split at ht
    · rename_i u' y hl
      obtain ⟨rfl,hx⟩:=cast?_eq ht
      obtain rfl:x = y:=hx
      rw [hl] at hsl
      exact ⟨hsl,fun _=>rfl,fun b hb=>⟨by rw [hl]; rfl,by rw [hl]; exact hb⟩⟩
    · simp at ht
  | c m =>
    simp only [takeS] at ht
    split at ht
    · rename_i m' y hl
      split at ht
      · rename_i hm _
        obtain rfl:=hm.down
        obtain rfl:=Option.some.inj ht
        rw [hl] at hsl
        exact ⟨hsl,fun _=>rfl,fun b hb=>⟨by rw [hl]; rfl,by rw [hl]; exact hb⟩⟩
      · simp at ht
    · simp at ht
theorem take_congr {ds:List Nat} {e e' : Env T} : ∀ {sp:Sp},(∀ t,t ∈ spW sp → lk e t = lk e' t) → take ds e sp = take ds e' sp:=by
  have one : ∀ p:Nat × Kd,lk e p.1 = lk e' p.1 → takeS e p.1 p.2 = takeS e' p.1 p.2:=by
    intro p hp
    obtain ⟨s,κ⟩:=p
    cases κ <;> simp only [takeS] <;> rw [show lk e s = lk e' s from hp]
  intro sp
  induction sp with
  | nil=>intro _; rfl
  | cons p l ih =>
    intro h
    cases l with
    | nil=>simp only [take]; rw [one p (h p.1 (by simp [spW]))]
    | cons q l=>simp only [take]; rw [one p (h p.1 (by simp [spW])),ih fun t ht=>h t (by simp only [spW,List.map_cons,List.mem_cons] at ht ⊢; exact .inr ht)]
theorem give_lk {ds xs:List Nat} (hds : ∀ d,ds.contains d = true → xs.contains d = true) {e base:Env T} : ∀ {sp:Sp} {s:SpD T sp},take ds e sp = some s → ∀ t,
    ((spW sp).contains t = false∧lk (give xs sp s base) t = lk base t) ∨ ((spW sp).contains t = true∧(lk (give xs sp s base) t = .top ∨ ∃ κ x,takeS e t κ = some x∧lk (give xs sp s base) t = avK κ x)):=by
  have one : ∀ {p:Nat × Kd} {y:p.2.D T} {b:Env T} (t:Nat),(bif ds.contains p.1 then some p.2.dflt else takeS e p.1 p.2) = some y → p.1 = t →
      (lk ((p.1,bif xs.contains p.1 then .top else avK p.2 y)::b) t = .top ∨ ∃ κ x,takeS e t κ = some x∧lk ((p.1,bif xs.contains p.1 then .top else avK p.2 y)::b) t = avK κ x):=by
    intro p y b t hy ht
    rw [lk_cons,if_pos ht]
    cases hx:xs.contains p.1 with
    | true=>exact .inl rfl
    | false =>
      have hd:ds.contains p.1 = false:=by
        cases hd:ds.contains p.1 with
        | false=>rfl
        | true=>rw [hds _ hd] at hx; simp at hx
      rw [hd] at hy
      rw [← ht]
      exact .inr ⟨p.2,y,hy,rfl⟩
  have cont : ∀ (p:Nat × Kd) (l:Sp) (t:Nat),(spW (p::l)).contains t = (t == p.1 || (spW l).contains t):=fun p l t=>by simp [spW]
  intro sp
  induction sp with
  | nil=>intro s _ t; exact .inl ⟨rfl,rfl⟩
  | cons p l ih =>
    intro s hs t
    cases l with
    | nil =>
      simp only [take] at hs
      rw [cont]
      by_cases ht:p.1 = t
      · exact .inr ⟨by simp [ht],one t hs ht⟩
      · have : (t == p.1) = false := by simpa using fun e => ht e.symm
        exact .inl ⟨by rw [this]; rfl,by simp only [give]; rw [lk_cons,if_neg ht]⟩
    | cons q l =>
      simp only [take] at hs
      split at hs
      · rename_i y ys hy hys
        obtain rfl:=Option.some.inj hs
        rw [cont]
        by_cases ht:p.1 = t
        · exact .inr ⟨by simp [ht],one t hy ht⟩
        · have hne : (t == p.1) = false := by simpa using fun e => ht e.symm
          have:=ih hys t
          rw [hne,Bool.false_or]
          simp only [give]
          rw [lk_cons,if_neg ht]
          exact this
      · simp at hs

theorem rejoin (h:Hl n F k0 W a0 e a k) {Wc:List Nat} {sp:Sp} {ds xs:List Nat} (hds : ∀ d,ds.contains d = true → xs.contains d = true) {s:SpD T sp}
    (i:Hl n (FU e a k (Wc ++ spW sp)) k Wc a e' a' k') (ht:take ds e' sp = some s) (lock:Bool) :
    let E:=give xs sp s (keepE lock Wc (spW sp) e)
    (∀ t, (lk E t).is a' (a'.get t) k') ∧ (∀ t u, (lk E t).ment u = true → isRes (lk E u) = true) ∧ (∀ t t', t ≠ t' → Apart ((lk E t).fp (a'.get t) k') ((lk E t').fp (a'.get t') k')) ∧
    ∀ t,unl (lk E t) = true → Wr (FU e a k (Wc ++ spW sp)) k ((lk E t).fp (a'.get t) k') ∨ (lock = false∧unl (lk e t) = true∧∀ b,(lk E t).fp (a'.get t) k' b → (lk e t).fp (a.get t) k b):=by
  intro E
  have hFn : ∀ b,FU e a k (Wc ++ spW sp) b → ¬ k.sh b:=fun b ⟨t,_,_,hb⟩=>(h.lt t b hb).2
  -- the three kinds of slots
  have cases3 : ∀ t,(Wc.contains t = false∧(spW sp).contains t = false∧lk E t = keepA lock (Wc ++ spW sp) (lk e t)) ∨ lk E t = .top ∨ ((spW sp).contains t = true∧∃ κ x,takeS e' t κ = some x∧lk E t = avK κ x):=by
    intro t
    rcases give_lk hds (base:=keepE lock Wc (spW sp) e) ht t with ⟨h1,h2⟩ | ⟨h1,h2 | h2⟩
    · rw [lk_keepE] at h2
      cases hw:Wc.contains t with
      | true=>rw [hw] at h2; exact .inr (.inl h2)
      | false=>rw [hw,h1] at h2; exact .inl ⟨rfl,h1,h2⟩
    · exact .inr (.inl h2)
    · exact .inr (.inr ⟨h1,h2⟩)
  have hold : ∀ t,Wc.contains t = false → a'.get t = a.get t:=fun t ht=>i.old t (by simpa using ht)
  have apK : ∀ t,Wc.contains t = false → (spW sp).contains t = false → ∀ b,(lk e t).fp (a.get t) k b → ¬ FU e a k (Wc ++ spW sp) b:=by
    intro t h1 h2 b hb ⟨t2,h3,h4,h5⟩
    by_cases e1:t = t2
    · subst e1
      simp at h1 h2 h3
      exact h3.elim h1 h2
    · exact h.ap t t2 e1 b hb h5
  have fpk : ∀ t,Wc.contains t = false → (spW sp).contains t = false → (lk e t).fp (a.get t) k' = (lk e t).fp (a.get t) k:=fun t h1 h2=>AV.fp_keep _ i.g hFn (fun b hb hb'=>apK t h1 h2 b hb hb') (h.sl t)
  have fpT : ∀ t κ x,takeS e' t κ = some x → ∀ b,(avK κ x).fp (a'.get t) k' b → (lk e' t).fp (a'.get t) k' b∧(FU e a k (Wc ++ spW sp) b ∨ k.w.heap.size ≤ b):=by
    intro t κ x hx b hb
    obtain ⟨_,_,h3⟩:=takeS_is i hx
    obtain ⟨h4,h5⟩:=h3 b hb
    exact ⟨h5,i.wr t h4 b h5⟩
  refine ⟨fun t=>?_,fun t u hu=>?_,fun t t' hne b hb hb'=>?_,fun t hu=>?_⟩
  · rcases cases3 t with ⟨h1, h2, h3⟩ | h3 | ⟨_, κ, x, h2, h3⟩
    · rw [h3, hold t h1]
      have h4:(keepA lock (Wc ++ spW sp) (lk e t)).is a (a.get t) k':=AV.keep _ i.g hFn (fun b hb hb'=>apK t h1 h2 b (keepA_fp b hb) hb') (fun s hs=>by rw [keepA_ment2] at hs; simp at hs) (keepA_is (h.sl t))
      refine AV.congr _ (fun s hs=>?_) h4
      have:=(keepA_ment hs).2
      exact hold s (by simp at this ⊢; exact this.1)
    · rw [h3]; trivial
    · rw [h3]; exact (takeS_is i h2).1
  · rcases cases3 t with ⟨h1, h2, h3⟩ | h3 | ⟨_, κ, x, h2, h3⟩
    · rw [h3] at hu
      obtain ⟨h4,h5⟩:=keepA_ment hu
      have h6:=h.inv t u h4
      simp at h5
      rcases give_lk hds (base:=keepE lock Wc (spW sp) e) ht u with ⟨h7,h8⟩ | ⟨h7,_⟩
      · show isRes (lk (give xs sp s (keepE lock Wc (spW sp) e)) u) = true
        rw [h8,lk_keepE,h7]
        have:Wc.contains u = false:=by simpa using h5.1
        rw [this]
        exact keepA_res h6
      · simp at h7; exact absurd h7 h5.2
    · rw [h3] at hu; simp [AV.ment] at hu
    · rw [h3,(takeS_is i h2).2.1] at hu; simp at hu
  · rcases cases3 t with ⟨h1, h2, h3⟩ | h3 | ⟨_, κ, x, h2, h3⟩
    · rw [h3, hold t h1] at hb
      have hb:=keepA_fp b hb
      rw [fpk t h1 h2] at hb
      rcases cases3 t' with ⟨h4, h5, h6⟩ | h6 | ⟨_, κ', x', h5, h6⟩
      · rw [h6, hold t' h4] at hb'
        have hb':=keepA_fp b hb'
        rw [fpk t' h4 h5] at hb'
        exact h.ap t t' hne b hb hb'
      · rw [h6] at hb'; exact hb'
      · rw [h6] at hb'
        rcases (fpT t' κ' x' h5 b hb').2 with h7 | h7
        · exact apK t h1 h2 b hb h7
        · have:=(h.lt t b hb).1; omega
    · rw [h3] at hb; exact hb
    · rw [h3] at hb
      obtain ⟨h7,h8⟩:=fpT t κ x h2 b hb
      rcases cases3 t' with ⟨h4, h5, h6⟩ | h6 | ⟨_, κ', x', h5, h6⟩
      · rw [h6, hold t' h4] at hb'
        have hb':=keepA_fp b hb'
        rw [fpk t' h4 h5] at hb'
        rcases h8 with h8 | h8
        · exact apK t' h4 h5 b hb' h8
        · have:=(h.lt t' b hb').1; omega
      · rw [h6] at hb'; exact hb'
      · rw [h6] at hb'
        exact i.ap t t' hne b h7 (fpT t' κ' x' h5 b hb').1
  · rcases cases3 t with ⟨h1, h2, h3⟩ | h3 | ⟨_, κ, x, h2, h3⟩
    · rw [h3] at hu
      obtain ⟨h4,h5⟩:=keepA_unl hu
      refine .inr ⟨h4,h5,fun b hb=>?_⟩
      rw [h3,hold t h1] at hb
      have hb:=keepA_fp b hb
      rw [fpk t h1 h2] at hb
      exact hb
    · rw [h3] at hu; simp [unl] at hu
    · refine .inl fun b hb => ?_
      rw [h3] at hb
      exact (fpT t κ x h2 b hb).2
theorem rejoinT (h:Hl n F k0 W a0 e a k) {Wc:List Nat} {sp:Sp} {ds xs:List Nat} (hds : ∀ d,ds.contains d = true → xs.contains d = true) {s:SpD T sp}
    (i:Hl n (FU e a k (Wc ++ spW sp)) k Wc a e' a' k') (ht:take ds e' sp = some s):Hl n (FU e a k (Wc ++ spW sp)) k Wc a (give xs sp s (keepE true Wc (spW sp) e)) a' k':=by
  obtain ⟨h1,h2,h3,h4⟩:=rejoin h hds i ht true
  refine ⟨i.g,i.s,i.d,i.old,h1,h2,fun t hu=>?_,h3,i.gl⟩
  rcases h4 t hu with h5 | ⟨h5,_⟩
  · exact h5
  · simp at h5
theorem rejoinF (h:Hl n F k0 W a0 e a k) {Wc:List Nat} {sp:Sp} {ds xs:List Nat} (hds : ∀ d,ds.contains d = true → xs.contains d = true) {s:SpD T sp} (hW : ∀ t ∈ Wc,t ∈ W)
    (i:Hl n (FU e a k (Wc ++ spW sp)) k Wc a e' a' k') (ht:take ds e' sp = some s):Hl n F k0 W a0 (give xs sp s (keepE false Wc (spW sp) e)) a' k':=by
  obtain ⟨h1,h2,h3,h4⟩:=rejoin h hds i ht false
  have hwr:Wr F k0 (FU e a k (Wc ++ spW sp)):=fun b ⟨t,_,h5,h6⟩=>h.wr t h5 b h6
  refine ⟨h.g.step i.g hwr,i.s,i.d,fun t ht=>?_,h1,h2,fun t hu b hb=>?_,h3,i.gl⟩
  · rw [i.old t (fun h'=>ht (hW t h')),h.old t ht]
  · rcases h4 t hu with h5 | ⟨_, h5, h6⟩
    · rcases h5 b hb with h5 | h5
      · exact hwr b h5
      · exact .inr (Nat.le_trans h.g.size h5)
    · exact h.wr t h5 b (h6 b hb)
end
end Go.Gb

/- General part of the proofs: the code of a function does what the evaluator says. -/
namespace Go.Gb
variable {T:Tb} {R:Type}

/-- The results of a function, and what else it leaves. -/
structure RetOq (C:Cx T) (sl:Nat) (tu ro:Rk) (cod:List Tp) (F:FP) (k0:K) (a0:Act) (x:tu.D T × ro.D T × HL T.S cod) (a:Act) (k:K):Prop where
  dn:a.defers = []
  sle:isN tu = false → a.get sl = a0.get sl
  ex : ∃ k', k'.w = k.w ∧ Chg F k0 k' ∧ tu.is x.1 (a.get sl) k' ∧ Wr F k0 (tu.fp T (a.get sl) k') ∧ ∀ fn : Func, fn.results.toList = C.rs → ∃ v, (results fn a.tmps).run C.P k'.w = .ok v k'.w ∧
    (resR ro cod x.2.1 x.2.2).is ⟨#[],[]⟩ v k'∧Wr F k0 ((resR ro cod x.2.1 x.2.2).fp v k')∧Apart (tu.fp T (a.get sl) k') ((resR ro cod x.2.1 x.2.2).fp v k')
abbrev RetOk (C:Cx T) (rv:Rv T) (F:FP) (k0:K) (a0:Act) (x:rv.D T) (a:Act) (k:K):Prop:=RetOq C rv.sl rv.tu rv.ro rv.cod F k0 a0 (rv.inj x) a k
theorem RetOk.step {C:Cx T} {rv:Rv T} {F G:FP} {k0 k1 k:K} {x:rv.D T} {a0 a1 a:Act} (h:RetOk C rv G k1 a1 x a k) (g:Chg F k0 k1) (hw:Wr F k0 G) (ho:isN rv.tu = false → a1.get rv.sl = a0.get rv.sl):RetOk C rv F k0 a0 x a k:=by
  obtain ⟨h1, h2, k', h3, h4, h5, h6, h7⟩ := h
  have wr : ∀ H,Wr G k1 H → Wr F k0 H:=fun H hH b hb=>by
    rcases hH b hb with h8 | h8
    · exact hw b h8
    · exact .inr (Nat.le_trans g.size h8)
  refine ⟨h1, fun hN => (h2 hN).trans (ho hN), k', h3, g.step h4 hw, h5, wr _ h6, fun fn hfn => ?_⟩
  obtain ⟨v,g1,g2,g3,g4⟩:=h7 fn hfn
  exact ⟨v,g1,g2,wr _ g3,g4⟩

section
variable {C:Cx T} {cod:Rv T} {F:FP} {k0:K} {W:List Nat} {a0:Act} {e:Env T} {a:Act} {k:K}

theorem resH1_ok (h:Hl C.n F k0 W a0 e a k) {t:Tp} {rv:ResultVar} {x:T.D t} (hx:resH.resH1 C e t rv = some x) : ∃ v,(resVal a.tmps rv).run C.P k.w = .ok v k.w∧IsV x v k:=by
  cases rv with
  | tmp s =>
    simp only [resH.resH1] at hx
    exact ⟨_,rfl,asT_is hx (nrm_is (h.sl s))⟩
  | cell s ty =>
    simp only [resH.resH1] at hx
    have hsl:=h.sl s
    split at hx
    · rename_i l u y hl
      rw [hl] at hsl
      obtain ⟨b,hb,hbx⟩:=hsl
      cases ht:tyB C.P T ty u with
      | false=>rw [ht] at hx; simp at hx
      | true =>
        rw [ht] at hx
        obtain ⟨rfl,hxy⟩:=cast?_eq hx
        obtain rfl:x = y:=hxy
        exact resOk_run (resCell (tyB_ok ht) hb hbx)
    · simp at hx
theorem resH_ok (h:Hl C.n F k0 W a0 e a k) : ∀ {l:List Tp} {rs:List ResultVar} {x:HL T.S l},resH C e l rs = some x →
    ∃ vs:List Value,(rs.mapM (resVal a.tmps)).run C.P k.w = .ok vs k.w∧vs.length = l.length∧Fa2 (unH l x) vs k
  | [],[],x,_=>⟨[],by simp,rfl,trivial⟩
  | [t], [rv], x, hx => by
    simp only [resH] at hx
    obtain ⟨v,h1,h2⟩:=resH1_ok h hx
    exact ⟨[v],by simp [h1],rfl,h2,trivial⟩
  | t :: t' :: l, rv :: rs, x, hx => by
    simp only [resH] at hx
    split at hx
    · rename_i y ys hy hys
      obtain rfl:=Option.some.inj hx
      obtain ⟨v,h1,h2⟩:=resH1_ok h hy
      obtain ⟨vs,h3,h4,h5⟩:=resH_ok h hys
      exact ⟨v::vs,by simp [List.mapM_cons,h1,h3],by simp [h4],h2,h5⟩
    · simp at hx
  | [],_::_,_,hx=>by simp [resH] at hx
  | [_],[],_,hx=>by simp [resH] at hx
  | [_],_::_::_,_,hx=>by simp [resH] at hx
  | _::_::_,[],_,hx=>by simp [resH] at hx
theorem takeR_ok {κ:Rk} {av:AV T} {y:κ.D T} {v:Value} (h:takeR κ av = some y) (hv:av.is a v k):κ.is y v k∧∀ b,κ.fp T v k b → unl av = true∧av.fp v k b:=by
  cases hr:isRes av with
  | true =>
    obtain ⟨h1,h2⟩:=takeR_is h hv hr
    refine ⟨h1,fun b hb=>?_⟩
    cases hN:isN κ with
    | true=>exact (Rk.fpN hN b hb).elim
    | false=>obtain ⟨h3,h4⟩:=h2 hN; exact ⟨h4,by rw [← h3]; exact hb⟩
  | false =>
    cases κ with
    | n=>exact ⟨trivial,fun b hb=>hb.elim⟩
    | o e t =>
      cases av with
      | e0 =>
        simp only [takeR,Option.some.injEq] at h
        subst h
        exact ⟨IsE0.own0 hv,fun b hb=>absurd hb (IsE0.noOb (k:=k) hv b)⟩
      | own _ _ _ _=>simp [isRes] at hr
      | _=>simp [takeR] at h
    | b t =>
      cases av with
      | box _ _ _=>simp [isRes] at hr
      | _=>simp [takeR] at h
    | c m =>
      cases av with
      | rs _ _ _=>simp [isRes] at hr
      | _=>simp [takeR] at h
theorem roR_some {κ:Rk} (hN:isN κ = false):roR C e κ = ro1 e κ C.rs:=by cases κ <;> first | rfl | simp [isN] at hN
theorem resV_fp {l:List Tp} {x:HL T.S l} {v:Value} {k:K} : ∀ b,¬ (resV l x).fp v k b:=fp_nonres resV_nonres v k
theorem retq_ok (h:Hl C.n F k0 W a0 e a k) {sl:Nat} {tu ro:Rk} {cod:List Tp} (hsl:isN tu = false → sl ∉ W) (hc:(!(isN tu) && !(isN ro) && slotEq C.rs sl) = false) {y:tu.D T} {w:ro.D T} {r:HL T.S cod} (hy:takeR tu (lk e sl) = some y) (hw:roR C e ro = some w) (hr:resH C e cod (valRs ro C.rs) = some r):RetOq C sl tu ro cod F k0 a0 (y,w,r) a k:=by
  obtain ⟨t1,t2⟩:=takeR_ok hy (h.sl sl)
  refine ⟨h.d,fun hN=>h.old _ (hsl hN),k,rfl,h.g,t1,fun b hb=>h.wr _ (t2 b hb).1 b (t2 b hb).2,fun fn hfn=>?_⟩
  obtain ⟨vs,h1,h2,h3⟩:=resH_ok h hr
  unfold valRs at h1
  try dsimp only at h1
  have norm : ∀ {vs:List Value},(C.rs.mapM (resVal a.tmps)).run C.P k.w = .ok vs k.w → (fn.results.mapM (resVal a.tmps)).run C.P k.w = .ok vs.toArray k.w:=fun {vs} h1=>by
    rw [← hfn] at h1
    rw [Array.mapM_eq_mapM_toList]; simp [h1]
  rw [results_eq]
  cases hro:isN ro with
  | true =>
    rw [hro] at h1
    simp only [cond_true] at h1
    have h4:=norm h1
    have eR:resR ro cod w r = resV cod r:=by unfold resR; rw [hro]; rfl
    rw [eR]
    have fin : ∀ v,(resV cod r).is ⟨#[],[]⟩ v k → (resV cod r).is ⟨#[],[]⟩ v k∧Wr F k0 ((resV cod r).fp v k)∧Apart (tu.fp T (a.get sl) k) ((resV cod r).fp v k):=fun v hv=>
      ⟨hv,fun b hb=>absurd hb (resV_fp b),fun b _ hb=>resV_fp b hb⟩
    match cod,r,vs,h2,h3 with
    | [],r,[],_,_=>exact ⟨.tuple #[],by simp [h4],fin _ trivial⟩
    | [t],r,[v],_,h3=>exact ⟨v,by simp [h4],fin _ (mkv_is.2 h3.1)⟩
    | t::t'::l,r,v::v'::vs,_,h3=>exact ⟨.tuple (v::v'::vs).toArray,by simp [h4],fin _ ⟨_,rfl,h3⟩⟩
  | false =>
    rw [hro] at h1
    simp only [cond_false] at h1
    rw [roR_some hro] at hw
    unfold ro1 at hw
    split at hw
    · rename_i s rs hrs
      rw [hrs] at h1 hc
      simp only [List.tail_cons] at h1
      obtain ⟨w1,w2⟩:=takeR_ok hw (h.sl s)
      have h4:=norm (vs:=a.get s::vs) (by rw [hrs]; simp [List.mapM_cons,h1,resVal,Act.get,Array.getD_eq_getD_getElem?])
      have hap:Apart (tu.fp T (a.get sl) k) (ro.fp T (a.get s) k):=fun b hb hb'=>by
        have hN:isN tu = false:=by
          cases hN:isN tu with
          | false=>rfl
          | true=>exact (Rk.fpN hN b hb).elim
        rw [hN,hro] at hc
        simp only [Bool.not_false,Bool.true_and,slotEq] at hc
        exact h.ap sl s (fun e1=>by rw [e1,Nat.beq_refl] at hc; simp at hc) b (t2 b hb).2 (w2 b hb').2
      have hwr:Wr F k0 (ro.fp T (a.get s) k):=fun b hb=>h.wr _ (w2 b hb).1 b (w2 b hb).2
      match cod,r,vs,h2,h3 with
      | [], r, [], _, _ =>
        have eR:resR ro [] w r = ro.av w:=by unfold resR; rw [hro]; rfl
        rw [eR]
        exact ⟨a.get s,by simp [h4],(Rk.av_is hro).2 w1,by rw [Rk.av_fp hro]; exact hwr,by rw [Rk.av_fp hro]; exact hap⟩
      | t :: l, r, v :: vs, _, h3 =>
        have eR:resR ro (t::l) w r = .tr false ro w (unH (t::l) r):=by unfold resR; rw [hro]; rfl
        rw [eR]
        exact ⟨.tuple (a.get s::v::vs).toArray,by simp [h4],⟨_,_,rfl,w1,h3⟩,hwr,hap⟩
    · simp at hw
theorem ret_ok (h:Hl C.n F k0 W a0 e a k) (hsl:isN cod.tu = false → cod.sl ∉ W) {x:cod.D T} (hx:retV C e cod = some x):RetOk C cod F k0 a0 x a k:=by
  obtain ⟨sl,tu,ro,cod,ρ,pr,inj,hpr⟩:=cod
  unfold retV at hx
  dsimp only at hx hsl
  cases hc:(!(isN tu) && !(isN ro) && slotEq C.rs sl) with
  | true=>rw [hc] at hx; simp at hx
  | false=>
  rw [hc] at hx; simp only [cond_false] at hx
  split at hx
  · rename_i y w r hy hw hr
    obtain rfl:=Option.some.inj hx
    unfold RetOk
    dsimp only
    rw [hpr]
    exact retq_ok h hsl hc hy hw hr
  · simp at hx

theorem takeF_ok (h : Hl C.n F k0 W a0 e a k) {ds : List Nat} {sp : Sp} {K : SpD T sp → Option R} {r : R} (hk : takeF ds e sp K = some r) : ∃ s e' k', K s = some r ∧ take ds e' sp = some s ∧ k'.w = k.w ∧ Hl C.n F k0 W a0 e' a k' := by
  unfold takeF at hk
  obtain ⟨e', k', h1, h2, h3⟩ := frz_ok h hk
  split at h1
  · rename_i s hs; exact ⟨s, e', k', h1, hs, h2, h3⟩
  · simp at h1
theorem app_r {xs:Ls} : ∀ d,xs.2.contains d = true → (xs.1 ++ xs.2).contains d = true:=by
  intro d h; simp at h ⊢; exact .inr h
theorem exAt_cons {i j:Nat} {x:Ls} {l:List (Nat × Ls)} {y:Ls} (h:exAt ((i,x)::l) j = some y):(i = j∧x = y) ∨ (i ≠ j∧exAt l j = some y):=by
  simp only [exAt] at h
  cases hb:Nat.beq i j with
  | true=>rw [hb] at h; exact .inl ⟨Nat.eq_of_beq_eq_true hb,Option.some.inj h⟩
  | false=>rw [hb] at h; exact .inr ⟨fun e=>by rw [e,Nat.beq_refl] at hb; simp at hb,h⟩
theorem exK_ok {ρ:Type} {sp:Sp} {base:Env T} {K:Kt T ρ R} {r:R} {s:SpD T sp} : ∀ {l:List (Nat × Ls)} {j:Nat} {x:Ls},exAt l j = some x → exK base K l j s = some r → K.ex j (give (x.1 ++ x.2) sp s base) = some r
  | [],j,x,h,_=>by simp [exAt] at h
  | [(i, y)], j, x, h, hk => by
    rcases exAt_cons h with ⟨rfl,rfl⟩ | ⟨_,h⟩
    · exact hk
    · simp [exAt] at h
  | (i, y) :: z :: l, j, x, h, hk => by
    simp only [exK] at hk
    rcases exAt_cons h with ⟨rfl,rfl⟩ | ⟨hne,h⟩
    · rw [if_pos rfl] at hk; exact hk
    · rw [if_neg (Ne.symm hne)] at hk; exact exK_ok h hk
/-- The statement about a piece of code. -/
def HkOk (C:Cx T) (c:Code) (e:Env T) {R:Type} (KK:Env T → Option R) (r:R):Prop:=
  ∀ (F : FP) (k0 : K) (W : List Nat) (a0 : Act) (a : Act) (k : K) (Q : Exit → Act → World → Prop), (∀ t ∈ wrs c, t ∈ W) → Hl C.n F k0 W a0 e a k → (∀ e' a' k', KK e' = some r → Hl C.n F k0 W a0 e' a' k' → Q .normal a' k'.w) → c.wp C.P Q a k.w
def HksOk (C:Cx T):Prop:=∀ i c e (R:Type) (K:Env T → Option R) (r:R),C.rg c → C.hk i c e R K = some r → HkOk C c e K r
def CodeOk (C:Cx T) (cod:Rv T) (c:Code):Prop:=(∀ c' ∈ subs c,C.rg c') →
  ∀ (h:Hn T) (R:Type) (e:Env T) (M:Kt T (cod.D T) R) (r:R),ev C cod c h R e M = some r →
  ∀ (F:FP) (k0:K) (W:List Nat) (a0:Act) (a:Act) (k:K) (Q:Exit → Act → World → Prop),(∀ t ∈ wrs c,t ∈ W) → (isN cod.tu = false → cod.sl ∉ W) → Hl C.n F k0 W a0 e a k →
  (∀ e' a' k', M.go e' = some r → Hl C.n F k0 W a0 e' a' k' → Q .normal a' k'.w) →
  (∀ i e' a' k', M.ex i e' = some r → Hl C.n F k0 W a0 e' a' k' → Q (.exit i) a' k'.w) →
  (∀ x a' k', M.rv x = some r → RetOk C cod F k0 a0 x a' k' → Q .ret a' k'.w) → c.wp C.P Q a k.w

/-- what is behind a join of a code that may leave -/
theorem flow_ok {h:Hl C.n F k0 W a0 e a k} {Wc:List Nat} {sp:Sp} {xs:Ls} {exs:List (Nat × Ls)} {M:Kt T (cod.D T) R} {r:R} {Q:Exit → Act → World → Prop} {fl:Flow (SpD T sp) (cod.D T)}
    (hW : ∀ t ∈ Wc,t ∈ W)
    (hk:(match fl with | .go s=>M.go (give (xs.1 ++ xs.2) sp s (keepE false Wc (spW sp) e)) | .ex i s=>exK (keepE false Wc (spW sp) e) M exs i s | .ret x=>M.rv x) = some r)
    (hgo : ∀ e' a' k', M.go e' = some r → Hl C.n F k0 W a0 e' a' k' → Q .normal a' k'.w)
    (hex : ∀ i e' a' k', M.ex i e' = some r → Hl C.n F k0 W a0 e' a' k' → Q (.exit i) a' k'.w)
    (hsl : isN cod.tu = false → cod.sl ∉ W) (hrv : ∀ x a' k', M.rv x = some r → RetOk C cod F k0 a0 x a' k' → Q .ret a' k'.w) :
    (∀ e' a' k', (takeF xs.2 e' sp fun s => some (.go s)) = some fl → Hl C.n (FU e a k (Wc ++ spW sp)) k Wc a e' a' k' → Q .normal a' k'.w) ∧
    (∀ i e' a' k', exF exs sp i e' = some fl → Hl C.n (FU e a k (Wc ++ spW sp)) k Wc a e' a' k' → Q (.exit i) a' k'.w) ∧
    (∀ x a' k', some (.ret x) = some fl → RetOk C cod (FU e a k (Wc ++ spW sp)) k a x a' k' → Q .ret a' k'.w) := by
  refine ⟨fun e' a' k' h1 h2=>?_,fun i e' a' k' h1 h2=>?_,fun x a' k' h1 h2=>?_⟩
  · obtain ⟨s, e2, k2, h3, h4, h5, h6⟩ := takeF_ok h2 h1
    obtain rfl:=Option.some.inj h3
    rw [← h5]
    exact hgo _ a' k2 hk (rejoinF h app_r hW h6 h4)
  · unfold exF at h1
    split at h1
    · rename_i x hx
      obtain ⟨s,e2,k2,h3,h4,h5,h6⟩:=takeF_ok h2 h1
      obtain rfl:=Option.some.inj h3
      rw [← h5]
      exact hex i _ a' k2 (exK_ok hx hk) (rejoinF h app_r hW h6 h4)
    · simp at h1
  · obtain rfl := Option.some.inj h1
    exact hrv x a' k' hk (h2.step h.g (fun b ⟨t,_,h5,h6⟩=>h.wr t h5 b h6) fun hN=>h.old _ (hsl hN))

theorem seq_ok {x y:Code} (hx:CodeOk C cod x) (hy:CodeOk C cod y):CodeOk C cod (.seq x y):=by
  intro hsb
  replace hx:=hx fun c' hc=>hsb c' (by simp [subs,hc])
  replace hy:=hy fun c' hc=>hsb c' (by simp [subs,hc])
  intro h R e M r hk F k0 W a0 a k Q hW hsl hl hgo hex hrv
  have main : ∀ hxx hyy,ev C cod x hxx R e { M with go:=fun e'=>ev C cod y hyy R e' M } = some r → (Code.seq x y).wp C.P Q a k.w:=by
    intro hxx hyy hk
    refine wp_seq (hx hxx R e _ r hk F k0 W a0 a k _ (fun t ht=>hW t (by simp [wrs,ht])) hsl hl (fun e' a' k' h1 h2=>?_) (fun i e' a' k' h1 h2=>hex i e' a' k' h1 h2) (fun x a' k' h1 h2=>hrv x a' k' h1 h2))
    exact hy hyy R e' M r h1 F k0 W a0 a' k' Q (fun t ht=>hW t (by simp [wrs,ht])) hsl h2 hgo hex hrv
  cases h <;> exact main _ _ hk
theorem cond_ok {c:Operand} {x y:Code} (hx:CodeOk C cod x) (hy:CodeOk C cod y):CodeOk C cod (.cond c x y):=by
  intro hsb
  replace hx:=hx fun c' hc=>hsb c' (by simp [subs,hc])
  replace hy:=hy fun c' hc=>hsb c' (by simp [subs,hc])
  intro h R e M r hk F k0 W a0 a k Q hW hsl hl hgo hex hrv
  have hWx : ∀ t ∈ wrs x,t ∈ W:=fun t ht=>hW t (by simp [wrs,ht])
  have hWy : ∀ t ∈ wrs y,t ∈ W:=fun t ht=>hW t (by simp [wrs,ht])
  have cv : ∀ {F:FP} {k0:K} {W:List Nat} {a0:Act} {e:Env T} {k:K} {m:Bool},Hl C.n F k0 W a0 e a k → asB (opv e c) = some m → a.eval c = .bool m:=by
    intro F k0 W a0 e k m hl hm
    exact isV_bool.1 (asB_is hm (opv_is (a0:=a) (by
      cases c with
      | tmp t=>exact ⟨hl.sl t,fun _=>rfl⟩
      | global _=>exact hl.gl
      | _=>trivial)))
  have plain : ∀ hxx hyy,(match asB (opv e c) with | some m=>if m then ev C cod x hxx R e M else ev C cod y hyy R e M | none=>none) = some r → (Code.cond c x y).wp C.P Q a k.w:=by
    intro hxx hyy hk
    split at hk
    · rename_i m hm
      refine wp_cond_split (cv hl hm) (fun hm1=>?_) (fun hm0=>?_)
      · rw [if_pos hm1] at hk
        exact hx hxx R e M r hk F k0 W a0 a k Q hWx hsl hl hgo hex hrv
      · rw [if_neg (by rw [hm0]; simp)] at hk
        exact hy hyy R e M r hk F k0 W a0 a k Q hWy hsl hl hgo hex hrv
    · simp at hk
  have hwc : ∀ t ∈ wrs x ++ wrs y,t ∈ W:=fun t ht=>hW t (by simpa [wrs] using ht)
  have hsc:isN cod.tu = false → cod.sl ∉ wrs x ++ wrs y:=fun hN ht=>hsl hN (hwc _ ht)
  unfold ev at hk
  split at hk
  · rename_i fz sp xs hxx hyy
    obtain ⟨e0,k1,h1,h2,h3⟩:=frz_ok hl hk
    rw [lockK_eq,keepK_eq] at h1
    rw [← h2]
    have hin:=h3.lock (wrs x ++ wrs y ++ spW sp) (wrs x ++ wrs y)
    split at h1
    · rename_i m hm
      obtain ⟨s,hs,h1⟩:=bind_some h1
      have fin : ∀ e' a' k', (takeF xs.2 e' sp some) = some s → Hl C.n (FU e0 a k1 (wrs x ++ wrs y ++ spW sp)) k1 (wrs x ++ wrs y) a e' a' k' → Q .normal a' k'.w := by
        intro e' a' k' g1 g2
        obtain ⟨s', e2, k2, g3, g4, g5, g6⟩ := takeF_ok g2 g1
        obtain rfl:=Option.some.inj g3
        rw [← g5]
        exact hgo _ a' k2 h1 (rejoinF h3 app_r hwc g6 g4)
      refine wp_cond_split (cv hin hm) (fun hm1=>?_) (fun hm0=>?_)
      · rw [if_pos hm1] at hs
        exact hx hxx _ _ _ s hs _ _ _ _ a k1 Q (fun t ht=>by simp [ht]) hsc hin fin (fun i e' a' k' g1 _=>by simp at g1) (fun x' a' k' g1 _=>by simp at g1)
      · rw [if_neg (by rw [hm0]; simp)] at hs
        exact hy hyy _ _ _ s hs _ _ _ _ a k1 Q (fun t ht=>by simp [ht]) hsc hin fin (fun i e' a' k' g1 _=>by simp at g1) (fun x' a' k' g1 _=>by simp at g1)
    · simp at h1
  · rename_i fz sp xs exs hxx hyy
    obtain ⟨e0,k1,h1,h2,h3⟩:=frz_ok hl hk
    rw [lockK_eq,keepK_eq] at h1
    rw [← h2]
    have hin:=h3.lock (wrs x ++ wrs y ++ spW sp) (wrs x ++ wrs y)
    split at h1
    · rename_i m hm
      obtain ⟨fl,hs,h1⟩:=bind_some h1
      obtain ⟨f1,f2,f3⟩:=flow_ok (h:=h3) (Q:=Q) (xs:=xs) hwc h1 hgo hex hsl hrv
      refine wp_cond_split (cv hin hm) (fun hm1=>?_) (fun hm0=>?_)
      · rw [if_pos hm1] at hs
        exact hx hxx _ _ _ fl hs _ _ _ _ a k1 Q (fun t ht=>by simp [ht]) hsc hin f1 f2 f3
      · rw [if_neg (by rw [hm0]; simp)] at hs
        exact hy hyy _ _ _ fl hs _ _ _ _ a k1 Q (fun t ht=>by simp [ht]) hsc hin f1 f2 f3
    · simp at h1
  · exact plain _ _ hk
  · exact plain _ _ hk
theorem block_ok (hH:HksOk C) {id:Nat} {x:Code} (hx:CodeOk C cod x):CodeOk C cod (.block id x):=by
  intro hsb
  replace hx:=hx fun c' hc=>hsb c' (by simp [subs,hc])
  intro h R e M r hk F k0 W a0 a k Q hW hsl hl hgo hex hrv
  have hWx : ∀ t ∈ wrs x,t ∈ W:=fun t ht=>hW t (by simpa [wrs] using ht)
  have hsx:isN cod.tu = false → cod.sl ∉ wrs x:=fun hN ht=>hsl hN (hWx _ ht)
  have inb : ∀ {i:Nat} {a:Act} {w:World},(i = id → Q .normal a w) → (i ≠ id → Q (.exit i) a w) → Exit.inBlock id Q (.exit i) a w:=by
    intro i a w h1 h2
    simp only [Exit.inBlock]
    split
    · rename_i h; exact h1 (by simpa using h)
    · rename_i h; exact h2 (by simpa using h)
  have plain : ∀ hxx,ev C cod x hxx R e { M with ex:=fun i e'=>bif Nat.beq i id then M.go e' else M.ex i e' } = some r → (Code.block id x).wp C.P Q a k.w:=by
    intro hxx hk
    refine wp_block (hx hxx R e _ r hk F k0 W a0 a k _ hWx hsl hl hgo (fun i e' a' k' h1 h2=>inb (fun e1=>?_) (fun e1=>?_)) hrv)
    · subst e1; simp only [Nat.beq_refl,cond_true] at h1; exact hgo e' a' k' h1 h2
    · simp only [beq_ne e1,cond_false] at h1; exact hex i e' a' k' h1 h2
  unfold ev at hk
  split at hk
  · rename_i fz sp xs hxx
    obtain ⟨e0,k1,h1,h2,h3⟩:=frz_ok hl hk
    rw [lockK_eq,keepK_eq] at h1
    rw [← h2]
    have hin:=h3.lock (wrs x ++ spW sp) (wrs x)
    obtain ⟨s,hs,h1⟩:=bind_some h1
    have fin : ∀ e' a' k', (takeF xs.2 e' sp some) = some s → Hl C.n (FU e0 a k1 (wrs x ++ spW sp)) k1 (wrs x) a e' a' k' → Q .normal a' k'.w := by
      intro e' a' k' g1 g2
      obtain ⟨s', e2, k2, g3, g4, g5, g6⟩ := takeF_ok g2 g1
      obtain rfl:=Option.some.inj g3
      rw [← g5]
      exact hgo _ a' k2 h1 (rejoinF h3 app_r hWx g6 g4)
    refine wp_block (hx hxx _ _ _ s hs _ _ _ _ a k1 _ (fun t ht=>ht) hsx hin fin (fun i e' a' k' g1 g2=>inb (fun e1=>?_) (fun e1=>?_)) (fun x' a' k' g1 _=>by simp at g1))
    · subst e1; simp only [Nat.beq_refl,cond_true] at g1; exact fin e' a' k' g1 g2
    · simp only [beq_ne e1,cond_false] at g1; simp at g1
  · rename_i fz sp xs exs hxx
    obtain ⟨e0,k1,h1,h2,h3⟩:=frz_ok hl hk
    rw [lockK_eq,keepK_eq] at h1
    rw [← h2]
    have hin:=h3.lock (wrs x ++ spW sp) (wrs x)
    obtain ⟨fl,hs,h1⟩:=bind_some h1
    obtain ⟨f1,f2,f3⟩:=flow_ok (h:=h3) (Q:=Q) (xs:=xs) hWx h1 hgo hex hsl hrv
    refine wp_block (hx hxx _ _ _ fl hs _ _ _ _ a k1 _ (fun t ht=>ht) hsx hin f1 (fun i e' a' k' g1 g2=>inb (fun e1=>?_) (fun e1=>?_)) f3)
    · subst e1; simp only [Nat.beq_refl,cond_true] at g1; exact f1 e' a' k' g1 g2
    · simp only [beq_ne e1,cond_false] at g1; exact f2 i e' a' k' g1 g2
  · exact hH _ _ _ _ _ _ (hsb _ (by simp [subs])) hk F k0 W a0 a k Q hW hl hgo
  · exact plain _ hk
theorem loop_ok {x:Code} (hx:CodeOk C cod x):CodeOk C cod (.loop x):=by
  intro hsb
  replace hx:=hx fun c' hc=>hsb c' (by simpa [subs] using hc)
  intro h R e M r hk F k0 W a0 a k Q hW hsl hl hgo hex hrv
  have hWx : ∀ t ∈ wrs x,t ∈ W:=fun t ht=>hW t (by simpa [wrs] using ht)
  have hsx:isN cod.tu = false → cod.sl ∉ wrs x:=fun hN ht=>hsl hN (hWx _ ht)
  unfold ev at hk
  split at hk
  · rename_i fz sp exs fuel hxx
    obtain ⟨e0,k1,h1,h2,h3⟩:=frz_ok hl hk
    rw [keepK_eq,keepK_eq] at h1
    rw [← h2]
    split at h1
    · rename_i s0 hs0
      obtain ⟨fl,hs,h1⟩:=bind_some h1
      have hin:=h3.lock (wrs x ++ spW sp) (wrs x)
      have hs0' : take [] (lockE (wrs x ++ spW sp) e0) sp = some s0:=by
        rw [← hs0]
        refine take_congr fun t ht=>?_
        rw [lk_lockE]
        have:(wrs x ++ spW sp).contains t = true:=by simpa using Or.inr ht
        rw [this]; rfl
      have hst:=rejoinT h3 (ds:=[]) (xs:=[]) (fun d hd=>by simp at hd) hin hs0'
      have hsim:Sim C.P (.loop x) (fun s a' k'=>Hl C.n (FU e0 a k1 (wrs x ++ spW sp)) k1 (wrs x) a (give [] sp s (keepE true (wrs x) (spW sp) e0)) a' k')
          (iterL (fun s=>ev C cod x hxx (Flow (SpD T sp) (cod.D T)) (give [] sp s (keepE true (wrs x) (spW sp) e0)) ⟨fun e'=>takeF [] e' sp fun s=>some (.go s),exF exs sp,fun r=>some (.ret r)⟩) (fuel e0))
          (fun s a' k'=>Hl C.n (FU e0 a k1 (wrs x ++ spW sp)) k1 (wrs x) a (give [] sp s (keepE true (wrs x) (spW sp) e0)) a' k')
          (fun i s a' k'=>∃ y,exAt exs i = some y∧Hl C.n F k0 W a0 (give (y.1 ++ y.2) sp s (keepE false (wrs x) (spW sp) e0)) a' k')
          (fun x' a' k'=>RetOk C cod (FU e0 a k1 (wrs x ++ spW sp)) k1 a x' a' k'):=by
        refine sim_loop ?_ _
        intro s f a2 k2 hb hS Q' _ hgo' hex' hret'
        refine hx hxx _ _ _ f hb _ _ _ _ a2 k2 Q' (fun t ht=>ht) hsx hS (fun e' a' k' g1 g2=>?_) (fun i e' a' k' g1 g2=>?_) (fun x' a' k' g1 g2=>?_)
        · obtain ⟨s', e2, k3, g3, g4, g5, g6⟩ := takeF_ok g2 g1
          rw [← g5]
          exact hgo' s' a' k3 (Option.some.inj g3).symm (rejoinT h3 (fun d hd=>by simp at hd) g6 g4)
        · have g1 : exF exs sp i e' = some f := g1
          unfold exF at g1
          split at g1
          · rename_i y hy
            obtain ⟨s', e2, k3, g3, g4, g5, g6⟩ := takeF_ok g2 g1
            rw [← g5]
            exact hex' i s' a' k3 (Option.some.inj g3).symm ⟨y,hy,rejoinF h3 app_r hWx g6 g4⟩
          · simp at g1
        · exact hret' x' a' k' (Option.some.inj g1).symm g2
      refine hsim s0 fl a k1 hs hst Q trivial (fun s a' k' g1 _=>?_) (fun i s a' k' g1 g2=>?_) (fun x' a' k' g1 g2=>?_)
      · rw [g1] at h1; simp at h1
      · rw [g1] at h1
        obtain ⟨y,hy,g3⟩:=g2
        exact hex i _ a' k' (exK_ok hy h1) g3
      · rw [g1] at h1
        exact hrv x' a' k' h1 (g2.step h3.g (fun b ⟨t,_,h5,h6⟩=>h3.wr t h5 b h6) fun hN=>h3.old _ (hsl hN))
    · simp at h1
  · simp at hk
theorem region_ok (hC:CxOk C) (hH:HksOk C) {id:Nat} {A:Array Oper} {draw:Bool}:CodeOk C cod (.region id A draw):=by
  intro hsb h R e M r hk F k0 W a0 a k Q hW hsl hl hgo hex hrv
  have hWx : ∀ o ∈ A.toList,∀ d,o.dst = some d → d ∈ W:=fun o ho d hd=>hW d (List.mem_filterMap.2 ⟨o,ho,hd⟩)
  unfold ev at hk
  split at hk
  · obtain ⟨e1, k1, h1, h2, h3⟩ := frz_ok hl hk
    rw [← h2]
    exact evR_ok hC hWx h3 h1 hgo
  · exact hH _ _ _ _ _ _ (hsb _ (by simp [subs])) hk F k0 W a0 a k Q hW hl hgo
  · exact evR_ok hC hWx hl hk hgo
theorem code_ok (hC:CxOk C) (hH:HksOk C) : ∀ c:Code,CodeOk C cod c
  | .skip=>fun _ h R e M r hk F k0 W a0 a k Q hW _ hl hgo _ _=>wp_skip (hgo e a k hk hl)
  | .region _ _ _=>region_ok hC hH
  | .seq x y=>seq_ok (code_ok hC hH x) (code_ok hC hH y)
  | .cond _ x y=>cond_ok (code_ok hC hH x) (code_ok hC hH y)
  | .block _ x=>block_ok hH (code_ok hC hH x)
  | .loop x=>loop_ok (code_ok hC hH x)
  | .exit i=>fun _ h R e M r hk F k0 W a0 a k Q hW _ hl _ hex _=>wp_exit (hex i e a k hk hl)
  | .ret => fun _ h R e M r hk F k0 W a0 a k Q hW hsl hl _ _ hrv => by
    unfold ev at hk
    obtain ⟨e1,k1,h1,h2,h3⟩:=frz_ok hl hk
    split at h1
    · rename_i x hx
      rw [← h2]
      exact wp_ret (hrv x a k1 h1 (ret_ok h3 hsl hx))
    · simp at h1
  | .rangeFunc _ _ _ _=>fun _ h R e M r hk=>by simp [ev] at hk
  | .scope _=>fun _ h R e M r hk=>by simp [ev] at hk
  | .label _=>fun _ h R e M r hk=>by simp [ev] at hk
  | .goto _=>fun _ h R e M r hk=>by simp [ev] at hk
  | .refuse _=>fun _ h R e M r hk=>by simp [ev] at hk
end
end Go.Gb


