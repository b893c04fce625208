/- The general part of the proofs (no program in sight): worlds with shared blocks, regions, operations, calls, loops, what comes in as data, part 6 -/
import Derived.Test.YtljfakcblkdhbaaDoorL5
set_option linter.unusedVariables false
set_option linter.unusedSimpArgs false
/- General part of the proofs: each operation that writes to nothing does what the evaluator says: all of them. -/
namespace Go.Gb
variable {T:Tb} {R:Type}
section
variable {e:Env T} {o:Oper} {C:Cx T}
theorem wrI_ok {κ:IntKind} {n:Int} {t u:TypeId} {x:Operand} {P:Program} (hg : ∀ a0 a k,Rd1 e o a0 a k → Does P o a k (IsV (IK.mk (κ.wrap n):IK κ))):Gives P e o (wrI (T:=T) κ n):=by
  have key : ∀ a0 a k,Rd1 e o a0 a k → Does P o a k ((wrI (T:=T) κ n).is a0):=by
    intro a0 a k g
    refine does_imp (hg a0 a k g) fun v k' _ hv=>?_
    have hv:=isV_ik.1 hv
    cases κ <;> first | exact isV_ik.2 hv | exact isV_int.2 hv
  refine ⟨fun s h=>?_,?_,key⟩
  · cases κ <;> simp [wrI,AV.ment] at h
  · cases κ <;> rfl
theorem ok_extS {a:Act} {k:K} {P:Program} {x:Operand} {i:Nat} {u0:Value} {vs:List Value} {l:List (Σ t,T.D t)} {t:Tp} {y:T.D t} (ho:o.op = .extract x (i + 1)) (e1:a.eval x = .tuple (u0::vs).toArray) (hf:Fa2 l vs k) (hl:l[i]? = some ⟨t,y⟩) :
    Does P o a k (IsV y):=by
  obtain ⟨u,hu,hv⟩:=hf.get hl
  refine does_pure (v:=u) ?_ hv
  simp only [execOp,ho,e1]
  simp [Instr.extract,hu]
theorem opvF_is (hC:CxOk C) {a0 a:Act} {k:K} {x:Operand} (h:(opv e x).is a0 (a.eval x) k) (hG:GOk T k):(opvF C e x).is a0 (a.eval x) k:=by
  cases x with
  | func f =>
    unfold opvF
    dsimp only
    split
    · rename_i d hd
      split
      · rename_i av hav
        exact (mkFn_is (us:=[]) hC.pe (hC.deps f d hd) hav rfl (fun l z hz=>by
          match l,z,hz with
          | [],_,_=>trivial
          | [_],_,hz=>simp [args] at hz
          | _::_::_,_,hz=>simp [args] at hz) hG).2.2
      · trivial
    · trivial
  | _=>exact h
theorem arr1 {α:Type} {A:Array α} {x:α} (h:A.toList = [x]):A = #[x]:=by cases A; simp at h; rw [h]
theorem arr2 {α:Type} {A:Array α} {x y:α} (h:A.toList = [x,y]):A = #[x,y]:=by cases A; simp at h; rw [h]
theorem arr3 {α:Type} {A:Array α} {x y z:α} (h:A.toList = [x,y,z]):A = #[x,y,z]:=by cases A; simp at h; rw [h]

theorem bslice_ok {ty n:Nat} {ps:Array (Nat × Operand)} {t:Tp} {el:TypeId} {xs:List (T.D t)} (h:bslice C e ty n ps = some ⟨t,(el,xs)⟩) :
    C.P.underlying ty = some (.slice el)∧ElemOk C.P el (T.D t)∧n = xs.length∧n * (T.e t).sz ≤ 16777216∧∀ a0 a k,(∀ y ∈ ps.toList.map (·.2),(opv e y).is a0 (a.eval y) k) → Parts a k 0 ps.toList xs:=by
  unfold bslice at h
  split at h
  · rename_i el' hel
    split at h
    · rename_i t' ht
      split at h
      · rename_i xs' hxs
        cases hb:(Nat.beq xs'.length n && elB C.P T el' t' && Nat.ble (n * szT T t') 16777216) with
        | false=>rw [hb] at h; simp at h
        | true =>
          rw [hb] at h
          simp only [cond_true,Option.some.injEq,Sigma.mk.injEq] at h
          obtain ⟨rfl,h⟩:=h
          have h:=eq_of_heq h
          simp only [Prod.mk.injEq] at h
          obtain ⟨rfl,rfl⟩:=h
          simp only [Bool.and_eq_true] at hb
          obtain ⟨⟨h1,h2⟩,h3⟩:=hb
          exact ⟨slOf_ok hel,elB_ok h2,(Nat.eq_of_beq_eq_true h1).symm,Nat.le_of_ble_eq_true h3,fun a0 a k g=>partsL_ok (a0:=a0) hxs g⟩
      · simp at h
    · simp at h
  · simp at h
theorem rsOf_ok {m s:Nat} {z:T.RD m} {a0:Act} {k:K} (h:rsOf e m (.al s) = some z) (hr : ∀ s,isRes (lk e s) = true → (lk e s).is a0 (a0.get s) k) : ∃ F,T.RP m z F (a0.get s) k:=by
  unfold rsOf at h
  dsimp only at h
  split at h
  · rename_i lck m' z' hl
    split at h
    · rename_i hm _
      obtain rfl:=hm.down
      obtain rfl:=Option.some.inj h
      have:=hr s (by rw [hl]; rfl)
      rw [hl] at this
      exact this
    · simp at h
  · simp at h
theorem qArgs_ok {amb:Bool} {m:Nat} {as_ xs:List Operand} {z:T.RD m} {a0 a:Act} {k:K} (hi : ∀ t s,(lk e t).ment s = true → isRes (lk e s) = true) (g:Rd1 e o a0 a k) (ho : ∀ x ∈ as_,x ∈ o.op.operands.toList) (h:qArgs e amb m as_ = some (z,xs)) :
    ∃ (u:Value) (F:FP),T.RP m z F u k∧as_.map a.eval = (bif amb then xs.map a.eval else u::xs.map a.eval)∧∀ x ∈ xs,x ∈ as_:=by
  unfold qArgs at h
  cases amb with
  | true =>
    simp only [cond_true] at h
    split at h
    · rename_i s hs
      split at h
      · rename_i z' hz
        simp only [Option.some.injEq,Prod.mk.injEq] at h
        obtain ⟨rfl,rfl⟩:=h
        obtain ⟨F,hF⟩:=rsOf_ok hz g.rs
        exact ⟨_,F,hF,rfl,fun x hx=>hx⟩
      · simp at h
    · simp at h
  | false =>
    simp only [cond_false] at h
    split at h
    · rename_i x xs'
      split at h
      · rename_i z' hz
        simp only [Option.some.injEq,Prod.mk.injEq] at h
        obtain ⟨rfl,rfl⟩:=h
        have hx:=g.op x (ho x (by simp))
        have hm:=mvv_is hx
        generalize hav:mvv e x = av at hz hm
        cases av with
        | al s =>
          obtain ⟨F,hF⟩:=rsOf_ok hz g.rs
          refine ⟨a0.get s,F,hF,?_,fun x hx=>by simp [hx]⟩
          simp only [cond_false,List.map_cons,List.cons.injEq,and_true]
          exact hm
        | _=>simp [rsOf] at hz
      · simp at h
    · simp at h
theorem step1_ok (hC:CxOk C) (hi : ∀ t s,(lk e t).ment s = true → isRes (lk e s) = true) {K:AV T → Option R} {r:R} (h:step1 C e o K = some r) : ∃ av,K av = some r∧Gives C.P e o av:=by
  have ix : ∀ x,x ∈ o.op.operands.toList → ∀ a0 a k,Rd1 e o a0 a k → (opv e x).is a0 (a.eval x) k:=fun x hx a0 a k g=>opv_is (g.op x hx)
  unfold step1 at h
  cases ho:o.op <;> rw [ho] at h ix <;> first | exact nomatch (show (none:Option R) = some r from h) | skip
  case move x=>exact ⟨_,h,mvv_ment hi,mvv_nonres,fun a0 a k g=>ok_move ho (mvv_is (g.op x (by rw [ho]; simp [Op.operands])))⟩
  case pick c x y=>
    try dsimp only at h
    split at h
    rotate_left
    · simp at h
    rename_i m hm
    have hc:=fun a0 a k g=>asB_is hm (ix c (by simp [Op.operands]) a0 a k g)
    cases m with
    | true =>
      simp only [if_true] at h
      split at h
      · rename_i b hb
        exact ⟨_,h,gives_v fun a0 a k g=>ok_pickB ho (hc _ _ _ g) (fun _=>asB_is hb (ix x (by simp [Op.operands]) _ _ _ g)) (fun e=>by simp at e)⟩
      · simp at h
    | false =>
      simp only [Bool.false_eq_true,if_false] at h
      split at h
      · rename_i b hb
        exact ⟨_,h,gives_v fun a0 a k g=>ok_pickB ho (hc _ _ _ g) (fun e=>by simp at e) (fun _=>asB_is hb (ix y (by simp [Op.operands]) _ _ _ g))⟩
      · simp at h
  case assign x=>exact ⟨_,h,mvv_ment hi,mvv_nonres,fun a0 a k g=>ok_assign ho (mvv_is (g.op x (by rw [ho]; simp [Op.operands])))⟩
  case binOp op ty x y uty=>
    try dsimp only at h
    cases hsh:isSh op with
    | true =>
      rw [hsh] at h; simp only [cond_true] at h
      split at h
      · rename_i m hm; exact shiftV_ok ho hm h
      · simp at h
    | false =>
      rw [hsh] at h; simp only [cond_false] at h
      split at h
      · rename_i b hb
        exact ⟨_,h,nilT_ok ho hi hb⟩
      refine binV_ok ho (fun hb=>?_) (fun n hn=>hC.eqs _ _ hn) h
      split at hb
      · assumption
      · simp at hb
  case unOp op ty x=>
    cases op
    case neg=>
      dsimp only at h
      split at h
      · rename_i n hn
        obtain ⟨z,hz,h⟩:=bind_some h
        exact ⟨_,h,gives_v fun a0 a k g=>ok_neg ho (asI_is hn (ix x (by simp [Op.operands]) _ _ _ g)) hz⟩
      · simp at h
    case not=>
      dsimp only at h
      split at h
      · rename_i b hb
        exact ⟨_,h,gives_v fun a0 a k g=>ok_not ho (asB_is hb (ix x (by simp [Op.operands]) _ _ _ g))⟩
      · simp at h
    all_goals exact nomatch (show (none:Option R) = some r from h)
  case convert s d x=>
    try dsimp only at h
    split at h
    · rename_i ds κ n hs hd hx
      refine ⟨_,h,wrI_ok (t:=s) (u:=d) (x:=x) fun a0 a k g=>ok_conv_ik ho (by rw [hs]; rfl) hd ?_⟩
      have:=ix x (by simp [Op.operands]) _ _ _ g; rw [hx] at this; exact this
    · rename_i ds κ κ' n hs hd hx
      refine ⟨_,h,wrI_ok (t:=s) (u:=d) (x:=x) fun a0 a k g=>ok_conv_kk ho (by rw [hs]; rfl) hd ?_⟩
      have:=ix x (by simp [Op.operands]) _ _ _ g; rw [hx] at this; exact this
    · simp at h
  case load ty x=>
    try dsimp only at h
    split at h
    · rename_i av hav; exact ⟨_,h,loadV_ok ho hi hav⟩
    · simp at h
  case fieldAddr s x f=>exact fieldV_ok ho hi h
  case indexAddr ty x y=>
    try dsimp only at h
    split at h
    · rename_i i el hI hel
      have hu:=slOf_ok hel
      split at h
      · rename_i s
        have hres : ∀ a0 a k,Rd1 e o a0 a k → (res e (nrm (lk e s))).is a0 (a.get s) k:=fun a0 a k g=>res_is (nrm_is (g.op (.tmp s) (by rw [ho]; simp [Op.operands])).1) (fun s' h'=>hi s s' (nrm_ment h')) g.rs
        split at h
        · rename_i t xs heq
          cases hb:tyB C.P T el t with
          | false=>rw [hb] at h; simp at h
          | true =>
            rw [hb] at h; simp only [cond_true] at h
            obtain ⟨z,hz,h⟩:=bind_some h
            refine ⟨_, h, fun s' hs' => by simp [AV.ment] at hs', rfl, fun a0 a k g => ok_indexRef ho hu (tyB_ok hb) ?_ (asI_is hI (ix y (by simp [Op.operands]) _ _ _ g)) hz⟩
            have:=hres _ _ _ g; rw [heq] at this; exact this
        · rename_i lck e' t xs heq
          cases hb:(tyB C.P T el t && Nat.beq el e') with
          | false=>rw [hb] at h; simp at h
          | true =>
            rw [hb] at h; simp only [cond_true] at h
            rw [Bool.and_eq_true] at hb
            obtain ⟨hb,he⟩:=hb
            obtain rfl:=Nat.eq_of_beq_eq_true he
            obtain ⟨z,hz,h⟩:=bind_some h
            have hsl:isRes (lk e (slotOf e s)) = true∧∀ a0 a k,Rd1 e o a0 a k → a.get s = a0.get (slotOf e s):=by
              unfold slotOf
              cases hl:lk e s with
              | al s'=>exact ⟨hi s s' (by rw [hl]; exact Nat.beq_refl s'),fun a0 a k g=>by have:=(g.op (.tmp s) (by rw [ho]; simp [Op.operands])).1; rw [hl] at this; exact this⟩
              | own _ _ _ _=>exact ⟨by dsimp only; rw [hl]; rfl,fun a0 a k g=>(g.op (.tmp s) (by rw [ho]; simp [Op.operands])).2 (by rw [hl]; rfl)⟩
              | _=>rw [hl] at heq; simp [nrm,res] at heq
            generalize slotOf e s = s0 at h hsl
            refine ⟨_,h,fun s' hs'=>by rw [← Nat.eq_of_beq_eq_true hs']; exact hsl.1,rfl,fun a0 a k g=>?_⟩
            have h1:IsOwn 0 el xs (a.get s) k:=by have:=hres _ _ _ g; rw [heq] at this; exact this
            have h2:=hsl.2 _ _ _ g
            rw [h2] at h1
            refine does_imp (ok_indexO (u:=a0.get s0) (B:=0) ho hu (tyB_ok hb) ⟨h2,by rw [show a.eval (.tmp s) = a0.get s0 from h2]; exact h1⟩ (asI_is hI (ix y (by simp [Op.operands]) _ _ _ g)) hz) fun v k' hg hv=>⟨Lens.id_ok,hv,Mono.mono (R:=IsOwn 0 el xs) hg h1,(getI_spec hz).2.1⟩
        · rename_i lck m z' heq
          split at h
          · rename_i t xs hRL
            cases hb:tyB C.P T el t with
            | false=>rw [hb] at h; simp at h
            | true =>
              rw [hb] at h; simp only [cond_true] at h
              obtain ⟨z,hz,h⟩:=bind_some h
              refine ⟨_, h, fun s' hs' => by simp [AV.ment] at hs', rfl, fun a0 a k g => ok_indexRef ho hu (tyB_ok hb) ?_ (asI_is hI (ix y (by simp [Op.operands]) _ _ _ g)) hz⟩
              have:=hres _ _ _ g; rw [heq] at this
              obtain ⟨F,this⟩:=this
              exact T.RLok _ _ _ _ _ _ _ this hRL
          · simp at h
        · simp at h
      · simp at h
    · rename_i i hI hel
      split at h
      · rename_i m el n z hu hx
        split at h
        · rename_i t xs hxs
          cases hb:(Nat.beq m xs.length && tyB C.P T el t) with
          | false=>rw [hb] at h; simp at h
          | true =>
            rw [hb] at h; simp only [cond_true] at h
            rw [Bool.and_eq_true] at hb
            obtain ⟨r1,hr,h⟩:=bind_some h
            have hlen:=Nat.eq_of_beq_eq_true hb.1
            refine ⟨_, h, fun s' hs' => by simp [AV.ment] at hs', rfl, fun a0 a k g => ?_⟩
            have h1:=ix x (by simp [Op.operands]) _ _ _ g; rw [hx] at h1
            exact okArrRef ho hu (tyB_ok (T:=T) (u:=t) hb.2) hlen.symm hxs h1 (asI_is hI (ix y (by simp [Op.operands]) _ _ _ g)) hr
        · simp at h
      · simp at h
    · simp at h
  case index ty x y=>
    try dsimp only at h
    split at h
    · rename_i n z i m el hx hi2 hu
      split at h
      · rename_i t xs hxs
        cases hb:(Nat.beq m xs.length && tyB C.P T el t) with
        | false=>rw [hb] at h; simp at h
        | true =>
          rw [hb] at h; simp only [cond_true] at h
          rw [Bool.and_eq_true] at hb
          obtain ⟨r1,hr,h⟩:=bind_some h
          have hlen:=Nat.eq_of_beq_eq_true hb.1
          refine ⟨_,h,gives_m fun a0 a k g=>?_⟩
          have h1:=ix x (by simp [Op.operands]) _ _ _ g; rw [hx] at h1
          exact ok_arrIndexG ho hu (tyB_ok (T:=T) (u:=t) hb.2) hlen (agg_st (T:=T) (n:=n)) (fun k cs hr=>partsN_rep hxs (rep_st.1 hr)) h1 (asI_is hi2 (ix y (by simp [Op.operands]) _ _ _ g)) hr
      · simp at h
    · simp at h
  case extract x i=>
    try dsimp only at h
    split at h
    · rename_i l hx
      split at h
      · rename_i t y hl
        refine ⟨_,h,gives_m fun a0 a k g=>?_⟩
        have:=ix x (by simp [Op.operands]) _ _ _ g; rw [hx] at this
        obtain ⟨vs,e1,hf⟩:=this
        obtain ⟨u,hu,hv⟩:=hf.get hl
        refine does_pure (v:=u) ?_ hv
        simp only [execOp,ho,e1]
        simp [Instr.extract,hu]
      · simp at h
    · rename_i l hx
      split at h
      · simp at h
      · rename_i i
        split at h
        · rename_i t y hl
          refine ⟨_,h,gives_m fun a0 a k g=>?_⟩
          have:=ix x (by simp [Op.operands]) _ _ _ g; rw [hx] at this
          obtain ⟨u0,vs,e1,hf⟩:=this
          exact ok_extS ho e1 hf hl
        · simp at h
    · rename_i lf κ w l hx
      split at h
      · simp at h
      · rename_i i
        split at h
        · rename_i t y hl
          refine ⟨_,h,gives_m fun a0 a k g=>?_⟩
          have:=ix x (by simp [Op.operands]) _ _ _ g; rw [hx] at this
          obtain ⟨u0,vs,e1,_,hf⟩:=this
          exact ok_extS ho e1 hf hl
        · simp at h
    · rename_i s hx
      split at h
      · rename_i lf κ w l hs
        split at h
        · simp at h
        · rename_i i
          split at h
          · rename_i t y hl
            refine ⟨_,h,gives_m fun a0 a k g=>?_⟩
            have h1:=ix x (by simp [Op.operands]) _ _ _ g; rw [hx] at h1
            have h2:=g.rs s (by rw [hs]; rfl)
            rw [hs] at h2
            obtain ⟨u0,vs,e1,_,hf⟩:=h2
            exact ok_extS ho ((show a.eval x = a0.get s from h1).trans e1) hf hl
          · simp at h
      · simp at h
    · simp at h
  case box ty x=>
    try dsimp only at h
    split at h
    · rename_i t y hx
      cases hb:tyB C.P T ty t with
      | false=>rw [hb] at h; simp at h
      | true =>
        rw [hb] at h; simp only [cond_true] at h
        refine ⟨_,h,fun s hs=>by simp [AV.ment] at hs,rfl,fun a0 a k g=>ok_boxR ho ?_⟩
        have:=ix x (by simp [Op.operands]) _ _ _ g; rw [hx] at this; exact this
    · rename_i t y hx
      cases hb:tyB C.P T ty (.rf t) with
      | false=>rw [hb] at h; simp at h
      | true =>
        rw [hb] at h; simp only [cond_true] at h
        refine ⟨_,h,fun s hs=>by simp [AV.ment] at hs,rfl,fun a0 a k g=>ok_boxR (α:=T.D (.rf t)) ho ?_⟩
        have:=ix x (by simp [Op.operands]) _ _ _ g; rw [hx] at this; exact isV_rfT.2 this
    · simp at h
  case nilCheck x=>
    try dsimp only at h
    have ixm : ∀ a0 a k,Rd1 e o a0 a k → (mvv e x).is a0 (a.eval x) k:=fun a0 a k g=>mvv_is (g.op x (by rw [ho]; simp [Op.operands]))
    split at h
    · rename_i t y hx
      refine ⟨_,h,fun s hs=>by simp [AV.ment] at hs,rfl,fun a0 a k g=>ok_nilCheckR ho ?_⟩
      have:=ixm _ _ _ g; rw [hx] at this; exact this
    · rename_i s hx
      split at h
      · rename_i lck t y hs
        have hres:isRes (lk e s) = true:=by rw [hs]; rfl
        refine ⟨_,h,fun s' hs'=>by rw [← Nat.eq_of_beq_eq_true hs']; exact hres,rfl,fun a0 a k g=>?_⟩
        have h1:=ixm _ _ _ g; rw [hx] at h1
        have h2:=g.rs s hres
        rw [hs] at h2
        obtain ⟨b,e1,_⟩:=h2
        refine ok_nilCheckV ho ⟨_,(show a.eval x = a0.get s from h1).trans e1⟩ ?_
        exact h1
      · simp at h
    · simp at h
  case makeFunc fn first caps=>
    cases fn with
    | func f =>
      try dsimp only at h
      split at h
      · rename_i y hfi
        split at h
        · rename_i s hca hy
          have hms:=mvv_ment (x:=y) hi
          rw [hy] at hms
          obtain rfl:=arr1 hfi
          obtain rfl:caps = #[]:=by cases caps; simp at hca; rw [hca]
          refine ⟨_,h,hms,rfl,fun a0 a k g=>?_⟩
          refine ok_makeFunc (fn:=.func f) (first:=[y]) (captured:=[]) ho ?_
          have h1:=mvv_is (g.op y (by rw [ho]; simp [Op.operands]))
          rw [hy] at h1
          show Value.func (.func f) [a.eval y].toArray [].toArray = _
          rw [show a.eval y = a0.get s from h1]
        · simp at h
      · rename_i hfi
        split at h
        · rename_i d hd
          split at h
          · rename_i av hav
            obtain ⟨h1,h2⟩:=mkFn_shape hav
            refine ⟨_,h,fun s hs=>by rw [h1] at hs; simp at hs,h2,fun a0 a k g=>?_⟩
            refine ok_makeFunc (fn:=.func f) (first:=[]) (captured:=caps.toList) (by rw [ho]; simp [← hfi]) ?_
            exact (mkFn_is (us:=caps.toList.map a.eval) hC.pe (hC.deps f d hd) hav (by simp) (fun l z hz=>args_is hz fun x hx=>ix x (by simp [Op.operands]; exact .inr (by simpa using hx)) _ _ _ g) g.gl).2.2
          · simp at h
        · simp at h
      · simp at h
    | _=>exact nomatch (show (none:Option R) = some r from h)
  case slice ty x lo hi' mx=>
    try dsimp only at h
    split at h
    · simp at h
    · rename_i el hel
      have hu:=slOf_ok hel
      have ixx:=ix x (by simp [Op.operands])
      split at h
      · split at h
        · rename_i t xs hlo hl
          cases hb:tyB C.P T el t with
          | false=>rw [hb] at h; simp at h
          | true =>
            rw [hb] at h; simp only [cond_true] at h
            refine ⟨_,h,fun s hs=>by simp [AV.ment] at hs,rfl,fun a0 a k g=>ok_slice00 (α:=T.D t) (xs:=xs) ho ?_ hu (tyB_sz hb) (asL_is hl (ixx _ _ _ g) (opv_ment hi) g.rs)⟩
            split at hlo
            · exact .inl rfl
            · exact .inr rfl
            · simp at hlo
        · simp at h
      · split at h
        · rename_i t xs hx
          cases hb:tyB C.P T el t with
          | false=>rw [hb] at h; simp at h
          | true =>
            rw [hb] at h; simp only [cond_true] at h
            have ix' : ∀ a0 a k,Rd1 e o a0 a k → IsV xs (a.eval x) k:=fun a0 a k g=>by
              have:=ixx _ _ _ g; rw [hx] at this; exact this
            split at h
            · rename_i l h'
              split at h
              · rename_i nl nh hl hh
                obtain ⟨z,hz,h⟩:=bind_some h
                exact ⟨_,h,gives_v fun a0 a k g=>ok_slice ho hu (tyB_sz hb) (ix' _ _ _ g) (asI_is hl (ix l (by simp [Op.operands]) _ _ _ g)) (asI_is hh (ix h' (by simp [Op.operands]) _ _ _ g)) hz⟩
              · simp at h
            · rename_i l
              split at h
              · rename_i nl hl
                obtain ⟨z,hz,h⟩:=bind_some h
                exact ⟨_,h,gives_v fun a0 a k g=>ok_slice_lo ho hu (tyB_sz hb) (ix' _ _ _ g) (asI_is hl (ix l (by simp [Op.operands]) _ _ _ g)) hz⟩
              · simp at h
            · rename_i h'
              split at h
              · rename_i nh hh
                obtain ⟨z,hz,h⟩:=bind_some h
                exact ⟨_,h,gives_v fun a0 a k g=>ok_slice_hi ho hu (tyB_sz hb) (ix' _ _ _ g) (asI_is hh (ix h' (by simp [Op.operands]) _ _ _ g)) hz⟩
              · simp at h
            · simp at h
        · simp at h
      · simp at h
  case build ty ps=>
    try dsimp only at h
    split at h
    · rename_i n hn
      cases hb:(zeroB C.P T ty (.st n) && allFld C.P ty) with
      | false =>
        rw [hb] at h; simp only [cond_false] at h
        cases hb2:(zeroN C.P T ty n && allPl C.P ty) with
        | false=>rw [hb2] at h; simp at h
        | true =>
          rw [hb2] at h; simp only [cond_true] at h
          rw [Bool.and_eq_true] at hb2
          split at h
          · rename_i z hz
            refine ⟨_,h,gives_v fun a0 a k g=>ok_build (ps:=ps.toList) (by rw [ho]) (run_buildA hb2.1 hb2.2 hz (a0:=a0) fun y hy=>opvF_is hC (ix y ?_ _ _ _ g) g.gl)⟩
            simpa [Op.operands] using hy
          · simp at h
      | true =>
        rw [hb] at h; simp only [cond_true] at h
        rw [Bool.and_eq_true] at hb
        split at h
        · rename_i z hz
          refine ⟨_,h,gives_v fun a0 a k g=>ok_build (ps:=ps.toList) (by rw [ho]) (run_build hb.1 hb.2 hz (a0:=a0) fun y hy=>ix y ?_ _ _ _ g)⟩
          simpa [Op.operands] using hy
        · simp at h
    · simp at h
  case buildSlice ty n ps=>
    try dsimp only at h
    split at h
    · split at h
      · rename_i el hps hel
        split at h
        · rename_i t ht
          cases hb:elB C.P T el t with
          | false=>rw [hb] at h; simp at h
          | true =>
            rw [hb] at h; simp only [cond_true] at h
            have:ps = #[]:=by cases ps; simp at hps; rw [hps]
            subst this
            exact ⟨_,h,fun s hs=>by simp [AV.ment] at hs,rfl,fun a0 a k g=>ok_buildSlice0 (α:=T.D t) ho (slOf_ok hel) (elB_ok hb)⟩
        · simp at h
      · simp at h
    · rename_i hn0
      split at h
      · rename_i t el xs hb
        obtain ⟨h1,h2,h3,h4,h5⟩:=bslice_ok hb
        refine ⟨_,h,fun s hs=>by simp [AV.ment] at hs,rfl,fun a0 a k g=>ok_buildSliceF (ps:=ps.toList) (by rw [ho]) h1 h2 h3 (Nat.pos_of_ne_zero fun e=>hn0 e) h4 (h5 a0 a k fun y hy=>ix y ?_ _ _ _ g)⟩
        simpa [Op.operands] using hy
      · simp at h
  case call c=>
    try dsimp only at h
    obtain ⟨cal,as_,ts⟩:=c
    have ixa : ∀ x,x ∈ as_.toList → ∀ a0 a k,Rd1 e o a0 a k → (opv e x).is a0 (a.eval x) k:=fun x hx=>ix x (by simp [Op.operands,Call.operands]; exact .inr (by simpa using hx))
    dsimp only at h
    split at h
    · -- len
      split at h
      · rename_i x ty hx hty
        obtain rfl:=arr1 hx
        split at h
        · rename_i el hel
          have hres : ∀ a0 a k,Rd1 e o a0 a k → (res e (opv e x)).is a0 (a.eval x) k:=fun a0 a k g=>res_is (ixa x (by simp) _ _ _ g) (opv_ment hi) g.rs
          split at h
          · rename_i t xs heq
            exact ⟨_,h,gives_v fun a0 a k g=>ok_len ho hty (slOf_ok hel) (IsV.rd (by have:=hres _ _ _ g; rw [heq] at this; exact this))⟩
          · rename_i l el' t xs heq
            exact ⟨_,h,gives_v fun a0 a k g=>ok_len ho hty (slOf_ok hel) (IsOwn.rd (by have:=hres _ _ _ g; rw [heq] at this; exact this))⟩
          · rename_i heq
            refine ⟨_,h,gives_v fun a0 a k g=>?_⟩
            have h1:=hres _ _ _ g; rw [heq] at h1
            exact ok_len (α:=Int) (xs:=[]) ho hty (slOf_ok hel) (IsV.rd (IsE0.isV h1))
          · rename_i lck m z' heq
            split at h
            · rename_i t xs hRL
              refine ⟨_,h,gives_v fun a0 a k g=>ok_len ho hty (slOf_ok hel) (IsV.rd (α:=T.D t) (xs:=xs) ?_)⟩
              have:=hres _ _ _ g; rw [heq] at this
              obtain ⟨F,this⟩:=this
              exact T.RLok _ _ _ _ _ _ _ this hRL
            · simp at h
          · simp at h
        · simp at h
      · simp at h
    · -- max
      split at h
      · rename_i x y hx
        obtain rfl:=arr2 hx
        split at h
        · rename_i n m hn hm
          exact ⟨_,h,gives_v fun a0 a k g=>ok_max2 ho (asI_is hn (ixa x (by simp) _ _ _ g)) (asI_is hm (ixa y (by simp) _ _ _ g))⟩
        · simp at h
      · rename_i x y z hx
        obtain rfl:=arr3 hx
        split at h
        · rename_i n m p hn hm hp
          exact ⟨_,h,gives_v fun a0 a k g=>ok_max3 ho (asI_is hn (ixa x (by simp) _ _ _ g)) (asI_is hm (ixa y (by simp) _ _ _ g)) (asI_is hp (ixa z (by simp) _ _ _ g))⟩
        · simp at h
      · rename_i x y z u w hx
        obtain rfl:=arr5 hx
        split at h
        · rename_i n m p q t hn hm hp hq ht
          exact ⟨_,h,gives_v fun a0 a k g=>ok_max5 ho (asI_is hn (ixa x (by simp) _ _ _ g)) (asI_is hm (ixa y (by simp) _ _ _ g)) (asI_is hp (ixa z (by simp) _ _ _ g)) (asI_is hq (ixa u (by simp) _ _ _ g)) (asI_is ht (ixa w (by simp) _ _ _ g))⟩
        · simp at h
      · simp at h
    · -- min
      split at h
      · rename_i x y hx
        obtain rfl:=arr2 hx
        split at h
        · rename_i n m hn hm
          exact ⟨_,h,gives_v fun a0 a k g=>ok_min2 ho (asI_is hn (ixa x (by simp) _ _ _ g)) (asI_is hm (ixa y (by simp) _ _ _ g))⟩
        · simp at h
      · rename_i x y z hx
        obtain rfl:=arr3 hx
        split at h
        · rename_i n m p hn hm hp
          exact ⟨_,h,gives_v fun a0 a k g=>ok_min3 ho (asI_is hn (ixa x (by simp) _ _ _ g)) (asI_is hm (ixa y (by simp) _ _ _ g)) (asI_is hp (ixa z (by simp) _ _ _ g))⟩
        · simp at h
      · rename_i x y z u hx
        obtain rfl:=arr4 hx
        split at h
        · rename_i n m p q hn hm hp hq
          exact ⟨_,h,gives_v fun a0 a k g=>ok_min4 ho (asI_is hn (ixa x (by simp) _ _ _ g)) (asI_is hm (ixa y (by simp) _ _ _ g)) (asI_is hp (ixa z (by simp) _ _ _ g)) (asI_is hq (ixa u (by simp) _ _ _ g))⟩
        · simp at h
      · simp at h
    · -- append
      split at h
      · rename_i x y ty ty' hx hty
        obtain rfl:=arr2 hx
        obtain rfl:=arr2 hty
        split at h
        · rename_i el hel
          split at h
          · -- .. to a slice without room
            rename_i t xs hF
            have hfull : ∀ a0 a k,Rd1 e o a0 a k → IsFull xs (a.eval x) k:=by
              intro a0 a k g
              unfold asF at hF
              split at hF
              · rename_i s
                split at hF
                · rename_i t' xs' hl
                  cases hF
                  have:=(g.op (.tmp s) (by rw [ho]; simp [Op.operands,Call.operands])).1
                  rw [hl] at this; exact this
                · simp at hF
              · simp at hF
            split at h
            · rename_i u ys hl
              split at h
              · rename_i ys' hcast
                cases hb:(Nat.beq ty ty' && elB C.P T el t) with
                | false=>rw [hb] at h; simp at h
                | true =>
                  rw [hb] at h; simp only [cond_true] at h
                  rw [Bool.and_eq_true] at hb
                  obtain rfl:=Nat.eq_of_beq_eq_true hb.1
                  obtain ⟨z,hz,h⟩:=bind_some h
                  obtain ⟨e1,e2⟩:=cast?_eq hcast
                  cases e1
                  subst e2
                  exact ⟨_,h,gives_v fun a0 a k g=>ok_appendF ho (slOf_ok hel) (elB_ok hb.2) (hfull _ _ _ g) (asL_is hl (ixa y (by simp) _ _ _ g) (opv_ment hi) g.rs) hz⟩
              · simp at h
            · simp at h
          split at h
          · rename_i t ys hres hl
            cases hb:(Nat.beq ty ty' && elB C.P T el t) with
            | false=>rw [hb] at h; simp at h
            | true =>
              rw [hb] at h; simp only [cond_true] at h
              rw [Bool.and_eq_true] at hb
              obtain rfl:=Nat.eq_of_beq_eq_true hb.1
              obtain ⟨z,hz,h⟩:=bind_some h
              refine ⟨_,h,gives_v fun a0 a k g=>ok_append0V ho (slOf_ok hel) (elB_ok hb.2) ?_ (asL_is hl (ixa y (by simp) _ _ _ g) (opv_ment hi) g.rs) hz⟩
              have:=res_is (ixa x (by simp) _ _ _ g) (opv_ment hi) g.rs
              rw [hres] at this; exact this
          · simp at h
        · simp at h
      · simp at h
    · -- a function
      rename_i f
      split at h
      · rename_i d hd
        split at h
        · rename_i z hz
          obtain ⟨y,hy,h⟩:=bind_some h
          have hf:=hC.deps f d hd
          refine ⟨_,h,fun s hs=>by rw [resV_ment] at hs; simp at hs,resV_nonres,fun a0 a k g=>?_⟩
          have:=hf.ok k (as_.toList.map a.eval) z y g.gl (args_isF (opvF C e) hz fun x hx=>opvF_is hC (ixa x hx _ _ _ g) g.gl) hy
          refine does_imp (ok_call (as_:=as_.toList) (by rw [ho]) hf.call this) fun v k' _ hv=>is_act (fun s=>resV_ment) hv
        · simp at h
      · -- .. that only looks at a thing
        split at h
        · rename_i d hd
          split at h
          · rename_i z xs hq
            split at h
            · rename_i y hy
              obtain ⟨r1,hr,h⟩:=bind_some h
              have hf:=hC.qdeps f d hd
              refine ⟨_,h,fun s hs=>by rw [resV_ment] at hs; simp at hs,resV_nonres,fun a0 a k g=>?_⟩
              obtain ⟨u,F,hRP,hv,hsub⟩:=qArgs_ok hi g (fun x hx=>by rw [ho]; simp [Op.operands,Call.operands]; exact .inr (by simpa using hx)) hq
              have:=hf.ok k u (xs.map a.eval) z F y r1 g.gl hRP (args_isF (opvF C e) hy fun x hx=>opvF_is hC (ixa x (hsub x hx) _ _ _ g) g.gl) hr
              rw [← hv] at this
              refine does_imp (ok_call (as_:=as_.toList) (by rw [ho]) hf.call this) fun v k' _ hv=>is_act (fun s=>resV_ment) hv
            · simp at h
          · simp at h
        · simp at h
    · -- a function value
      rename_i s
      have hpe:=hC.pe
      have ixs : ∀ a0 a k,Rd1 e o a0 a k → (lk e s).is a0 (a.get s) k:=fun a0 a k g=>(g.op (.tmp s) (by rw [ho]; simp [Op.operands,Call.operands])).1
      split at h
      · rename_i b f heq
        split at h
        · rename_i hx
          obtain rfl:as_ = #[]:=by cases as_; simp at hx; rw [hx]
          obtain ⟨y,hy,h⟩:=bind_some h
          refine ⟨_,h,gives_m fun a0 a k g=>?_⟩
          have hf:=ixs _ _ _ g; rw [heq] at hf
          exact ok_callF0 ho (by rw [hpe]; exact isV_f0T.1 hf) hy
        · simp at h
      · rename_i b c f heq
        split at h
        · rename_i x hx
          obtain rfl:=arr1 hx
          split at h
          · rename_i z hz
            obtain ⟨y,hy,h⟩:=bind_some h
            refine ⟨_,h,gives_m fun a0 a k g=>?_⟩
            have hf:=ixs _ _ _ g; rw [heq] at hf
            exact ok_callF1 ho (by rw [hpe]; exact isV_f1T.1 hf) (asT_is hz (ixa x (by simp) _ _ _ g)) hy
          · simp at h
        · simp at h
      · rename_i b b' c f heq
        split at h
        · rename_i x x' hx
          obtain rfl:=arr2 hx
          split at h
          · rename_i z z' hz hz'
            obtain ⟨y,hy,h⟩:=bind_some h
            refine ⟨_,h,gives_m fun a0 a k g=>?_⟩
            have hf:=ixs _ _ _ g; rw [heq] at hf
            exact ok_callF2 ho (by rw [hpe]; exact isV_f2T.1 hf) (asT_is hz (ixa x (by simp) _ _ _ g)) (asT_is hz' (ixa x' (by simp) _ _ _ g)) hy
          · simp at h
        · simp at h
      · simp at h
    · simp at h
end
end Go.Gb

/- General part of the proofs: the operations of a region that may run in any order. -/
namespace Go.Gb
variable {T:Tb} {R:Type}

theorem lastIdx_none {t:Nat} : ∀ {l:List Oper} {i:Nat} {r:Option Nat},lastIdx t l i r = none → r = none∧∀ o ∈ l,o.dst ≠ some t
  | [],_,_,h=>⟨h,by simp⟩
  | o :: l, i, r, h => by
    simp only [lastIdx] at h
    obtain ⟨h1,h2⟩:=lastIdx_none h
    cases hd:o.dst with
    | none=>rw [hd] at h1; exact ⟨h1,by simpa [hd] using h2⟩
    | some d =>
      rw [hd] at h1
      cases hb:Nat.beq d t with
      | true=>simp only [hb] at h1; simp at h1
      | false =>
        simp only [hb] at h1
        refine ⟨h1,?_⟩
        simp only [List.mem_cons,forall_eq_or_imp]
        exact ⟨by rw [hd]; intro e; rw [Option.some.inj e,Nat.beq_refl] at hb; simp at hb,h2⟩
theorem lastIdx_snoc {t:Nat} {o:Oper} : ∀ {l:List Oper} {i:Nat} {r:Option Nat},lastIdx t (l ++ [o]) i r = if o.dst = some t then some (i + l.length) else lastIdx t l i r
  | [], i, r => by
    simp only [List.nil_append,lastIdx]
    cases hd:o.dst with
    | none=>simp
    | some d =>
      cases hb:Nat.beq d t with
      | true=>simp [hb,Nat.eq_of_beq_eq_true hb]
      | false =>
        have:d ≠ t:=fun e=>by rw [e,Nat.beq_refl] at hb; simp at hb
        simp [hb,this]
  | x :: l, i, r => by
    simp only [List.cons_append,lastIdx,lastIdx_snoc,List.length_cons]
    congr 2
    omega
theorem lastIdx_spec {t:Nat} : ∀ {l:List Oper} {i:Nat} {r:Option Nat} {j:Nat},lastIdx t l i r = some j → r = some j ∨ ∃ o,i ≤ j∧nth l (j - i) = some o∧o.dst = some t
  | [],_,_,_,h=>.inl h
  | o :: l, i, r, j, h => by
    simp only [lastIdx] at h
    rcases lastIdx_spec h with h1 | ⟨o', h1, h2, h3⟩
    · cases hd : o.dst with
      | none=>rw [hd] at h1; exact .inl h1
      | some d =>
        rw [hd] at h1
        cases hb:Nat.beq d t with
        | true =>
          simp only [hb,cond_true,Option.some.injEq] at h1
          subst h1
          exact .inr ⟨o,Nat.le_refl _,by simp [nth],by rw [hd,Nat.eq_of_beq_eq_true hb]⟩
        | false=>simp only [hb] at h1; exact .inl h1
    · exact .inr ⟨o', by omega, by rw [show j - i = (j - (i + 1)) + 1 by omega]; exact h2, h3⟩

theorem known_mem {es:List Ent} {a0 a:Act} {k:K} : ∀ {need:List (Nat × Option Nat)},Known es a0 a k need → ∀ t s,(t,s) ∈ need →
    (match s with | some j=>(match nth es j with | some ⟨some R,_⟩=>R (a.get t) k | _=>True) | none=>a.get t = a0.get t)
  | [],_,_,_,h=>by simp at h
  | (t', none) :: l, h, t, s, hm => by
    rcases List.mem_cons.1 hm with e | hm
    · cases e; exact h.1
    · exact known_mem h.2 t s hm
  | (t', some j) :: l, h, t, s, hm => by
    rcases List.mem_cons.1 hm with e | hm
    · cases e; exact h.1
    · exact known_mem h.2 t s hm
theorem nth_app {α:Type} : ∀ {l m:List α} {i:Nat} {x:α},nth l i = some x → nth (l ++ m) i = some x
  | _::_,_,0,_,h=>h
  | _::l,m,i + 1,x,h=>nth_app (l:=l) h
  | [],_,_,_,h=>by simp [nth] at h
theorem nth_at {α:Type} : ∀ {l:List α} {x:α} {m:List α},nth (l ++ x::m) l.length = some x
  | [],_,_=>rfl
  | _::l,x,m=>nth_at (l:=l)
theorem mem_tmps {o:Oper} {t:Nat} (h:Operand.tmp t ∈ o.op.operands.toList):t ∈ tmpsOf o:=List.mem_filterMap.2 ⟨_,h,rfl⟩

section
variable {C:Cx T} {n:Nat} {F:FP} {kk:K} {W:List Nat} {aa:Act} {e0:Env T} {a0:Act} {k0:K}

/-- What is known when some operations of a region have run. -/
structure P1 (e0:Env T) (a0:Act) (pre:List Oper) (es:List Ent) (e:Env T):Prop where
  len:es.length = pre.length
  slot : ∀ t,(match lastIdx t pre 0 none with
    | some j => ∃ R nd, nth es j = some ⟨R, nd⟩ ∧ (lk e t = .top ∨ ∃ R', R = some R' ∧ ∀ v k, R' v k → (lk e t).is a0 v k)
    | none=>lk e t = lk e0 t)
  res : ∀ t,isRes (lk e t) = true → lastIdx t pre 0 none = none
  inv : ∀ t s,(lk e t).ment s = true → isRes (lk e s) = true

theorem P1.rd1 {pre:List Oper} {es es' : List Ent} {e:Env T} {o:Oper} {a:Act} {k:K} (p:P1 e0 a0 pre es e) (h:Hl n F kk W aa e0 a0 k0) (hk:Grow k0 k)
    (hn:Known (es ++ es') a0 a k (needOf pre o)):Rd1 e o a0 a k:=by
  have rs : ∀ s,isRes (lk e s) = true → (lk e s).is a0 (a0.get s) k:=fun s hs=>by
    have h1:=p.slot s
    rw [p.res s hs] at h1
    dsimp only at h1
    rw [h1]; exact (lk e0 s).mono hk (h.sl s)
  have gl:GOk T k:=h.gl.le hk.le
  refine ⟨fun x hx=>?_,rs,gl⟩
  cases x with
  | tmp t =>
    have h1:=known_mem hn t (lastIdx t pre 0 none) (List.mem_map.2 ⟨t,mem_tmps hx,rfl⟩)
    have h2:=p.slot t
    cases hl:lastIdx t pre 0 none with
    | some j =>
      rw [hl] at h1 h2
      dsimp only at h1 h2
      obtain ⟨R,nd,h3,h4⟩:=h2
      rw [nth_app h3] at h1
      refine ⟨?_,fun hr=>by rw [p.res t hr] at hl; simp at hl⟩
      rcases h4 with h4 | ⟨R', rfl, h4⟩
      · rw [h4]; trivial
      · exact h4 _ _ h1
    | none =>
      rw [hl] at h1 h2
      dsimp only at h1 h2
      refine ⟨?_,fun _=>h1⟩
      rw [h2,h1]; exact (lk e0 t).mono hk (h.sl t)
  | global _=>exact gl
  | _=>trivial

theorem P1.push {pre:List Oper} {es:List Ent} {e:Env T} {o:Oper} {d:Nat} {av:AV T} {R' : Pred} {nd:List (Nat × Option Nat)} (p:P1 e0 a0 pre es e) (hd:o.dst = some d) (hr:isRes (lk e d) = false)
    (hm : ∀ s, av.ment s = true → isRes (lk e s) = true) (hav : isRes av = false) (hR : ∀ v k, R' v k → av.is a0 v k) : P1 e0 a0 (pre ++ [o]) (es ++ [⟨some R', nd⟩]) ((d, av) :: e) := by
  refine ⟨by simp [p.len],fun t=>?_,fun t ht=>?_,fun t s hms=>?_⟩
  · rw [lastIdx_snoc, hd, lk_cons]
    by_cases e1:d = t
    · subst e1
      rw [if_pos rfl,if_pos rfl,Nat.zero_add]
      exact ⟨_,_,by rw [← p.len]; exact nth_at,.inr ⟨_,rfl,hR⟩⟩
    · rw [if_neg (fun e => e1 (Option.some.inj e)), if_neg e1]
      have:=p.slot t
      split
      · rename_i j hj
        rw [hj] at this
        obtain ⟨R,nd,h1,h2⟩:=this
        exact ⟨R,nd,nth_app h1,h2⟩
      · rename_i hj
        rw [hj] at this
        exact this
  · rw [lk_cons] at ht
    rw [lastIdx_snoc,hd]
    by_cases e1:d = t
    · rw [if_pos e1,hav] at ht; simp at ht
    · rw [if_neg e1] at ht
      rw [if_neg (fun e=>e1 (Option.some.inj e))]
      exact p.res t ht
  · rw [lk_cons] at hms
    have hs:isRes (lk e s) = true:=by
      by_cases e1:d = t
      · rw [if_pos e1] at hms; exact hm s hms
      · rw [if_neg e1] at hms; exact p.inv t s hms
    rw [lk_cons,if_neg (fun e=>by rw [e,hs] at hr; simp at hr)]
    exact hs

theorem tops_lk {e:Env T} : ∀ {gr:OpL} {t:Nat},(lk (tops gr e) t = .top∧∃ x ∈ gr,x.2.dst = some t) ∨ (lk (tops gr e) t = lk e t∧∀ x ∈ gr,x.2.dst ≠ some t)
  | [],t=>.inr ⟨rfl,by simp⟩
  | (i, o) :: l, t => by
    simp only [tops]
    cases hd:o.dst with
    | none =>
      rcases tops_lk (gr:=l) (t:=t) with ⟨h1,x,hx,h2⟩ | ⟨h1,h2⟩
      · exact .inl ⟨h1,x,by simp [hx],h2⟩
      · exact .inr ⟨h1,by simpa [hd] using h2⟩
    | some d =>
      dsimp only
      rw [lk_cons]
      by_cases e1:d = t
      · subst e1
        rw [if_pos rfl]
        exact .inl ⟨rfl,(i,o),by simp,hd⟩
      · rw [if_neg e1]
        rcases tops_lk (gr:=l) (t:=t) with ⟨h1,x,hx,h2⟩ | ⟨h1,h2⟩
        · exact .inl ⟨h1,x,by simp [hx],h2⟩
        · exact .inr ⟨h1,by simp only [List.mem_cons,forall_eq_or_imp]; exact ⟨by rw [hd]; intro e; exact e1 (Option.some.inj e),h2⟩⟩

theorem lastIdx_skip {t:Nat} : ∀ {m:List Oper} {i:Nat} {r:Option Nat},(∀ o ∈ m,o.dst ≠ some t) → lastIdx t m i r = r
  | [],_,_,_=>rfl
  | o :: m, i, r, h => by
    simp only [lastIdx]
    rw [lastIdx_skip fun o' ho'=>h o' (by simp [ho'])]
    have:=h o (by simp)
    cases hd:o.dst with
    | none=>rfl
    | some d =>
      rw [hd] at this
      have hne:d ≠ t:=fun e=>this (congrArg some e)
      simp only [beq_ne hne,cond_false]
theorem lastIdx_app {t:Nat} : ∀ {l m:List Oper} {i:Nat} {r:Option Nat},(∀ o ∈ m,o.dst ≠ some t) → lastIdx t (l ++ m) i r = lastIdx t l i r
  | [],m,i,r,h=>lastIdx_skip h
  | x::l,m,i,r,h=>by simp only [List.cons_append,lastIdx]; exact lastIdx_app h

/-- operations that do not count any more -/
theorem P1.tops {pre cs:List Oper} {es es1:List Ent} {e e' : Env T} {gr:OpL} (p:P1 e0 a0 pre es e) (hg:gr.map (·.2) = cs) (q:P1 e0 a0 (pre ++ cs) (es ++ es1) e' ∨ es1.length = cs.length)
    (hr : ∀ x ∈ gr,∀ d,x.2.dst = some d → isRes (lk e d) = false):P1 e0 a0 (pre ++ cs) (es ++ es1) (tops gr e):=by
  have hlen:es1.length = cs.length:=by
    rcases q with q | q
    · have:=q.len; have:=p.len; simp at *; omega
    · exact q
  have hin : ∀ t,(∃ x ∈ gr,x.2.dst = some t) ↔ ∃ o ∈ cs,o.dst = some t:=fun t=>by
    rw [← hg]
    constructor
    · rintro ⟨x,hx,hd⟩; exact ⟨x.2,List.mem_map.2 ⟨x,hx,rfl⟩,hd⟩
    · rintro ⟨o, ho, hd⟩
      obtain ⟨x,hx,rfl⟩:=List.mem_map.1 ho
      exact ⟨x,hx,hd⟩
  refine ⟨by simp [p.len,hlen],fun t=>?_,fun t ht=>?_,fun t s hms=>?_⟩
  · rcases tops_lk (e := e) (gr := gr) (t := t) with ⟨h1, h2⟩ | ⟨h1, h2⟩
    · rw [h1]
      obtain ⟨o,ho,hd⟩:=(hin t).1 h2
      cases hl:lastIdx t (pre ++ cs) 0 none with
      | none=>exact absurd hd ((lastIdx_none hl).2 o (by simp [ho]))
      | some j =>
        rcases lastIdx_spec hl with h3 | ⟨o', _, h3, _⟩
        · simp at h3
        · have hj := nth_lt h3
          have:j < (es ++ es1).length:=by simp [p.len,hlen] at *; omega
          refine ⟨((es ++ es1)[j]).R,((es ++ es1)[j]).need,?_,.inl rfl⟩
          rw [nth_eq,List.getElem?_eq_getElem this]
    · rw [h1]
      have h3 : ∀ o ∈ cs,o.dst ≠ some t:=fun o ho hd=>by
        obtain ⟨x,hx,hd'⟩:=(hin t).2 ⟨o,ho,hd⟩
        exact h2 x hx hd'
      rw [lastIdx_app h3]
      have:=p.slot t
      split
      · rename_i j hj
        rw [hj] at this
        obtain ⟨R,nd,h4,h5⟩:=this
        exact ⟨R,nd,nth_app h4,h5⟩
      · rename_i hj
        rw [hj] at this
        exact this
  · rcases tops_lk (e := e) (gr := gr) (t := t) with ⟨h1, h2⟩ | ⟨h1, h2⟩
    · rw [h1] at ht; simp [isRes] at ht
    · rw [h1] at ht
      rw [lastIdx_app fun o ho hd=>by
        obtain ⟨x,hx,hd'⟩:=(hin t).2 ⟨o,ho,hd⟩
        exact h2 x hx hd']
      exact p.res t ht
  · have h3 : isRes (lk e s) = true := by
      rcases tops_lk (e:=e) (gr:=gr) (t:=t) with ⟨h1,h2⟩ | ⟨h1,h2⟩
      · rw [h1] at hms; simp [AV.ment] at hms
      · rw [h1] at hms; exact p.inv t s hms
    rcases tops_lk (e:=e) (gr:=gr) (t:=s) with ⟨h1,x,hx,hd⟩ | ⟨h1,h2⟩
    · rw [hr x hx s hd] at h3; simp at h3
    · rw [h1]; exact h3

theorem spanG_eq {g:Option (Nat × Bool)} : ∀ {l gr l' : OpL},spanG g l = (gr,l') → l = gr ++ l'
  | [], gr, l', h => by simp only [spanG, Prod.mk.injEq] at h; rw [← h.1, ← h.2]; rfl
  | x :: l, gr, l', h => by
    simp only [spanG] at h
    split at h
    · simp at h; simp [← h.1,← h.2]
    · simp only [Prod.mk.injEq] at h
      obtain ⟨rfl,rfl⟩:=h
      have:=spanG_eq (g:=g) (l:=l) rfl
      simp only [List.cons_append]
      rw [← this]
theorem spanG_hd {g:Option (Nat × Bool)} : ∀ {l gr l' : OpL} {x:Nat × Oper},spanG g l = (gr,x::l') → x.2.guard = g
  | [], gr, l', x, h => by simp [spanG] at h
  | y :: l, gr, l', x, h => by
    simp only [spanG] at h
    split at h
    · rename_i hy; simp only [Prod.mk.injEq,List.cons.injEq] at h; rw [← h.2.1]; exact hy
    · simp only [Prod.mk.injEq] at h
      exact spanG_hd (g:=g) (l:=l) (gr:=(spanG g l).1) (l':=l') (by rw [← h.2])
theorem ixs_split : ∀ {rest:List Oper} {i:Nat} {a b:OpL},ixs i rest = a ++ b → ∃ r1 r2,rest = r1 ++ r2∧a = ixs i r1∧b = ixs (i + r1.length) r2
  | rest,i,[],b,h=>⟨[],rest,rfl,rfl,by simpa using h.symm⟩
  | [],i,x::a,b,h=>by simp [ixs] at h
  | o :: rest, i, x :: a, b, h => by
    simp only [ixs,List.cons_append,List.cons.injEq] at h
    obtain ⟨r1,r2,h1,h2,h3⟩:=ixs_split h.2
    exact ⟨o::r1,r2,by rw [h1]; rfl,by simp only [ixs]; rw [h.1,h2],by rw [h3,List.length_cons,show i + 1 + r1.length = i + (r1.length + 1) by omega]⟩
theorem ixs_map {l:List Oper} : ∀ {i:Nat},(ixs i l).map (·.2) = l:=by
  induction l with
  | nil=>intro i; rfl
  | cons x l ih=>intro i; simp only [ixs,List.map_cons,ih]
theorem ixs_mem {l:List Oper} : ∀ {i j:Nat} {o:Oper},(j,o) ∈ ixs i l → i ≤ j∧nth l (j - i) = some o:=by
  induction l with
  | nil=>intro i j o h; simp [ixs] at h
  | cons x l ih =>
    intro i j o h
    simp only [ixs,List.mem_cons,Prod.mk.injEq] at h
    rcases h with ⟨rfl,rfl⟩ | h
    · exact ⟨Nat.le_refl _,by simp [nth]⟩
    · obtain ⟨h1, h2⟩ := ih h
      exact ⟨by omega,by rw [show j - i = (j - (i + 1)) + 1 by omega]; exact h2⟩
theorem steps_app {P:Program} {es:List Ent} {a0:Act} {k0:K} : ∀ {l m:List Oper} {a b:List Ent},a.length = l.length → Steps P es a0 k0 l a → Steps P es a0 k0 m b → Steps P es a0 k0 (l ++ m) (a ++ b)
  | [],m,[],b,_,_,h=>h
  | o::l,m,x::a,b,hl,h,h'=>⟨h.1,steps_app (by simpa using hl) h.2 h'⟩
  | [],_,_::_,_,h,_,_=>by simp at h
  | _::_,_,[],_,h,_,_=>by simp at h
theorem needs_app : ∀ {l m pre:List Oper},needs pre (l ++ m) = needs pre l ++ needs (pre ++ l) m
  | [],m,pre=>by simp [needs]
  | x::l,m,pre=>by simp only [List.cons_append,needs,needs_app,List.append_assoc,List.singleton_append,List.nil_append]

theorem pickC_ok {tot w m:Bool} {run oth:Option Bool} {K:Bool → Option R} {r:R} (h:pickC tot w m run oth K = some r) : ∃ b,K b = some r∧(m = w → run = some b)∧(m ≠ w → oth = some b):=by
  unfold pickC at h
  cases tot with
  | true =>
    cases run with
    | none=>simp at h
    | some b =>
      cases oth with
      | none=>simp at h
      | some d =>
        cases d <;> cases w <;> simp at h <;> (refine ⟨_,h,?_,?_⟩ <;> cases m <;> simp)
  | false =>
    simp only [cond_false] at h
    split at h <;> (obtain ⟨b,hb,h⟩:=bind_some h; refine ⟨b,h,?_,?_⟩ <;> cases m <;> simp at hb ⊢ <;> exact hb)
end
end Go.Gb

/- General part of the proofs: the operations of a region that may run in any order, continued. -/
namespace Go.Gb
variable {T:Tb} {R:Type}
section
variable {C:Cx T} {n:Nat} {F:FP} {kk:K} {W:List Nat} {aa:Act} {e0:Env T} {a0:Act} {k0:K}

theorem grp_none {P:Program} {es es' : List Ent} : ∀ {l:List Oper} {nds:List (List (Nat × Option Nat))},nds.length = l.length → (∀ o ∈ l,GuardIs (es ++ es') o false) →
    Steps P (es ++ es') a0 k0 l (nds.map fun nd=>⟨none,nd⟩)
  | [],[],_,_=>trivial
  | o::l,nd::nds,hl,h=>⟨h o (by simp),grp_none (by simpa using hl) fun o' ho'=>h o' (by simp [ho'])⟩
  | [],_::_,h,_=>by simp at h
  | _::_,[],h,_=>by simp at h
theorem needs_len : ∀ {l pre:List Oper},(needs pre l).length = l.length
  | [],_=>rfl
  | _::l,pre=>by simp [needs,needs_len (l:=l)]
theorem nth_mid {α:Type} : ∀ {l m r:List α} {i:Nat},l.length ≤ i → i < l.length + m.length → nth (l ++ (m ++ r)) i = nth m (i - l.length)
  | [], m, r, i, _, h => by
    simp only [List.nil_append,List.length_nil,Nat.sub_zero]
    rw [nth_eq,nth_eq,List.getElem?_append_left (by simpa using h)]
  | x::l,m,r,0,h,_=>by simp at h
  | x :: l, m, r, i + 1, h, h' => by
    simp only [List.cons_append,nth,List.length_cons]
    rw [nth_mid (by simpa using h) (by simp at h'; omega)]
    congr 1
    omega

theorem notDst_spec {s:Nat} {ops:List Oper} (h:notDst s ops = true) : ∀ i o,nth ops i = some o → o.dst ≠ some s:=by
  intro i o ho hd
  rw [nth_eq] at ho
  have:=List.all_eq_true.1 h o (List.mem_of_getElem? ho)
  rw [hd] at this
  simp [Nat.beq_refl] at this
theorem notDst_last {s:Nat} {cs rest:List Oper} (h:notDst s (cs ++ rest) = true):lastIdx s cs 0 none = none:=by
  cases hl:lastIdx s cs 0 none with
  | none=>rfl
  | some j =>
    rcases lastIdx_spec hl with h1 | ⟨o,_,h1,h2⟩
    · simp at h1
    · exact absurd h2 (notDst_spec h _ o (nth_app h1))
def hidP (T:Tb) (bH B:Nat):Hv → Pred
  | .adr off=>IsAdr bH off
  | .box t=>IsBoxS (T.D t) B
instance {bH B:Nat} : ∀ y:Hv,Mono (hidP T bH B y)
  | .adr off=>inferInstanceAs (Mono (IsAdr bH off))
  | .box t=>inferInstanceAs (Mono (IsBoxS (T.D t) B))
theorem hidO_adr {hid:Hd} {o:Oper} {off:Nat} (h:hidO C hid o = some (.adr off)) : ∃ s st f,hid = .old s∧o.op = .fieldAddr st (.tmp s) f∧fldOff C.P st f = some off:=by
  unfold hidO at h
  split at h
  · rename_i s st s' f hop
    cases hb:Nat.beq s s' with
    | false=>rw [hb] at h; simp at h
    | true =>
      rw [hb] at h
      obtain rfl:=Nat.eq_of_beq_eq_true hb
      simp only [cond_true] at h
      split at h
      · rename_i off' ho
        injection h with h; injection h with h
        subst h
        exact ⟨s,st,f,rfl,hop,ho⟩
      · simp at h
  · split at h
    · rename_i s t ty hopx _ d hdx
      cases hb:(Nat.beq s d && zeroB C.P T ty t) with
      | false=>rw [hb] at h; simp at h
      | true=>rw [hb] at h; simp at h
    · simp at h
  · simp at h
theorem hidO_box {hid:Hd} {o:Oper} {t:Tp} (h:hidO C hid o = some (.box t)) : ∃ s ty,hid = .new s t∧o.op = .alloc ty∧o.dst = some s∧zeroB C.P T ty t = true:=by
  unfold hidO at h
  split at h
  · rename_i s st s' f hop
    cases hb:Nat.beq s s' with
    | false=>rw [hb] at h; simp at h
    | true =>
      rw [hb] at h
      simp only [cond_true] at h
      split at h <;> simp at h
  · rename_i s t' ty hop
    split at h
    · rename_i d hd
      cases hb:(Nat.beq s d && zeroB C.P T ty t') with
      | false=>rw [hb] at h; simp at h
      | true =>
        rw [hb] at h
        rw [Bool.and_eq_true] at hb
        obtain rfl:=Nat.eq_of_beq_eq_true hb.1
        simp only [cond_true,Option.some.injEq,Hv.box.injEq] at h
        subst h
        exact ⟨s,ty,rfl,hop,hd,hb.2⟩
    · simp at h
  · simp at h
/-- All that is said of the operations is said by plain values. -/
def Plain (C:Cx T) (hid:Hd) (e0:Env T) (a0:Act) (bH B:Nat) (es:List Ent):Prop:=∀ x ∈ es,∀ R,x.R = some R → (∃ av:AV T,R = av.is a0∧isRes av = false∧∀ s,av.ment s = true → isRes (lk e0 s) = true) ∨ ∃ o y,hidO C hid o = some y∧R = hidP T bH B y
/-- What is known of the pointers into the box of which nothing else is told. -/
def Hidden (C:Cx T) (hid:Hd) (bH B:Nat) (g:Option (Nat × Bool)) (cs:List Oper) (es:List Ent):Prop:=
  g = none → ∀ j o y,nth cs j = some o → o.guard = none → hidO C hid o = some y → ∃ nd,nth es j = some ⟨some (hidP T bH B y),nd⟩
theorem Hidden.cons {hid:Hd} {bH B:Nat} {g:Option (Nat × Bool)} {cs:List Oper} {es:List Ent} {o:Oper} {x:Ent} (h:Hidden C hid bH B g cs es)
    (h0 : ∀ y,hidO C hid o = some y → o.guard = none → ∃ nd,x = ⟨some (hidP T bH B y),nd⟩):Hidden C hid bH B g (o::cs) (x::es):=by
  intro hg j o' y hj hgd ho
  cases j with
  | zero =>
    simp only [nth,Option.some.injEq] at hj
    subst hj
    obtain ⟨nd,h1⟩:=h0 y ho hgd
    exact ⟨nd,by simp [nth,h1]⟩
  | succ j=>exact h hg j o' y (by simpa [nth] using hj) hgd ho
theorem Hidden.skip {hid:Hd} {bH B:Nat} {g:Option (Nat × Bool)} : ∀ {gs cs:List Oper} {es1 es:List Ent},es1.length = gs.length → (∀ o ∈ gs,o.guard ≠ none) → Hidden C hid bH B g cs es → Hidden C hid bH B g (gs ++ cs) (es1 ++ es)
  | [],_,[],_,_,_,h=>h
  | o::gs,_,x::es1,_,hl,hn,h=>Hidden.cons (Hidden.skip (by simpa using hl) (fun o' ho'=>hn o' (by simp [ho'])) h) fun _ _ hg=>absurd hg (hn o (by simp))
  | [],_,_::_,_,hl,_,_=>by simp at hl
  | _::_,_,[],_,hl,_,_=>by simp at hl
theorem P1.res0 {pre:List Oper} {es:List Ent} {e:Env T} (p:P1 e0 a0 pre es e) {s:Nat} (h:isRes (lk e s) = true):isRes (lk e0 s) = true:=by
  have h1:=p.res s h
  have h2:=p.slot s
  rw [h1] at h2
  exact (show lk e s = lk e0 s from h2) ▸ h
theorem ev1_ok (hC:CxOk C) {hid:Hd} {bH B:Nat} (ops:List Oper) (hH : ∀ s,hid = .old s → a0.get s = .pointer (some ⟨bH,0,none⟩)∧notDst s ops = true) : ∀ (f:Nat) (R:Type) (g:Option (Nat × Bool)) (pre rest rr:List Oper) (e:Env T) (K:OpL → Env T → Option R) (r:R) (es:List Ent),
    ops = pre ++ (rest ++ rr) → P1 e0 a0 pre es e → (∀ es' o,o.guard = g → GuardIs (es ++ es') o true) → ev1 C hid ops f R g (ixs pre.length rest) e K = some r →
    ∃ (cs rest' : List Oper) (es1:List Ent) (e' : Env T),rest = cs ++ rest'∧es1.length = cs.length∧(g ≠ none → rest' = [])∧es1.map (·.need) = needs pre cs ∧
      K (ixs (pre ++ cs).length rest') e' = some r ∧ P1 e0 a0 (pre ++ cs) (es ++ es1) e' ∧ (∀ k0, Hl n F kk W aa e0 a0 k0 → B ≤ k0.w.heap.size → ∀ es', Steps C.P (es ++ (es1 ++ es')) a0 k0 cs es1) ∧ Plain C hid e0 a0 bH B es1 ∧ Hidden C hid bH B g cs es1
  | 0,_,_,_,_,_,_,_,_,_,_,_,_,h=>by simp [ev1] at h
  | f + 1, R, g, pre, [], rr, e, K, r, es, hops, p, hg, h => by
    simp only [ixs,ev1] at h
    exact ⟨[],[],[],e,rfl,rfl,fun _=>rfl,rfl,by simpa [ixs] using h,by simpa using p,fun _ _ _ _=>trivial,fun x hx=>by simp at hx,fun _ j o off hj=>by simp [nth] at hj⟩
  | f + 1, R, g, pre, o :: rest, rr, e, K, r, es, hops, p, hg, h => by
    simp only [ixs,ev1] at h
    split at h
    · rename_i hgo
      split at h
      · rename_i y d hho hd
        cases hrd:isRes (lk e d) with
        | true=>rw [hrd] at h; simp at h
        | false=>
        rw [hrd] at h
        simp only [cond_false] at h
        have p':=p.push (R':=hidP T bH B y) (nd:=needOf pre o) (av:=.top) hd hrd (fun s hs=>by simp [AV.ment] at hs) rfl (fun _ _ _=>trivial)
        have hops' : ops = (pre ++ [o]) ++ (rest ++ rr):=by rw [hops]; simp
        obtain ⟨cs, rest', es1, e', h1, h2, h3, h4, h5, h6, h7, h8, h9⟩ := ev1_ok hC ops hH f R g (pre ++ [o]) rest rr _ K r _ hops' p' (fun es' o' ho' => by
          have:=hg ([⟨some (hidP T bH B y),needOf pre o⟩] ++ es') o' ho'
          rwa [← List.append_assoc] at this) (by simpa using h)
        refine ⟨o :: cs, rest', ⟨some (hidP T bH B y), needOf pre o⟩ :: es1, e', by rw [h1]; rfl, by simp [h2], h3, by simp [needs, h4], by simpa using h5, by simpa using h6, fun k0 h0 hB es' => ⟨?_, ?_⟩, fun x hx R hR => ?_, h9.cons fun y' ho _ => (by rw [hho] at ho; exact ⟨_, by rw [Option.some.inj ho]⟩)⟩
        · refine ⟨inferInstance, .inl ⟨fun a k hk' hn' => ?_, hg _ o hgo⟩⟩
          cases y with
          | adr off =>
            obtain ⟨s, st, f', hs1, hop, hfo⟩ := hidO_adr hho
            obtain ⟨hbs,hnd⟩:=hH s hs1
            have hls:lastIdx s pre 0 none = none:=notDst_last (rest:=o::rest ++ rr) (by rw [hops] at hnd; simpa using hnd)
            refine ok_fieldAdr hop (fldOff_ok hfo) ?_
            have:=known_mem hn' s none (List.mem_map.2 ⟨s,mem_tmps (by rw [hop]; simp [Op.operands]),by rw [hls]⟩)
            exact (show a.get s = a0.get s from this).trans hbs
          | box t =>
            obtain ⟨s, ty, hs1, hop, hd', hz⟩ := hidO_box hho
            obtain ⟨_,zv,_,_,_,_,hrun,_,hv⟩:=zeroB_ok hz
            exact does_imp (ok_alloc B (Nat.le_trans hB hk'.size) hop ⟨zv,hrun,hv⟩) fun v k' _ hb=>⟨_,hb⟩
        · have := h7 k0 h0 hB es'
          simpa using this
        · rcases List.mem_cons.1 hx with rfl | hx
          · obtain rfl := Option.some.inj hR
            exact .inr ⟨o,y,hho,rfl⟩
          · exact h8 x hx R hR
      · rename_i hno
        cases hm:isMut C e o with
        | true =>
          rw [hm] at h
          simp only [cond_true] at h
          split at h
          · exact ⟨[],o::rest,[],e,rfl,rfl,fun hn=>absurd rfl hn,rfl,by simpa [ixs] using h,by simpa using p,fun _ _ _ _=>trivial,fun x hx=>by simp at hx,fun _ j o off hj=>by simp [nth] at hj⟩
          · simp at h
        | false =>
          rw [hm] at h
          simp only [cond_false] at h
          split at h
          · rename_i d hd
            have hho:hidO C hid o = none:=by
              cases hh:hidO C hid o with
              | none=>rfl
              | some y=>exact (hno y d hh hd).elim
            obtain ⟨av,hk,hgv⟩:=step1_ok hC p.inv h
            have hrd:isRes (lk e d) = false:=by
              unfold isMut at hm
              rw [hd] at hm
              simp only [Bool.or_eq_false_iff] at hm
              exact hm.1
            have p':=p.push (R':=av.is a0) (nd:=needOf pre o) hd hrd hgv.1 hgv.2.1 (fun _ _ h=>h)
            have hops' : ops = (pre ++ [o]) ++ (rest ++ rr):=by rw [hops]; simp
            obtain ⟨cs, rest', es1, e', h1, h2, h3, h4, h5, h6, h7, h8, h9⟩ := ev1_ok hC ops hH f R g (pre ++ [o]) rest rr _ K r _ hops' p' (fun es' o' ho' => by
              have:=hg ([⟨some (av.is a0),needOf pre o⟩] ++ es') o' ho'
              rwa [← List.append_assoc] at this) (by simpa using hk)
            refine ⟨o :: cs, rest', ⟨some (av.is a0), needOf pre o⟩ :: es1, e', by rw [h1]; rfl, by simp [h2], h3, by simp [needs, h4], by simpa using h5, by simpa using h6, fun k0 h0 hB es' => ⟨?_, ?_⟩, fun x hx R hR => ?_, h9.cons fun off ho _ => (by rw [hho] at ho; simp at ho)⟩
            · refine ⟨inferInstance,.inl ⟨fun a k hk' hn'=>hgv.2.2 a0 a k (p.rd1 h0 hk' hn'),hg _ o hgo⟩⟩
            · have := h7 k0 h0 hB es'
              simpa using this
            · rcases List.mem_cons.1 hx with rfl | hx
              · obtain rfl := Option.some.inj hR
                exact .inl ⟨av,rfl,hgv.2.1,fun s hs=>p.res0 (hgv.1 s hs)⟩
              · exact h8 x hx R hR
          · simp at h
    · rename_i hgo
      split at h
      · simp at h
      · rename_i j w hjw
        cases hst:(g.isNone && (spanG g ((pre.length,o)::ixs (pre.length + 1) rest)).1.any (fun x=>isMut C e x.2)) with
        | true =>
          rw [hst] at h
          simp only [cond_true] at h
          rw [Bool.and_eq_true] at hst
          obtain rfl:g = none:=by simpa using hst.1
          exact ⟨[],o::rest,[],e,rfl,rfl,fun hn=>absurd rfl hn,rfl,by simpa [ixs] using h,by simpa using p,fun _ _ _ _=>trivial,fun x hx=>by simp at hx,fun _ j o off hj=>by simp [nth] at hj⟩
        | false=>
        rw [hst] at h
        simp only [cond_false] at h
        clear hst
        split at h
        · rename_i gr ip p' l' hsp
          split at h
          · rename_i c x y d tj hpo hpd hdj
            split at h
            · rename_i m hmm
              cases hchk:(Nat.beq tj c && lastIs c (ops.take pre.length) j && grpOk e c j w gr && !(isRes (lk e d))) with
              | false=>rw [hchk] at h; simp at h
              | true =>
                rw [hchk] at h
                simp only [cond_true] at h
                simp only [Bool.and_eq_true,Bool.not_eq_true'] at hchk
                obtain ⟨⟨⟨hc1,hc2⟩,hc3⟩,hc4⟩:=hchk
                obtain ⟨b,hk,hrun,hoth⟩:=pickC_ok h
                -- the group
                have hl:=spanG_eq hsp
                have hl:ixs pre.length (o::rest) = gr ++ (ip,p')::l':=hl
                obtain ⟨g1,g2,he1,he2,he3⟩:=ixs_split hl
                obtain ⟨q,rest2,rfl,rfl,rfl⟩ : ∃ q rest2,g2 = q::rest2∧p' = q∧l' = ixs (pre.length + g1.length + 1) rest2:=by
                  cases g2 with
                  | nil=>simp [ixs] at he3
                  | cons q rest2=>simp only [ixs,List.cons.injEq,Prod.mk.injEq] at he3; exact ⟨q,rest2,rfl,he3.1.2,he3.2⟩
                have htake:ops.take pre.length = pre:=by rw [hops,List.take_left']; rfl
                rw [htake] at hc2
                unfold lastIs at hc2
                -- the condition's entry
                have hslot:=p.slot c
                obtain ⟨Rj,ndj,hej,hRj⟩ : ∃ Rj nd,nth es j = some ⟨some Rj,nd⟩∧∀ v k,Rj v k → v = .bool m:=by
                  cases hli:lastIdx c pre 0 none with
                  | none=>rw [hli] at hc2; simp at hc2
                  | some j' =>
                    rw [hli] at hc2 hslot
                    obtain rfl:=Nat.eq_of_beq_eq_true hc2
                    obtain ⟨R1,nd,h1,h2⟩:=hslot
                    rcases h2 with h2 | ⟨R', rfl, h2⟩
                    · rw [h2] at hmm; simp [asB] at hmm
                    · exact ⟨R', nd, h1, fun v k hv => isV_bool.1 (asB_is hmm (h2 v k hv))⟩
                have hjl:j < es.length:=by have:=nth_lt hej; simpa using this
                have hgr : ∀ x ∈ gr, (∃ d, x.2.dst = some d ∧ isRes (lk e d) = false ∧ d ≠ c) ∧ ∃ j' w', x.2.guard = some (j', w') ∧ ((j' = j ∧ w' = w) ∨ ∃ y ∈ gr, y.1 = j') := by
                  intro x hx
                  have:=List.all_eq_true.1 hc3 x hx
                  rw [Bool.and_eq_true] at this
                  obtain ⟨h1,h2⟩:=this
                  constructor
                  · cases hxd : x.2.dst with
                    | none=>rw [hxd] at h2; simp at h2
                    | some dx =>
                      rw [hxd] at h2
                      simp only [Bool.and_eq_true,Bool.not_eq_true'] at h2
                      exact ⟨dx,rfl,h2.1,fun e=>by rw [e,Nat.beq_refl] at h2; simp at h2⟩
                  · cases hxg : x.2.guard with
                    | none=>rw [hxg] at h1; simp at h1
                    | some jw =>
                      obtain ⟨j', w'⟩ := jw
                      rw [hxg] at h1
                      simp only [Bool.or_eq_true,Bool.and_eq_true,beq_iff_eq,List.any_eq_true] at h1
                      refine ⟨j', w', rfl, ?_⟩
                      rcases h1 with h1 | ⟨y,hy,h1⟩
                      · exact .inl ⟨Nat.eq_of_beq_eq_true h1.1,h1.2⟩
                      · exact .inr ⟨y,hy,Nat.eq_of_beq_eq_true h1⟩
                have hcs:gr.map (·.2) = g1:=by rw [he2,ixs_map]
                have hnr : ∀ x ∈ gr,∀ d,x.2.dst = some d → isRes (lk e d) = false:=fun x hx d hd=>by
                  obtain ⟨⟨d', h1, h2, _⟩, _⟩ := hgr x hx
                  rw [hd] at h1; obtain rfl:=Option.some.inj h1; exact h2
                have hg1:ops = pre ++ (g1 ++ (p'::rest2 ++ rr)):=by rw [hops,he1]; simp
                -- the entries of the group, and what is picked
                obtain ⟨es1, q1, q2, q3, q4, q6, q5⟩ : ∃ es1 : List Ent, es1.length = g1.length ∧ es1.map (·.need) = needs pre g1 ∧ (∀ k0, Hl n F kk W aa e0 a0 k0 → B ≤ k0.w.heap.size → ∀ es', Steps C.P (es ++ (es1 ++ es')) a0 k0 g1 es1) ∧
                    P1 e0 a0 (pre ++ g1) (es ++ es1) (tops gr e)∧Plain C hid e0 a0 bH B es1 ∧
                    (m = w → ∃ e', P1 e0 a0 (pre ++ g1) (es ++ es1) e' ∧ asB (opv e' (if w then x else y)) = some b) := by
                  by_cases hmw:m = w
                  · have hr := hrun hmw
                    rw [he2] at hr
                    obtain ⟨cs, rest', es1, e', h1, h2, h3, h4, h5, h6, h7, h8, _⟩ := ev1_ok hC ops hH f Bool (some (j, w)) pre g1 (p' :: rest2 ++ rr) e _ b es hg1 p (fun es' o' ho' => by
                      unfold GuardIs
                      rw [ho']
                      dsimp only
                      rw [nth_app hej]
                      intro v k hv
                      rw [hRj v k hv,hmw]; rfl) hr
                    obtain rfl:=h3 (by simp)
                    rw [List.append_nil] at h1
                    subst h1
                    exact ⟨es1, h2, h4, h7, p.tops hcs (.inl h6) hnr, h8, fun _ => ⟨e', h6, h5⟩⟩
                  · refine ⟨(needs pre g1).map fun nd => ⟨none, nd⟩, by simp [needs_len], by simp [List.map_map, Function.comp_def], fun k0 h0 hB es' => ?_, p.tops (e' := e) hcs (.inr (by simp [needs_len])) hnr, fun x hx R hR => (by obtain ⟨nd, _, rfl⟩ := List.mem_map.1 hx; simp at hR), fun h => absurd h hmw⟩
                    refine grp_none (by simp [needs_len]) fun o' ho'=>?_
                    rw [← hcs] at ho'
                    obtain ⟨x', hx', rfl⟩ := List.mem_map.1 ho'
                    obtain ⟨_, j', w', hg', hor⟩ := hgr x' hx'
                    unfold GuardIs
                    rw [hg']
                    dsimp only
                    rcases hor with ⟨rfl, rfl⟩ | ⟨y', hy', rfl⟩
                    · rw [nth_app hej]
                      intro v k hv
                      rw [hRj v k hv]
                      cases m <;> cases w' <;> simp_all
                    · rw [he2] at hy'
                      obtain ⟨z1,z2⟩:=ixs_mem (i:=pre.length) (show (y'.1,y'.2) ∈ ixs pre.length g1 from hy')
                      have hlt:=nth_lt z2
                      rw [nth_mid (by rw [p.len]; exact z1) (by simp [needs_len,p.len]; omega),p.len,nth_eq,List.getElem?_map]
                      rw [List.getElem?_eq_getElem (by rw [needs_len]; exact hlt)]
                      rfl
                -- the pick itself
                have hlk:lk (tops gr e) c = lk e c:=by
                  rcases tops_lk (e := e) (gr := gr) (t := c) with ⟨_, x', hx', hd'⟩ | ⟨h1, _⟩
                  · obtain ⟨⟨d', h1, _, h2⟩, _⟩ := hgr x' hx'
                    rw [hd'] at h1; exact absurd (Option.some.inj h1).symm h2
                  · exact h1
                have hrd:isRes (lk (tops gr e) d) = false:=by
                  rcases tops_lk (e:=e) (gr:=gr) (t:=d) with ⟨h1,_⟩ | ⟨h1,_⟩
                  · rw [h1]; rfl
                  · rw [h1]; exact hc4
                have p2:=q4.push (o:=p') (R':=(AV.v (T:=T) .bool b).is a0) (nd:=needOf (pre ++ g1) p') hpd hrd (av:=.v .bool b) (fun s hs=>by simp [AV.ment] at hs) rfl (fun _ _ h=>h)
                have hgp:p'.guard = g:=by
                  have:=spanG_hd hsp
                  exact this
                have hops2:ops = ((pre ++ g1) ++ [p']) ++ (rest2 ++ rr):=by rw [hops,he1]; simp
                have hob : ∀ k0, Hl n F kk W aa e0 a0 k0 → ∀ es', Ob C.P (es ++ (es1 ++ es')) a0 k0 p' ⟨some ((AV.v (T := T) .bool b).is a0), needOf (pre ++ g1) p'⟩ := by
                  intro k0 h0 es'
                  refine ⟨inferInstance,.inl ⟨fun a k hk' hn'=>?_,hg _ p' hgp⟩⟩
                  rw [← List.append_assoc] at hn'
                  have rd:=q4.rd1 h0 hk' hn'
                  have hmc:c ∈ p'.op.operands.toList.filterMap (fun | .tmp t=>some t | _=>none):=by rw [hpo]; simp [Op.operands]
                  have hx1:x ∈ p'.op.operands.toList:=by rw [hpo]; simp [Op.operands]
                  have hy1:y ∈ p'.op.operands.toList:=by rw [hpo]; simp [Op.operands]
                  have hcv:IsV m (a.eval (.tmp c)) k:=by
                    have:=(rd.op (.tmp c) (by rw [hpo]; simp [Op.operands])).1
                    rw [hlk] at this
                    exact asB_is hmm this
                  refine ok_pickB (m:=m) (r:=b) hpo hcv (fun hm1=>?_) (fun hm1=>?_)
                  · cases w with
                    | true =>
                      obtain ⟨e', p', hb⟩ := q5 hm1
                      exact asB_is hb (opv_is ((p'.rd1 h0 hk' hn').op x hx1))
                    | false =>
                      have hb:=hoth (by rw [hm1]; simp)
                      exact asB_is hb (opv_is (rd.op x hx1))
                  · cases w with
                    | true =>
                      have hb:=hoth (by rw [hm1]; simp)
                      exact asB_is hb (opv_is (rd.op y hy1))
                    | false =>
                      obtain ⟨e', p', hb⟩ := q5 hm1
                      exact asB_is hb (opv_is ((p'.rd1 h0 hk' hn').op y hy1))
                obtain ⟨cs, rest', es2, e', h1, h2, h3, h4, h5, h6, h7, h8, h9⟩ := ev1_ok hC ops hH f R g ((pre ++ g1) ++ [p']) rest2 rr _ K r _ hops2 p2 (fun es' o' ho' => by
                  have:=hg (es1 ++ ([⟨some ((AV.v (T:=T) .bool b).is a0),needOf (pre ++ g1) p'⟩] ++ es')) o' ho'
                  simpa using this) (by simpa [Nat.add_assoc] using hk)
                refine ⟨g1 ++ p' :: cs, rest', es1 ++ ⟨some ((AV.v (T := T) .bool b).is a0), needOf (pre ++ g1) p'⟩ :: es2, e', by rw [he1, h1]; simp, by simp [q1, h2], h3, ?_, by simpa using h5, by simpa using h6, fun k0 h0 hB es' => ?_, fun x' hx R hR => ?_, Hidden.skip q1 (fun o' ho' => ?_) (h9.cons fun off ho _ => ?_)⟩
                · rw [needs_app]
                  simp [q2,needs,h4]
                · refine steps_app q1 ?_ ⟨?_, ?_⟩
                  · have := q3 k0 h0 hB (⟨some ((AV.v (T := T) .bool b).is a0), needOf (pre ++ g1) p'⟩ :: es2 ++ es')
                    simpa using this
                  · have := hob k0 h0 (⟨some ((AV.v (T := T) .bool b).is a0), needOf (pre ++ g1) p'⟩ :: es2 ++ es')
                    simpa using this
                  · have := h7 k0 h0 hB es'
                    simpa using this
                · rcases List.mem_append.1 hx with hx | hx
                  · exact q6 x' hx R hR
                  · rcases List.mem_cons.1 hx with rfl | hx
                    · obtain rfl := Option.some.inj hR
                      exact .inl ⟨.v .bool b,rfl,rfl,fun s hs=>by simp [AV.ment] at hs⟩
                    · exact h8 x' hx R hR
                · rw [← hcs] at ho'
                  obtain ⟨x', hx', rfl⟩ := List.mem_map.1 ho'
                  obtain ⟨_, j', w', hg', _⟩ := hgr x' hx'
                  rw [hg']; simp
                · cases off with
                  | adr off =>
                    obtain ⟨_, _, _, _, hop', _⟩ := hidO_adr ho
                    rw [hpo] at hop'; simp at hop'
                  | box t =>
                    obtain ⟨_, _, _, hop', _⟩ := hidO_box ho
                    rw [hpo] at hop'; simp at hop'
            · simp at h
          · simp at h
        · simp at h
end
end Go.Gb

/- General part of the proofs: operations one after the other. -/
namespace Go.Gb
variable {T:Tb} {R:Type}
section
variable {C:Cx T} {n:Nat} {F:FP} {k0:K} {W:List Nat} {a0:Act} {e:Env T} {a a' : Act} {k k' : K}

/-- As far as the operands go, all is known in an environment that holds. -/
theorem Hl.rd1 (h:Hl n F k0 W a0 e a k) (o:Oper):Rd1 e o a a k:=by
  refine ⟨fun x _=>?_,fun s _=>h.sl s,h.gl⟩
  cases x with
  | tmp t=>exact ⟨h.sl t,fun _=>rfl⟩
  | global _=>exact h.gl
  | _=>trivial

/-- A resource is changed in place. -/
theorem Hl.turn (h:Hl n F k0 W a0 e a k) {s:Nat} {av:AV T} {G:FP} (hs:unl (lk e s) = true) (c:Chg G k k') (hG : ∀ b,G b → (lk e s).fp (a.get s) k b) (hv:av.is a (a.get s) k') (hm : ∀ t,av.ment t = false)
    (hu:unl av = true) (hf : ∀ b,av.fp (a.get s) k' b → (lk e s).fp (a.get s) k b):Hl n F k0 W a0 ((s,av)::mapE (kl s) e) a k':=by
  have hn : ∀ b,G b → ¬ k.sh b:=fun b hb=>(h.lt s b (hG b hb)).2
  have hlt : ∀ b,G b → b < k.w.heap.size:=fun b hb=>(h.lt s b (hG b hb)).1
  have lks:lk ((s,av)::mapE (kl s) e) s = av:=by rw [lk_cons,if_pos rfl]
  have lkt : ∀ t,t ≠ s → lk ((s,av)::mapE (kl s) e) t = kl s (lk e t):=fun t ht=>by rw [lk_cons,if_neg (Ne.symm ht),lk_mapE rfl]
  have fpk : ∀ t,t ≠ s → (lk e t).fp (a.get t) k' = (lk e t).fp (a.get t) k:=fun t ht=>AV.fp_keep _ c hn (fun b hb hb'=>h.ap t s ht b hb (hG b hb')) (h.sl t)
  refine ⟨h.g.step c (fun b hb=>h.wr s hs b (hG b hb)),h.s,h.d,h.old,fun t=>?_,fun t u hu'=>?_,fun t ht=>?_,fun t t' hne=>?_,h.gl.le (c.le hn)⟩
  · by_cases ht : t = s
    · subst ht; rw [lks]; exact hv
    · rw [lkt t ht]
      have h1:(kl s (lk e t)).is a (a.get t) k:=by
        rcases kl_or s (lk e t) with e1 | e1
        · rw [e1]; exact h.sl t
        · rw [e1]; trivial
      refine (kl s (lk e t)).keep c hn (fun b hb hb'=>?_) (fun u hu1 u' hu2 hu3 b hb hb'=>?_) h1
      · rcases kl_or s (lk e t) with e1 | e1
        · rw [e1] at hb; exact h.ap t s ht b hb (hG b hb')
        · rw [e1] at hb; exact hb
      · obtain ⟨hu4, hu5⟩ := kl_ment2 hu1
        exact h.apm (h.inv t u (AV.ment2_ment hu4)) hu5 hu2 hu3 b hb (hG b hb')
  · have : isRes (lk e u) = true := by
      by_cases ht:t = s
      · subst ht; rw [lks,hm] at hu'; simp at hu'
      · rw [lkt t ht] at hu'
        exact h.inv t u (kl_ment hu')
    by_cases hus:u = s
    · subst hus; rw [lks]; exact unl_res hu
    · rw [lkt u hus,kl_res this]; exact this
  · by_cases ht' : t = s
    · subst ht'; rw [lks]
      exact fun b hb=>h.wr t hs b (hf b hb)
    · rw [lkt t ht'] at ht ⊢
      rcases kl_or s (lk e t) with e1 | e1
      · rw [e1] at ht ⊢; rw [fpk t ht']; exact h.wr t ht
      · rw [e1] at ht; simp [unl] at ht
  · have sub : ∀ t b, (lk ((s, av) :: mapE (kl s) e) t).fp (a.get t) k' b → (lk e t).fp (a.get t) k b := by
      intro t b hb
      by_cases ht:t = s
      · subst ht; rw [lks] at hb; exact hf b hb
      · rw [lkt t ht] at hb
        rcases kl_or s (lk e t) with e1 | e1
        · rw [e1,fpk t ht] at hb; exact hb
        · rw [e1] at hb; exact hb.elim
    exact fun b hb hb'=>h.ap t t' hne b (sub t b hb) (sub t' b hb')

/-- A resource is given up, or turned into something else. -/
theorem Hl.swap (h:Hl n F k0 W a0 e a k) {s:Nat} {av:AV T} {G:FP} (hg:Chg F k0 k')
    (hkeep : ∀ (x:AV T) (v:Value),Apart (x.fp v k) G → (∀ u,x.ment2 u = true → ∀ y:AV T,isOB y = true → y.is a (a.get u) k → Apart (y.fp (a.get u) k) G) → x.is a v k → x.is a v k')
    (hkf : ∀ (x:AV T) (v:Value),Apart (x.fp v k) G → x.is a v k → x.fp v k' = x.fp v k)
    (hG : ∀ b,G b → (lk e s).fp (a.get s) k b) (hv:av.is a (a.get s) k') (hm : ∀ t,av.ment t = false) (hw:unl av = true → Wr F k0 (av.fp (a.get s) k')) (hf : ∀ b,av.fp (a.get s) k' b → (lk e s).fp (a.get s) k b) :
    Hl n F k0 W a0 ((s,av)::mapE (klA s) e) a k':=by
  have lks:lk ((s,av)::mapE (klA s) e) s = av:=by rw [lk_cons,if_pos rfl]
  have lkt : ∀ t,t ≠ s → lk ((s,av)::mapE (klA s) e) t = klA s (lk e t):=fun t ht=>by rw [lk_cons,if_neg (Ne.symm ht),lk_mapE rfl]
  have fpk : ∀ t,t ≠ s → (lk e t).fp (a.get t) k' = (lk e t).fp (a.get t) k:=fun t ht=>hkf _ _ (fun b hb hb'=>h.ap t s ht b hb (hG b hb')) (h.sl t)
  refine ⟨hg,h.s,h.d,h.old,fun t=>?_,fun t u hu'=>?_,fun t ht=>?_,fun t t' hne=>?_,⟨fun g t x e1=>hkeep (.ref t x) _ (fun b hb _=>hb.elim) (fun u hu=>by simp [AV.ment2] at hu) (h.gl.1 g t x e1),
    fun g e1=>(h.gl.2 g e1).imp fun m r=>hkeep (.ref .int m) _ (fun b hb _=>hb.elim) (fun u hu=>by simp [AV.ment2] at hu) r⟩⟩
  · by_cases ht : t = s
    · subst ht; rw [lks]; exact hv
    · rw [lkt t ht]
      have h1:(klA s (lk e t)).is a (a.get t) k:=by
        rcases klA_or s (lk e t) with e1 | e1
        · rw [e1]; exact h.sl t
        · rw [e1]; trivial
      refine hkeep _ _ (fun b hb hb'=>?_) (fun u hu1 u' hu2 hu3 b hb hb'=>?_) h1
      · rcases klA_or s (lk e t) with e1 | e1
        · rw [e1] at hb; exact h.ap t s ht b hb (hG b hb')
        · rw [e1] at hb; exact hb
      · obtain ⟨hu4, hu5⟩ := klA_ment (AV.ment2_ment hu1)
        exact h.apm (h.inv t u hu4) hu5 hu2 hu3 b hb (hG b hb')
  · by_cases ht : t = s
    · subst ht; rw [lks,hm] at hu'; simp at hu'
    · rw [lkt t ht] at hu'
      obtain ⟨h1,h2⟩:=klA_ment hu'
      have:=h.inv t u h1
      rw [lkt u h2,klA_res this]; exact this
  · by_cases ht' : t = s
    · subst ht'; rw [lks] at ht ⊢; exact hw ht
    · rw [lkt t ht'] at ht ⊢
      rcases klA_or s (lk e t) with e1 | e1
      · rw [e1] at ht ⊢; rw [fpk t ht']; exact h.wr t ht
      · rw [e1] at ht; simp [unl] at ht
  · have sub : ∀ t b, (lk ((s, av) :: mapE (klA s) e) t).fp (a.get t) k' b → (lk e t).fp (a.get t) k b := by
      intro t b hb
      by_cases ht:t = s
      · subst ht; rw [lks] at hb; exact hf b hb
      · rw [lkt t ht] at hb
        rcases klA_or s (lk e t) with e1 | e1
        · rw [e1,fpk t ht] at hb; exact hb
        · rw [e1] at hb; exact hb.elim
    exact fun b hb hb'=>h.ap t t' hne b (sub t b hb) (sub t' b hb')
theorem Hl.lose (h:Hl n F k0 W a0 e a k) {s:Nat} {G:FP} (hs:unl (lk e s) = true) (c:Chg G k k') (hG : ∀ b,G b → (lk e s).fp (a.get s) k b):Hl n F k0 W a0 ((s,.top)::mapE (klA s) e) a k':=
  h.swap (h.g.step c fun b hb=>h.wr s hs b (hG b hb)) (fun x v h1 h2 h3=>x.keep c (fun b hb=>(h.lt s b (hG b hb)).2) h1 h2 h3) (fun x v h1 h3=>x.fp_keep c (fun b hb=>(h.lt s b (hG b hb)).2) h1 h3) hG trivial (fun _=>rfl) (fun hu=>by simp [unl] at hu) (fun b hb=>hb.elim)
theorem Hl.hand (h:Hl n F k0 W a0 e a k) {s:Nat} {G:FP} {av:AV T} (hs:unl (lk e s) = true) (c:Handed k k' G) (hG : ∀ b,G b → (lk e s).fp (a.get s) k b) (hv:av.is a (a.get s) k') (hm : ∀ t,av.ment t = false) (hr:isRes av = false) :
    Hl n F k0 W a0 ((s,av)::mapE (klA s) e) a k':=
  h.swap (h.g.hand c fun b hb=>h.wr s hs b (hG b hb)) (fun x v h1 h2 h3=>x.handed c h1 h2 h3) (fun x v h1 h3=>x.fp_handed c h1 h3) hG hv hm (fun hu=>by rw [unl_res hu] at hr; simp at hr) (fun b hb=>absurd hb (fp_nonres hr _ _ b))
/-- More is told of a slot. -/
theorem Hl.set (h:Hl n F k0 W a0 e a k) {s:Nat} {av:AV T} (hs:isRes (lk e s) = false) (hv:av.is a (a.get s) k) (hm : ∀ t,av.ment t = true → isRes (lk e t) = true) (hr:isRes av = false):Hl n F k0 W a0 ((s,av)::e) a k:=by
  have lks:lk ((s,av)::e) s = av:=by rw [lk_cons,if_pos rfl]
  have lkt : ∀ t,t ≠ s → lk ((s,av)::e) t = lk e t:=fun t ht=>by rw [lk_cons,if_neg (Ne.symm ht)]
  have ne : ∀ t,isRes (lk e t) = true → t ≠ s:=fun t ht e=>by rw [e,hs] at ht; simp at ht
  have fps : ∀ t b,(lk ((s,av)::e) t).fp (a.get t) k b → (lk e t).fp (a.get t) k b:=by
    intro t b hb
    by_cases ht:t = s
    · subst ht; rw [lks] at hb; exact absurd hb (fp_nonres hr _ _ b)
    · rw [lkt t ht] at hb; exact hb
  refine ⟨h.g,h.s,h.d,h.old,fun t=>?_,fun t u hu=>?_,fun t ht=>?_,fun t t' hne b hb hb'=>h.ap t t' hne b (fps t b hb) (fps t' b hb'),h.gl⟩
  · by_cases ht : t = s
    · subst ht; rw [lks]; exact hv
    · rw [lkt t ht]; exact h.sl t
  · have : isRes (lk e u) = true := by
      by_cases ht:t = s
      · subst ht; rw [lks] at hu; exact hm u hu
      · rw [lkt t ht] at hu; exact h.inv t u hu
    rw [lkt u (ne u this)]; exact this
  · by_cases ht' : t = s
    · subst ht'; rw [lks] at ht; rw [unl_res ht] at hr; simp at hr
    · rw [lkt t ht'] at ht ⊢; exact h.wr t ht
/-- A new resource in a slot. -/
theorem Hl.putFresh (h:Hl n F k0 W a0 e a k) {d:Nat} {av:AV T} (hd:d ∈ W) (hg:Grow k k') (hs:a'.tmps.size = a.tmps.size) (hdf:a'.defers = a.defers)
    (ho : ∀ t,t ≠ d → a'.get t = a.get t) (hv:av.is a' (a'.get d) k') (hm : ∀ s,av.ment s = true → isRes (lk e s) = true)
    (hf : ∀ b, av.fp (a'.get d) k' b → k.w.heap.size ≤ b) {r : R} {K : Env T → Option R} (hk : Gb.put e d av K = some r) : ∃ e', K e' = some r ∧ Hl n F k0 W a0 e' a' k' := by
  obtain ⟨e', h1, h2, _⟩ := h.put hd hg hs hdf ho hv hm (fun _ b hb => .inr (Nat.le_trans h.g.size (hf b hb))) (fun t _ b hb hb' => by
    have:=(h.lt t b hb').1; have:=hf b hb; omega) hk
  exact ⟨e', h1, h2⟩

/-- Some slots are filled anew. -/
theorem Hl.multi (h:Hl n F k0 W a0 e a k) {e' : Env T} {G:FP} (S:Nat → Prop) (c:Chg G k k') (hG : ∀ b,G b → ∃ s,S s∧unl (lk e s) = true∧(lk e s).fp (a.get s) k b)
    (hs:a'.tmps.size = a.tmps.size) (hd:a'.defers = a.defers) (ho : ∀ t,t ∉ W → a'.get t = a.get t) (ho' : ∀ t,¬ S t → a'.get t = a.get t)
    (h1 : ∀ s,S s → (lk e' s).is a' (a'.get s) k') (h2 : ∀ s,S s → ∀ t,(lk e' s).ment t = false) (h3 : ∀ s,S s → unl (lk e' s) = true → ∀ b,(lk e' s).fp (a'.get s) k' b → G b ∨ (∃ u,S u∧unl (lk e u) = true∧(lk e u).fp (a.get u) k b) ∨ k.w.heap.size ≤ b)
    (h3' : ∀ s,S s → ∀ b,(lk e' s).fp (a'.get s) k' b → (∃ u,S u∧(lk e u).fp (a.get u) k b) ∨ k.w.heap.size ≤ b)
    (h4 : ∀ s u,S s → S u → s ≠ u → Apart ((lk e' s).fp (a'.get s) k') ((lk e' u).fp (a'.get u) k'))
    (h5 : ∀ t,¬ S t → lk e' t = .top ∨ (lk e' t = lk e t∧∀ s,(lk e t).ment s = true → S s → a'.get s = a.get s∧isRes (lk e' s) = true∧(lk e t).ment2 s = false))
    (h6 : ∀ t,¬ S t → isRes (lk e t) = true → lk e' t = lk e t):Hl n F k0 W a0 e' a' k':=by
  have hn : ∀ b,G b → ¬ k.sh b:=fun b hb=>let ⟨s,_,_,h7⟩:=hG b hb; (h.lt s b h7).2
  have apG : ∀ t,¬ S t → Apart ((lk e t).fp (a.get t) k) G:=fun t ht b hb hb'=>by
    obtain ⟨s,h7,_,h8⟩:=hG b hb'
    exact h.ap t s (fun e1=>ht (e1 ▸ h7)) b hb h8
  have wrG:Wr F k0 G:=fun b hb=>let ⟨s,_,h7,h8⟩:=hG b hb; h.wr s h7 b h8
  have fpk : ∀ t,¬ S t → (lk e t).fp (a.get t) k' = (lk e t).fp (a.get t) k:=fun t ht=>AV.fp_keep _ c hn (apG t ht) (h.sl t)
  have sub : ∀ t,¬ S t → ∀ b,(lk e' t).fp (a'.get t) k' b → (lk e t).fp (a.get t) k b:=fun t ht b hb=>by
    rcases h5 t ht with e1 | ⟨e1,_⟩
    · rw [e1] at hb; exact hb.elim
    · rw [e1,ho' t ht,fpk t ht] at hb; exact hb
  refine ⟨h.g.step c wrG,hs.trans h.s,hd.trans h.d,fun t ht=>(ho t ht).trans (h.old t ht),fun t=>?_,fun t s hms=>?_,fun t ht b hb=>?_,fun t t' hne b hb hb'=>?_,h.gl.le (c.le hn)⟩
  · by_cases ht : S t
    · exact h1 t ht
    · rcases h5 t ht with e1 | ⟨e1, h7⟩
      · rw [e1]; trivial
      · rw [e1, ho' t ht]
        have hk:(lk e t).is a (a.get t) k':=AV.keep _ c hn (apG t ht) (fun u hu y hy hyi b hb hb'=>by
          have hus : ¬ S u:=fun hS=>by have:=(h7 u (AV.ment2_ment hu) hS).2.2; rw [hu] at this; simp at this
          obtain ⟨s,h8,_,h9⟩:=hG b hb'
          exact h.apm (h.inv t u (AV.ment2_ment hu)) (fun e2=>hus (e2 ▸ h8)) hy hyi b hb h9) (h.sl t)
        exact AV.congr _ (fun s hs'=>by
          by_cases hS:S s
          · exact (h7 s hs' hS).1
          · exact ho' s hS) hk
  · by_cases ht : S t
    · rw [h2 t ht] at hms; simp at hms
    · rcases h5 t ht with e1 | ⟨e1, h7⟩
      · rw [e1] at hms; simp [AV.ment] at hms
      · rw [e1] at hms
        by_cases hS:S s
        · exact (h7 s hms hS).2.1
        · rw [h6 s hS (h.inv t s hms)]; exact h.inv t s hms
  · by_cases hS : S t
    · rcases h3 t hS ht b hb with h7 | ⟨u, _, h8, h9⟩ | h7
      · exact wrG b h7
      · exact h.wr u h8 b h9
      · exact .inr (Nat.le_trans h.g.size h7)
    · have h7 := sub t hS b hb
      rcases h5 t hS with e1 | ⟨e1,_⟩
      · rw [e1] at ht; simp [unl] at ht
      · rw [e1] at ht; exact h.wr t ht b h7
  · by_cases hS : S t
    · by_cases hS' : S t'
      · exact h4 t t' hS hS' hne b hb hb'
      · have h7 := sub t' hS' b hb'
        rcases h3' t hS b hb with ⟨u,h8,h9⟩ | h8
        · exact h.ap u t' (fun e1=>hS' (e1 ▸ h8)) b h9 h7
        · have:=(h.lt t' b h7).1; omega
    · have h7 := sub t hS b hb
      by_cases hS' : S t'
      · rcases h3' t' hS' b hb' with ⟨u, h8, h9⟩ | h8
        · exact h.ap u t (fun e1=>hS (e1 ▸ h8)) b h9 h7
        · have:=(h.lt t b h7).1; omega
      · exact h.ap t t' hne b h7 (sub t' hS' b hb')

theorem frz1_ok (h : Hl n F k0 W a0 e a k) {x : Operand} {K : Env T → Option R} {r : R} (hk : frz1 e x K = some r) : ∃ e' k', K e' = some r ∧ k'.w = k.w ∧ Hl n F k0 W a0 e' a k' := by
  have go : ∀ {s : Nat} {el : TypeId} {u : Tp} {xs : List (T.D u)}, lk e s = .own false el u xs → ∃ k', k'.w = k.w ∧ Hl n F k0 W a0 ((s, .v (.list u) xs) :: mapE (klA s) e) a k' ∧ IsV (α := List (T.D u)) xs (a.get s) k' := by
    intro s el u xs hl
    have hsl:=h.sl s
    rw [hl] at hsl
    obtain ⟨k', hh, hv⟩ := IsOwn.give (show IsOwn 0 el xs (a.get s) k from hsl)
    exact ⟨k', hh.w, h.hand (av := .v (.list u) xs) (by rw [hl]; rfl) hh (by rw [hl]; exact fun b hb => hb) hv (fun _ => rfl) rfl, hv⟩
  have goB : ∀ {s : Nat} {u : Tp} {x : T.D u}, lk e s = .box false u x → ∃ k', k'.w = k.w ∧ Hl n F k0 W a0 ((s, .ref u x) :: mapE (klA s) e) a k' ∧ IsRef x (a.get s) k' := by
    intro s u x hl
    have hsl:=h.sl s
    rw [hl] at hsl
    obtain ⟨b,hb,hbx⟩:=hsl
    obtain ⟨k', hh, hv⟩ := hbx.give
    exact ⟨k', hh.w, h.hand (av := .ref u x) (by rw [hl]; rfl) hh (by rw [hl]; intro b' hb'; rw [← hb']; exact hb) (by rw [hb]; exact hv) (fun _ => rfl) rfl, by rw [hb]; exact hv⟩
  unfold frz1 at hk
  split at hk
  · rename_i t
    split at hk
    · rename_i el u xs hl
      rw [mapK_eq] at hk
      obtain ⟨k', h1, h2, _⟩ := go hl
      exact ⟨_, k', hk, h1, h2⟩
    · rename_i u x hl
      rw [mapK_eq] at hk
      obtain ⟨k', h1, h2, _⟩ := goB hl
      exact ⟨_, k', hk, h1, h2⟩
    · rename_i s hl
      split at hk
      · rename_i el u xs hl'
        rw [mapK_eq] at hk
        obtain ⟨k', h1, h2, h3⟩ := go hl'
        cases hr:isRes (lk (mapE (klA s) e) t) with
        | true=>rw [hr] at hk; simp at hk
        | false =>
          rw [hr] at hk
          simp only [cond_false] at hk
          have hts:a.get t = a.get s:=by have:=h.sl t; rw [hl] at this; exact this
          have hne:t ≠ s:=fun e=>by rw [e,hl'] at hl; simp at hl
          refine ⟨_, k', hk, h1, h2.set (av := .v (.list u) xs) ?_ (by rw [hts]; exact h3) (fun _ hm => by simp [AV.ment] at hm) rfl⟩
          rw [lk_cons,if_neg (Ne.symm hne)]; exact hr
      · rename_i u x hl'
        rw [mapK_eq] at hk
        obtain ⟨k', h1, h2, h3⟩ := goB hl'
        cases hr:isRes (lk (mapE (klA s) e) t) with
        | true=>rw [hr] at hk; simp at hk
        | false =>
          rw [hr] at hk
          simp only [cond_false] at hk
          have hts:a.get t = a.get s:=by have:=h.sl t; rw [hl] at this; exact this
          have hne:t ≠ s:=fun e=>by rw [e,hl'] at hl; simp at hl
          refine ⟨_, k', hk, h1, h2.set (av := .ref u x) ?_ (by rw [hts]; exact h3) (fun _ hm => by simp [AV.ment] at hm) rfl⟩
          rw [lk_cons,if_neg (Ne.symm hne)]; exact hr
      · exact ⟨e,k,hk,rfl,h⟩
    · exact ⟨e,k,hk,rfl,h⟩
  · exact ⟨e,k,hk,rfl,h⟩
end
section
variable {C:Cx T} {n:Nat} {F:FP} {k0:K} {W:List Nat} {a0:Act} {a:Act}
theorem frz_ok : ∀ {l : List Operand} {e : Env T} {k : K} {K : Env T → Option R} {r : R}, Hl n F k0 W a0 e a k → frz e l K = some r → ∃ e' k', K e' = some r ∧ k'.w = k.w ∧ Hl n F k0 W a0 e' a k'
  | [],e,k,_,_,h,hk=>⟨e,k,hk,rfl,h⟩
  | x :: l, e, k, _, _, h, hk => by
    obtain ⟨e1,k1,h1,h2,h3⟩:=frz1_ok h (show frz1 e x _ = _ from hk)
    obtain ⟨e2,k2,h4,h5,h6⟩:=frz_ok h3 h1
    exact ⟨e2,k2,h4,h5.trans h2,h6⟩
theorem shareK_ok : ∀ {l : List Oper} {e : Env T} {k : K} {K : Env T → Option R} {r : R}, Hl n F k0 W a0 e a k → shareK C l e K = some r → ∃ e' k', K e' = some r ∧ k'.w = k.w ∧ Hl n F k0 W a0 e' a k'
  | [],e,k,_,_,h,hk=>⟨e,k,hk,rfl,h⟩
  | o :: l, e, k, K, r, h, hk => by
    simp only [shareK] at hk
    split at hk
    · rename_i d _ _
      cases hc:C.own.contains d with
      | true=>rw [hc] at hk; exact shareK_ok h hk
      | false =>
        rw [hc] at hk
        simp only [cond_false] at hk
        split at hk
        · rename_i t x hl
          rw [mapK_eq] at hk
          have hsl:=h.sl d
          rw [hl] at hsl
          obtain ⟨b,hb,hbx⟩:=hsl
          obtain ⟨k', hh, hv⟩ := hbx.give
          have h1:=h.hand (av:=.ref t x) (by rw [hl]; rfl) hh (by rw [hl]; intro b' hb'; rw [← hb']; exact hb) (by rw [hb]; exact hv) (fun _=>rfl) rfl
          obtain ⟨e2,k2,h4,h5,h6⟩:=shareK_ok h1 hk
          exact ⟨e2,k2,h4,h5.trans hh.w,h6⟩
        · exact shareK_ok h hk
    · exact shareK_ok h hk
end
end Go.Gb

/- General part of the proofs: operations one after the other, continued; regions. -/
namespace Go.Gb
variable {T:Tb} {R:Type}
section
variable {C:Cx T} {n:Nat} {F:FP} {k0:K} {W:List Nat} {a0:Act} {e:Env T} {a a' : Act} {k k' : K}

theorem resSlot_ok (h:Hl n F k0 W a0 e a k) {x:Operand} {s:Nat} (hs:resSlot e x = some s):a.eval x = a.get s:=by
  unfold resSlot at hs
  split at hs
  · rename_i t
    split at hs
    · rename_i s' hl
      obtain rfl:=Option.some.inj hs
      have:=h.sl t; rw [hl] at this; exact this
    · obtain rfl:=Option.some.inj hs; rfl
    · obtain rfl:=Option.some.inj hs; rfl
    · obtain rfl:=Option.some.inj hs; rfl
    · obtain rfl:=Option.some.inj hs; rfl
    · simp at hs
  · simp at hs

theorem Rk.av_is {κ:Rk} {w:κ.D T} {v:Value} (hn:isN κ = false):(κ.av w).is a v k ↔ κ.is w v k:=by
  cases κ <;> first | exact Iff.rfl | simp [isN] at hn
theorem Rk.av_fp {κ:Rk} {w:κ.D T} {v:Value} (hn:isN κ = false):(κ.av w).fp v k = κ.fp T v k:=by
  cases κ <;> first | rfl | simp [isN] at hn
theorem Rk.av_ment {κ:Rk} {w:κ.D T} {t:Nat}:(κ.av w).ment t = false:=by cases κ <;> rfl
theorem Rk.av_unl {κ:Rk} {w:κ.D T} (hn:isN κ = false):unl (κ.av w) = true:=by
  cases κ <;> first | rfl | simp [isN] at hn
theorem Rk.fpN {κ:Rk} {v:Value} (hn:isN κ = true) : ∀ b,¬ κ.fp T v k b:=by
  cases κ <;> first | exact fun _ f=>f | simp [isN] at hn
theorem resR_ment {ro:Rk} {cod:List Tp} {w:ro.D T} {r:HL T.S cod} {t:Nat}:(resR ro cod w r).ment t = false:=by
  unfold resR
  cases isN ro with
  | true=>exact resV_ment
  | false =>
    simp only [cond_false]
    split
    · exact Rk.av_ment
    · rfl
theorem takeR_is {κ:Rk} {av:AV T} {y:κ.D T} {v:Value} (h:takeR κ av = some y) (hv:av.is a v k) (hr:isRes av = true):κ.is y v k∧(isN κ = false → κ.fp T v k = av.fp v k∧unl av = true):=by
  cases κ with
  | n=>exact ⟨trivial,fun h=>by simp [isN] at h⟩
  | o e t =>
    cases av with
    | own l e' u xs =>
      cases l with
      | true=>simp [takeR] at h
      | false =>
        simp only [takeR] at h
        cases hb:Nat.beq e e' with
        | false=>rw [hb] at h; simp at h
        | true =>
          rw [hb] at h
          obtain rfl:=Nat.eq_of_beq_eq_true hb
          obtain ⟨he,hx⟩:=cast?_eq h
          injection he with he
          subst he
          obtain rfl:y = xs:=hx
          exact ⟨hv,fun _=>⟨rfl,rfl⟩⟩
    | e0=>simp [isRes] at hr
    | _=>simp [takeR] at h
  | b t =>
    cases av with
    | box l u x =>
      cases l with
      | true=>simp [takeR] at h
      | false =>
        simp only [takeR] at h
        obtain ⟨rfl,hx⟩:=cast?_eq h
        obtain rfl:y = x:=hx
        exact ⟨hv,fun _=>⟨rfl,rfl⟩⟩
    | _=>simp [takeR] at h
  | c m =>
    cases av with
    | rs l m' x =>
      cases l with
      | true=>simp [takeR] at h
      | false =>
        simp only [takeR] at h
        split at h
        · rename_i hm _
          obtain rfl:=hm.down
          obtain rfl:=Option.some.inj h
          exact ⟨hv,fun _=>⟨rfl,rfl⟩⟩
        · simp at h
    | _=>simp [takeR] at h
theorem bif_some {c:Bool} {x:Option R} {r:R} (h:(bif c then x else none) = some r):c = true∧x = some r:=by
  cases c
  · simp at h
  · exact ⟨rfl,h⟩
theorem locR_some {κ:Rk} (hN:isN κ = false) {x:Operand}:locR e κ (some x) = (match resSlot e x with
    | some s => (match takeR κ (lk e s) with
      | some y=>bif isRes (lk e s) then some (some s,y) else none
      | none=>none)
    | none=>none):=by
  cases κ <;> first | rfl | simp [isN] at hN
theorem locR_none {κ:Rk} (hN:isN κ = false) {r:Option Nat × κ.D T} (hl:locR e κ none = some r) : ∃ s z,takeR κ (lk e s) = some z∧isRes (lk e s) = true∧r = (some s,z):=by
  cases κ with
  | c m =>
    simp only [locR] at hl
    split at hl
    · rename_i s hs
      split at hl
      · rename_i z hz
        obtain ⟨h1,h2⟩:=bif_some hl
        exact ⟨s,z,hz,h1,(Option.some.inj h2).symm⟩
      · simp at hl
    · simp at hl
  | n=>simp [isN] at hN
  | o _ _=>simp [locR] at hl
  | b _=>simp [locR] at hl
theorem locR_spec (h:Hl n F k0 W a0 e a k) {κ:Rk} {ox:Option Operand} {s:Option Nat} {y:κ.D T} (hl:locR e κ ox = some (s,y)) :
    ∃ u,κ.is y u k∧(∀ x,ox = some x → a.eval x = u)∧((s = none∧isN κ = true∧ox = none) ∨ ∃ t,s = some t∧isN κ = false∧u = a.get t∧unl (lk e t) = true∧κ.fp T u k = (lk e t).fp (a.get t) k):=by
  cases hN:isN κ with
  | true =>
    cases κ with
    | n =>
      cases ox with
      | none =>
        have hl:some ((none:Option Nat),()) = some (s,y):=hl
        simp only [Option.some.injEq,Prod.mk.injEq] at hl
        exact ⟨undef,trivial,fun x hx=>by simp at hx,.inl ⟨hl.1.symm,rfl,rfl⟩⟩
      | some x=>exact nomatch (show (none:Option (Option Nat × Unit)) = some (s,y) from hl)
    | _=>simp [isN] at hN
  | false =>
    cases ox with
    | none =>
      obtain ⟨t,z,hz,hr,hq⟩:=locR_none hN hl
      simp only [Prod.mk.injEq] at hq
      obtain ⟨rfl,rfl⟩:=hq
      obtain ⟨h1,h2⟩:=takeR_is hz (h.sl t) hr
      obtain ⟨h3,h4⟩:=h2 hN
      exact ⟨a.get t, h1, fun x' hx' => by simp at hx', .inr ⟨t, rfl, rfl, rfl, h4, h3⟩⟩
    | some x =>
      rw [locR_some hN] at hl
      split at hl
      · rename_i t ht
        split at hl
        · rename_i z hz
          obtain ⟨hr,hl⟩:=bif_some hl
          simp only [Option.some.injEq,Prod.mk.injEq] at hl
          obtain ⟨rfl,rfl⟩:=hl
          obtain ⟨h1,h2⟩:=takeR_is hz (h.sl t) hr
          obtain ⟨h3,h4⟩:=h2 hN
          refine ⟨a.get t,h1,fun x' hx'=>?_,.inr ⟨t,rfl,rfl,rfl,h4,h3⟩⟩
          obtain rfl:=Option.some.inj hx'
          exact resSlot_ok h ht
        · simp at hl
      · simp at hl
theorem noP_arg {tk:Bool} : ∀ {l:List Pm} {xs:List Operand},noP tk l = true → resArg tk l xs = none
  | [],[],_=>rfl
  | [],_::_,_=>rfl
  | .v _::_,[],_=>rfl
  | .v _::l,_::xs,h=>noP_arg (l:=l) h
  | .tu::_,[],_=>rfl
  | .tu :: l, _ :: xs, h => by
    cases tk with
    | false=>simp [noP] at h
    | true=>exact noP_arg (l:=l) (by simpa [noP] using h)
  | .tk::_,[],_=>rfl
  | .tk :: l, _ :: xs, h => by
    cases tk with
    | true=>simp [noP] at h
    | false=>exact noP_arg (l:=l) (by simpa [noP] using h)
  | .fn _::_,[],_=>rfl
  | .fn _::l,_::xs,h=>noP_arg (l:=l) h
theorem hdH_cons {t:Tp} {l:List Tp} {x:T.D t} {y:HL T.S l}:hdH (S:=T.S) (consH x y) = x:=by cases l <;> rfl
theorem tlH_cons {t:Tp} {l:List Tp} {x:T.D t} {y:HL T.S l}:tlH (S:=T.S) (t:=t) (consH x y) = y:=by
  cases l with
  | nil=>cases y; rfl
  | cons _ _=>rfl
theorem argP_v {ov:Operand → AV T} {t:Tp} {x:Operand} {l:List Pm} {r:Option (HL T.S (valsP l))} {z:HL T.S (valsP (.v t::l))} (h:argP ov (.v t) x l r = some z) : ∃ y ys,asT t (ov x) = some y∧r = some ys∧z = consH y ys:=by
  have h:(match (generalizing:=false) asT t (ov x),r with | some y,some ys=>some (consH y ys) | _,_=>none:Option (HL T.S (t::valsP l))) = some z:=h
  cases hy:asT t (ov x) with
  | none=>rw [hy] at h; exact nomatch h
  | some y =>
    cases r with
    | none=>rw [hy] at h; exact nomatch h
    | some ys=>rw [hy] at h; exact ⟨y,ys,rfl,rfl,(Option.some.inj h).symm⟩
theorem argP_f {ov:Operand → AV T} {g:Nat} {x:Operand} {l:List Pm} {r:Option (HL T.S (valsP l))} {z:HL T.S (valsP (.fn g::l))} (h:argP ov (.fn g) x l r = some z):x = .func g∧r = some z:=by
  cases x with
  | func g' =>
    have h' : (bif Nat.beq g g' then r else none) = some z:=h
    cases hb:Nat.beq g g' with
    | false=>rw [hb] at h'; exact nomatch h'
    | true =>
      rw [hb] at h'
      exact ⟨by rw [Nat.eq_of_beq_eq_true hb],h'⟩
  | _=>exact nomatch (show (none:Option (HL T.S (valsP l))) = some z from h)
theorem argsP_is (ov:Operand → AV T) {u1 u2:Value} {b:Act} : ∀ (l:List Pm) (xs:List Operand) (x:HL T.S (valsP l)),argsP ov l xs = some x → uniqP l = true → (∀ y ∈ xs,(ov y).is b (a.eval y) k) →
    (∀ y,resArg false l xs = some y → a.eval y = u1) → (∀ y,resArg true l xs = some y → a.eval y = u2) → PIs l x u1 u2 (xs.map a.eval) k:=by
  intro l
  induction l with
  | nil =>
    intro xs x h _ _ _ _
    cases xs with
    | nil=>exact trivial
    | cons _ _=>exact nomatch (show (none:Option (HL T.S (valsP []))) = some x from h)
  | cons p l ih =>
    intro xs z h hu hi h1 h2
    cases xs with
    | nil=>exact nomatch (show (none:Option (HL T.S (valsP (p::l)))) = some z from h)
    | cons x xs =>
      have hi' : ∀ y ∈ xs,(ov y).is b (a.eval y) k:=fun y hy=>hi y (by simp [hy])
      have h:argP ov p x l (argsP ov l xs) = some z:=h
      generalize hr:argsP ov l xs = r at h
      cases p with
      | v t =>
        obtain ⟨y,ys,hy,rfl,rfl⟩:=argP_v h
        refine ⟨?_,?_⟩
        · rw [hdH_cons]; exact asT_is hy (hi x (by simp))
        · rw [tlH_cons]
          exact ih xs ys hr hu hi' h1 h2
      | tu =>
        simp only [uniqP,Bool.and_eq_true] at hu
        have h:r = some z:=h
        exact ⟨h1 x rfl,ih xs z (hr.trans h) hu.2 hi' (fun y hy=>by rw [noP_arg hu.1] at hy; simp at hy) h2⟩
      | tk =>
        simp only [uniqP,Bool.and_eq_true] at hu
        have h:r = some z:=h
        exact ⟨h2 x rfl,ih xs z (hr.trans h) hu.2 hi' h1 (fun y hy=>by rw [noP_arg hu.1] at hy; simp at hy)⟩
      | fn g =>
        obtain ⟨rfl,rfl⟩:=argP_f h
        exact ⟨rfl,ih xs z hr hu hi' h1 h2⟩
theorem rdepU_some {f:FuncId} {dst:Option Nat} {q:FnR T} (h:rdepU C f dst = some q):rdep C.rdeps f = some q:=by
  unfold rdepU at h
  cases hq:rdep C.rdeps f with
  | none=>rw [hq] at h; simp at h
  | some q' =>
    rw [hq] at h
    have : ∀ c:Bool,(bif c then none else some q' : Option (FnR T)) = some q → q' = q:=fun c h=>by cases c <;> simp at h; exact h
    rw [this _ h]
theorem lk_addO {s:Option Nat} {x:AV T} {e:Env T} {t:Nat}:lk (addO s x e) t = if s = some t then x else lk e t:=by
  cases s with
  | none=>simp [addO]
  | some s =>
    simp only [addO,lk_cons,Option.some.injEq]
theorem neO_ne {s t:Option Nat} {u:Nat} (h:neO s t = true) (hs:s = some u):t ≠ some u:=by
  rintro rfl
  subst hs
  simp [neO] at h
theorem klO_or {f:Nat → AV T → AV T} (hf : ∀ d x,f d x = x ∨ f d x = .top) (s:Option Nat) (x:AV T):klO f s x = x ∨ klO f s x = .top:=by
  cases s with
  | none=>exact .inl rfl
  | some s=>exact hf s x
theorem klO_top {f:Nat → AV T → AV T} (hf : ∀ d x,f d x = x ∨ f d x = .top) (s:Option Nat):klO f s (.top:AV T) = .top:=by
  rcases klO_or hf s (.top:AV T) with e | e <;> exact e
theorem klO_res {f:Nat → AV T → AV T} (hf : ∀ d x,isRes x = true → f d x = x) (s:Option Nat) {x:AV T} (h:isRes x = true):klO f s x = x:=by
  cases s with
  | none=>rfl
  | some s=>exact hf s x h
theorem klO_ment {s:Option Nat} {x:AV T} {t:Nat} (h:(klO klA s x).ment t = true):x.ment t = true∧s ≠ some t:=by
  cases s with
  | none=>exact ⟨h,by simp⟩
  | some s =>
    obtain ⟨h1,h2⟩:=klA_ment (show (klA s x).ment t = true from h)
    exact ⟨h1,fun e=>h2 (Option.some.inj e).symm⟩
theorem klO_ment1 {s:Option Nat} {x:AV T} {t:Nat} (h:(klO kl s x).ment t = true):x.ment t = true:=by
  cases s with
  | none=>exact h
  | some s=>exact kl_ment h
theorem klO_ment2 {s:Option Nat} {x:AV T} {t:Nat} (h:(klO kl s x).ment2 t = true):s ≠ some t:=by
  cases s with
  | none=>simp
  | some s=>exact fun e=>(kl_ment2 (show (kl s x).ment2 t = true from h)).2 (Option.some.inj e).symm
theorem tail_enter {A:Array Oper} {i:Nat} {rest:List Nat} {o:Oper} {Q:Exit → Act → World → Prop} {P:Program} {f:FuncId} {args:Array Value} {R:Pred}
    (ho:nth A.toList i = some o) (hgd:o.guard = none) (hx:(execOp a.eval o).run P k.w = .ok (.enter f args) k.w) (hda : ∀ d,o.dst = some d → d < a.tmps.size) (hcall:Calls P f args k.w (RetC F k R))
    (h : ∀ (a' : Act) (k' : K) (v:Value),a'.tmps.size = a.tmps.size → a'.defers = a.defers → (∀ t,o.dst ≠ some t → a'.get t = a.get t) → (∀ d,o.dst = some d → a'.get d = v) → Chg F k k' → R v k' → wpOps P A Q rest a' k'.w):wpOps P A Q (i::rest) a k.w:=by
  rw [wpOps_cons]
  rw [nth_toList] at ho
  unfold wpOp
  simp only [ho,Region.wanted,hgd,if_true]
  refine .inl ?_
  unfold Oper.wp
  rw [hx]
  refine Calls.mono hcall fun e w' he=>?_
  cases e with
  | returned v =>
    obtain ⟨k', rfl, hg, hv⟩ := he
    cases hd:o.dst with
    | none =>
      have e1:a.put none v = a:=rfl
      show wpOps P A Q rest (a.put none v) k'.w
      rw [e1]
      exact h a k' v rfl rfl (fun _ _=>rfl) (fun d hd'=>by rw [hd] at hd'; simp at hd') hg hv
    | some d =>
      refine h _ k' v (put_size _ _ _) (put_defers' _ _ _) (fun t ht=>?_) (fun d' hd'=>?_) hg hv
      · rw [get_put _ _ _ _ (hda d hd),if_neg (fun e=>ht (by rw [hd,e]))]
      · rw [hd] at hd'
        obtain rfl:=Option.some.inj hd'
        rw [get_put _ _ _ _ (hda d hd)]; simp
  | panicked c=>exact he.elim
  | outgrown=>exact he.elim
theorem callR_ok (hC:CxOk C) (h:Hl n F k0 W a0 e a k) {A:Array Oper} {i:Nat} {rest:List Nat} {o:Oper} {Q:Exit → Act → World → Prop} {K:Env T → Option R} {r:R} (hA:nth A.toList i = some o) (hg:o.guard = none)
    (hn : ∀ d,o.dst = some d → d < n∧d ∈ W) {f:FuncId} {d:FnR T} (hd:FnROk C.P f d) {as_:List Operand} (hx:(execOp a.eval o).run C.P k.w = .ok (.enter f (as_.map a.eval).toArray) k.w)
    (hk : callR C e d as_ o.dst K = some r) (hQ : ∀ e' a' k', K e' = some r → Hl n F k0 W a0 e' a' k' → wpOps C.P A Q rest a' k'.w) : wpOps C.P A Q (i :: rest) a k.w := by
  have is1 : ∀ x,(opvF C e x).is a (a.eval x) k:=fun x=>opvF_is hC (opv_is (e:=e) (a0:=a) (by
    cases x with
    | tmp t=>exact ⟨h.sl t,fun _=>rfl⟩
    | global _=>exact h.gl
    | _=>trivial)) h.gl
  unfold callR at hk
  split at hk
  · rename_i x s1 y s2 z hx1 hl1 hl2
    obtain ⟨hb,hk⟩:=bif_some hk
    obtain ⟨res0,hres,hk⟩:=bind_some hk
    rw [mapK_eq] at hk
    generalize hRes:d.inj res0 = res at hk
    simp only [Bool.and_eq_true] at hb
    obtain ⟨⟨⟨⟨hu,hne12⟩,hned1⟩,hned2⟩,_⟩:=hb
    obtain ⟨u1,hi1,ho1,hc1⟩:=locR_spec h hl1
    obtain ⟨u2,hi2,ho2,hc2⟩:=locR_spec h hl2
    have fp1 : ∀ b,d.tu.fp T u1 k b → ∃ t,s1 = some t∧unl (lk e t) = true∧(lk e t).fp (a.get t) k b:=fun b hb=>by
      rcases hc1 with ⟨_,h1,_⟩ | ⟨t,h1,_,_,h3,h4⟩
      · exact (Rk.fpN h1 b hb).elim
      · exact ⟨t,h1,h3,by rw [← h4]; exact hb⟩
    have fp2 : ∀ b,d.tk.fp T u2 k b → ∃ t,s2 = some t∧unl (lk e t) = true∧(lk e t).fp (a.get t) k b:=fun b hb=>by
      rcases hc2 with ⟨_,h1,_⟩ | ⟨t,h1,_,_,h3,h4⟩
      · exact (Rk.fpN h1 b hb).elim
      · exact ⟨t,h1,h3,by rw [← h4]; exact hb⟩
    have ap12:Apart (d.tu.fp T u1 k) (d.tk.fp T u2 k):=fun b h1 h2=>by
      obtain ⟨t,e1,_,h3⟩:=fp1 b h1
      obtain ⟨t', e2, _, h4⟩ := fp2 b h2
      exact h.ap t t' (fun e3=>neO_ne hne12 e1 (e3 ▸ e2)) b h3 h4
    refine tail_enter hA hg hx (fun dd hdd=>by rw [h.s]; exact (hn dd hdd).1) (hd.ok k (as_.map a.eval) u1 u2 x y z res0 h.gl (argsP_is (opvF C e) _ _ _ hx1 hu (fun y _=>is1 y) ho1 ho2) hi1 hi2 ap12 hres) fun a' k' v hsz hdf hoth hnew hch hpost=>?_
    rw [hRes] at hpost
    have lkE : ∀ t,lk (addO o.dst (resR d.ro d.cod res.2.1 res.2.2) (addO s1 (d.tu.av res.1) (addO s2 .top (mapE (fun a=>klO kl s1 (klO klA s2 (klO klA o.dst a))) e)))) t =
        if o.dst = some t then resR d.ro d.cod res.2.1 res.2.2 else if s1 = some t then d.tu.av res.1 else if s2 = some t then .top else klO kl s1 (klO klA s2 (klO klA o.dst (lk e t))):=fun t=>by
      rw [lk_addO,lk_addO,lk_addO,lk_mapE (by rw [klO_top klA_or,klO_top klA_or,klO_top kl_or])]
    generalize addO o.dst (resR d.ro d.cod res.2.1 res.2.2) (addO s1 (d.tu.av res.1) (addO s2 .top (mapE (fun a=>klO kl s1 (klO klA s2 (klO klA o.dst a))) e))) = E at hk lkE
    have keep1 : ∀ t,s1 = some t → a'.get t = a.get t:=fun t ht=>hoth t fun e1=>neO_ne hned1 e1 ht
    have keep2 : ∀ t,s2 = some t → a'.get t = a.get t:=fun t ht=>hoth t fun e1=>neO_ne hned2 e1 ht
    have lkd : ∀ t,o.dst = some t → lk E t = resR d.ro d.cod res.2.1 res.2.2:=fun t ht=>by rw [lkE,if_pos ht]
    have lk1 : ∀ t,s1 = some t → lk E t = d.tu.av res.1:=fun t ht=>by rw [lkE,if_neg (fun e1=>neO_ne hned1 e1 ht),if_pos ht]
    have lk2 : ∀ t,s2 = some t → lk E t = .top:=fun t ht=>by rw [lkE,if_neg (fun e1=>neO_ne hned2 e1 ht),if_neg (fun e1=>neO_ne hne12 e1 ht),if_pos ht]
    have tu1 : ∀ t,s1 = some t → isN d.tu = false∧u1 = a.get t:=fun t ht=>by
      rcases hc1 with ⟨h1, _⟩ | ⟨t', h1, h2, h3, _⟩
      · rw [h1] at ht; simp at ht
      · rw [h1] at ht; obtain rfl:=Option.some.inj ht; exact ⟨h2,h3⟩
    have fpd : ∀ t,o.dst = some t → ∀ b,(lk E t).fp (a'.get t) k' b → (d.tu.fp T u1 k b ∨ d.tk.fp T u2 k b) ∨ k.w.heap.size ≤ b:=fun t ht b hb=>by
      rw [lkd t ht,hnew t ht] at hb; exact hpost.w2 b hb
    have fpe1 : ∀ t,s1 = some t → (lk E t).fp (a'.get t) k' = d.tu.fp T u1 k':=fun t ht=>by
      rw [lk1 t ht,keep1 t ht,(tu1 t ht).2,Rk.av_fp (tu1 t ht).1]
    have fpS : ∀ t,(o.dst = some t ∨ s1 = some t ∨ s2 = some t) → ∀ b,(lk E t).fp (a'.get t) k' b → (d.tu.fp T u1 k b ∨ d.tk.fp T u2 k b) ∨ k.w.heap.size ≤ b:=fun t ht b hb=>by
      rcases ht with ht | ht | ht
      · exact fpd t ht b hb
      · rw [fpe1 t ht] at hb; exact hpost.w1 b hb
      · rw [lk2 t ht] at hb; exact hb.elim
    refine hQ _ a' k' hk (h.multi (G:=fun b=>d.tu.fp T u1 k b ∨ d.tk.fp T u2 k b) (fun t=>o.dst = some t ∨ s1 = some t ∨ s2 = some t) hch (fun b hb=>?_) hsz hdf (fun t ht=>hoth t fun e1=>ht (hn t e1).2) (fun t ht=>hoth t fun e1=>ht (.inl e1))
      (fun t ht=>?_) (fun t ht u=>?_) (fun t ht _ b hb=>?_) (fun t ht b hb=>?_) (fun t u ht hu' hne b hb hb'=>?_) (fun t ht=>?_) (fun t ht hr=>?_))
    · rcases hb with hb | hb
      · obtain ⟨t,h1,h2,h3⟩:=fp1 b hb; exact ⟨t,.inr (.inl h1),h2,h3⟩
      · obtain ⟨t,h1,h2,h3⟩:=fp2 b hb; exact ⟨t,.inr (.inr h1),h2,h3⟩
    · rcases ht with ht | ht | ht
      · rw [lkd t ht,hnew t ht]; exact is_act (fun s=>resR_ment) hpost.res
      · rw [lk1 t ht,keep1 t ht,← (tu1 t ht).2]; exact (Rk.av_is (tu1 t ht).1).2 hpost.tu
      · rw [lk2 t ht]; trivial
    · rcases ht with ht | ht | ht
      · rw [lkd t ht]; exact resR_ment
      · rw [lk1 t ht]; exact Rk.av_ment
      · rw [lk2 t ht]; rfl
    · rcases fpS t ht b hb with h1 | h1
      · exact .inl h1
      · exact .inr (.inr h1)
    · rcases fpS t ht b hb with h1 | h1
      · rcases h1 with h1 | h1
        · obtain ⟨t', h2, _, h3⟩ := fp1 b h1; exact .inl ⟨t', .inr (.inl h2), h3⟩
        · obtain ⟨t', h2, _, h3⟩ := fp2 b h1; exact .inl ⟨t', .inr (.inr h2), h3⟩
      · exact .inr h1
    · rcases ht with ht | ht | ht
      · rcases hu' with hu' | hu' | hu'
        · exact hne (Option.some.inj (ht.symm.trans hu'))
        · rw [lkd t ht, hnew t ht] at hb
          rw [fpe1 u hu'] at hb'
          exact hpost.ap b hb' hb
        · rw [lk2 u hu'] at hb'; exact hb'
      · rcases hu' with hu' | hu' | hu'
        · rw [lkd u hu', hnew u hu'] at hb'
          rw [fpe1 t ht] at hb
          exact hpost.ap b hb hb'
        · exact hne (Option.some.inj (ht.symm.trans hu'))
        · rw [lk2 u hu'] at hb'; exact hb'
      · rw [lk2 t ht] at hb; exact hb
    · have e1 : lk E t = klO kl s1 (klO klA s2 (klO klA o.dst (lk e t))) := by
        rw [lkE,if_neg (fun e1=>ht (.inl e1)),if_neg (fun e1=>ht (.inr (.inl e1))),if_neg (fun e1=>ht (.inr (.inr e1)))]
      have key : ∀ u,(lk E t).ment u = true → (o.dst ≠ some u∧s2 ≠ some u):=fun u hu'=>by
        rw [e1] at hu'
        obtain ⟨h1,h2⟩:=klO_ment (klO_ment1 hu')
        exact ⟨(klO_ment h1).2,h2⟩
      have key2 : ∀ u,(lk E t).ment2 u = true → s1 ≠ some u:=fun u hu'=>by rw [e1] at hu'; exact klO_ment2 hu'
      have hor:lk E t = lk e t ∨ lk E t = .top:=by
        rw [e1]
        rcases klO_or klA_or o.dst (lk e t) with h1 | h1
        · rw [h1]
          rcases klO_or klA_or s2 (lk e t) with h2 | h2
          · rw [h2]; exact klO_or kl_or s1 (lk e t)
          · rw [h2,klO_top kl_or]; exact .inr rfl
        · rw [h1,klO_top klA_or,klO_top kl_or]; exact .inr rfl
      rcases hor with h1 | h1
      · refine .inr ⟨h1, fun u hu' hS => ?_⟩
        obtain ⟨h2,h3⟩:=key u (by rw [h1]; exact hu')
        rcases hS with hS | hS | hS
        · exact (h2 hS).elim
        · refine ⟨keep1 u hS, ?_, ?_⟩
          · rw [lk1 u hS]; exact unl_res (Rk.av_unl (tu1 u hS).1)
          · cases h4 : (lk e t).ment2 u with
            | false=>rfl
            | true=>exact absurd hS (key2 u (by rw [h1]; exact h4))
        · exact (h3 hS).elim
      · exact .inl h1
    · rw [lkE,if_neg (fun e1=>ht (.inl e1)),if_neg (fun e1=>ht (.inr (.inl e1))),if_neg (fun e1=>ht (.inr (.inr e1))),klO_res (fun _ _=>klA_res) _ hr,klO_res (fun _ _=>klA_res) _ hr,klO_res (fun _ _=>kl_res) _ hr]
  · simp at hk

theorem Hl.moveTo (h:Hl n F k0 W a0 e a k) {s d:Nat} {x y:AV T} (hsd:s ≠ d) (hdW:d ∈ W) (hu:unl (lk e s) = true) (hsz:a'.tmps.size = a.tmps.size) (hdf:a'.defers = a.defers) (hoth : ∀ t,t ≠ d → a'.get t = a.get t)
    (hv:x.is a' (a'.get d) k') (hm : ∀ t,x.ment t = false) (hf : ∀ b,x.fp (a'.get d) k' b → (lk e s).fp (a.get s) k b) (hy:y.is a' (a'.get s) k') (hym : ∀ t,y.ment t = false) (hyr:isRes y = false) (hgr:Grow k k') :
    Hl n F k0 W a0 ((d,x)::(s,y)::mapE (fun z=>klA s (klA d z)) e) a' k':=by
  have lkt : ∀ t,t ≠ d → t ≠ s → lk ((d,x)::(s,y)::mapE (fun z=>klA s (klA d z)) e) t = klA s (klA d (lk e t)):=fun t h1 h2=>by
    rw [lk_cons,if_neg (Ne.symm h1),lk_cons,if_neg (Ne.symm h2),lk_mapE rfl]
  have lkd:lk ((d,x)::(s,y)::mapE (fun z=>klA s (klA d z)) e) d = x:=by rw [lk_cons,if_pos rfl]
  have lks:lk ((d,x)::(s,y)::mapE (fun z=>klA s (klA d z)) e) s = y:=by rw [lk_cons,if_neg (Ne.symm hsd),lk_cons,if_pos rfl]
  have hS : ∀ t,(t = d ∨ t = s) → ∀ b,(lk ((d,x)::(s,y)::mapE (fun z=>klA s (klA d z)) e) t).fp (a'.get t) k' b → (lk e s).fp (a.get s) k b:=fun t ht b hb=>by
    rcases ht with rfl | rfl
    · rw [lkd] at hb; exact hf b hb
    · rw [lks] at hb; exact absurd hb (fp_nonres hyr _ _ b)
  refine h.multi (G:=noF) (fun t=>t = d ∨ t = s) (Chg.of hgr) (fun _ f=>f.elim) hsz hdf (fun t ht=>hoth t fun e1=>ht (e1 ▸ hdW)) (fun t ht=>hoth t fun e1=>ht (.inl e1)) (fun t ht=>?_) (fun t ht u=>?_)
    (fun t ht _ b hb=>.inr (.inl ⟨s,.inr rfl,hu,hS t ht b hb⟩)) (fun t ht b hb=>.inl ⟨s,.inr rfl,hS t ht b hb⟩) (fun t u ht hu' hne=>?_) (fun t ht=>?_) (fun t ht hr=>?_)
  · rcases ht with rfl | rfl
    · rw [lkd]; exact hv
    · rw [lks]; exact hy
  · rcases ht with rfl | rfl
    · rw [lkd]; exact hm u
    · rw [lks]; exact hym u
  · rcases ht with rfl | rfl
    · rcases hu' with rfl | rfl
      · exact absurd rfl hne
      · intro b _ hb; rw [lks] at hb; exact fp_nonres hyr _ _ b hb
    · intro b hb; rw [lks] at hb; exact (fp_nonres hyr _ _ b hb).elim
  · have h1 : t ≠ d := fun e1 => ht (.inl e1)
    have h2:t ≠ s:=fun e1=>ht (.inr e1)
    rw [lkt t h1 h2]
    rcases klA_or d (lk e t) with e1 | e1
    · rw [e1]
      rcases klA_or s (lk e t) with e2 | e2
      · refine .inr ⟨e2, fun u hu' hSu => ?_⟩
        rcases hSu with rfl | rfl
        · rw [← e1] at hu'; exact absurd rfl (klA_ment hu').2
        · rw [← e2] at hu'; exact absurd rfl (klA_ment hu').2
      · exact .inl e2
    · rw [e1]; exact .inl (by rcases klA_or s (.top:AV T) with e2 | e2 <;> exact e2)
  · rw [lkt t (fun e1=>ht (.inl e1)) (fun e1=>ht (.inr e1)),klA_res hr,klA_res hr]
theorem Hl.know {n:Nat} {F:FP} {k0:K} {W:List Nat} {a0:Act} {e:Env T} {a:Act} {k:K} (h:Hl n F k0 W a0 e a k) {c:Nat} {av:AV T} (hnr:isRes (lk e c) = false) (hn:isRes av = false) (hm : ∀ s,av.ment s = false) (hv:av.is a (a.get c) k):Hl n F k0 W a0 ((c,av)::e) a k:=by
  have lkt : ∀ t,lk ((c,av)::e) t = if c = t then av else lk e t:=fun t=>lk_cons _ _ _ _
  have hres : ∀ t,isRes (lk ((c,av)::e) t) = isRes (lk e t):=fun t=>by
    rw [lkt]; split
    · rename_i h1; subst h1; rw [hnr,hn]
    · rfl
  have hfp : ∀ t b,(lk ((c,av)::e) t).fp (a.get t) k b → (lk e t).fp (a.get t) k b:=fun t b hb=>by
    rw [lkt] at hb; split at hb
    · exact absurd hb (fp_nonres hn _ _ b)
    · exact hb
  refine ⟨h.g,h.s,h.d,h.old,fun t=>?_,fun t s hs=>?_,fun t ht=>?_,fun t t' hne b hb hb'=>h.ap t t' hne b (hfp t b hb) (hfp t' b hb'),h.gl⟩
  · rw [lkt]; split
    · rename_i h1; subst h1; exact hv
    · exact h.sl t
  · rw [lkt] at hs; split at hs
    · rw [hm] at hs; simp at hs
    · rw [hres]; exact h.inv t s hs
  · rw [lkt] at ht ⊢; split at ht
    · have:=unl_res ht; rw [hn] at this; simp at this
    · rename_i h1; rw [if_neg h1]; exact h.wr t ht
theorem step2_ok (hC:CxOk C) (h:Hl n F k0 W a0 e a k) {A:Array Oper} {i:Nat} {rest:List Nat} {o:Oper} {Q:Exit → Act → World → Prop} {K:Env T → Option R} {r:R} (hA:nth A.toList i = some o) (hg:o.guard = none)
    (hn : ∀ d,o.dst = some d → d < n∧d ∈ W) (hk:step2 C e o K = some r)
    (hQ : ∀ e' a' k', K e' = some r → Hl n F k0 W a0 e' a' k' → wpOps C.P A Q rest a' k'.w) : wpOps C.P A Q (i :: rest) a k.w := by
  have is1 : ∀ x,(opv e x).is a (a.eval x) k:=fun x=>opv_is (e:=e) (a0:=a) (by
    cases x with
    | tmp t=>exact ⟨h.sl t,fun _=>rfl⟩
    | global _=>exact h.gl
    | _=>trivial)
  -- an operation that writes to nothing
  have pure1 : ∀ d,o.dst = some d → ∀ {K1:AV T → Option R},step1 C e o K1 = some r → ∃ av,K1 av = some r∧(∀ s,av.ment s = true → isRes (lk e s) = true)∧isRes av = false∧Does C.P o a k (av.is a):=by
    intro d hd K1 h1
    obtain ⟨av,h2,h3,h4,h5⟩:=step1_ok hC h.inv h1
    exact ⟨av,h2,h3,h4,h5 a a k (h.rd1 o)⟩
  have simple : ∀ d,o.dst = some d → (step1 C e o fun x=>put e d x K) = some r → wpOps C.P A Q (i::rest) a k.w:=by
    intro d hd h1
    obtain ⟨av,h2,h3,h4,h5⟩:=pure1 d hd h1
    obtain ⟨hdn,hdW⟩:=hn d hd
    refine tail_does hA hg hd (by rw [h.s]; exact hdn) trivial h5 fun a' k' hs hdf hoth hgr hv=>?_
    have hv' : av.is a' (a'.get d) k':=av.congr (fun s hs'=>hoth s (fun e=>by
      have:av.ment d = false:=by
        cases hmd:av.ment d with
        | false=>rfl
        | true=>unfold Gb.put at h2; rw [hmd] at h2; simp at h2
      rw [e,this] at hs'; simp at hs')) hv
    obtain ⟨e', h6, h7⟩ := h.putFresh hdW hgr hs hdf hoth hv' h3 (fun b hb => absurd hb (fp_nonres h4 _ _ b)) h2
    exact hQ e' a' k' h6 h7
  -- a new resource
  have fresh : ∀ d,o.dst = some d → ∀ {av:AV T},put e d av K = some r → (∀ t,av.ment t = false) → Does C.P o a k (fun v k'=>(∀ a1:Act,av.is a1 v k')∧∀ b,av.fp v k' b → k.w.heap.size ≤ b) → wpOps C.P A Q (i::rest) a k.w:=by
    intro d hd av h2 h3 h5
    obtain ⟨hdn,hdW⟩:=hn d hd
    refine tail_does hA hg hd (by rw [h.s]; exact hdn) trivial h5 fun a' k' hs hdf hoth hgr hv=>?_
    obtain ⟨e', h6, h7⟩ := h.putFresh hdW hgr hs hdf hoth (hv.1 a') (fun s hs => by rw [h3] at hs; simp at hs) hv.2 h2
    exact hQ e' a' k' h6 h7
  unfold step2 at hk
  split at hk
  · -- store
    rename_i ty p y hop hd
    split at hk
    · rename_i pt
      have hsel : ∀ av:AV T,(match lk e pt with | .al s=>(match lk e s with | .box _ t x=>AV.ab s t x t (Lens.id t) | _=>.top) | .box _ t x=>AV.ab pt t x t (Lens.id t) | a=>a) = av → av.is a (a.get pt) k:=by
        intro av hav
        have hsl:=h.sl pt
        split at hav
        · rename_i s hl
          rw [hl] at hsl
          split at hav
          · rename_i lck t x hl'
            have hsl':=h.sl s
            rw [hl'] at hsl'
            obtain ⟨b,hb,hbx⟩:=hsl'
            rw [← hav]
            exact ⟨Lens.id_ok,b,hb,(show a.get pt = a.get s from hsl).trans hb,hbx⟩
          · rw [← hav]; trivial
        · rename_i lck t x hl
          rw [hl] at hsl
          obtain ⟨b,hb,hbx⟩:=hsl
          rw [← hav]
          exact ⟨Lens.id_ok,b,hb,hb,hbx⟩
        · rw [← hav]; exact hsl
      split at hk
      · rename_i s t x u L hav
        have hp:=hsel _ hav
        split at hk
        · rename_i t' x' hl
          split at hk
          · rename_i z hz
            cases hb:tyB C.P T ty u with
            | false=>rw [hb] at hk; simp at hk
            | true =>
              rw [hb] at hk; simp only [cond_true] at hk
              rw [mapK_eq] at hk
              obtain ⟨hL,b,h1,h2,h3⟩:=hp
              have hfp : ∀ b', Eq b b' → (lk e s).fp (a.get s) k b' := by rw [hl]; intro b' hb'; rw [← hb']; exact h1
              refine tail_storeB hA hg hop hd (tyB_sz hb) hL.2.1 h2 h3 (asT_is hz (is1 y)) fun k' hc hbx=>?_
              refine hQ _ a k' hk (h.turn (av:=.box false t (L.set x z)) (by rw [hl]; rfl) hc hfp ⟨b,h1,hbx⟩ (fun _=>rfl) rfl fun b' hb'=>?_)
              rw [hl]; exact hb'
          · simp at hk
        · simp at hk
      · rename_i s el t xs i' x u L hav
        have hp:=hsel _ hav
        split at hk
        · rename_i el' t' xs' hl
          split at hk
          · rename_i z hz
            cases hb:tyB C.P T ty u with
            | false=>rw [hb] at hk; simp at hk
            | true =>
              rw [hb] at hk; simp only [cond_true] at hk
              rw [mapK_eq] at hk
              obtain ⟨hL,h1,h2,h3⟩:=hp
              have hfp : ∀ b', obF (a.get s) b' → (lk e s).fp (a.get s) k b' := by rw [hl]; intro b' hb'; exact hb'
              refine tail_storeS (u:=a.get s) (xs:=xs) (x:=x) hA hg hop hd (tyB_sz hb) hL.2.1 h1 h2 h3 (asT_is hz (is1 y)) fun k' hc hown=>?_
              refine hQ _ a k' hk (h.turn (av:=.own false el t (xs.set i' (L.set x z))) (by rw [hl]; rfl) hc hfp hown (fun _=>rfl) rfl fun b' hb'=>?_)
              rw [hl]; exact hb'
          · simp at hk
        · simp at hk
      · simp at hk
    · simp at hk
  · -- alloc
    rename_i ty d hop hd
    split at hk
    · rename_i t ht
      cases hz:zeroB C.P T ty t with
      | false=>rw [hz] at hk; simp at hk
      | true =>
        rw [hz] at hk; simp only [cond_true] at hk
        obtain ⟨_,zv,_,_,_,_,hrun,_,hv⟩:=zeroB_ok hz
        refine fresh d hd hk (fun _=>rfl) (does_imp (ok_alloc k.w.heap.size (Nat.le_refl _) hop ⟨zv,hrun,hv⟩) fun v k' _ hb=>?_)
        obtain ⟨b,rfl,h1,h2⟩:=hb
        exact ⟨fun _=>⟨b,rfl,h2⟩,fun b' hb'=>by
          simp only [AV.fp,Value.pointer.injEq,Option.some.injEq,Addr.mk.injEq,and_true] at hb'
          omega⟩
    · simp at hk
  · -- box
    rename_i ty x d hop hd
    split at hk
    · rename_i t y hx
      cases hz:tyB C.P T ty t with
      | false=>rw [hz] at hk; simp at hk
      | true =>
        rw [hz] at hk; simp only [cond_true] at hk
        have hxv:=is1 x
        rw [hx] at hxv
        refine fresh d hd hk (fun _=>rfl) (does_imp (ok_box k.w.heap.size (Nat.le_refl _) hop (show IsV y (a.eval x) k from hxv)) fun v k' _ hb=>?_)
        obtain ⟨b,rfl,h1,h2⟩:=hb
        exact ⟨fun _=>⟨b,rfl,h2⟩,fun b' hb'=>by
          simp only [AV.fp,Value.pointer.injEq,Option.some.injEq,Addr.mk.injEq,and_true] at hb'
          omega⟩
    · simp at hk
  · -- assign
    rename_i x d hop hd
    split at hk
    · rename_i s hs
      split at hk
      · rename_i el t xs hl
        rw [mapK_eq] at hk
        obtain ⟨hdn,hdW⟩:=hn d hd
        refine tail_assign hA hg (.inl hop) hd (by rw [h.s]; exact hdn) fun a' hsz hdf hnew hoth=>?_
        have hsl:=h.sl s
        rw [hl] at hsl
        have h1:=h.lose (k':=k) (G:=noF) (s:=s) (by rw [hl]; rfl) (Chg.refl _ k) (fun b hb=>hb.elim)
        have hv:a'.get d = a.get s:=hnew.trans (resSlot_ok h hs)
        have hfp : ∀ b,obF (a.get s) b → (lk e s).fp (a.get s) k b:=by rw [hl]; exact fun b hb=>hb
        obtain ⟨e', h2, h3, h4, h5⟩ := h1.put (av := .own false el t xs) hdW (Grow.refl k) hsz hdf hoth (by rw [hv]; exact hsl) (fun s' hs' => by simp [AV.ment] at hs') (fun _ => by
            rw [hv]; exact fun b hb=>h.wr s (by rw [hl]; rfl) b (hfp b hb)) (fun t' ht' b hb hb'=>by
            rw [hv] at hb
            rw [lk_cons] at hb'
            by_cases e1:s = t'
            · rw [if_pos e1] at hb'; exact hb'
            · rw [if_neg e1, lk_mapE rfl] at hb'
              rcases klA_or s (lk e t') with e2 | e2
              · rw [e2] at hb'; exact h.ap s t' e1 b (hfp b hb) hb'
              · rw [e2] at hb'; exact hb') hk
        by_cases hsd:s = d
        · -- onto itself: nothing more is told
          subst hsd
          have hn' : isRes (lk e' s) = true:=by rw [h4]; rfl
          exact absurd h2 (by
            intro h2
            cases hb:isRes (lk e' s) with
            | false=>rw [hn'] at hb; simp at hb
            | true=>rw [hb] at h2; simp at h2)
        · have hns : isRes (lk e' s) = false := by
            rcases h5 s hsd with e1 | e1
            · rw [e1,lk_cons,if_pos rfl]; rfl
            · rw [e1]; rfl
          rw [hns] at h2
          simp only [cond_false] at h2
          refine hQ _ a' k h2 (h3.set (av := .al d) hns ?_ (fun t' ht' => by rw [← Nat.eq_of_beq_eq_true ht', h4]; rfl) rfl)
          exact (hoth s hsd).trans hv.symm
      · rename_i m z hl
        cases hsd:Nat.beq s d with
        | true=>rw [hsd] at hk; simp at hk
        | false=>
        rw [hsd] at hk; simp only [cond_false] at hk
        rw [mapK_eq] at hk
        have hsd:s ≠ d:=fun e=>by rw [e,Nat.beq_refl] at hsd; simp at hsd
        obtain ⟨hdn,hdW⟩:=hn d hd
        refine tail_assign hA hg (.inl hop) hd (by rw [h.s]; exact hdn) fun a' hsz hdf hnew hoth=>?_
        have hv:a'.get d = a.get s:=hnew.trans (resSlot_ok h hs)
        exact hQ _ a' k hk (h.moveTo (x:=.rs false m z) (y:=.top) hsd hdW (by rw [hl]; rfl) hsz hdf hoth (by rw [hv]; have:=h.sl s; rw [hl] at this; exact this) (fun _=>rfl) (fun b hb=>by rw [hv] at hb; rw [hl]; exact hb) trivial (fun _=>rfl) rfl (Grow.refl k))
      · simp at hk
    · exact simple d hd hk
  · -- extract
    rename_i x ix d hop hd
    split at hk
    · rename_i s hs
      split at hk
      · rename_i κ w l hl
        cases hsd:(Nat.beq s d || isN κ) with
        | true=>rw [hsd] at hk; simp at hk
        | false=>
        rw [hsd] at hk; simp only [cond_false] at hk
        simp only [Bool.or_eq_false_iff] at hsd
        rw [mapK_eq] at hk
        have hsd' : s ≠ d:=fun e=>by rw [e,Nat.beq_refl] at hsd; simp at hsd
        obtain ⟨hdn,hdW⟩:=hn d hd
        have hsl:=h.sl s
        rw [hl] at hsl
        obtain ⟨u0,vs,e1,h1,h2⟩:=hsl
        have hx:a.eval x = .tuple (u0::vs).toArray:=(resSlot_ok h hs).trans e1
        refine tail_does hA hg hd (by rw [h.s]; exact hdn) trivial (does_pure (v:=u0) (R:=fun v _=>v = u0) (by simp only [execOp,hop,hx]; simp [Instr.extract]) rfl) fun a' k' hsz hdf hoth hgr hv=>?_
        have hv:a'.get d = u0:=hv
        have hg1:=Rk.grow h1 hgr
        have H:=h.moveTo (x:=κ.av w) (y:=.tq l) hsd' hdW (by rw [hl]; rfl) hsz hdf hoth ((Rk.av_is hsd.2).2 (by rw [hv]; exact hg1.1)) (fun _=>Rk.av_ment) (fun b hb=>by
          rw [hv,Rk.av_fp hsd.2,hg1.2] at hb
          rw [hl,e1]; exact hb) ⟨u0,vs,(hoth s hsd').trans e1,h2.le hgr.le⟩ (fun _=>rfl) rfl hgr
        refine hQ _ a' k' hk ?_
        unfold reTq
        split
        · rename_i t
          split
          · rename_i s' hlt
            cases htd:Nat.beq t d with
            | true=>exact H
            | false =>
              have htd' : t ≠ d:=fun e=>by rw [e,Nat.beq_refl] at htd; simp at htd
              have hts:t ≠ s:=fun e=>by rw [e,hl] at hlt; simp at hlt
              refine H.know ?_ rfl (fun _=>rfl) ⟨u0,vs,(hoth t htd').trans hx,h2.le hgr.le⟩
              rw [lk_cons,if_neg (Ne.symm htd'),lk_cons,if_neg (Ne.symm hts),lk_mapE rfl,hlt]
              simp only [klA]
              cases Nat.beq s' d
              · simp only [cond_false]
                cases Nat.beq s' s <;> rfl
              · rfl
          · exact H
        · exact H
      · exact simple d hd hk
    · exact simple d hd hk
  · -- buildSlice
    rename_i ty m ps d hop hd
    split at hk
    · exact simple d hd hk
    · rename_i hm0
      split at hk
      · rename_i t el xs hb
        obtain ⟨h1,h2,h3,h4,h5⟩:=bslice_ok hb
        refine fresh d hd hk (fun _=>rfl) (does_imp (ok_buildSliceO (ps:=ps.toList) (B:=k.w.heap.size) (by rw [hop]) h1 h2 (Nat.le_refl _) h3 (Nat.pos_of_ne_zero fun e=>hm0 e) h4 (h5 a a k fun y _=>is1 y)) fun v k' _ hb=>⟨fun _=>hb.weaken (Nat.zero_le _),fun b hb'=>(hb.lt b hb').1⟩)
      · simp at hk
  · -- makeSlice
    rename_i ty lx cx d hop hd
    split at hk
    · rename_i n el hn hel
      split at hk
      · rename_i t ht
        cases hb:(sameTmp lx cx && elB C.P T el t && zeroB C.P T el t) with
        | false=>rw [hb] at hk; simp at hk
        | true =>
          rw [hb] at hk
          simp only [cond_true] at hk
          simp only [Bool.and_eq_true] at hb
          obtain ⟨⟨h1,h2⟩,h3⟩:=hb
          obtain ⟨r,hr,hk⟩:=bind_some hk
          obtain ⟨i,z,cs,hi,hz,hcs,_,hrep,_⟩:=zeroB_ok h3
          have hev:a.eval cx = a.eval lx:=by
            cases lx <;> cases cx <;> simp only [sameTmp] at h1 <;> first | (rw [Nat.eq_of_beq_eq_true h1]) | simp at h1
          have hlv:a.eval lx = .int .i64 n:=isV_int.1 (asI_is hn (is1 lx))
          refine fresh d hd hk (fun _=>rfl) (does_imp (ok_makeSliceO (B:=k.w.heap.size) hop (slOf_ok hel) (elB_ok h2) hi hz (by rw [hcs]; exact hrep k) (Nat.le_refl _) hlv (hev.trans hlv) hr) fun v k' _ hb=>⟨fun _=>hb.weaken (Nat.zero_le _),fun b hb'=>(hb.lt b hb').1⟩)
      · simp at hk
    · simp at hk
  · -- a call
    rename_i c d hop hd
    obtain ⟨cal,as_,ts⟩:=c
    dsimp only at hk
    split at hk
    · split at hk
      · rename_i x y ty ty' hx hty
        obtain rfl:=arr2 hx
        obtain rfl:=arr2 hty
        cases hb:Nat.beq ty ty' with
        | false=>rw [hb] at hk; simp at hk
        | true =>
          rw [hb] at hk; simp only [cond_true] at hk
          obtain rfl:=Nat.eq_of_beq_eq_true hb
          split at hk
          · rename_i el t ys hel hl
            have hy:=asL_is hl (is1 y) (opv_ment h.inv) (fun s _=>h.sl s)
            cases hb:elB C.P T el t with
            | false=>rw [hb] at hk; simp at hk
            | true =>
              rw [hb] at hk; simp only [cond_true] at hk
              split at hk
              · rename_i s hs
                split at hk
                · rename_i el' t' xs hls
                  split at hk
                  · rename_i xs' hxs
                    obtain ⟨he,hxe⟩:=cast?_eq hxs
                    injection he with he
                    subst he
                    obtain rfl:xs' = xs:=hxe
                    cases hb2:Nat.beq el el' with
                    | false=>rw [hb2] at hk; simp at hk
                    | true =>
                      rw [hb2] at hk; simp only [cond_true] at hk
                      obtain rfl:=Nat.eq_of_beq_eq_true hb2
                      obtain ⟨z,hz,hk⟩:=bind_some hk
                      rw [mapK_eq] at hk
                      obtain ⟨hdn,hdW⟩:=hn d hd
                      have hsl:=h.sl s
                      rw [hls] at hsl
                      have hev:=resSlot_ok h hs
                      have hfp : ∀ b,obF (a.get s) b → (lk e s).fp (a.get s) k b:=by rw [hls]; exact fun b hb=>hb
                      refine tail_appendS hA hg hop hd (by rw [h.s]; exact hdn) (slOf_ok hel) (elB_ok hb) (by rw [hev]; exact hsl) hy hz fun a' k' hsz hdf hoth hc hown hob=>?_
                      rw [hev] at hc hob
                      have h1:=h.lose (s:=s) (by rw [hls]; rfl) hc hfp
                      obtain ⟨e', h2, h3, _⟩ := h1.put (av := .own false el t' z) hdW (Grow.refl k') hsz hdf hoth hown (fun s' hs' => by simp [AV.ment] at hs') (fun _ b hb => by
                          rcases hob b hb with hb | hb
                          · exact h.wr s (by rw [hls]; rfl) b (hfp b hb)
                          · exact .inr (Nat.le_trans h.g.size hb)) (fun t2 ht2 b hb hb'=>by
                          rw [lk_cons] at hb'
                          by_cases e1:s = t2
                          · rw [if_pos e1] at hb'; exact hb'
                          · rw [if_neg e1, lk_mapE rfl] at hb'
                            rcases klA_or s (lk e t2) with e2 | e2
                            · rw [e2, AV.fp_keep _ hc (fun b hb => (h.lt s b (hfp b hb)).2) (fun b hb hb' => h.ap s t2 e1 b (hfp b hb') hb) (h.sl t2)] at hb'
                              rcases hob b hb with hb | hb
                              · exact h.ap s t2 e1 b (hfp b hb) hb'
                              · have:=(h.lt t2 b hb').1; omega
                            · rw [e2] at hb'; exact hb') hk
                      exact hQ e' a' k' h2 h3
                  · simp at hk
                · simp at hk
              · split at hk
                · rename_i hres
                  obtain ⟨z,hz,hk⟩:=bind_some hk
                  have hx0:=res_is (is1 x) (opv_ment h.inv) (fun s _=>h.sl s)
                  rw [hres] at hx0
                  exact fresh d hd hk (fun _=>rfl) (does_imp (ok_append0 (B:=k.w.heap.size) hop (slOf_ok hel) (elB_ok hb) (Nat.le_refl _) hx0 hy hz) fun v k' _ hb=>⟨fun _=>hb.weaken (Nat.zero_le _),fun b hb'=>(hb.lt b hb').1⟩)
                · simp at hk
          · simp at hk
      · simp at hk
    · rename_i f
      split at hk
      · rename_i q hq
        have hf:=hC.rdeps f q (rdepU_some hq)
        exact callR_ok (as_:=as_.toList) hC h hA hg hn hf (by simp [execOp,hop,resolve,invoke,Deferred.ofValue,Act.eval,hf.call]; apply Array.ext'; simp) (by rw [hd]; exact hk) hQ
      · exact simple d hd hk
    · rename_i s
      split at hk
      · rename_i f s' hl
        split at hk
        · rename_i q hq
          have hf:=hC.rdeps f q hq
          have hs:=h.sl s
          rw [hl] at hs
          exact callR_ok (as_:=.tmp s'::as_.toList) hC h hA hg hn hf (by
            have e1:a.eval (.tmp s) = .func (.func f) #[a.get s'] #[]:=hs
            have e2:a.eval (.tmp s') = a.get s':=rfl
            simp [execOp,hop,resolve,invoke,Deferred.ofValue,e1,e2,hf.call]) (by rw [hd]; exact hk) hQ
        · simp at hk
      · exact simple d hd hk
    · exact simple d hd hk
  · -- a call without results
    rename_i c hop hd
    obtain ⟨cal,as_,ts⟩:=c
    dsimp only at hk
    split at hk
    · rename_i f
      split at hk
      · rename_i q hq
        have hf:=hC.rdeps f q (rdepU_some hq)
        exact callR_ok (as_:=as_.toList) hC h hA hg hn hf (by simp [execOp,hop,resolve,invoke,Deferred.ofValue,Act.eval,hf.call]; apply Array.ext'; simp) (by rw [hd]; exact hk) hQ
      · simp at hk
    · rename_i s
      split at hk
      · rename_i f s' hl
        split at hk
        · rename_i q hq
          have hf:=hC.rdeps f q hq
          have hs:=h.sl s
          rw [hl] at hs
          exact callR_ok (as_:=.tmp s'::as_.toList) hC h hA hg hn hf (by
            have e1:a.eval (.tmp s) = .func (.func f) #[a.get s'] #[]:=hs
            have e2:a.eval (.tmp s') = a.get s':=rfl
            simp [execOp,hop,resolve,invoke,Deferred.ofValue,e1,e2,hf.call]) (by rw [hd]; exact hk) hQ
        · simp at hk
      · simp at hk
    · simp at hk
  · exact simple _ (by assumption) hk
  · simp at hk
end
end Go.Gb


