/- The general part of the proofs (no program in sight): worlds with shared blocks, regions, operations, calls, loops, what comes in as data, part 7 -/
import Derived.Test.YtagkmlkhaekldaaGreatL6
set_option linter.unusedVariables false
set_option linter.unusedSimpArgs false
/- General part of the proofs: regions. -/
namespace Go.Gb
variable {T:Tb} {R:Type}
section
variable {C:Cx T} {F:FP} {k0:K} {W:List Nat} {a0:Act} {A:Array Oper} {Q:Exit → Act → World → Prop}

theorem ev2_ok (hC:CxOk C) : ∀ {l pre:List Oper} {e:Env T} {a:Act} {k:K} {K:Env T → Option R} {r:R},A.toList = pre ++ l → (∀ o ∈ l,∀ d,o.dst = some d → d ∈ W) → Hl C.n F k0 W a0 e a k → ev2 C (ixs pre.length l) e K = some r →
    (∀ e' a' k', K e' = some r → Hl C.n F k0 W a0 e' a' k' → Q .normal a' k'.w) → wpOps C.P A Q (List.range' pre.length l.length) a k.w
  | [], pre, e, a, k, K, r, hA, hW, h, hk, hQ => by
    simp only [ixs,ev2] at hk
    exact hQ e a k hk h
  | o :: l, pre, e, a, k, K, r, hA, hW, h, hk, hQ => by
    simp only [ixs,ev2] at hk
    split at hk
    · rename_i hg hd
      obtain ⟨e1,k1,h1,h2,h3⟩:=frz_ok h hk
      rw [List.length_cons,List.range'_succ,← h2]
      have hnth:nth A.toList pre.length = some o:=by rw [hA]; exact nth_at
      refine step2_ok hC h3 hnth hg (fun d hd'=>⟨?_,hW o (by simp) d hd'⟩) h1 fun e' a' k' hk' h'=>?_
      · rw [hd'] at hd
        simp only [Nat.blt_eq] at hd
        exact hd
      · have := ev2_ok hC (l := l) (pre := pre ++ [o]) (e := e') (a := a') (k := k') (K := K) (r := r) (by rw [hA]; simp) (fun o' ho' => hW o' (by simp [ho'])) h' (by simpa using hk') hQ
        simpa using this
    · simp at hk

theorem chk2_congr {n:Nat} {ops0:List Oper} {ms:List Nat} : ∀ {ops:List Oper} {es es' : List Ent} {i:Nat},es.map (·.need) = es'.map (·.need) → chk2 n ops0 ms i ops es = chk2 n ops0 ms i ops es'
  | [],_,_,_,_=>by simp [chk2]
  | o::ops,[],[],i,_=>rfl
  | o::ops,[],_::_,i,h=>by simp at h
  | o::ops,_::_,[],i,h=>by simp at h
  | o :: ops, x :: es, y :: es', i, h => by
    simp only [List.map_cons,List.cons.injEq] at h
    simp only [chk2,chk2_congr h.2]
    congr 1
    unfold chkOp
    rw [h.1]
theorem chkS_congr {n m:Nat} {ops:List Oper} {es es' : List Ent} (h:es.map (·.need) = es'.map (·.need)):chkS n m ops es = chkS n m ops es':=by
  have hl:es.length = es'.length:=by simpa using congrArg List.length h
  unfold chkS
  rw [hl,chk2_congr h]
theorem chk_congr {n m:Nat} {ops:List Oper} {es es' : List Ent} (h:es.map (·.need) = es'.map (·.need)):chk n m ops es = chk n m ops es':=by
  unfold chk
  rw [chkS_congr h]
theorem esOf_need {l:List Oper}:(esOf l).map (·.need) = needs [] l:=by simp [esOf,List.map_map,Function.comp_def]

theorem allI_of {α:Type} {f:Nat → α → Bool} : ∀ {l:List α} {i:Nat},(∀ j x,nth l j = some x → f (i + j) x = true) → allI f i l = true
  | [],_,_=>rfl
  | x :: l, i, h => by
    simp only [allI,Bool.and_eq_true]
    exact ⟨h 0 x rfl,allI_of fun j y hy=>by have:=h (j + 1) y hy; rwa [show i + (j + 1) = i + 1 + j by omega] at this⟩

/-- what is known when the first part of a region has run -/
theorem post_hl {e0 e:Env T} {a:Act} {k:K} {ak:Act} {kk:K} {pre l:List Oper} {es:List Ent} (h0:Hl C.n F k0 W a0 e0 ak kk) (hW : ∀ o ∈ pre,∀ d,o.dst = some d → d ∈ W)
    (p:P1 e0 ak pre es e) (q:Post (pre ++ l) es pre.length ak kk a k):Hl C.n F k0 W a0 e a k:=by
  have old : ∀ t,lastIdx t pre 0 none = none → a.get t = ak.get t:=by
    intro t ht
    refine q.old t (allI_of fun j o ho=>?_)
    simp only [Nat.zero_add,Bool.or_eq_true,decide_eq_true_eq,bne_iff_ne]
    by_cases hj:j < pre.length
    · refine .inr ((lastIdx_none ht).2 o ?_)
      rw [nth_eq,List.getElem?_append_left hj] at ho
      exact List.mem_of_getElem? ho
    · exact .inl (by omega)
  have resOld : ∀ t,isRes (lk e t) = true → lk e t = lk e0 t∧a.get t = ak.get t:=by
    intro t ht
    have h1:=p.res t ht
    have h2:=p.slot t
    rw [h1] at h2
    exact ⟨h2,old t h1⟩
  have fpOld : ∀ t b,(lk e t).fp (a.get t) k b → (lk e0 t).fp (ak.get t) kk b:=by
    intro t b hb
    cases hr:isRes (lk e t) with
    | false=>exact absurd hb (fp_nonres hr _ _ b)
    | true =>
      obtain ⟨h1,h2⟩:=resOld t hr
      rw [h1,h2,AV.fp_grow _ q.grow (h0.sl t)] at hb; exact hb
  refine ⟨h0.g.then q.grow,q.size.trans h0.s,q.defers.trans h0.d,fun t ht=>?_,fun t=>?_,p.inv,fun t ht=>?_,fun t t' hne b hb hb'=>h0.ap t t' hne b (fpOld t b hb) (fpOld t' b hb'),h0.gl.le q.grow.le⟩
  · rw [← h0.old t ht]
    refine old t ?_
    cases hl:lastIdx t pre 0 none with
    | none=>rfl
    | some j =>
      rcases lastIdx_spec hl with h1 | ⟨o,_,h1,h2⟩
      · simp at h1
      · rw [nth_eq] at h1
        exact absurd (hW o (List.mem_of_getElem? h1) t h2) ht
  · have key : (lk e t).is ak (a.get t) k := by
      have h1:=p.slot t
      cases hl:lastIdx t pre 0 none with
      | none =>
        rw [hl] at h1
        dsimp only at h1
        rw [h1,old t hl]
        exact (lk e0 t).mono q.grow (h0.sl t)
      | some j =>
        rw [hl] at h1
        obtain ⟨Rr,nd,h2,h3⟩:=h1
        rcases h3 with h3 | ⟨R', rfl, h3⟩
        · rw [h3]; trivial
        · rcases lastIdx_spec hl with h4 | ⟨o, _, h4, h5⟩
          · simp at h4
          · have hj := nth_lt h4
            exact h3 _ _ (q.val j t R' nd (by simpa using hj) (by rw [nth_app (show nth pre j = some o by simpa using h4)]; exact h5) h2)
    refine (lk e t).congr (fun s hs=>?_) key
    exact (resOld s (p.inv t s hs)).2
  · obtain ⟨h1, h2⟩ := resOld t (unl_res ht)
    rw [h1] at ht ⊢
    rw [h2,AV.fp_grow _ q.grow (h0.sl t)]; exact h0.wr t ht

theorem Hl.grow {n:Nat} {a:Act} {e:Env T} {k k' : K} (h:Hl n F k0 W a0 e a k) (hg:Grow k k'):Hl n F k0 W a0 e a k':=
  ⟨h.g.then hg,h.s,h.d,h.old,fun t=>(lk e t).mono hg (h.sl t),h.inv,fun t ht=>by rw [AV.fp_grow _ hg (h.sl t)]; exact h.wr t ht,fun t t' hne=>by rw [AV.fp_grow _ hg (h.sl t),AV.fp_grow _ hg (h.sl t')]; exact h.ap t t' hne,h.gl.le hg.le⟩
/-- A box is told of again. -/
theorem Hl.addBox {n:Nat} {a:Act} {e:Env T} {k:K} (h:Hl n F k0 W a0 e a k) {s b:Nat} {t:Tp} {z:T.D t} (hs:lk e s = .top) (hb:a.get s = .pointer (some ⟨b,0,none⟩)) (hz:Box b z k)
    (hw : Wr F k0 (Eq b)) (ha : ∀ t', t' ≠ s → Apart (Eq b) ((lk e t').fp (a.get t') k)) : Hl n F k0 W a0 ((s, .box false t z) :: e) a k := by
  have lks:lk ((s,AV.box false t z)::e) s = .box false t z:=by rw [lk_cons,if_pos rfl]
  have lkt : ∀ t', t' ≠ s → lk ((s, AV.box false t z) :: e) t' = lk e t' := fun t' ht => by rw [lk_cons, if_neg (Ne.symm ht)]
  have hfp : ∀ c,(AV.box (T:=T) false t z).fp (a.get s) k c → b = c:=fun c hc=>by
    have:a.get s = .pointer (some ⟨c,0,none⟩):=hc
    rw [hb] at this; simpa using this
  refine ⟨h.g,h.s,h.d,h.old,fun t'=>?_,fun t' u hu=>?_,fun t' hu=>?_,fun t1 t2 hne c hc hc'=>?_,h.gl⟩
  · by_cases ht : t' = s
    · subst ht; rw [lks]; exact ⟨b,hb,hz⟩
    · rw [lkt t' ht]; exact h.sl t'
  · by_cases ht : t' = s
    · subst ht; rw [lks] at hu; simp [AV.ment] at hu
    · rw [lkt t' ht] at hu
      have h1:=h.inv t' u hu
      have h2 : u ≠ s := fun e' => by rw [e', hs] at h1; simp [isRes] at h1
      rw [lkt u h2]; exact h1
  · by_cases ht : t' = s
    · subst ht; rw [lks]; exact fun c hc=>hw c (hfp c hc)
    · rw [lkt t' ht] at hu ⊢; exact h.wr t' hu
  · by_cases h1 : t1 = s
    · subst h1
      rw [lks] at hc; rw [lkt t2 (Ne.symm hne)] at hc'
      exact ha t2 (Ne.symm hne) c (hfp c hc) hc'
    · rw [lkt t1 h1] at hc
      by_cases h2:t2 = s
      · subst h2
        rw [lks] at hc'
        exact ha t1 h1 c (hfp c hc') hc
      · rw [lkt t2 h2] at hc'
        exact h.ap t1 t2 hne c hc hc'
theorem stAt_spec : ∀ {l:List Oper} {i m:Nat} {o:Oper},stAt l i = some (m,o) → i ≤ m∧nth l (m - i) = some o
  | [],_,_,_,h=>by simp [stAt] at h
  | x :: l, i, m, o, h => by
    simp only [stAt] at h
    split at h
    · simp only [Option.some.injEq, Prod.mk.injEq] at h
      obtain ⟨rfl,rfl⟩:=h
      exact ⟨Nat.le_refl _,by simp [nth]⟩
    · obtain ⟨h1, h2⟩ := stAt_spec h
      exact ⟨by omega,by rw [show m - i = (m - (i + 1)) + 1 by omega]; exact h2⟩
theorem stPtr_spec {ops:List Oper} {m s pt:Nat} {t u:Tp} {L:Lens T t u} (h:stPtr C ops m s pt t = some ⟨u,L⟩):L.ok∧((pt = s∧L.off = 0) ∨
    ∃ j o st f,lastIdx pt (ops.take m) 0 none = some j∧nth ops j = some o∧o.op = .fieldAddr st (.tmp s) f∧o.guard = none∧hasBit (masks ops []) m j = true∧fldOff C.P st f = some L.off):=by
  unfold stPtr at h
  cases hb:Nat.beq pt s with
  | true =>
    rw [hb] at h
    simp only [cond_true] at h
    cases hn:notDst pt ops with
    | false=>rw [hn] at h; simp at h
    | true =>
      rw [hn] at h
      simp only [cond_true,Option.some.injEq,Sigma.mk.injEq] at h
      obtain ⟨rfl,h⟩:=h
      obtain rfl:=eq_of_heq h
      exact ⟨Lens.id_ok,.inl ⟨Nat.eq_of_beq_eq_true hb,rfl⟩⟩
  | false =>
    rw [hb] at h
    simp only [cond_false] at h
    split at h
    rotate_left
    · simp at h
    rename_i j hj
    split at h
    rotate_left
    · simp at h
    rename_i o ho
    split at h
    rotate_left
    · simp at h
    rename_i st s' f hop hgd
    cases hc:(Nat.beq s s' && hasBit (masks ops []) m j) with
    | false=>rw [hc] at h; simp at h
    | true=>
    rw [hc] at h
    simp only [cond_true] at h
    rw [Bool.and_eq_true] at hc
    obtain rfl:=Nat.eq_of_beq_eq_true hc.1
    unfold fldL at h
    split at h
    rotate_left
    · simp at h
    rename_i n
    split at h
    rotate_left
    · simp at h
    rename_i off w L' hoff hfl
    cases hb2:Nat.beq L'.off off with
    | false=>rw [hb2] at h; simp at h
    | true=>
    rw [hb2] at h
    simp only [cond_true,Option.some.injEq,Sigma.mk.injEq] at h
    obtain ⟨rfl,h⟩:=h
    obtain rfl:=eq_of_heq h
    obtain rfl:=Nat.eq_of_beq_eq_true hb2
    exact ⟨flens_ok hfl,.inr ⟨j,o,st,f,hj,ho,hop,hgd,hc.2,hoff⟩⟩
theorem evX_ok (hC:CxOk C) {id:Nat} {e:Env T} {a:Act} {k:K} {K:Env T → Option R} {r:R} (hW : ∀ o ∈ A.toList,∀ d,o.dst = some d → d ∈ W) (h:Hl C.n F k0 W a0 e a k) (hk:evX C A.toList e K = some r)
    (hQ : ∀ e' a' k', K e' = some r → Hl C.n F k0 W a0 e' a' k' → Q .normal a' k'.w) : (Code.region id A true).wp C.P Q a k.w := by
  unfold evX at hk
  split at hk
  rotate_left
  · simp at hk
  rename_i m o hst
  split at hk
  rotate_left
  · simp at hk
  rename_i ty pt y hop hdst hgd
  split at hk
  rotate_left
  · simp at hk
  rename_i t x0 hls
  split at hk
  rotate_left
  · simp at hk
  rename_i u L hptr
  generalize hsdef:stSlot A.toList m pt = s at hk hls hptr
  cases c4:notDst s A.toList with
  | false=>rw [c4] at hk; simp at hk
  | true=>
  rw [c4] at hk
  simp only [Bool.not_true,cond_false] at hk
  obtain ⟨hL,hpt⟩:=stPtr_spec hptr
  obtain ⟨_,hno⟩:=stAt_spec hst
  simp only [Nat.sub_zero] at hno
  rw [mapK_eq] at hk
  have hsl:=h.sl s
  rw [hls] at hsl
  obtain ⟨b,hb,hbx⟩:=hsl
  have hunl:unl (lk e s) = true:=by rw [hls]; rfl
  have hfps : ∀ (kx:Gb.K) c,b = c → (lk e s).fp (a.get s) kx c:=fun kx c hc=>by rw [hls]; subst hc; exact hb
  have hnsh : ∀ c,b = c → ¬ k.sh c:=fun c hc=>(h.lt s c (hfps _ c hc)).2
  generalize he0:(s,AV.top)::mapE (klA s) e = e0 at hk
  have hl0:lk e0 s = .top:=by rw [← he0,lk_cons,if_pos rfl]
  have hlt : ∀ t', t' ≠ s → lk e0 t' = klA s (lk e t') := fun t' ht => by rw [← he0, lk_cons, if_neg (Ne.symm ht), lk_mapE rfl]
  have hide : ∀ k1 k2,Grow k k1 → Chg (Eq b) k1 k2 → Hl C.n F k0 W a0 e0 a k2:=fun k1 k2 g c=>by
    rw [← he0]; exact (h.grow g).lose hunl c (hfps _)
  have hh0:Hl C.n F k0 W a0 e0 a k:=hide k k (Grow.refl k) (Chg.refl _ k)
  have p0:P1 e0 a [] [] e0:=⟨rfl,fun t=>rfl,fun t _=>rfl,hh0.inv⟩
  obtain ⟨cs,rest,es,e1,h1,h2,_,h4,h5,h6,h7,h8,h9⟩:=ev1_ok (n:=C.n) (F:=F) (kk:=k0) (W:=W) (aa:=a0) hC (bH:=b) (B:=0) A.toList (fun s' hs'=>by injection hs' with hs'; subst hs'; exact ⟨hb,c4⟩) (A.toList.length + 1) R none [] A.toList [] e0 _ r [] (by simp) p0 (fun es' o ho=>by unfold GuardIs; rw [ho]) hk
  simp only [List.nil_append] at h5 h6 h7
  cases rest with
  | nil=>simp [ixs] at h5
  | cons o1 rest=>
  simp only [ixs] at h5
  have hlen:A.toList.length - ((cs.length,o1)::ixs (cs.length + 1) rest).length = cs.length:=by
    have:(ixs (cs.length + 1) rest).length = rest.length:=by rw [← List.length_map (f:=(·.2)),ixs_map]
    rw [List.length_cons,this,h1]; simp
  rw [hlen] at h5
  cases hc:(Nat.beq cs.length m && chkS C.n m A.toList (esOf (A.toList.take m)) && chkB m A.toList && needSt m A.toList y && tyB C.P T ty u) with
  | false=>rw [hc] at h5; simp at h5
  | true=>
  rw [hc] at h5
  simp only [cond_true] at h5
  simp only [Bool.and_eq_true] at hc
  obtain ⟨⟨⟨⟨c1,c2⟩,c3⟩,c5⟩,c6⟩:=hc
  obtain rfl:=Nat.eq_of_beq_eq_true c1
  have ho1:o1 = o:=by
    rw [h1,nth_at,Option.some.injEq] at hno; exact hno
  subst ho1
  split at h5
  rotate_left
  · simp at h5
  rename_i z hz
  have htake:A.toList.take cs.length = cs:=by rw [h1,List.take_left']; rfl
  have hneed:(esOf cs).map (·.need) = es.map (·.need):=by rw [esOf_need,h4]
  rw [htake,chkS_congr hneed] at c2
  have hmA:cs.length < A.size:=by
    have:A.size = (cs ++ o1::rest).length:=by rw [← h1]; simp
    rw [this]; simp
  have hsz:A.size - (cs.length + 1) = rest.length:=by
    have:A.size = (cs ++ o1::rest).length:=by rw [← h1]; simp
    rw [this]; simp; omega
  have hst' : ∀ kb,Hl C.n F k0 W a0 e0 a kb → Steps C.P es a kb (A.toList.take cs.length) es:=fun kb hkb=>by
    rw [htake]
    have:=h7 kb hkb (Nat.zero_le _) []
    simpa using this
  have hl1:lk e1 s = .top:=by
    have:=h6.slot s
    rw [notDst_last (rest:=o1::rest) (by rw [← h1]; exact c4)] at this
    exact (show lk e1 s = lk e0 s from this).trans hl0
  refine wp_region_any hC.mix ?_
  let kd:Gb.K:=⟨{ k.w with drawn:=k.w.drawn + 1 },k.sh,k.lt⟩
  have hg:Grow k kd:=⟨rfl,rfl,rfl,Nat.le_refl _,fun _ _=>rfl,fun _ h=>h,fun _ _ h=>h,Nat.le_succ _⟩
  have hF : ∀ j,(Array.replicate A.size false).getD j false = true → False:=by
    intro j hj; simp [Array.getD_eq_getD_getElem?,Array.getElem?_replicate] at hj; split at hj <;> simp at hj
  have hwr:Wr F k0 (Eq b):=fun c hc=>h.wr s hunl c (hfps _ c hc)
  refine any_st (B := fun kb => Hl C.n F k0 W a0 e0 a kb ∧ Box b (L.set x0 z) kb ∧ ∀ t', t' ≠ s → (lk e t').fp (a.get t') kb = (lk e t').fp (a.get t') k) (k0 := k) h.s c2 hmA c3 (hst' k hh0) (fun kb hkb => hst' kb hkb.1) trivial ?_ ?_ A.size _ a kd (by simp) (by simp) (fun j hj => (hF j hj).elim) (.inl ⟨?_, ?_⟩)
  · -- the store
    intro a' k' D hD hinv hbind C' hC'
    have hk' : Hl C.n F k0 W a0 e a k':=h.grow hinv.grow
    have hs' : a'.get s = a.get s:=hinv.rest s fun i o' _ ho'=>notDst_spec c4 i o' ho'
    have hyv:IsV (α:=T.D u) z (a'.eval y) k':=by
      refine asT_is (a:=a) hz (opv_is (e:=e1) ?_)
      cases y with
      | tmp yt =>
        have h9:=h6.slot yt
        simp only [needSt,htake] at c5
        cases hli:lastIdx yt cs 0 none with
        | none =>
          rw [hli] at h9 c5
          have hu:a'.get yt = a.get yt:=hinv.rest yt fun i o' _ ho'=>notDst_spec c5 i o' ho'
          refine ⟨?_,fun _=>hu⟩
          rw [hu,show lk e1 yt = lk e0 yt from h9]
          exact (lk e0 yt).mono hinv.grow (hh0.sl yt)
        | some j =>
          rw [hli] at h9 c5
          have hDj:D j:=hasBit_spec (L:=A.toList) (D:=D) hinv.closed (j:=cs.length) (i:=j) (fun o' ho'=>hbind o' ho') c5
          obtain ⟨Rr,nd,h10,h11⟩:=h9
          refine ⟨?_,fun hr=>by rw [h6.res yt hr] at hli; simp at hli⟩
          rcases h11 with h11 | ⟨R', rfl, h11⟩
          · rw [h11]; trivial
          · rcases lastIdx_spec hli with h12 | ⟨oj, _, h12, h13⟩
            · simp at h12
            · have hnj : nth A.toList j = some oj := by rw [h1]; exact nth_app (by simpa using h12)
              exact h11 _ _ (hinv.vals j oj yt _ hDj hnj h13 h10)
      | const v=>trivial
      | global g=>simp [needSt] at c5
      | func g=>simp [needSt] at c5
    have hpv:IsAdr b L.off (a'.eval (.tmp pt)) k':=by
      rcases hpt with ⟨rfl,hoff⟩ | ⟨j,oj,st,f,hj,hoj,hopj,hgj,hbit,hfo⟩
      · rw [hoff]; exact hs'.trans hb
      · rw [htake] at hj
        have hDj:D j:=hasBit_spec (L:=A.toList) (D:=D) hinv.closed (j:=cs.length) (i:=j) (fun o' ho'=>hbind o' ho') hbit
        rcases lastIdx_spec hj with h12 | ⟨o2,_,h12,h13⟩
        · simp at h12
        · simp only [Nat.sub_zero] at h12
          have hnj:nth A.toList j = some o2:=by rw [h1]; exact nth_app h12
          rw [hoj,Option.some.injEq] at hnj
          subst hnj
          obtain ⟨nd,hen⟩:=h9 rfl j oj (.adr L.off) h12 hgj (by simp [hidO,hopj,hfo,Nat.beq_refl])
          exact hinv.vals j oj pt _ hDj hoj h13 hen
    have hw:wpOps C.P A (fun ex a w=>match ex with | .normal=>C' a w | _=>False) [cs.length] a' k'.w:=by
      refine tail_storeB (set:=L.set) (x:=x0) (z:=z) (b:=b) (off:=L.off) hno hgd hop hdst (tyB_sz c6) hL.2.1 hpv (hbx.grow hinv.grow) hyv fun k1 hch hbz=>?_
      show wpOps C.P A _ [] a' k1.w
      simp only [wpOps]
      refine hC' k1 k1 ⟨hide k' k1 hinv.grow hch,hbz,fun t' ht'=>(AV.fp_keep _ hch (fun c hc=>((h.grow hinv.grow).lt s c (hfps _ c hc)).2) (fun c hc hc'=>(h.grow hinv.grow).ap s t' (Ne.symm ht') c (hfps _ c hc') hc) ((h.grow hinv.grow).sl t')).trans (AV.fp_grow _ hinv.grow (h.sl t'))⟩ ⟨Grow.refl k1,hinv.size,hinv.defers,fun i oi d en hDi hoi hd hen=>?_,hinv.rest,hinv.closed,hinv.mem⟩
      have hv:=hinv.vals i oi d en hDi hoi hd hen
      obtain ⟨Rr,nd⟩:=en
      cases Rr with
      | none=>exact hv
      | some Rr =>
        have hmem:(⟨some Rr,nd⟩:Ent) ∈ es:=by rw [nth_eq] at hen; exact List.mem_of_getElem? hen
        rcases h8 _ hmem Rr rfl with ⟨av,rfl,hav1,hav2⟩ | ⟨ox,yx,hox,rfl⟩
        rotate_left
        · cases yx with
          | adr off=>exact hv
          | box t=>obtain ⟨_,_,h20,_⟩:=hidO_box hox; simp at h20
        refine av.keep hch (fun c hc=>(hk'.lt s c (hfps _ c hc)).2) (fun c hc=>absurd hc (fp_nonres hav1 _ _ c)) (fun s' hs' u hu hui c hc hc'=>?_) hv
        have h14:=hav2 s' (AV.ment2_ment hs')
        have hne : s' ≠ s := fun e' => by rw [e', hl0] at h14; simp [isRes] at h14
        rw [hlt s' hne] at h14
        have h15:isRes (lk e s') = true:=by
          rcases klA_or s (lk e s') with h16 | h16
          · rw [h16] at h14; exact h14
          · rw [h16] at h14; simp [isRes] at h14
        exact hk'.apm h15 hne hu hui c hc (hfps _ c hc')
    rw [wpOps_cons] at hw
    have hw2:wpOp C.P A (fun ex a w=>match ex with | .normal=>C' a w | _=>False) cs.length C' a' k'.w:=wpOp_mono (fun a2 w2 h2=>by simpa [wpOps] using h2) hw
    unfold wpOp at hw2 ⊢
    have hAo:A[cs.length]? = some o1:=by rw [← nth_toList]; exact hno
    rw [hAo] at hw2 ⊢
    dsimp only at hw2 ⊢
    split at hw2
    · rename_i hwant
      rw [if_pos hwant]
      rcases hw2 with hw2 | hw2
      · left
        unfold Oper.wp at *
        generalize (execOp a'.eval o1).run C.P k'.w = res at *
        cases res with
        | ok nx w'=>cases nx <;> simp only [Oper.upon] at hw2 ⊢ <;> first | exact hw2 | (refine Calls.mono hw2 fun ee w2 he=>?_; cases ee <;> first | exact he | exact he.elim | (obtain ⟨_,_,hb'⟩:=he; exact hb'.elim)) | (exact Rows.mono hw2 fun _ _ he=>he)
        | halt x w'=>cases x <;> simp only [Oper.upon] at hw2 ⊢ <;> first | exact hw2 | exact hw2.elim
      · obtain ⟨_,_,_,hb'⟩:=hw2; exact hb'.elim
    · rename_i hwant
      rw [if_neg hwant]; exact hw2
  · -- behind
    intro kb hkb a' k' hinv
    have hp:Post A.toList es cs.length a kb a' k':=Post.of hinv
    have hs' : a'.get s = a.get s:=hinv.rest s fun i o' _ ho'=>notDst_spec c4 i o' ho'
    have hp2:=hp
    rw [h1] at hp2
    have hh:=post_hl hkb.1 (fun o hoc=>hW o (by rw [h1]; simp [hoc])) h6 hp2
    have hh2:=hh.addBox (b:=b) (z:=L.set x0 z) hl1 (hs'.trans hb) (hkb.2.1.grow hinv.grow) hwr fun t' ht c hc hc'=>by
      cases hr:isRes (lk e1 t') with
      | false=>exact absurd hc' (fp_nonres hr _ _ c)
      | true =>
        have h9:=h6.res t' hr
        have h10:=h6.slot t'
        rw [h9] at h10
        have h11:lk e1 t' = lk e0 t':=h10
        have h12:a'.get t' = a.get t':=hinv.rest t' fun i o' hi ho' hd=>by
          have h13:=(lastIdx_none h9).2 o' (by
            rw [h1,nth_eq,List.getElem?_append_left hi] at ho'
            exact List.mem_of_getElem? ho')
          exact h13 hd
        rw [h11,h12,hlt t' ht] at hc'
        have h13:(lk e t').fp (a.get t') k c:=by
          rcases klA_or s (lk e t') with h16 | h16
          · have hslb : (lk e t').is a (a.get t') kb := by have := hkb.1.sl t'; rw [hlt t' ht, h16] at this; exact this
            rw [h16,AV.fp_grow _ hinv.grow hslb,hkb.2.2 t' ht] at hc'; exact hc'
          · rw [h16] at hc'; exact hc'.elim
        exact h.ap s t' (Ne.symm ht) c (hfps _ c hc) h13
    rw [hsz]
    have:=ev2_ok hC (A:=A) (Q:=Q) (l:=rest) (pre:=cs ++ [o1]) (e:=(s,.box false t (L.set x0 z))::e1) (a:=a') (k:=k') (r:=r) (by rw [h1]; simp) (fun o hor=>hW o (by rw [h1]; simp [hor])) hh2 (by simpa using h5) (fun e' a2 k2 hk2 h'=>by
      obtain ⟨e2,k3,g1,g2,g3⟩:=shareK_ok h' hk2
      rw [← g2]
      exact hQ e2 a2 k3 g1 g3)
    simpa using this
  · cases hx : (Array.replicate A.size false).getD cs.length false with
    | false=>rfl
    | true=>exact (hF _ hx).elim
  · exact ⟨hg,rfl,rfl,fun i o d e hi=>(hF i hi).elim,fun _ _=>rfl,fun j o _ hj=>(hF j hj).elim,fun i hi=>(hF i hi).elim⟩

theorem fp_sub {a:Act} {k:K} {x u:AV T} {v:Value} (hr:isRes x = true) (hsl:x.is a v k) (hu:isOB u = true) (hui:u.is a v k) : ∀ b,u.fp v k b → x.fp v k b:=by
  intro b hb
  cases u with
  | own l e' t xs => cases x with
    | own l' e'' t' xs'=>exact hb
    | box l' t' x'=>obtain ⟨c,rfl,_⟩:=hsl; simp [AV.fp,obF,ob] at hb
    | rs l' m z =>
      obtain ⟨F,h1⟩:=hsl
      show Rk.fp T (.c m) v k b
      rw [rp_fp h1]
      exact T.RProot _ _ _ _ _ _ h1 (.inr hb)
    | tr lf κ z l' =>
      obtain ⟨u,vs,rfl,_⟩:=hsl
      simp [AV.fp,obF,ob] at hb
    | _=>simp [isRes] at hr
  | box l t y => cases x with
    | own l' e'' t' xs' =>
      obtain ⟨c,rfl,_⟩:=hui
      rcases (show IsOwn 0 e'' xs' _ k from hsl) with ⟨e1,_⟩ | ⟨_,e1,_⟩ | ⟨_,_,_,_,_,e1,_⟩ <;> simp at e1
    | box l' t' x'=>exact hb
    | rs l' m z =>
      obtain ⟨F,h1⟩:=hsl
      show Rk.fp T (.c m) v k b
      rw [rp_fp h1]
      exact T.RProot _ _ _ _ _ _ h1 (.inl hb)
    | tr lf κ z l' =>
      obtain ⟨u,vs,rfl,_⟩:=hsl
      obtain ⟨c,e,_⟩:=hui
      simp at e
    | _=>simp [isRes] at hr
  | _=>simp [isOB] at hu
/-- Something is changed that no slot has for its own. -/
theorem Hl.away {n:Nat} {a:Act} {e:Env T} {k k' : K} {G:FP} (h:Hl n F k0 W a0 e a k) (c:Chg G k k') (hn : ∀ b,G b → ¬ k.sh b) (hw:Wr F k0 G) (ha : ∀ t,Apart ((lk e t).fp (a.get t) k) G):Hl n F k0 W a0 e a k':=
  have fpk : ∀ t,(lk e t).fp (a.get t) k' = (lk e t).fp (a.get t) k:=fun t=>AV.fp_keep _ c hn (ha t) (h.sl t)
  ⟨h.g.step c hw,h.s,h.d,h.old,fun t=>(lk e t).keep c hn (ha t) (fun s hs u hu hui b hb hb'=>
      ha s b (fp_sub (h.inv t s (AV.ment2_ment hs)) (h.sl s) hu hui b hb) hb') (h.sl t),h.inv,fun t ht=>by rw [fpk]; exact h.wr t ht,fun t t' hne=>by rw [fpk,fpk]; exact h.ap t t' hne,h.gl.le (c.le hn)⟩
theorem onlyDst_spec {s j:Nat} {ops:List Oper} (h:onlyDst s j ops = true) : ∀ i o,i ≠ j → nth ops i = some o → o.dst ≠ some s:=by
  intro i o hi ho hd
  have:=allI_spec h i o ho
  simp only [Nat.zero_add,hd,Bool.or_eq_true] at this
  rcases this with h1 | h1
  · exact hi (Nat.eq_of_beq_eq_true h1)
  · simp [Nat.beq_refl] at h1
theorem evN_ok (hC:CxOk C) {id:Nat} {e:Env T} {a:Act} {k:K} {K:Env T → Option R} {r:R} (hW : ∀ o ∈ A.toList,∀ d,o.dst = some d → d ∈ W) (h:Hl C.n F k0 W a0 e a k) (hk:evN C A.toList e K = some r)
    (hQ : ∀ e' a' k', K e' = some r → Hl C.n F k0 W a0 e' a' k' → Q .normal a' k'.w) : (Code.region id A true).wp C.P Q a k.w := by
  unfold evN at hk
  split at hk
  rotate_left
  · simp at hk
  rename_i m o hst
  split at hk
  rotate_left
  · simp at hk
  rename_i ty pt y hop hdst hgd
  split at hk
  rotate_left
  · simp at hk
  rename_i ja hja
  split at hk
  rotate_left
  · simp at hk
  rename_i oa hoa
  split at hk
  rotate_left
  · simp at hk
  rename_i tya hopa hgda
  split at hk
  rotate_left
  · simp at hk
  rename_i t htid
  obtain ⟨_,hno⟩:=stAt_spec hst
  simp only [Nat.sub_zero] at hno
  have p0:P1 e a [] [] e:=⟨rfl,fun t=>rfl,fun t _=>rfl,h.inv⟩
  obtain ⟨cs,rest,es,e1,h1,h2,_,h4,h5,h6,h7,h8,h9⟩:=ev1_ok (n:=C.n) (F:=F) (kk:=k0) (W:=W) (aa:=a0) hC (bH:=0) (B:=k.w.heap.size) A.toList (fun s' hs'=>by simp at hs') (A.toList.length + 1) R none [] A.toList [] e _ r [] (by simp) p0 (fun es' o ho=>by unfold GuardIs; rw [ho]) hk
  simp only [List.nil_append] at h5 h6 h7
  cases rest with
  | nil=>simp [ixs] at h5
  | cons o1 rest=>
  simp only [ixs] at h5
  have hlen:A.toList.length - ((cs.length,o1)::ixs (cs.length + 1) rest).length = cs.length:=by
    have:(ixs (cs.length + 1) rest).length = rest.length:=by rw [← List.length_map (f:=(·.2)),ixs_map]
    rw [List.length_cons,this,h1]; simp
  rw [hlen] at h5
  cases hc:(Nat.beq cs.length m && chkS C.n m A.toList (esOf (A.toList.take m)) && chkC m (lateL m A.toList) A.toList && lateOk m (lateL m A.toList) A.toList.toArray && hasBit (masks A.toList []) m ja && onlyDst pt ja A.toList && needSt m A.toList y && tyB C.P T ty t && zeroB C.P T tya t && isTop (lk e1 pt) && !(isRes (lk e pt))) with
  | false=>rw [hc] at h5; simp at h5
  | true=>
  rw [hc] at h5
  simp only [cond_true] at h5
  simp only [Bool.and_eq_true,Bool.not_eq_true'] at hc
  obtain ⟨⟨⟨⟨⟨⟨⟨⟨⟨⟨c1,c2⟩,c3⟩,c11⟩,c4⟩,c7⟩,c5⟩,c6⟩,c8⟩,c9⟩,c10⟩:=hc
  rw [Array.toArray_toList] at c11
  obtain rfl:=Nat.eq_of_beq_eq_true c1
  have ho1:o1 = o:=by
    rw [h1,nth_at,Option.some.injEq] at hno; exact hno
  subst ho1
  split at h5
  rotate_left
  · simp at h5
  rename_i z hz
  have htake:A.toList.take cs.length = cs:=by rw [h1,List.take_left']; rfl
  have hneed:(esOf cs).map (·.need) = es.map (·.need):=by rw [esOf_need,h4]
  rw [htake,chkS_congr hneed] at c2
  rw [htake] at hja
  have hmA:cs.length < A.size:=by
    have:A.size = (cs ++ o1::rest).length:=by rw [← h1]; simp
    rw [this]; simp
  have hsz:A.size - (cs.length + 1) = rest.length:=by
    have:A.size = (cs ++ o1::rest).length:=by rw [← h1]; simp
    rw [this]; simp; omega
  have hst' : ∀ kb,Hl C.n F k0 W a0 e a kb → k.w.heap.size ≤ kb.w.heap.size → Steps C.P es a kb (A.toList.take cs.length) es:=fun kb hkb hkz=>by
    rw [htake]
    have:=h7 kb hkb hkz []
    simpa using this
  have hl1:lk e1 pt = .top:=by
    cases hlt:lk e1 pt <;> rw [hlt] at c9 <;> first | rfl | simp [isTop] at c9
  -- the operation that makes the box
  obtain ⟨hjl,hdpt,nda,hea⟩:nth cs ja = some oa∧oa.dst = some pt∧∃ nd,nth es ja = some ⟨some (IsBoxS (T.D t) k.w.heap.size),nd⟩:=by
    rcases lastIdx_spec hja with h12 | ⟨o2,_,h12,h13⟩
    · simp at h12
    · simp only [Nat.sub_zero] at h12
      have hnj:nth A.toList ja = some o2:=by rw [h1]; exact nth_app h12
      rw [hoa,Option.some.injEq] at hnj
      subst hnj
      refine ⟨h12,h13,?_⟩
      exact h9 rfl ja oa (.box t) h12 hgda (by simp [hidO,hopa,h13,Nat.beq_refl,c8])
  refine wp_mono (Q:=QN Q) ?_ (fun e a w h=>by cases e <;> first | exact h | exact h.elim)
  refine wp_region_any hC.mix ?_
  let kd:Gb.K:=⟨{ k.w with drawn:=k.w.drawn + 1 },k.sh,k.lt⟩
  have hg:Grow k kd:=⟨rfl,rfl,rfl,Nat.le_refl _,fun _ _=>rfl,fun _ h=>h,fun _ _ h=>h,Nat.le_succ _⟩
  have hF : ∀ j,(Array.replicate A.size false).getD j false = true → False:=by
    intro j hj; simp [Array.getD_eq_getD_getElem?,Array.getElem?_replicate] at hj; split at hj <;> simp at hj
  -- what the new box's block is to the rest
  have hwr : ∀ b,k.w.heap.size ≤ b → Wr F k0 (Eq b):=fun b hb c hc=>by subst hc; exact .inr (Nat.le_trans h.g.size hb)
  have hap : ∀ b, k.w.heap.size ≤ b → ∀ t', Apart ((lk e t').fp (a.get t') k) (Eq b) := fun b hb t' c hc hc' => by
    subst hc'
    have:=(h.lt t' b hc).1
    omega
  refine any_stP (pt := pt) (ja := ja) (B := fun kb u => ∃ b, u = .pointer (some ⟨b, 0, none⟩) ∧ k.w.heap.size ≤ b ∧ k.w.heap.size ≤ kb.w.heap.size ∧ Hl C.n F k0 W a0 e a kb ∧ Box b z kb ∧ ∀ t', (lk e t').fp (a.get t') kb = (lk e t').fp (a.get t') k) (k0 := k) (fun i o' hi ho' => onlyDst_spec c7 i o' hi ho') c4 h.s c2 hmA c3 c11 (fun _ _ _ h => h) (hst' k h (Nat.le_refl _)) (fun kb u ⟨b, _, _, hkz, hkb, _, _⟩ => hst' kb hkb hkz) trivial ?_ ?_ A.size _ a kd (by simp) (by simp) (fun j hj => (hF j hj).elim) (.inl ⟨?_, ?_⟩)
  · -- the store
    intro a' k' D hD hinv hbind C' hC'
    have hk' : Hl C.n F k0 W a0 e a k':=h.grow hinv.grow
    obtain ⟨x,b,hpv,hsb,hbx⟩:IsBoxS (T.D t) k.w.heap.size (a'.get pt) k':=by
      have hDj:D ja:=hasBit_spec (L:=A.toList) (D:=D) hinv.closed (j:=cs.length) (i:=ja) (fun o' ho'=>hbind o' ho') c4
      exact hinv.vals ja oa pt _ hDj hoa hdpt hea
    have hyv:IsV (α:=T.D t) z (a'.eval y) k':=by
      refine asT_is (a:=a) hz (opv_is (e:=e1) ?_)
      cases y with
      | tmp yt =>
        have h9:=h6.slot yt
        simp only [needSt,htake] at c5
        cases hli:lastIdx yt cs 0 none with
        | none =>
          rw [hli] at h9 c5
          have hu:a'.get yt = a.get yt:=hinv.rest yt fun i o' _ ho'=>notDst_spec c5 i o' ho'
          refine ⟨?_,fun _=>hu⟩
          rw [hu,show lk e1 yt = lk e yt from h9]
          exact (lk e yt).mono hinv.grow (h.sl yt)
        | some j =>
          rw [hli] at h9 c5
          have hDj:D j:=hasBit_spec (L:=A.toList) (D:=D) hinv.closed (j:=cs.length) (i:=j) (fun o' ho'=>hbind o' ho') c5
          obtain ⟨Rr,nd,h10,h11⟩:=h9
          refine ⟨?_,fun hr=>by rw [h6.res yt hr] at hli; simp at hli⟩
          rcases h11 with h11 | ⟨R', rfl, h11⟩
          · rw [h11]; trivial
          · rcases lastIdx_spec hli with h12 | ⟨oj, _, h12, h13⟩
            · simp at h12
            · have hnj : nth A.toList j = some oj := by rw [h1]; exact nth_app (by simpa using h12)
              exact h11 _ _ (hinv.vals j oj yt _ hDj hnj h13 h10)
      | const v=>trivial
      | global g=>simp [needSt] at c5
      | func g=>simp [needSt] at c5
    have hw:wpOps C.P A (fun ex a w=>match ex with | .normal=>C' a w | _=>False) [cs.length] a' k'.w:=by
      refine tail_storeB (set:=fun _ y=>y) (x:=x) (z:=z) (b:=b) (off:=0) hno hgd hop hdst (tyB_sz c6) Upd.self (show IsAdr b 0 (a'.eval (.tmp pt)) k' from hpv) hbx hyv fun k1 hch hbz=>?_
      show wpOps C.P A _ [] a' k1.w
      simp only [wpOps]
      have hnsh : ∀ c,b = c → ¬ k'.sh c:=fun c hc=>hbx.nshF c hc
      refine hC' k1 k1 ⟨b,hpv,hsb,Nat.le_trans hinv.grow.size hch.size,hk'.away hch hnsh (hwr b hsb) (fun t'=>by rw [AV.fp_grow _ hinv.grow (h.sl t')]; exact hap b hsb t'),hbz,fun t'=>(AV.fp_keep _ hch hnsh (by rw [AV.fp_grow _ hinv.grow (h.sl t')]; exact hap b hsb t') (hk'.sl t')).trans (AV.fp_grow _ hinv.grow (h.sl t'))⟩ ⟨Grow.refl k1,hinv.size,hinv.defers,fun i oi d en hDi hoi hd hen=>?_,hinv.rest,hinv.closed,hinv.mem⟩
      have hv:=hinv.vals i oi d en hDi hoi hd hen
      obtain ⟨Rr,nd⟩:=en
      cases Rr with
      | none=>exact hv
      | some Rr =>
        have hmem:(⟨some Rr,nd⟩:Ent) ∈ es:=by rw [nth_eq] at hen; exact List.mem_of_getElem? hen
        rcases h8 _ hmem Rr rfl with ⟨av,rfl,hav1,hav2⟩ | ⟨ox,yx,hox,rfl⟩
        rotate_left
        · cases yx with
          | adr off=>exact hv
          | box t2 =>
            obtain ⟨_,_,h20,_⟩:=hidO_box hox
            injection h20 with h21 h22
            subst h22
            obtain ⟨x2,b2,hp2,hs2,hb2⟩:=hv
            by_cases hbb:b2 = b
            · subst hbb; exact ⟨z,b2,hp2,hs2,hbz⟩
            · exact ⟨x2,b2,hp2,hs2,hb2.keep hch (fun e'=>hbb e'.symm) hnsh⟩
        refine av.keep hch hnsh (fun c hc=>absurd hc (fp_nonres hav1 _ _ c)) (fun s' hs' u hu hui c hc hc'=>?_) hv
        have h14:=hav2 s' (AV.ment2_ment hs')
        subst hc'
        have h15:=fp_sub h14 (hk'.sl s') hu hui b hc
        rw [AV.fp_grow _ hinv.grow (h.sl s')] at h15
        have:=(h.lt s' b h15).1
        omega
    rw [wpOps_cons] at hw
    have hw2:wpOp C.P A (fun ex a w=>match ex with | .normal=>C' a w | _=>False) cs.length C' a' k'.w:=wpOp_mono (fun a2 w2 h2=>by simpa [wpOps] using h2) hw
    unfold wpOp at hw2 ⊢
    have hAo:A[cs.length]? = some o1:=by rw [← nth_toList]; exact hno
    rw [hAo] at hw2 ⊢
    dsimp only at hw2 ⊢
    split at hw2
    · rename_i hwant
      rw [if_pos hwant]
      rcases hw2 with hw2 | hw2
      · left
        unfold Oper.wp at *
        generalize (execOp a'.eval o1).run C.P k'.w = res at *
        cases res with
        | ok nx w'=>cases nx <;> simp only [Oper.upon] at hw2 ⊢ <;> first | exact hw2 | (refine Calls.mono hw2 fun ee w2 he=>?_; cases ee <;> first | exact he | exact he.elim | (obtain ⟨_,_,hb'⟩:=he; exact hb'.elim)) | (exact Rows.mono hw2 fun _ _ he=>he)
        | halt x w'=>cases x <;> simp only [Oper.upon] at hw2 ⊢ <;> first | exact hw2 | exact hw2.elim
      · obtain ⟨_,_,_,hb'⟩:=hw2; exact hb'.elim
    · rename_i hwant
      rw [if_neg hwant]; exact hw2
  · -- behind
    intro kb a' k' ⟨b,hpv,hsb,hkz,hkb,hbz,hfk⟩ hinv
    have hp:Post A.toList es cs.length a kb a' k':=Post.of hinv
    have hp2:=hp
    rw [h1] at hp2
    have hh:=post_hl hkb (fun o hoc=>hW o (by rw [h1]; simp [hoc])) h6 hp2
    have hh2:=hh.addBox (b:=b) (z:=z) hl1 hpv (hbz.grow hinv.grow) (hwr b hsb) fun t' ht c hc hc'=>by
      subst hc
      cases hr:isRes (lk e1 t') with
      | false=>exact absurd hc' (fp_nonres hr _ _ b)
      | true =>
        have h9:=h6.res t' hr
        have h10:=h6.slot t'
        rw [h9] at h10
        have h11:lk e1 t' = lk e t':=h10
        have h12:a'.get t' = a.get t':=hinv.rest t' fun i o' hi ho' hd=>by
          have h13:=(lastIdx_none h9).2 o' (by
            rw [h1,nth_eq,List.getElem?_append_left hi] at ho'
            exact List.mem_of_getElem? ho')
          exact h13 hd
        rw [h11,h12,AV.fp_grow _ hinv.grow (hkb.sl t'),hfk t'] at hc'
        exact hap b hsb t' b hc' rfl
    rw [hsz]
    have:=ev2_ok hC (A:=A) (Q:=QN Q) (l:=rest) (pre:=cs ++ [o1]) (e:=(pt,.box false t z)::e1) (a:=a') (k:=k') (r:=r) (by rw [h1]; simp) (fun o hor=>hW o (by rw [h1]; simp [hor])) hh2 (by simpa using h5) (fun e' a2 k2 hk2 h'=>by
      obtain ⟨e2,k3,g1,g2,g3⟩:=shareK_ok h' hk2
      rw [← g2]
      exact hQ e2 a2 k3 g1 g3)
    simpa using this
  · cases hx : (Array.replicate A.size false).getD cs.length false with
    | false=>rfl
    | true=>exact (hF _ hx).elim
  · exact ⟨hg,rfl,rfl,fun i o d e hi=>(hF i hi).elim,fun _ _=>rfl,fun j o _ hj=>(hF j hj).elim,fun i hi=>(hF i hi).elim⟩

theorem Grow.fresh {k k1 k2:K} {b:Nat} (g:Grow k k1) (c:Chg (Eq b) k1 k2) (hb:k.w.heap.size ≤ b):Grow k k2 where
  tape:=c.tape.trans g.tape
  os:=c.os.trans g.os
  out:=c.out.trans g.out
  size:=Nat.le_trans g.size c.size
  blk i hi:=(c.blk i (Nat.lt_of_lt_of_le hi g.size) (fun e=>by omega)).trans (g.blk i hi)
  up i hi:=c.up i (g.up i hi)
  new i hi hs:=(c.new i (Nat.lt_of_lt_of_le hi g.size) hs).elim (fun h=>g.new i hi h) fun e=>by omega
  drawn:=Nat.le_trans g.drawn c.drawn
theorem evT_cases {ops:List Oper} {l:List Oper} {m:Nat} {e:Env T} {K:Env T → Option R} {r:R} (h:evT C ops (ixs m l) e K = some r) :
    (∃ oa os d t z,l = [oa,os]∧rawAS C e oa os = some (d,⟨t,z⟩)∧put e d (.box false t z) K = some r) ∨ (ev2 C (ixs m l) e fun e''=>shareK C ops e'' K) = some r:=by
  match l,h with
  | [oa, os], h =>
    simp only [ixs,evT] at h
    cases hr:rawAS C e oa os with
    | none=>rw [hr] at h; exact .inr h
    | some x =>
      obtain ⟨d,t,z⟩:=x
      rw [hr] at h
      exact .inl ⟨oa,os,d,t,z,rfl,hr,h⟩
  | [],h=>exact .inr h
  | [_],h=>exact .inr h
  | _::_::_::_,h=>exact .inr h
theorem rawB_ok {P:Program} {ty:TypeId} {t:Tp} (h:rawB P T ty t = true):(T.e t).agg = true∧∃ z:Array Value,(∀ w,(zeroValue ty).run P w = .ok (.agg z) w)∧z.size = (T.e t).sz∧∀ u ∈ z.toList,u.oneCell' = true:=by
  unfold rawB at h
  split at h
  · rename_i i hi
    split at h
    · rename_i z hz
      simp only [Bool.and_eq_true,List.all_eq_true] at h
      exact ⟨h.1.1,z,fun w=>by simp [zeroValue,typeInfo,hi,hz],Nat.eq_of_beq_eq_true h.1.2,h.2⟩
    · simp at h
  · simp at h
theorem raw_ok {pre:List Oper} {oa os:Oper} {e:Env T} {a:Act} {k:K} {d:Nat} {t:Tp} {z:T.D t} {Kc:Env T → Option R} {r:R} (hA:A.toList = pre ++ [oa,os]) (hW : ∀ o ∈ [oa,os],∀ d,o.dst = some d → d ∈ W) (h:Hl C.n F k0 W a0 e a k)
    (hr : rawAS C e oa os = some (d, ⟨t, z⟩)) (hput : put e d (.box false t z) Kc = some r) (hQ : ∀ e' a' k', Kc e' = some r → Hl C.n F k0 W a0 e' a' k' → Q .normal a' k'.w) : wpOps C.P A Q (List.range' pre.length 2) a k.w := by
  unfold rawAS at hr
  split at hr
  · rename_i ty d0 ty' d' y ho1 hd1 hg1 ho2 hd2 hg2
    cases hb:(Nat.beq d' d0 && Nat.blt d0 C.n && !(sameTmp (.tmp d0) y)) with
    | false=>rw [hb] at hr; simp at hr
    | true =>
      rw [hb] at hr
      simp only [cond_true] at hr
      simp only [Bool.and_eq_true,Bool.not_eq_true'] at hb
      obtain ⟨⟨hb1,hb2⟩,hb3⟩:=hb
      obtain rfl:=Nat.eq_of_beq_eq_true hb1
      rw [Nat.blt_eq] at hb2
      split at hr
      · rename_i t0 ht0
        cases hc:(!(zeroB C.P T ty t0) && rawB C.P T ty t0 && tyB C.P T ty' t0) with
        | false=>rw [hc] at hr; simp at hr
        | true =>
          rw [hc] at hr
          simp only [cond_true] at hr
          simp only [Bool.and_eq_true] at hc
          split at hr
          · rename_i z0 hz0
            simp only [Option.some.injEq,Prod.mk.injEq] at hr
            obtain ⟨rfl,hr⟩:=hr
            injection hr with hr1 hr2
            subst hr1
            obtain rfl:=eq_of_heq hr2
            obtain ⟨hag,zc,hzr,hzs,hz1⟩:=rawB_ok hc.1.2
            have hA1:nth A.toList pre.length = some oa:=by rw [hA]; exact nth_at
            have hA2:nth A.toList (pre.length + 1) = some os:=by
              rw [hA,show pre ++ [oa,os] = (pre ++ [oa]) ++ [os] by simp,show pre.length + 1 = (pre ++ [oa]).length by simp]; exact nth_at
            have hv0:IsV z0 (a.eval y) k:=asT_is hz0 (opv_is (e:=e) (a0:=a) (by
              cases y with
              | tmp t=>exact ⟨h.sl t,fun _=>rfl⟩
              | global _=>exact h.gl
              | _=>trivial))
            show wpOps C.P A Q [pre.length,pre.length + 1] a k.w
            have hraw : ∀ k:Go.Gb.K,IsV (⟨zc.toList⟩:RawC (T.e t0).sz) (.agg zc) k:=fun k=>⟨zc.toList,by show Value.agg zc = .agg zc.toList.toArray; simp,rfl,by simpa using hzs,hz1⟩
            refine tail_does hA1 hg1 hd1 (by rw [h.s]; exact hb2) trivial (ok_alloc (x:=(⟨zc.toList⟩:RawC (T.e t0).sz)) k.w.heap.size (Nat.le_refl _) ho1 ⟨.agg zc,hzr,hraw⟩) fun a' k' hsz hdf hoth hgr hbx=>?_
            obtain ⟨b,hpb,hbs,hBx⟩:=hbx
            have hye:a'.eval y = a.eval y:=by
              cases y with
              | tmp t =>
                refine hoth t fun e1=>?_
                subst e1
                simp [sameTmp] at hb3
              | _=>rfl
            have hv1:IsV z0 (a'.eval y) k':=by rw [hye]; exact Mono.mono hgr hv0
            obtain ⟨cs,ecs,hrep⟩:=hv1
            refine tail_storeB (α:=RawC (T.e t0).sz) (β:=RawC (T.e t0).sz) (z:=⟨cs⟩) (b:=b) hA2 hg2 ho2 hd2 (tyB_sz hc.2) Upd.self ?_ hBx ⟨cs,?_,rfl,Enc.len hrep,Enc.one hrep⟩ fun k'' hch hz=>?_
            · show a'.get d' = _
              rw [hpb]
            · rw [ecs,hag]; rfl
            · have hle := hch.le (fun c e => e ▸ hBx.own)
              have hB:Box b z0 k'':=hz.unraw (Enc.mono hle hrep)
              obtain ⟨e', h1, h2⟩ := h.putFresh (d := d') (av := .box false t0 z0) (hW oa (by simp) _ hd1) (Grow.fresh hgr hch hbs) hsz hdf hoth ⟨b, hpb, hB⟩ (fun _ hm => by simp [AV.ment] at hm) (fun c hcf => by
                have:a'.get d' = .pointer (some ⟨c,0,none⟩):=hcf
                rw [hpb] at this
                simp only [Value.pointer.injEq,Option.some.injEq,Addr.mk.injEq,and_true] at this
                omega) hput
              exact hQ e' a' k'' h1 h2
          · simp at hr
      · simp at hr
  · simp at hr
theorem evR_ok (hC:CxOk C) {id:Nat} {draw:Bool} {e:Env T} {a:Act} {k:K} {K:Env T → Option R} {r:R} (hW : ∀ o ∈ A.toList,∀ d,o.dst = some d → d ∈ W) (h:Hl C.n F k0 W a0 e a k) (hk:evR C A.toList draw e K = some r)
    (hQ : ∀ e' a' k', K e' = some r → Hl C.n F k0 W a0 e' a' k' → Q .normal a' k'.w) : (Code.region id A draw).wp C.P Q a k.w := by
  unfold evR at hk
  cases hlate:(draw && (lateSt A.toList || (newSt A.toList && lateA A.toList))) with
  | true =>
    rw [hlate] at hk
    simp only [cond_true] at hk
    rw [Bool.and_eq_true] at hlate
    obtain rfl:=hlate.1
    cases hnw:newSt A.toList with
    | true=>rw [hnw] at hk; exact evN_ok hC hW h hk hQ
    | false=>rw [hnw] at hk; exact evX_ok hC hW h hk hQ
  | false=>
  rw [hlate] at hk
  simp only [cond_false] at hk
  have p0:P1 e a [] [] e:=⟨rfl,fun t=>rfl,fun t _=>rfl,h.inv⟩
  obtain ⟨cs,rest,es,e1,h1,h2,_,h4,h5,h6,h7,_⟩:=ev1_ok (n:=C.n) (F:=F) (kk:=k0) (W:=W) (aa:=a0) hC (bH:=0) (B:=0) A.toList (fun s hs=>by simp at hs) (A.toList.length + 1) R none [] A.toList [] e _ r [] (by simp) p0 (fun es' o ho=>by unfold GuardIs; rw [ho]) hk
  simp only [List.nil_append] at h5 h6 h7
  have hlen:A.toList.length - (ixs cs.length rest).length = cs.length:=by
    have:(ixs cs.length rest).length = rest.length:=by rw [← List.length_map (f:=(·.2)),ixs_map]
    rw [this,h1]; simp
  have htake:A.toList.take cs.length = cs:=by rw [h1,List.take_left']; rfl
  rw [hlen,htake] at h5
  have hneed:(esOf cs).map (·.need) = es.map (·.need):=by rw [esOf_need,h4]
  have hst:Steps C.P es a k (A.toList.take cs.length) es:=by
    rw [htake]
    have:=h7 k h (Nat.zero_le _) []
    simpa using this
  have hsz:A.size - cs.length = rest.length:=by
    have:A.size = (cs ++ rest).length:=by rw [← h1]; simp
    rw [this]; simp
  -- behind the first part
  have tail:evT C A.toList (ixs cs.length rest) e1 K = some r → ∀ b q,Post A.toList es cs.length a k b q → wpOps C.P A Q (List.range' cs.length (A.size - cs.length)) b q.w:=by
    intro hev b q hp
    rw [hsz]
    rw [h1] at hp
    have hh:=post_hl h (fun o ho=>hW o (by rw [h1]; simp [ho])) h6 hp
    rcases evT_cases hev with ⟨oa,os,d,t,z,rfl,hr,hput⟩ | hev
    · exact raw_ok h1 (fun o ho=>hW o (by rw [h1]; simp [ho])) hh hr hput hQ
    exact ev2_ok hC h1 (fun o ho=>hW o (by rw [h1]; simp [ho])) hh hev fun e' a' k' hk' h'=>by
      obtain ⟨e2,k2,g1,g2,g3⟩:=shareK_ok h' hk'
      rw [← g2]
      exact hQ e2 a' k2 g1 g3
  cases draw with
  | false =>
    simp only [cond_false] at h5
    rw [chkS_congr hneed] at h5
    cases hc:chkS C.n cs.length A.toList es with
    | false=>rw [hc] at h5; simp at h5
    | true =>
      rw [hc] at h5
      exact regionS es h.s hc hst trivial (tail h5)
  | true =>
    simp only [cond_true] at h5
    rw [chk_congr hneed] at h5
    cases hc:chk C.n cs.length A.toList es with
    | false=>rw [hc] at h5; simp at h5
    | true =>
      rw [hc] at h5
      exact region es hC.mix h.s hc hst trivial (tail h5)
end
end Go.Gb

/- General part of the proofs: environments over joins. -/
namespace Go.Gb
variable {T:Tb} {R:Type}

def lockE (W:List Nat) (e:Env T):Env T:=e.map fun p=>(p.1,bif W.contains p.1 then p.2 else lkA p.2)
theorem lockK_eq (W:List Nat) : ∀ (e:Env T) (k:Env T → Option R),lockK W e k = k (lockE W e)
  | [],_=>rfl
  | (t,a)::e,k=>by rw [lockK,lockK_eq W e]; rfl
theorem lk_lockE {W:List Nat} : ∀ (e:Env T) (t:Nat),lk (lockE W e) t = bif W.contains t then lk e t else lkA (lk e t)
  | [],t=>by show AV.top = _; cases W.contains t <;> rfl
  | (s, x) :: e, t => by
    show lk ((s,_)::lockE W e) t = _
    rw [lk_cons,lk_cons,lk_lockE e]
    split
    · rename_i h; subst h; rfl
    · rfl
def keepE (lock:Bool) (W Wd:List Nat):Env T → Env T
  | []=>[]
  | (t,a)::e=>bif W.contains t then keepE lock W Wd e else (t,bif Wd.contains t then a else keepA lock (W ++ Wd) a)::keepE lock W Wd e
theorem keepK_eq (lock:Bool) (W Wd:List Nat) : ∀ (e:Env T) (k:Env T → Option R),keepK lock W Wd e k = k (keepE lock W Wd e)
  | [],_=>rfl
  | (t,a)::e,k=>by rw [keepK,keepK_eq lock W Wd e]; rfl
theorem lk_keepE {lock:Bool} {W Wd:List Nat} : ∀ (e:Env T) (t:Nat),lk (keepE lock W Wd e) t = bif W.contains t then .top else bif Wd.contains t then lk e t else keepA lock (W ++ Wd) (lk e t)
  | [],t=>by show AV.top = _; cases W.contains t <;> cases Wd.contains t <;> rfl
  | (s, x) :: e, t => by
    simp only [keepE]
    cases hs:W.contains s with
    | true =>
      simp only [cond_true]
      rw [lk_keepE e,lk_cons]
      split
      · rename_i h; subst h; rw [hs]; rfl
      · rfl
    | false =>
      simp only [cond_false]
      rw [lk_cons,lk_cons,lk_keepE e]
      split
      · rename_i h; subst h; rw [hs]; rfl
      · rfl

theorem lkA_is {a:Act} {x:AV T} {v:Value} {k:K} (h:x.is a v k):(lkA x).is a v k:=by cases x <;> exact h
theorem lkA_fp {x:AV T} {v:Value} {k:K}:(lkA x).fp v k = x.fp v k:=by cases x <;> rfl
theorem lkA_res {x:AV T}:isRes (lkA x) = isRes x:=by cases x <;> rfl
theorem lkA_ment {x:AV T} {s:Nat}:(lkA x).ment s = x.ment s:=by cases x <;> rfl
theorem lkA_unl {x:AV T}:unl (lkA x) = false:=by cases x <;> rfl

/-- the blocks of some slots -/
def FU (e:Env T) (a:Act) (k:K) (L:List Nat):FP:=fun b=>∃ t,L.contains t = true∧unl (lk e t) = true∧(lk e t).fp (a.get t) k b

section
variable {n:Nat} {F:FP} {k0:K} {W:List Nat} {a0:Act} {e e' : Env T} {a a' : Act} {k k' : K}
theorem Hl.lock (h:Hl n F k0 W a0 e a k) (L Wc:List Nat):Hl n (FU e a k L) k Wc a (lockE L e) a k:=by
  have fpe : ∀ t,(lk (lockE L e) t).fp (a.get t) k = (lk e t).fp (a.get t) k:=fun t=>by
    rw [lk_lockE]; cases L.contains t
    · exact lkA_fp
    · rfl
  refine ⟨Chg.refl _ k,h.s,h.d,fun _ _=>rfl,fun t=>?_,fun t s hs=>?_,fun t ht=>?_,fun t t' hne=>by rw [fpe,fpe]; exact h.ap t t' hne,h.gl⟩
  · rw [lk_lockE]; cases L.contains t
    · exact lkA_is (h.sl t)
    · exact h.sl t
  · have h1 : (lk e t).ment s = true := by
      rw [lk_lockE] at hs
      cases hc:L.contains t <;> rw [hc] at hs
      · rwa [cond_false,lkA_ment] at hs
      · exact hs
    rw [lk_lockE]
    cases L.contains s
    · rw [cond_false,lkA_res]; exact h.inv t s h1
    · exact h.inv t s h1
  · rw [fpe]
    rw [lk_lockE] at ht
    cases hc:L.contains t <;> rw [hc] at ht
    · rw [cond_false,lkA_unl] at ht; simp at ht
    · exact fun b hb=>.inl ⟨t,hc,ht,hb⟩

theorem keepA_is {a:Act} {lock:Bool} {L:List Nat} {x:AV T} {v:Value} {k:K} (h:x.is a v k):(keepA lock L x).is a v k:=by
  cases x with
  | al s=>simp only [keepA]; cases L.contains s; exact h; trivial
  | mv f s=>simp only [keepA]; cases L.contains s; exact h; trivial
  | _=>first | exact h | trivial
theorem keepA_fp {lock:Bool} {L:List Nat} {x:AV T} {v:Value} {k:K} : ∀ b,(keepA lock L x).fp v k b → x.fp v k b:=by
  intro b hb
  cases x with
  | al s=>simp only [keepA] at hb; cases hc:L.contains s <;> rw [hc] at hb <;> exact hb
  | mv f s=>simp only [keepA] at hb; cases hc:L.contains s <;> rw [hc] at hb <;> exact hb
  | _=>exact hb
theorem keepA_ment2 {lock:Bool} {L:List Nat} {x:AV T} {s:Nat}:(keepA lock L x).ment2 s = false:=by
  cases x with
  | al s'=>simp only [keepA]; cases L.contains s' <;> rfl
  | mv f s'=>simp only [keepA]; cases L.contains s' <;> rfl
  | _=>rfl
theorem keepA_ment {lock:Bool} {L:List Nat} {x:AV T} {s:Nat} (h:(keepA lock L x).ment s = true):x.ment s = true∧L.contains s = false:=by
  cases x with
  | al s' =>
    simp only [keepA] at h
    cases hc:L.contains s' with
    | true=>rw [hc] at h; simp [AV.ment] at h
    | false =>
      rw [hc] at h
      have:s' = s:=Nat.eq_of_beq_eq_true h
      subst this
      exact ⟨h,hc⟩
  | mv f s' =>
    simp only [keepA] at h
    cases hc:L.contains s' with
    | true=>rw [hc] at h; simp [AV.ment] at h
    | false =>
      rw [hc] at h
      have:s' = s:=Nat.eq_of_beq_eq_true h
      subst this
      exact ⟨h,hc⟩
  | _=>simp [keepA,AV.ment] at h
theorem keepA_res {lock:Bool} {L:List Nat} {x:AV T} (h:isRes x = true):isRes (keepA lock L x) = true:=by
  cases x <;> first | rfl | simp [isRes] at h
theorem keepA_unl {lock:Bool} {L:List Nat} {x:AV T} (h:unl (keepA lock L x) = true):lock = false∧unl x = true:=by
  cases x with
  | own b e t xs=>cases lock <;> cases b <;> simp [keepA,unl] at h ⊢
  | box b t x=>cases lock <;> cases b <;> simp [keepA,unl] at h ⊢
  | rs b m x=>cases lock <;> cases b <;> simp [keepA,unl] at h ⊢
  | tr b κ x l=>cases lock <;> cases b <;> simp [keepA,unl] at h ⊢
  | al s=>simp only [keepA] at h; cases hc:L.contains s <;> rw [hc] at h <;> simp [unl] at h
  | mv f s=>simp only [keepA] at h; cases hc:L.contains s <;> rw [hc] at h <;> simp [unl] at h
  | _=>simp [keepA,unl] at h

theorem takeS_is (h:Hl n F k0 W a0 e a k) {t:Nat} {κ:Kd} {x:κ.D T} (ht:takeS e t κ = some x):(avK κ x).is a (a.get t) k∧(∀ s,(avK κ x).ment s = false)∧∀ b,(avK κ x).fp (a.get t) k b → unl (lk e t) = true∧(lk e t).fp (a.get t) k b:=by
  have hsl:=h.sl t
  cases κ with
  | v u =>
    simp only [takeS] at ht
    exact ⟨mkv_is.2 (asT_is ht (nrm_is hsl)),fun _=>mkv_ment,fun b hb=>absurd hb (fp_nonres mkv_res _ _ b)⟩
  | o el u =>
    simp only [takeS] at ht
    split at ht
    · rename_i el' u' xs hl
      cases hb:Nat.beq el el' with
      | false=>rw [hb] at ht; simp at ht
      | true =>
        rw [hb] at ht
        obtain rfl:=Nat.eq_of_beq_eq_true hb
        obtain ⟨he,hx⟩:=cast?_eq ht
        injection he with he
        subst he
        obtain rfl:x = xs:=hx
        rw [hl] at hsl
        exact ⟨hsl,fun _=>rfl,fun b hb=>⟨by rw [hl]; rfl,by rw [hl]; exact hb⟩⟩
    · rename_i hl
      obtain rfl:=Option.some.inj ht
      rw [hl] at hsl
      exact ⟨IsE0.own0 hsl,fun _=>rfl,fun b hb=>absurd hb (IsE0.noOb (k:=k) hsl b)⟩
    · simp at ht
  | b u =>
    simp only [takeS] at ht
    split at ht
    · rename_i u' y hl
      obtain ⟨rfl,hx⟩:=cast?_eq ht
      obtain rfl:x = y:=hx
      rw [hl] at hsl
      exact ⟨hsl,fun _=>rfl,fun b hb=>⟨by rw [hl]; rfl,by rw [hl]; exact hb⟩⟩
    · simp at ht
  | c m =>
    simp only [takeS] at ht
    split at ht
    · rename_i m' y hl
      split at ht
      · rename_i hm _
        obtain rfl:=hm.down
        obtain rfl:=Option.some.inj ht
        rw [hl] at hsl
        exact ⟨hsl,fun _=>rfl,fun b hb=>⟨by rw [hl]; rfl,by rw [hl]; exact hb⟩⟩
      · simp at ht
    · simp at ht
theorem take_congr {ds:List Nat} {e e' : Env T} : ∀ {sp:Sp},(∀ t,t ∈ spW sp → lk e t = lk e' t) → take ds e sp = take ds e' sp:=by
  have one : ∀ p:Nat × Kd,lk e p.1 = lk e' p.1 → takeS e p.1 p.2 = takeS e' p.1 p.2:=by
    intro p hp
    obtain ⟨s,κ⟩:=p
    cases κ <;> simp only [takeS] <;> rw [show lk e s = lk e' s from hp]
  intro sp
  induction sp with
  | nil=>intro _; rfl
  | cons p l ih =>
    intro h
    cases l with
    | nil=>simp only [take]; rw [one p (h p.1 (by simp [spW]))]
    | cons q l=>simp only [take]; rw [one p (h p.1 (by simp [spW])),ih fun t ht=>h t (by simp only [spW,List.map_cons,List.mem_cons] at ht ⊢; exact .inr ht)]
theorem give_lk {ds xs:List Nat} (hds : ∀ d,ds.contains d = true → xs.contains d = true) {e base:Env T} : ∀ {sp:Sp} {s:SpD T sp},take ds e sp = some s → ∀ t,
    ((spW sp).contains t = false∧lk (give xs sp s base) t = lk base t) ∨ ((spW sp).contains t = true∧(lk (give xs sp s base) t = .top ∨ ∃ κ x,takeS e t κ = some x∧lk (give xs sp s base) t = avK κ x)):=by
  have one : ∀ {p:Nat × Kd} {y:p.2.D T} {b:Env T} (t:Nat),(bif ds.contains p.1 then some p.2.dflt else takeS e p.1 p.2) = some y → p.1 = t →
      (lk ((p.1,bif xs.contains p.1 then .top else avK p.2 y)::b) t = .top ∨ ∃ κ x,takeS e t κ = some x∧lk ((p.1,bif xs.contains p.1 then .top else avK p.2 y)::b) t = avK κ x):=by
    intro p y b t hy ht
    rw [lk_cons,if_pos ht]
    cases hx:xs.contains p.1 with
    | true=>exact .inl rfl
    | false =>
      have hd:ds.contains p.1 = false:=by
        cases hd:ds.contains p.1 with
        | false=>rfl
        | true=>rw [hds _ hd] at hx; simp at hx
      rw [hd] at hy
      rw [← ht]
      exact .inr ⟨p.2,y,hy,rfl⟩
  have cont : ∀ (p:Nat × Kd) (l:Sp) (t:Nat),(spW (p::l)).contains t = (t == p.1 || (spW l).contains t):=fun p l t=>by simp [spW]
  intro sp
  induction sp with
  | nil=>intro s _ t; exact .inl ⟨rfl,rfl⟩
  | cons p l ih =>
    intro s hs t
    cases l with
    | nil =>
      simp only [take] at hs
      rw [cont]
      by_cases ht:p.1 = t
      · exact .inr ⟨by simp [ht],one t hs ht⟩
      · have : (t == p.1) = false := by simpa using fun e => ht e.symm
        exact .inl ⟨by rw [this]; rfl,by simp only [give]; rw [lk_cons,if_neg ht]⟩
    | cons q l =>
      simp only [take] at hs
      split at hs
      · rename_i y ys hy hys
        obtain rfl:=Option.some.inj hs
        rw [cont]
        by_cases ht:p.1 = t
        · exact .inr ⟨by simp [ht],one t hy ht⟩
        · have hne : (t == p.1) = false := by simpa using fun e => ht e.symm
          have:=ih hys t
          rw [hne,Bool.false_or]
          simp only [give]
          rw [lk_cons,if_neg ht]
          exact this
      · simp at hs

theorem rejoin (h:Hl n F k0 W a0 e a k) {Wc:List Nat} {sp:Sp} {ds xs:List Nat} (hds : ∀ d,ds.contains d = true → xs.contains d = true) {s:SpD T sp}
    (i:Hl n (FU e a k (Wc ++ spW sp)) k Wc a e' a' k') (ht:take ds e' sp = some s) (lock:Bool) :
    let E:=give xs sp s (keepE lock Wc (spW sp) e)
    (∀ t, (lk E t).is a' (a'.get t) k') ∧ (∀ t u, (lk E t).ment u = true → isRes (lk E u) = true) ∧ (∀ t t', t ≠ t' → Apart ((lk E t).fp (a'.get t) k') ((lk E t').fp (a'.get t') k')) ∧
    ∀ t,unl (lk E t) = true → Wr (FU e a k (Wc ++ spW sp)) k ((lk E t).fp (a'.get t) k') ∨ (lock = false∧unl (lk e t) = true∧∀ b,(lk E t).fp (a'.get t) k' b → (lk e t).fp (a.get t) k b):=by
  intro E
  have hFn : ∀ b,FU e a k (Wc ++ spW sp) b → ¬ k.sh b:=fun b ⟨t,_,_,hb⟩=>(h.lt t b hb).2
  -- the three kinds of slots
  have cases3 : ∀ t,(Wc.contains t = false∧(spW sp).contains t = false∧lk E t = keepA lock (Wc ++ spW sp) (lk e t)) ∨ lk E t = .top ∨ ((spW sp).contains t = true∧∃ κ x,takeS e' t κ = some x∧lk E t = avK κ x):=by
    intro t
    rcases give_lk hds (base:=keepE lock Wc (spW sp) e) ht t with ⟨h1,h2⟩ | ⟨h1,h2 | h2⟩
    · rw [lk_keepE] at h2
      cases hw:Wc.contains t with
      | true=>rw [hw] at h2; exact .inr (.inl h2)
      | false=>rw [hw,h1] at h2; exact .inl ⟨rfl,h1,h2⟩
    · exact .inr (.inl h2)
    · exact .inr (.inr ⟨h1,h2⟩)
  have hold : ∀ t,Wc.contains t = false → a'.get t = a.get t:=fun t ht=>i.old t (by simpa using ht)
  have apK : ∀ t,Wc.contains t = false → (spW sp).contains t = false → ∀ b,(lk e t).fp (a.get t) k b → ¬ FU e a k (Wc ++ spW sp) b:=by
    intro t h1 h2 b hb ⟨t2,h3,h4,h5⟩
    by_cases e1:t = t2
    · subst e1
      simp at h1 h2 h3
      exact h3.elim h1 h2
    · exact h.ap t t2 e1 b hb h5
  have fpk : ∀ t,Wc.contains t = false → (spW sp).contains t = false → (lk e t).fp (a.get t) k' = (lk e t).fp (a.get t) k:=fun t h1 h2=>AV.fp_keep _ i.g hFn (fun b hb hb'=>apK t h1 h2 b hb hb') (h.sl t)
  have fpT : ∀ t κ x,takeS e' t κ = some x → ∀ b,(avK κ x).fp (a'.get t) k' b → (lk e' t).fp (a'.get t) k' b∧(FU e a k (Wc ++ spW sp) b ∨ k.w.heap.size ≤ b):=by
    intro t κ x hx b hb
    obtain ⟨_,_,h3⟩:=takeS_is i hx
    obtain ⟨h4,h5⟩:=h3 b hb
    exact ⟨h5,i.wr t h4 b h5⟩
  refine ⟨fun t=>?_,fun t u hu=>?_,fun t t' hne b hb hb'=>?_,fun t hu=>?_⟩
  · rcases cases3 t with ⟨h1, h2, h3⟩ | h3 | ⟨_, κ, x, h2, h3⟩
    · rw [h3, hold t h1]
      have h4:(keepA lock (Wc ++ spW sp) (lk e t)).is a (a.get t) k':=AV.keep _ i.g hFn (fun b hb hb'=>apK t h1 h2 b (keepA_fp b hb) hb') (fun s hs=>by rw [keepA_ment2] at hs; simp at hs) (keepA_is (h.sl t))
      refine AV.congr _ (fun s hs=>?_) h4
      have:=(keepA_ment hs).2
      exact hold s (by simp at this ⊢; exact this.1)
    · rw [h3]; trivial
    · rw [h3]; exact (takeS_is i h2).1
  · rcases cases3 t with ⟨h1, h2, h3⟩ | h3 | ⟨_, κ, x, h2, h3⟩
    · rw [h3] at hu
      obtain ⟨h4,h5⟩:=keepA_ment hu
      have h6:=h.inv t u h4
      simp at h5
      rcases give_lk hds (base:=keepE lock Wc (spW sp) e) ht u with ⟨h7,h8⟩ | ⟨h7,_⟩
      · show isRes (lk (give xs sp s (keepE lock Wc (spW sp) e)) u) = true
        rw [h8,lk_keepE,h7]
        have:Wc.contains u = false:=by simpa using h5.1
        rw [this]
        exact keepA_res h6
      · simp at h7; exact absurd h7 h5.2
    · rw [h3] at hu; simp [AV.ment] at hu
    · rw [h3,(takeS_is i h2).2.1] at hu; simp at hu
  · rcases cases3 t with ⟨h1, h2, h3⟩ | h3 | ⟨_, κ, x, h2, h3⟩
    · rw [h3, hold t h1] at hb
      have hb:=keepA_fp b hb
      rw [fpk t h1 h2] at hb
      rcases cases3 t' with ⟨h4, h5, h6⟩ | h6 | ⟨_, κ', x', h5, h6⟩
      · rw [h6, hold t' h4] at hb'
        have hb':=keepA_fp b hb'
        rw [fpk t' h4 h5] at hb'
        exact h.ap t t' hne b hb hb'
      · rw [h6] at hb'; exact hb'
      · rw [h6] at hb'
        rcases (fpT t' κ' x' h5 b hb').2 with h7 | h7
        · exact apK t h1 h2 b hb h7
        · have:=(h.lt t b hb).1; omega
    · rw [h3] at hb; exact hb
    · rw [h3] at hb
      obtain ⟨h7,h8⟩:=fpT t κ x h2 b hb
      rcases cases3 t' with ⟨h4, h5, h6⟩ | h6 | ⟨_, κ', x', h5, h6⟩
      · rw [h6, hold t' h4] at hb'
        have hb':=keepA_fp b hb'
        rw [fpk t' h4 h5] at hb'
        rcases h8 with h8 | h8
        · exact apK t' h4 h5 b hb' h8
        · have:=(h.lt t' b hb').1; omega
      · rw [h6] at hb'; exact hb'
      · rw [h6] at hb'
        exact i.ap t t' hne b h7 (fpT t' κ' x' h5 b hb').1
  · rcases cases3 t with ⟨h1, h2, h3⟩ | h3 | ⟨_, κ, x, h2, h3⟩
    · rw [h3] at hu
      obtain ⟨h4,h5⟩:=keepA_unl hu
      refine .inr ⟨h4,h5,fun b hb=>?_⟩
      rw [h3,hold t h1] at hb
      have hb:=keepA_fp b hb
      rw [fpk t h1 h2] at hb
      exact hb
    · rw [h3] at hu; simp [unl] at hu
    · refine .inl fun b hb => ?_
      rw [h3] at hb
      exact (fpT t κ x h2 b hb).2
theorem rejoinT (h:Hl n F k0 W a0 e a k) {Wc:List Nat} {sp:Sp} {ds xs:List Nat} (hds : ∀ d,ds.contains d = true → xs.contains d = true) {s:SpD T sp}
    (i:Hl n (FU e a k (Wc ++ spW sp)) k Wc a e' a' k') (ht:take ds e' sp = some s):Hl n (FU e a k (Wc ++ spW sp)) k Wc a (give xs sp s (keepE true Wc (spW sp) e)) a' k':=by
  obtain ⟨h1,h2,h3,h4⟩:=rejoin h hds i ht true
  refine ⟨i.g,i.s,i.d,i.old,h1,h2,fun t hu=>?_,h3,i.gl⟩
  rcases h4 t hu with h5 | ⟨h5,_⟩
  · exact h5
  · simp at h5
theorem rejoinF (h:Hl n F k0 W a0 e a k) {Wc:List Nat} {sp:Sp} {ds xs:List Nat} (hds : ∀ d,ds.contains d = true → xs.contains d = true) {s:SpD T sp} (hW : ∀ t ∈ Wc,t ∈ W)
    (i:Hl n (FU e a k (Wc ++ spW sp)) k Wc a e' a' k') (ht:take ds e' sp = some s):Hl n F k0 W a0 (give xs sp s (keepE false Wc (spW sp) e)) a' k':=by
  obtain ⟨h1,h2,h3,h4⟩:=rejoin h hds i ht false
  have hwr:Wr F k0 (FU e a k (Wc ++ spW sp)):=fun b ⟨t,_,h5,h6⟩=>h.wr t h5 b h6
  refine ⟨h.g.step i.g hwr,i.s,i.d,fun t ht=>?_,h1,h2,fun t hu b hb=>?_,h3,i.gl⟩
  · rw [i.old t (fun h'=>ht (hW t h')),h.old t ht]
  · rcases h4 t hu with h5 | ⟨_, h5, h6⟩
    · rcases h5 b hb with h5 | h5
      · exact hwr b h5
      · exact .inr (Nat.le_trans h.g.size h5)
    · exact h.wr t h5 b (h6 b hb)
end
end Go.Gb

/- General part of the proofs: the code of a function does what the evaluator says. -/
namespace Go.Gb
variable {T:Tb} {R:Type}

/-- The results of a function, and what else it leaves. -/
structure RetOq (C:Cx T) (sl:Nat) (tu ro:Rk) (cod:List Tp) (F:FP) (k0:K) (a0:Act) (x:tu.D T × ro.D T × HL T.S cod) (a:Act) (k:K):Prop where
  dn:a.defers = []
  sle:isN tu = false → a.get sl = a0.get sl
  ex : ∃ k', k'.w = k.w ∧ Chg F k0 k' ∧ tu.is x.1 (a.get sl) k' ∧ Wr F k0 (tu.fp T (a.get sl) k') ∧ ∀ fn : Func, fn.results.toList = C.rs → ∃ v, (results fn a.tmps).run C.P k'.w = .ok v k'.w ∧
    (resR ro cod x.2.1 x.2.2).is ⟨#[],[]⟩ v k'∧Wr F k0 ((resR ro cod x.2.1 x.2.2).fp v k')∧Apart (tu.fp T (a.get sl) k') ((resR ro cod x.2.1 x.2.2).fp v k')
abbrev RetOk (C:Cx T) (rv:Rv T) (F:FP) (k0:K) (a0:Act) (x:rv.D T) (a:Act) (k:K):Prop:=RetOq C rv.sl rv.tu rv.ro rv.cod F k0 a0 (rv.inj x) a k
theorem RetOk.step {C:Cx T} {rv:Rv T} {F G:FP} {k0 k1 k:K} {x:rv.D T} {a0 a1 a:Act} (h:RetOk C rv G k1 a1 x a k) (g:Chg F k0 k1) (hw:Wr F k0 G) (ho:isN rv.tu = false → a1.get rv.sl = a0.get rv.sl):RetOk C rv F k0 a0 x a k:=by
  obtain ⟨h1, h2, k', h3, h4, h5, h6, h7⟩ := h
  have wr : ∀ H,Wr G k1 H → Wr F k0 H:=fun H hH b hb=>by
    rcases hH b hb with h8 | h8
    · exact hw b h8
    · exact .inr (Nat.le_trans g.size h8)
  refine ⟨h1, fun hN => (h2 hN).trans (ho hN), k', h3, g.step h4 hw, h5, wr _ h6, fun fn hfn => ?_⟩
  obtain ⟨v,g1,g2,g3,g4⟩:=h7 fn hfn
  exact ⟨v,g1,g2,wr _ g3,g4⟩

section
variable {C:Cx T} {cod:Rv T} {F:FP} {k0:K} {W:List Nat} {a0:Act} {e:Env T} {a:Act} {k:K}

theorem resH1_ok (h:Hl C.n F k0 W a0 e a k) {t:Tp} {rv:ResultVar} {x:T.D t} (hx:resH.resH1 C e t rv = some x) : ∃ v,(resVal a.tmps rv).run C.P k.w = .ok v k.w∧IsV x v k:=by
  cases rv with
  | tmp s =>
    simp only [resH.resH1] at hx
    exact ⟨_,rfl,asT_is hx (nrm_is (h.sl s))⟩
  | cell s ty =>
    simp only [resH.resH1] at hx
    have hsl:=h.sl s
    split at hx
    · rename_i l u y hl
      rw [hl] at hsl
      obtain ⟨b,hb,hbx⟩:=hsl
      cases ht:tyB C.P T ty u with
      | false=>rw [ht] at hx; simp at hx
      | true =>
        rw [ht] at hx
        obtain ⟨rfl,hxy⟩:=cast?_eq hx
        obtain rfl:x = y:=hxy
        exact resOk_run (resCell (tyB_ok ht) hb hbx)
    · simp at hx
theorem resH_ok (h:Hl C.n F k0 W a0 e a k) : ∀ {l:List Tp} {rs:List ResultVar} {x:HL T.S l},resH C e l rs = some x →
    ∃ vs:List Value,(rs.mapM (resVal a.tmps)).run C.P k.w = .ok vs k.w∧vs.length = l.length∧Fa2 (unH l x) vs k
  | [],[],x,_=>⟨[],by simp,rfl,trivial⟩
  | [t], [rv], x, hx => by
    simp only [resH] at hx
    obtain ⟨v,h1,h2⟩:=resH1_ok h hx
    exact ⟨[v],by simp [h1],rfl,h2,trivial⟩
  | t :: t' :: l, rv :: rs, x, hx => by
    simp only [resH] at hx
    split at hx
    · rename_i y ys hy hys
      obtain rfl:=Option.some.inj hx
      obtain ⟨v,h1,h2⟩:=resH1_ok h hy
      obtain ⟨vs,h3,h4,h5⟩:=resH_ok h hys
      exact ⟨v::vs,by simp [List.mapM_cons,h1,h3],by simp [h4],h2,h5⟩
    · simp at hx
  | [],_::_,_,hx=>by simp [resH] at hx
  | [_],[],_,hx=>by simp [resH] at hx
  | [_],_::_::_,_,hx=>by simp [resH] at hx
  | _::_::_,[],_,hx=>by simp [resH] at hx
theorem takeR_ok {κ:Rk} {av:AV T} {y:κ.D T} {v:Value} (h:takeR κ av = some y) (hv:av.is a v k):κ.is y v k∧∀ b,κ.fp T v k b → unl av = true∧av.fp v k b:=by
  cases hr:isRes av with
  | true =>
    obtain ⟨h1,h2⟩:=takeR_is h hv hr
    refine ⟨h1,fun b hb=>?_⟩
    cases hN:isN κ with
    | true=>exact (Rk.fpN hN b hb).elim
    | false=>obtain ⟨h3,h4⟩:=h2 hN; exact ⟨h4,by rw [← h3]; exact hb⟩
  | false =>
    cases κ with
    | n=>exact ⟨trivial,fun b hb=>hb.elim⟩
    | o e t =>
      cases av with
      | e0 =>
        simp only [takeR,Option.some.injEq] at h
        subst h
        exact ⟨IsE0.own0 hv,fun b hb=>absurd hb (IsE0.noOb (k:=k) hv b)⟩
      | own _ _ _ _=>simp [isRes] at hr
      | _=>simp [takeR] at h
    | b t =>
      cases av with
      | box _ _ _=>simp [isRes] at hr
      | _=>simp [takeR] at h
    | c m =>
      cases av with
      | rs _ _ _=>simp [isRes] at hr
      | _=>simp [takeR] at h
theorem roR_some {κ:Rk} (hN:isN κ = false):roR C e κ = ro1 e κ C.rs:=by cases κ <;> first | rfl | simp [isN] at hN
theorem resV_fp {l:List Tp} {x:HL T.S l} {v:Value} {k:K} : ∀ b,¬ (resV l x).fp v k b:=fp_nonres resV_nonres v k
theorem retq_ok (h:Hl C.n F k0 W a0 e a k) {sl:Nat} {tu ro:Rk} {cod:List Tp} (hsl:isN tu = false → sl ∉ W) (hc:(!(isN tu) && !(isN ro) && slotEq C.rs sl) = false) {y:tu.D T} {w:ro.D T} {r:HL T.S cod} (hy:takeR tu (lk e sl) = some y) (hw:roR C e ro = some w) (hr:resH C e cod (valRs ro C.rs) = some r):RetOq C sl tu ro cod F k0 a0 (y,w,r) a k:=by
  obtain ⟨t1,t2⟩:=takeR_ok hy (h.sl sl)
  refine ⟨h.d,fun hN=>h.old _ (hsl hN),k,rfl,h.g,t1,fun b hb=>h.wr _ (t2 b hb).1 b (t2 b hb).2,fun fn hfn=>?_⟩
  obtain ⟨vs,h1,h2,h3⟩:=resH_ok h hr
  unfold valRs at h1
  try dsimp only at h1
  have norm : ∀ {vs:List Value},(C.rs.mapM (resVal a.tmps)).run C.P k.w = .ok vs k.w → (fn.results.mapM (resVal a.tmps)).run C.P k.w = .ok vs.toArray k.w:=fun {vs} h1=>by
    rw [← hfn] at h1
    rw [Array.mapM_eq_mapM_toList]; simp [h1]
  rw [results_eq]
  cases hro:isN ro with
  | true =>
    rw [hro] at h1
    simp only [cond_true] at h1
    have h4:=norm h1
    have eR:resR ro cod w r = resV cod r:=by unfold resR; rw [hro]; rfl
    rw [eR]
    have fin : ∀ v,(resV cod r).is ⟨#[],[]⟩ v k → (resV cod r).is ⟨#[],[]⟩ v k∧Wr F k0 ((resV cod r).fp v k)∧Apart (tu.fp T (a.get sl) k) ((resV cod r).fp v k):=fun v hv=>
      ⟨hv,fun b hb=>absurd hb (resV_fp b),fun b _ hb=>resV_fp b hb⟩
    match cod,r,vs,h2,h3 with
    | [],r,[],_,_=>exact ⟨.tuple #[],by simp [h4],fin _ trivial⟩
    | [t],r,[v],_,h3=>exact ⟨v,by simp [h4],fin _ (mkv_is.2 h3.1)⟩
    | t::t'::l,r,v::v'::vs,_,h3=>exact ⟨.tuple (v::v'::vs).toArray,by simp [h4],fin _ ⟨_,rfl,h3⟩⟩
  | false =>
    rw [hro] at h1
    simp only [cond_false] at h1
    rw [roR_some hro] at hw
    unfold ro1 at hw
    split at hw
    · rename_i s rs hrs
      rw [hrs] at h1 hc
      simp only [List.tail_cons] at h1
      obtain ⟨w1,w2⟩:=takeR_ok hw (h.sl s)
      have h4:=norm (vs:=a.get s::vs) (by rw [hrs]; simp [List.mapM_cons,h1,resVal,Act.get,Array.getD_eq_getD_getElem?])
      have hap:Apart (tu.fp T (a.get sl) k) (ro.fp T (a.get s) k):=fun b hb hb'=>by
        have hN:isN tu = false:=by
          cases hN:isN tu with
          | false=>rfl
          | true=>exact (Rk.fpN hN b hb).elim
        rw [hN,hro] at hc
        simp only [Bool.not_false,Bool.true_and,slotEq] at hc
        exact h.ap sl s (fun e1=>by rw [e1,Nat.beq_refl] at hc; simp at hc) b (t2 b hb).2 (w2 b hb').2
      have hwr:Wr F k0 (ro.fp T (a.get s) k):=fun b hb=>h.wr _ (w2 b hb).1 b (w2 b hb).2
      match cod,r,vs,h2,h3 with
      | [], r, [], _, _ =>
        have eR:resR ro [] w r = ro.av w:=by unfold resR; rw [hro]; rfl
        rw [eR]
        exact ⟨a.get s,by simp [h4],(Rk.av_is hro).2 w1,by rw [Rk.av_fp hro]; exact hwr,by rw [Rk.av_fp hro]; exact hap⟩
      | t :: l, r, v :: vs, _, h3 =>
        have eR:resR ro (t::l) w r = .tr false ro w (unH (t::l) r):=by unfold resR; rw [hro]; rfl
        rw [eR]
        exact ⟨.tuple (a.get s::v::vs).toArray,by simp [h4],⟨_,_,rfl,w1,h3⟩,hwr,hap⟩
    · simp at hw
theorem ret_ok (h:Hl C.n F k0 W a0 e a k) (hsl:isN cod.tu = false → cod.sl ∉ W) {x:cod.D T} (hx:retV C e cod = some x):RetOk C cod F k0 a0 x a k:=by
  obtain ⟨sl,tu,ro,cod,ρ,pr,inj,hpr⟩:=cod
  unfold retV at hx
  dsimp only at hx hsl
  cases hc:(!(isN tu) && !(isN ro) && slotEq C.rs sl) with
  | true=>rw [hc] at hx; simp at hx
  | false=>
  rw [hc] at hx; simp only [cond_false] at hx
  split at hx
  · rename_i y w r hy hw hr
    obtain rfl:=Option.some.inj hx
    unfold RetOk
    dsimp only
    rw [hpr]
    exact retq_ok h hsl hc hy hw hr
  · simp at hx

theorem takeF_ok (h : Hl C.n F k0 W a0 e a k) {ds : List Nat} {sp : Sp} {K : SpD T sp → Option R} {r : R} (hk : takeF ds e sp K = some r) : ∃ s e' k', K s = some r ∧ take ds e' sp = some s ∧ k'.w = k.w ∧ Hl C.n F k0 W a0 e' a k' := by
  unfold takeF at hk
  obtain ⟨e', k', h1, h2, h3⟩ := frz_ok h hk
  split at h1
  · rename_i s hs; exact ⟨s, e', k', h1, hs, h2, h3⟩
  · simp at h1
theorem app_r {xs:Ls} : ∀ d,xs.2.contains d = true → (xs.1 ++ xs.2).contains d = true:=by
  intro d h; simp at h ⊢; exact .inr h
theorem exAt_cons {i j:Nat} {x:Ls} {l:List (Nat × Ls)} {y:Ls} (h:exAt ((i,x)::l) j = some y):(i = j∧x = y) ∨ (i ≠ j∧exAt l j = some y):=by
  simp only [exAt] at h
  cases hb:Nat.beq i j with
  | true=>rw [hb] at h; exact .inl ⟨Nat.eq_of_beq_eq_true hb,Option.some.inj h⟩
  | false=>rw [hb] at h; exact .inr ⟨fun e=>by rw [e,Nat.beq_refl] at hb; simp at hb,h⟩
theorem exK_ok {ρ:Type} {sp:Sp} {base:Env T} {K:Kt T ρ R} {r:R} {s:SpD T sp} : ∀ {l:List (Nat × Ls)} {j:Nat} {x:Ls},exAt l j = some x → exK base K l j s = some r → K.ex j (give (x.1 ++ x.2) sp s base) = some r
  | [],j,x,h,_=>by simp [exAt] at h
  | [(i, y)], j, x, h, hk => by
    rcases exAt_cons h with ⟨rfl,rfl⟩ | ⟨_,h⟩
    · exact hk
    · simp [exAt] at h
  | (i, y) :: z :: l, j, x, h, hk => by
    simp only [exK] at hk
    rcases exAt_cons h with ⟨rfl,rfl⟩ | ⟨hne,h⟩
    · rw [if_pos rfl] at hk; exact hk
    · rw [if_neg (Ne.symm hne)] at hk; exact exK_ok h hk
/-- The statement about a piece of code. -/
def HkOk (C:Cx T) (c:Code) (e:Env T) {R:Type} (KK:Env T → Option R) (r:R):Prop:=
  ∀ (F : FP) (k0 : K) (W : List Nat) (a0 : Act) (a : Act) (k : K) (Q : Exit → Act → World → Prop), (∀ t ∈ wrs c, t ∈ W) → Hl C.n F k0 W a0 e a k → (∀ e' a' k', KK e' = some r → Hl C.n F k0 W a0 e' a' k' → Q .normal a' k'.w) → c.wp C.P Q a k.w
def HksOk (C:Cx T):Prop:=∀ i c e (R:Type) (K:Env T → Option R) (r:R),C.rg c → C.hk i c e R K = some r → HkOk C c e K r
def CodeOk (C:Cx T) (cod:Rv T) (c:Code):Prop:=(∀ c' ∈ subs c,C.rg c') →
  ∀ (h:Hn T) (R:Type) (e:Env T) (M:Kt T (cod.D T) R) (r:R),ev C cod c h R e M = some r →
  ∀ (F:FP) (k0:K) (W:List Nat) (a0:Act) (a:Act) (k:K) (Q:Exit → Act → World → Prop),(∀ t ∈ wrs c,t ∈ W) → (isN cod.tu = false → cod.sl ∉ W) → Hl C.n F k0 W a0 e a k →
  (∀ e' a' k', M.go e' = some r → Hl C.n F k0 W a0 e' a' k' → Q .normal a' k'.w) →
  (∀ i e' a' k', M.ex i e' = some r → Hl C.n F k0 W a0 e' a' k' → Q (.exit i) a' k'.w) →
  (∀ x a' k', M.rv x = some r → RetOk C cod F k0 a0 x a' k' → Q .ret a' k'.w) → c.wp C.P Q a k.w

/-- what is behind a join of a code that may leave -/
theorem flow_ok {h:Hl C.n F k0 W a0 e a k} {Wc:List Nat} {sp:Sp} {xs:Ls} {exs:List (Nat × Ls)} {M:Kt T (cod.D T) R} {r:R} {Q:Exit → Act → World → Prop} {fl:Flow (SpD T sp) (cod.D T)}
    (hW : ∀ t ∈ Wc,t ∈ W)
    (hk:(match fl with | .go s=>M.go (give (xs.1 ++ xs.2) sp s (keepE false Wc (spW sp) e)) | .ex i s=>exK (keepE false Wc (spW sp) e) M exs i s | .ret x=>M.rv x) = some r)
    (hgo : ∀ e' a' k', M.go e' = some r → Hl C.n F k0 W a0 e' a' k' → Q .normal a' k'.w)
    (hex : ∀ i e' a' k', M.ex i e' = some r → Hl C.n F k0 W a0 e' a' k' → Q (.exit i) a' k'.w)
    (hsl : isN cod.tu = false → cod.sl ∉ W) (hrv : ∀ x a' k', M.rv x = some r → RetOk C cod F k0 a0 x a' k' → Q .ret a' k'.w) :
    (∀ e' a' k', (takeF xs.2 e' sp fun s => some (.go s)) = some fl → Hl C.n (FU e a k (Wc ++ spW sp)) k Wc a e' a' k' → Q .normal a' k'.w) ∧
    (∀ i e' a' k', exF exs sp i e' = some fl → Hl C.n (FU e a k (Wc ++ spW sp)) k Wc a e' a' k' → Q (.exit i) a' k'.w) ∧
    (∀ x a' k', some (.ret x) = some fl → RetOk C cod (FU e a k (Wc ++ spW sp)) k a x a' k' → Q .ret a' k'.w) := by
  refine ⟨fun e' a' k' h1 h2=>?_,fun i e' a' k' h1 h2=>?_,fun x a' k' h1 h2=>?_⟩
  · obtain ⟨s, e2, k2, h3, h4, h5, h6⟩ := takeF_ok h2 h1
    obtain rfl:=Option.some.inj h3
    rw [← h5]
    exact hgo _ a' k2 hk (rejoinF h app_r hW h6 h4)
  · unfold exF at h1
    split at h1
    · rename_i x hx
      obtain ⟨s,e2,k2,h3,h4,h5,h6⟩:=takeF_ok h2 h1
      obtain rfl:=Option.some.inj h3
      rw [← h5]
      exact hex i _ a' k2 (exK_ok hx hk) (rejoinF h app_r hW h6 h4)
    · simp at h1
  · obtain rfl := Option.some.inj h1
    exact hrv x a' k' hk (h2.step h.g (fun b ⟨t,_,h5,h6⟩=>h.wr t h5 b h6) fun hN=>h.old _ (hsl hN))

theorem seq_ok {x y:Code} (hx:CodeOk C cod x) (hy:CodeOk C cod y):CodeOk C cod (.seq x y):=by
  intro hsb
  replace hx:=hx fun c' hc=>hsb c' (by simp [subs,hc])
  replace hy:=hy fun c' hc=>hsb c' (by simp [subs,hc])
  intro h R e M r hk F k0 W a0 a k Q hW hsl hl hgo hex hrv
  have main : ∀ hxx hyy,ev C cod x hxx R e { M with go:=fun e'=>ev C cod y hyy R e' M } = some r → (Code.seq x y).wp C.P Q a k.w:=by
    intro hxx hyy hk
    refine wp_seq (hx hxx R e _ r hk F k0 W a0 a k _ (fun t ht=>hW t (by simp [wrs,ht])) hsl hl (fun e' a' k' h1 h2=>?_) (fun i e' a' k' h1 h2=>hex i e' a' k' h1 h2) (fun x a' k' h1 h2=>hrv x a' k' h1 h2))
    exact hy hyy R e' M r h1 F k0 W a0 a' k' Q (fun t ht=>hW t (by simp [wrs,ht])) hsl h2 hgo hex hrv
  cases h <;> exact main _ _ hk
theorem cond_ok {c:Operand} {x y:Code} (hx:CodeOk C cod x) (hy:CodeOk C cod y):CodeOk C cod (.cond c x y):=by
  intro hsb
  replace hx:=hx fun c' hc=>hsb c' (by simp [subs,hc])
  replace hy:=hy fun c' hc=>hsb c' (by simp [subs,hc])
  intro h R e M r hk F k0 W a0 a k Q hW hsl hl hgo hex hrv
  have hWx : ∀ t ∈ wrs x,t ∈ W:=fun t ht=>hW t (by simp [wrs,ht])
  have hWy : ∀ t ∈ wrs y,t ∈ W:=fun t ht=>hW t (by simp [wrs,ht])
  have cv : ∀ {F:FP} {k0:K} {W:List Nat} {a0:Act} {e:Env T} {k:K} {m:Bool},Hl C.n F k0 W a0 e a k → asB (opv e c) = some m → a.eval c = .bool m:=by
    intro F k0 W a0 e k m hl hm
    exact isV_bool.1 (asB_is hm (opv_is (a0:=a) (by
      cases c with
      | tmp t=>exact ⟨hl.sl t,fun _=>rfl⟩
      | global _=>exact hl.gl
      | _=>trivial)))
  have plain : ∀ hxx hyy,(match asB (opv e c) with | some m=>if m then ev C cod x hxx R e M else ev C cod y hyy R e M | none=>none) = some r → (Code.cond c x y).wp C.P Q a k.w:=by
    intro hxx hyy hk
    split at hk
    · rename_i m hm
      refine wp_cond_split (cv hl hm) (fun hm1=>?_) (fun hm0=>?_)
      · rw [if_pos hm1] at hk
        exact hx hxx R e M r hk F k0 W a0 a k Q hWx hsl hl hgo hex hrv
      · rw [if_neg (by rw [hm0]; simp)] at hk
        exact hy hyy R e M r hk F k0 W a0 a k Q hWy hsl hl hgo hex hrv
    · simp at hk
  have hwc : ∀ t ∈ wrs x ++ wrs y,t ∈ W:=fun t ht=>hW t (by simpa [wrs] using ht)
  have hsc:isN cod.tu = false → cod.sl ∉ wrs x ++ wrs y:=fun hN ht=>hsl hN (hwc _ ht)
  unfold ev at hk
  split at hk
  · rename_i fz sp xs hxx hyy
    obtain ⟨e0,k1,h1,h2,h3⟩:=frz_ok hl hk
    rw [lockK_eq,keepK_eq] at h1
    rw [← h2]
    have hin:=h3.lock (wrs x ++ wrs y ++ spW sp) (wrs x ++ wrs y)
    split at h1
    · rename_i m hm
      obtain ⟨s,hs,h1⟩:=bind_some h1
      have fin : ∀ e' a' k', (takeF xs.2 e' sp some) = some s → Hl C.n (FU e0 a k1 (wrs x ++ wrs y ++ spW sp)) k1 (wrs x ++ wrs y) a e' a' k' → Q .normal a' k'.w := by
        intro e' a' k' g1 g2
        obtain ⟨s', e2, k2, g3, g4, g5, g6⟩ := takeF_ok g2 g1
        obtain rfl:=Option.some.inj g3
        rw [← g5]
        exact hgo _ a' k2 h1 (rejoinF h3 app_r hwc g6 g4)
      refine wp_cond_split (cv hin hm) (fun hm1=>?_) (fun hm0=>?_)
      · rw [if_pos hm1] at hs
        exact hx hxx _ _ _ s hs _ _ _ _ a k1 Q (fun t ht=>by simp [ht]) hsc hin fin (fun i e' a' k' g1 _=>by simp at g1) (fun x' a' k' g1 _=>by simp at g1)
      · rw [if_neg (by rw [hm0]; simp)] at hs
        exact hy hyy _ _ _ s hs _ _ _ _ a k1 Q (fun t ht=>by simp [ht]) hsc hin fin (fun i e' a' k' g1 _=>by simp at g1) (fun x' a' k' g1 _=>by simp at g1)
    · simp at h1
  · rename_i fz sp xs exs hxx hyy
    obtain ⟨e0,k1,h1,h2,h3⟩:=frz_ok hl hk
    rw [lockK_eq,keepK_eq] at h1
    rw [← h2]
    have hin:=h3.lock (wrs x ++ wrs y ++ spW sp) (wrs x ++ wrs y)
    split at h1
    · rename_i m hm
      obtain ⟨fl,hs,h1⟩:=bind_some h1
      obtain ⟨f1,f2,f3⟩:=flow_ok (h:=h3) (Q:=Q) (xs:=xs) hwc h1 hgo hex hsl hrv
      refine wp_cond_split (cv hin hm) (fun hm1=>?_) (fun hm0=>?_)
      · rw [if_pos hm1] at hs
        exact hx hxx _ _ _ fl hs _ _ _ _ a k1 Q (fun t ht=>by simp [ht]) hsc hin f1 f2 f3
      · rw [if_neg (by rw [hm0]; simp)] at hs
        exact hy hyy _ _ _ fl hs _ _ _ _ a k1 Q (fun t ht=>by simp [ht]) hsc hin f1 f2 f3
    · simp at h1
  · exact plain _ _ hk
  · exact plain _ _ hk
theorem block_ok (hH:HksOk C) {id:Nat} {x:Code} (hx:CodeOk C cod x):CodeOk C cod (.block id x):=by
  intro hsb
  replace hx:=hx fun c' hc=>hsb c' (by simp [subs,hc])
  intro h R e M r hk F k0 W a0 a k Q hW hsl hl hgo hex hrv
  have hWx : ∀ t ∈ wrs x,t ∈ W:=fun t ht=>hW t (by simpa [wrs] using ht)
  have hsx:isN cod.tu = false → cod.sl ∉ wrs x:=fun hN ht=>hsl hN (hWx _ ht)
  have inb : ∀ {i:Nat} {a:Act} {w:World},(i = id → Q .normal a w) → (i ≠ id → Q (.exit i) a w) → Exit.inBlock id Q (.exit i) a w:=by
    intro i a w h1 h2
    simp only [Exit.inBlock]
    split
    · rename_i h; exact h1 (by simpa using h)
    · rename_i h; exact h2 (by simpa using h)
  have plain : ∀ hxx,ev C cod x hxx R e { M with ex:=fun i e'=>bif Nat.beq i id then M.go e' else M.ex i e' } = some r → (Code.block id x).wp C.P Q a k.w:=by
    intro hxx hk
    refine wp_block (hx hxx R e _ r hk F k0 W a0 a k _ hWx hsl hl hgo (fun i e' a' k' h1 h2=>inb (fun e1=>?_) (fun e1=>?_)) hrv)
    · subst e1; simp only [Nat.beq_refl,cond_true] at h1; exact hgo e' a' k' h1 h2
    · simp only [beq_ne e1,cond_false] at h1; exact hex i e' a' k' h1 h2
  unfold ev at hk
  split at hk
  · rename_i fz sp xs hxx
    obtain ⟨e0,k1,h1,h2,h3⟩:=frz_ok hl hk
    rw [lockK_eq,keepK_eq] at h1
    rw [← h2]
    have hin:=h3.lock (wrs x ++ spW sp) (wrs x)
    obtain ⟨s,hs,h1⟩:=bind_some h1
    have fin : ∀ e' a' k', (takeF xs.2 e' sp some) = some s → Hl C.n (FU e0 a k1 (wrs x ++ spW sp)) k1 (wrs x) a e' a' k' → Q .normal a' k'.w := by
      intro e' a' k' g1 g2
      obtain ⟨s', e2, k2, g3, g4, g5, g6⟩ := takeF_ok g2 g1
      obtain rfl:=Option.some.inj g3
      rw [← g5]
      exact hgo _ a' k2 h1 (rejoinF h3 app_r hWx g6 g4)
    refine wp_block (hx hxx _ _ _ s hs _ _ _ _ a k1 _ (fun t ht=>ht) hsx hin fin (fun i e' a' k' g1 g2=>inb (fun e1=>?_) (fun e1=>?_)) (fun x' a' k' g1 _=>by simp at g1))
    · subst e1; simp only [Nat.beq_refl,cond_true] at g1; exact fin e' a' k' g1 g2
    · simp only [beq_ne e1,cond_false] at g1; simp at g1
  · rename_i fz sp xs exs hxx
    obtain ⟨e0,k1,h1,h2,h3⟩:=frz_ok hl hk
    rw [lockK_eq,keepK_eq] at h1
    rw [← h2]
    have hin:=h3.lock (wrs x ++ spW sp) (wrs x)
    obtain ⟨fl,hs,h1⟩:=bind_some h1
    obtain ⟨f1,f2,f3⟩:=flow_ok (h:=h3) (Q:=Q) (xs:=xs) hWx h1 hgo hex hsl hrv
    refine wp_block (hx hxx _ _ _ fl hs _ _ _ _ a k1 _ (fun t ht=>ht) hsx hin f1 (fun i e' a' k' g1 g2=>inb (fun e1=>?_) (fun e1=>?_)) f3)
    · subst e1; simp only [Nat.beq_refl,cond_true] at g1; exact f1 e' a' k' g1 g2
    · simp only [beq_ne e1,cond_false] at g1; exact f2 i e' a' k' g1 g2
  · exact hH _ _ _ _ _ _ (hsb _ (by simp [subs])) hk F k0 W a0 a k Q hW hl hgo
  · exact plain _ hk
theorem loop_ok {x:Code} (hx:CodeOk C cod x):CodeOk C cod (.loop x):=by
  intro hsb
  replace hx:=hx fun c' hc=>hsb c' (by simpa [subs] using hc)
  intro h R e M r hk F k0 W a0 a k Q hW hsl hl hgo hex hrv
  have hWx : ∀ t ∈ wrs x,t ∈ W:=fun t ht=>hW t (by simpa [wrs] using ht)
  have hsx:isN cod.tu = false → cod.sl ∉ wrs x:=fun hN ht=>hsl hN (hWx _ ht)
  unfold ev at hk
  split at hk
  · rename_i fz sp exs fuel hxx
    obtain ⟨e0,k1,h1,h2,h3⟩:=frz_ok hl hk
    rw [keepK_eq,keepK_eq] at h1
    rw [← h2]
    split at h1
    · rename_i s0 hs0
      obtain ⟨fl,hs,h1⟩:=bind_some h1
      have hin:=h3.lock (wrs x ++ spW sp) (wrs x)
      have hs0' : take [] (lockE (wrs x ++ spW sp) e0) sp = some s0:=by
        rw [← hs0]
        refine take_congr fun t ht=>?_
        rw [lk_lockE]
        have:(wrs x ++ spW sp).contains t = true:=by simpa using Or.inr ht
        rw [this]; rfl
      have hst:=rejoinT h3 (ds:=[]) (xs:=[]) (fun d hd=>by simp at hd) hin hs0'
      have hsim:Sim C.P (.loop x) (fun s a' k'=>Hl C.n (FU e0 a k1 (wrs x ++ spW sp)) k1 (wrs x) a (give [] sp s (keepE true (wrs x) (spW sp) e0)) a' k')
          (iterL (fun s=>ev C cod x hxx (Flow (SpD T sp) (cod.D T)) (give [] sp s (keepE true (wrs x) (spW sp) e0)) ⟨fun e'=>takeF [] e' sp fun s=>some (.go s),exF exs sp,fun r=>some (.ret r)⟩) (fuel e0))
          (fun s a' k'=>Hl C.n (FU e0 a k1 (wrs x ++ spW sp)) k1 (wrs x) a (give [] sp s (keepE true (wrs x) (spW sp) e0)) a' k')
          (fun i s a' k'=>∃ y,exAt exs i = some y∧Hl C.n F k0 W a0 (give (y.1 ++ y.2) sp s (keepE false (wrs x) (spW sp) e0)) a' k')
          (fun x' a' k'=>RetOk C cod (FU e0 a k1 (wrs x ++ spW sp)) k1 a x' a' k'):=by
        refine sim_loop ?_ _
        intro s f a2 k2 hb hS Q' _ hgo' hex' hret'
        refine hx hxx _ _ _ f hb _ _ _ _ a2 k2 Q' (fun t ht=>ht) hsx hS (fun e' a' k' g1 g2=>?_) (fun i e' a' k' g1 g2=>?_) (fun x' a' k' g1 g2=>?_)
        · obtain ⟨s', e2, k3, g3, g4, g5, g6⟩ := takeF_ok g2 g1
          rw [← g5]
          exact hgo' s' a' k3 (Option.some.inj g3).symm (rejoinT h3 (fun d hd=>by simp at hd) g6 g4)
        · have g1 : exF exs sp i e' = some f := g1
          unfold exF at g1
          split at g1
          · rename_i y hy
            obtain ⟨s', e2, k3, g3, g4, g5, g6⟩ := takeF_ok g2 g1
            rw [← g5]
            exact hex' i s' a' k3 (Option.some.inj g3).symm ⟨y,hy,rejoinF h3 app_r hWx g6 g4⟩
          · simp at g1
        · exact hret' x' a' k' (Option.some.inj g1).symm g2
      refine hsim s0 fl a k1 hs hst Q trivial (fun s a' k' g1 _=>?_) (fun i s a' k' g1 g2=>?_) (fun x' a' k' g1 g2=>?_)
      · rw [g1] at h1; simp at h1
      · rw [g1] at h1
        obtain ⟨y,hy,g3⟩:=g2
        exact hex i _ a' k' (exK_ok hy h1) g3
      · rw [g1] at h1
        exact hrv x' a' k' h1 (g2.step h3.g (fun b ⟨t,_,h5,h6⟩=>h3.wr t h5 b h6) fun hN=>h3.old _ (hsl hN))
    · simp at h1
  · simp at hk
theorem region_ok (hC:CxOk C) (hH:HksOk C) {id:Nat} {A:Array Oper} {draw:Bool}:CodeOk C cod (.region id A draw):=by
  intro hsb h R e M r hk F k0 W a0 a k Q hW hsl hl hgo hex hrv
  have hWx : ∀ o ∈ A.toList,∀ d,o.dst = some d → d ∈ W:=fun o ho d hd=>hW d (List.mem_filterMap.2 ⟨o,ho,hd⟩)
  unfold ev at hk
  split at hk
  · obtain ⟨e1, k1, h1, h2, h3⟩ := frz_ok hl hk
    rw [← h2]
    exact evR_ok hC hWx h3 h1 hgo
  · exact hH _ _ _ _ _ _ (hsb _ (by simp [subs])) hk F k0 W a0 a k Q hW hl hgo
  · exact evR_ok hC hWx hl hk hgo
theorem code_ok (hC:CxOk C) (hH:HksOk C) : ∀ c:Code,CodeOk C cod c
  | .skip=>fun _ h R e M r hk F k0 W a0 a k Q hW _ hl hgo _ _=>wp_skip (hgo e a k hk hl)
  | .region _ _ _=>region_ok hC hH
  | .seq x y=>seq_ok (code_ok hC hH x) (code_ok hC hH y)
  | .cond _ x y=>cond_ok (code_ok hC hH x) (code_ok hC hH y)
  | .block _ x=>block_ok hH (code_ok hC hH x)
  | .loop x=>loop_ok (code_ok hC hH x)
  | .exit i=>fun _ h R e M r hk F k0 W a0 a k Q hW _ hl _ hex _=>wp_exit (hex i e a k hk hl)
  | .ret => fun _ h R e M r hk F k0 W a0 a k Q hW hsl hl _ _ hrv => by
    unfold ev at hk
    obtain ⟨e1,k1,h1,h2,h3⟩:=frz_ok hl hk
    split at h1
    · rename_i x hx
      rw [← h2]
      exact wp_ret (hrv x a k1 h1 (ret_ok h3 hsl hx))
    · simp at h1
  | .rangeFunc _ _ _ _=>fun _ h R e M r hk=>by simp [ev] at hk
  | .scope _=>fun _ h R e M r hk=>by simp [ev] at hk
  | .label _=>fun _ h R e M r hk=>by simp [ev] at hk
  | .goto _=>fun _ h R e M r hk=>by simp [ev] at hk
  | .refuse _=>fun _ h R e M r hk=>by simp [ev] at hk
end
end Go.Gb

/- General part of the proofs: whole functions. -/
namespace Go.Gb
variable {T:Tb} {R:Type}
def body (f:Func):Code:=f.body.getD .skip
def tidL:List (Nat × Tp) → Nat → Option Tp
  | [],_=>none
  | (a,t)::l,i=>bif Nat.beq a i then some t else tidL l i
def fI (s:Nat) (e:Env T):Nat:=match lk e s with | .v .int n=>n.toNat + 1 | _=>0
def lenS (e:Env T) (s:Nat):Nat:=match nrm (lk e s) with | .v (.list _) xs=>xs.length | .own _ _ _ xs=>xs.length | _=>0
def fLs (e:Env T):Nat → List Nat → Nat
  | a,[]=>a + 1
  | a,s::l=>fLs e (a + lenS e s) l
def fL (l:List Nat) (e:Env T):Nat:=match l with
  | []=>1
  | s::l=>fLs e (lenS e s) l
def gt (e:Env T) (s:Nat) (t:Tp):T.D t:=(asT t (nrm (lk e s))).getD (T.dflt t)

def EqsOk (P:Program) (T:Tb):List (TypeId × Nat) → Prop
  | []=>True
  | (t,n)::l=>@EqOk P t (T.S n) (T.enc n) (T.deq n)∧EqsOk P T l
theorem EqsOk.at {P:Program} : ∀ {l:List (TypeId × Nat)},EqsOk P T l → ∀ t n,l.contains (t,n) = true → @EqOk P t (T.S n) (T.enc n) (T.deq n)
  | [],_,_,_,h=>by simp at h
  | (t', n') :: l, h, t, n, hc => by
    simp only [List.contains_cons,Bool.or_eq_true,beq_iff_eq,Prod.mk.injEq] at hc
    rcases hc with ⟨rfl,rfl⟩ | hc
    · exact h.1
    · exact EqsOk.at h.2 t n hc
/-- A function, and that it computes what it is said to. -/
structure Fk (T:Tb) (P:Program) where
  f:FuncId
  d:FnE T
  ok:FnOk P f d
def depsOf {P:Program} (l:List (Fk T P)):Deps T:=l.map fun k=>(k.f,k.d)
theorem depsOf_ok {P:Program} : ∀ (l:List (Fk T P)) (f:FuncId) (d:FnE T),dep (depsOf l) f = some d → FnOk P f d
  | [],_,_,h=>by simp [depsOf,dep] at h
  | k :: l, f, d, h => by
    simp only [depsOf,List.map_cons,dep] at h
    cases hb:Nat.beq k.f f with
    | true =>
      rw [hb] at h
      obtain rfl:=Nat.eq_of_beq_eq_true hb
      obtain rfl:=Option.some.inj h
      exact k.ok
    | false=>rw [hb] at h; exact depsOf_ok l f d h

theorem HIs.cons {a b:Tp} {l:List Tp} {x:HL T.S (a::b::l)} {vs:List Value} {k:K} (h:HIs (a::b::l) x vs k) : ∃ u us,vs = u::us∧IsV x.1 u k∧HIs (b::l) x.2 us k:=by
  cases vs with
  | nil=>exact h.elim
  | cons u us=>exact ⟨u,us,rfl,h.1,h.2⟩
theorem HIs.one {a:Tp} {x:HL T.S [a]} {vs:List Value} {k:K} (h:HIs [a] x vs k) : ∃ u,vs = [u]∧IsV (α:=T.D a) x u k:=by
  cases vs with
  | nil=>exact h.elim
  | cons u us => cases us with
    | nil=>exact ⟨u,rfl,h⟩
    | cons _ _=>exact h.elim
theorem HIs.nil {x:HL T.S []} {vs:List Value} {k:K} (h:HIs [] x vs k):vs = []:=by
  cases vs with
  | nil=>rfl
  | cons u us=>exact h.elim
theorem initE_lk {a:Act} {k:K} : ∀ {l:List Tp} {x:HL T.S l} {vs:List Value} {i:Nat},HIs l x vs k → ArgsAre a i vs → ∀ t,(lk (initE i l x) t).is a (a.get t) k∧isRes (lk (initE i l x) t) = false∧∀ s,(lk (initE i l x) t).ment s = false
  | [],_,_,_,_,_,t=>⟨trivial,rfl,fun _=>rfl⟩
  | [b], x, vs, i, h, ha, t => by
    obtain ⟨u,rfl,hu⟩:=h.one
    simp only [initE]
    rw [lk_cons]
    split
    · rename_i e; subst e
      rw [ha.1]
      exact ⟨mkv_is.2 hu,mkv_res,fun _=>mkv_ment⟩
    · exact ⟨trivial,rfl,fun _=>rfl⟩
  | b :: c :: l, x, vs, i, h, ha, t => by
    obtain ⟨u,us,rfl,hu,h'⟩:=h.cons
    simp only [initE]
    rw [lk_cons]
    split
    · rename_i e; subst e
      rw [ha.1]
      exact ⟨mkv_is.2 hu,mkv_res,fun _=>mkv_ment⟩
    · exact initE_lk h' ha.2 t
theorem HIs.len {k:K} : ∀ {l:List Tp} {x:HL T.S l} {vs:List Value},HIs l x vs k → vs.length = l.length
  | [],_,_,h=>by rw [h.nil]; rfl
  | [_],_,_,h=>by obtain ⟨u,rfl,_⟩:=h.one; rfl
  | _::_::_,_,_,h=>by obtain ⟨u,us,rfl,_,h'⟩:=h.cons; simp [HIs.len h']

/-- A function that turns, takes over or makes things of its own, and that it does what it is said to. -/
structure FkR (T:Tb) (P:Program) where
  f:FuncId
  d:FnR T
  ok:FnROk P f d
def rdepsOf {P:Program} (l:List (FkR T P)):RDeps T:=l.map fun k=>(k.f,k.d)
theorem rdepsOf_ok {P:Program} : ∀ (l:List (FkR T P)) (f:FuncId) (d:FnR T),rdep (rdepsOf l) f = some d → FnROk P f d
  | [],_,_,h=>by simp [rdepsOf,rdep] at h
  | k :: l, f, d, h => by
    simp only [rdepsOf,List.map_cons,rdep] at h
    cases hb:Nat.beq k.f f with
    | true =>
      rw [hb] at h
      obtain rfl:=Nat.eq_of_beq_eq_true hb
      obtain rfl:=Option.some.inj h
      exact k.ok
    | false=>rw [hb] at h; exact rdepsOf_ok l f d h

theorem fnOkW {P:Program} {tid:TypeId → Option Tp} {eqs:List (TypeId × Nat)} {d:FnE T} {f:FuncId} (ks:List (Fk T P)) (rks:List (FkR T P)) (wr:Bool) (own:List Nat) (fn:Func) (hk:Nat → Code → Env T → (R:Type) → (Env T → Option R) → Option R) (hH:HksOk ⟨P,tid,eqs,depsOf ks,rdepsOf rks,wr,own,fn.results.toList,fn.ntmps,hk,fun c=>c ∈ subs (body fn)⟩) (h:Hn T) (hE:EqsOk P T eqs) (hm:P.follows .mixedOrders = true) (hpe:P = T.P)
    (hf:P.funcs[f]? = some fn) (hc : ∀ args w,(callFunc f args).run P w = .ok (.enter f args) w) (hb:fn.body = some (body fn)) (hl:Nat.ble d.dom.length fn.ntmps = true)
    (he : ∀ x,evF ⟨P,tid,eqs,depsOf ks,rdepsOf rks,wr,own,fn.results.toList,fn.ntmps,hk,fun c=>c ∈ subs (body fn)⟩ (body fn) h d.dom d.cod x = d.run x):FnOk P f d:=by
  let C:Cx T:=⟨P,tid,eqs,depsOf ks,rdepsOf rks,wr,own,fn.results.toList,fn.ntmps,hk,fun c=>c ∈ subs (body fn)⟩
  have hC:CxOk C:=⟨depsOf_ok ks,rdepsOf_ok rks,hE.at,hm,hpe⟩
  refine ⟨hc,fun k0 vs x r hG hi hr=>?_⟩
  refine Ret.ofC ?_
  refine enterK hf hb rfl (by
    have:=hi.len
    have h2:=Nat.le_of_ble_eq_true hl
    simpa [this] using h2) fun a k hk0 hs hd ha=>?_
  subst hk0
  have hev:evF C (body fn) h d.dom d.cod x = some r:=(he x).trans hr
  have hin:=initE_lk hi ha
  have h0:Hl C.n noF k (wrs (body fn)) a (initE 0 d.dom x) a k:=⟨Chg.refl _ k,hs,hd,fun _ _=>rfl,fun t=>(hin t).1,fun t s hms=>by rw [(hin t).2.2] at hms; simp at hms,
    fun t ht=>by have h1:=unl_res ht; rw [(hin t).2.1] at h1; simp at h1,fun t t' _ b hb=>absurd hb (fp_nonres (hin t).2.1 _ _ b),hG⟩
  refine code_ok hC hH (body fn) (fun _ h=>h) h _ _ _ r hev noF k _ a a k _ (fun t ht=>ht) (fun hN=>by simp [isN] at hN) h0 (fun e' a' k' g=>by simp at g) (fun i e' a' k' g=>by simp at g) (fun y a' k' g hret=>?_)
  obtain rfl:=Option.some.inj g
  obtain ⟨h1,_,k2,h2,h3,_,_,h4⟩:=hret
  obtain ⟨v,h5,h6,_⟩:=h4 fn rfl
  rw [← h2]
  exact bodyPost_ret' h1 h5 h3 h6
theorem noHk_ok {C:Cx T} (h0:C.hk = noHk:=by rfl):HksOk C:=fun _ _ _ _ _ _ _ h=>by rw [h0] at h; simp [noHk] at h
theorem fnOk {P:Program} {tid:TypeId → Option Tp} {eqs:List (TypeId × Nat)} {d:FnE T} {f:FuncId} (ks:List (Fk T P)) (own:List Nat) (fn:Func) (h:Hn T) (hE:EqsOk P T eqs) (hm:P.follows .mixedOrders = true) (hpe:P = T.P)
    (hf:P.funcs[f]? = some fn) (hc : ∀ args w,(callFunc f args).run P w = .ok (.enter f args) w) (hb:fn.body = some (body fn)) (hl:Nat.ble d.dom.length fn.ntmps = true)
    (he : ∀ x,evF ⟨P,tid,eqs,depsOf ks,[],false,own,fn.results.toList,fn.ntmps,noHk,fun c=>c ∈ subs (body fn)⟩ (body fn) h d.dom d.cod x = d.run x):FnOk P f d:=
  fnOkW ks [] false own fn noHk (noHk_ok rfl) h hE hm hpe hf hc hb hl he

/-! functions with things of their own -/
def posP (tk:Bool):List Pm → Nat → Option Nat
  | [],_=>none
  | .v _::l,i=>posP tk l (i + 1)
  | .tu::l,i=>bif tk then posP tk l (i + 1) else some i
  | .tk::l,i=>bif tk then some i else posP tk l (i + 1)
  | .fn _::l,i=>posP tk l (i + 1)
theorem PIs.len {k:K} {u1 u2:Value} : ∀ {l:List Pm} {x:HL T.S (valsP l)} {vs:List Value},PIs l x u1 u2 vs k → vs.length = l.length
  | [],_,[],_=>rfl
  | [],_,_::_,h=>h.elim
  | .v _::_,_,[],h=>h.elim
  | .tu::_,_,[],h=>h.elim
  | .tk::_,_,[],h=>h.elim
  | .v _::l,_,_::_,h=>by simp [PIs.len (l:=l) h.2]
  | .tu::l,_,_::_,h=>by simp [PIs.len (l:=l) h.2]
  | .tk::l,_,_::_,h=>by simp [PIs.len (l:=l) h.2]
  | .fn _::_,_,[],h=>h.elim
  | .fn _::l,_,_::_,h=>by simp [PIs.len (l:=l) h.2]
theorem initR_lk {a:Act} {k:K} {u1 u2:Value} {y z:AV T} : ∀ {l:List Pm} {x:HL T.S (valsP l)} {vs:List Value} {i:Nat},PIs l x u1 u2 vs k → ArgsAre a i vs → uniqP l = true → ∀ t,
    ((lk (initR i l x y z) t).is a (a.get t) k∧isRes (lk (initR i l x y z) t) = false∧∀ s,(lk (initR i l x y z) t).ment s = false) ∨ (posP false l i = some t∧lk (initR i l x y z) t = y∧a.get t = u1) ∨ (posP true l i = some t∧lk (initR i l x y z) t = z∧a.get t = u2)
  | [],_,_,_,_,_,_,t=>.inl ⟨trivial,rfl,fun _=>rfl⟩
  | .v _::_,_,[],_,h,_,_,_=>h.elim
  | .tu::_,_,[],_,h,_,_,_=>h.elim
  | .tk::_,_,[],_,h,_,_,_=>h.elim
  | .v p :: l, x, v :: vs, i, h, ha, hu, t => by
    simp only [initR]
    rw [lk_cons]
    split
    · rename_i e; subst e
      rw [ha.1]
      exact .inl ⟨mkv_is.2 h.1,mkv_res,fun _=>mkv_ment⟩
    · exact initR_lk (l:=l) h.2 ha.2 hu t
  | .tu :: l, x, v :: vs, i, h, ha, hu, t => by
    simp only [uniqP,Bool.and_eq_true] at hu
    simp only [initR]
    rw [lk_cons]
    split
    · rename_i e; subst e
      exact .inr (.inl ⟨rfl,rfl,ha.1.trans h.1⟩)
    · rcases initR_lk (l := l) (x := x) (y := y) (z := z) h.2 ha.2 hu.2 t with h1 | ⟨h1, _⟩ | h1
      · exact .inl h1
      · exact absurd h1 (by rw [posP_no hu.1]; simp)
      · exact .inr (.inr h1)
  | .tk :: l, x, v :: vs, i, h, ha, hu, t => by
    simp only [uniqP,Bool.and_eq_true] at hu
    simp only [initR]
    rw [lk_cons]
    split
    · rename_i e; subst e
      exact .inr (.inr ⟨rfl,rfl,ha.1.trans h.1⟩)
    · rcases initR_lk (l := l) (x := x) (y := y) (z := z) h.2 ha.2 hu.2 t with h1 | h1 | ⟨h1, _⟩
      · exact .inl h1
      · exact .inr (.inl h1)
      · exact absurd h1 (by rw [posP_no hu.1]; simp)
  | .fn _::_,_,[],_,h,_,_,_=>h.elim
  | .fn _::l,x,v::vs,i,h,ha,hu,t=>initR_lk (l:=l) h.2 ha.2 hu t
where posP_no {tk:Bool} : ∀ {l:List Pm} {i:Nat},noP tk l = true → posP tk l i = none
  | [],_,_=>rfl
  | .v _::l,i,h=>posP_no (l:=l) h
  | .tu :: l, i, h => by
    cases tk with
    | false=>simp [noP] at h
    | true=>exact posP_no (l:=l) (by simpa [noP] using h)
  | .tk :: l, i, h => by
    cases tk with
    | true=>simp [noP] at h
    | false=>exact posP_no (l:=l) (by simpa [noP] using h)
  | .fn _::l,i,h=>posP_no (l:=l) h
def slOk (d:FnR T) (sl:Nat) (c:Code):Bool:=uniqP d.pm && (isN d.tu || ((match posP false d.pm 0 with | some i=>Nat.beq i sl | none=>false) && !((wrs c).contains sl)))
theorem fnOkR {P:Program} {tid:TypeId → Option Tp} {eqs:List (TypeId × Nat)} {d:FnR T} {f:FuncId} (pr:d.tu.D T × d.ro.D T × HL T.S d.cod → d.ρ) (hpr : ∀ r,d.inj (pr r) = r) (ks:List (Fk T P)) (rks:List (FkR T P)) (wr:Bool) (own:List Nat) (fn:Func) (hk:Nat → Code → Env T → (R:Type) → (Env T → Option R) → Option R) (hH:HksOk ⟨P,tid,eqs,depsOf ks,rdepsOf rks,wr,own,fn.results.toList,fn.ntmps,hk,fun c=>c ∈ subs (body fn)⟩) (h:Hn T) (sl:Nat) (hE:EqsOk P T eqs) (hm:P.follows .mixedOrders = true) (hpe:P = T.P)
    (hf:P.funcs[f]? = some fn) (hc : ∀ args w,(callFunc f args).run P w = .ok (.enter f args) w) (hb:fn.body = some (body fn)) (hl:Nat.ble d.pm.length fn.ntmps = true) (hsl:slOk d sl (body fn) = true)
    (he : ∀ x y z,evFR ⟨P,tid,eqs,depsOf ks,rdepsOf rks,wr,own,fn.results.toList,fn.ntmps,hk,fun c=>c ∈ subs (body fn)⟩ (body fn) h d pr hpr sl x y z = d.run x y z):FnROk P f d:=by
  let C:Cx T:=⟨P,tid,eqs,depsOf ks,rdepsOf rks,wr,own,fn.results.toList,fn.ntmps,hk,fun c=>c ∈ subs (body fn)⟩
  have hC:CxOk C:=⟨depsOf_ok ks,rdepsOf_ok rks,hE.at,hm,hpe⟩
  simp only [slOk,Bool.and_eq_true,Bool.or_eq_true] at hsl
  obtain ⟨huq,hsl⟩:=hsl
  have hpos:isN d.tu = false → posP false d.pm 0 = some sl∧sl ∉ wrs (body fn):=fun hN=>by
    rcases hsl with h1 | ⟨h1,h2⟩
    · rw [hN] at h1; simp at h1
    · refine ⟨?_, by simpa using h2⟩
      split at h1
      · rename_i i hi; rw [hi,Nat.eq_of_beq_eq_true h1]
      · simp at h1
  refine ⟨hc,fun k0 vs u1 u2 x y z r hG hi h1 h2 hap hr=>?_⟩
  refine enterK hf hb rfl (by
    have:=hi.len
    have h2:=Nat.le_of_ble_eq_true hl
    simpa [this] using h2) fun a k hk0 hs hd ha=>?_
  subst hk0
  have hev:evFR C (body fn) h d pr hpr sl x y z = some r:=(he x y z).trans hr
  have hin:=initR_lk (y:=d.tu.av y) (z:=d.tk.av z) hi ha huq
  have av1:(d.tu.av y).is a u1 k:=by
    cases hN:isN d.tu with
    | false=>exact (Rk.av_is hN).2 h1
    | true =>
      have : ∀ (κ:Rk) (w:κ.D T),isN κ = true → (κ.av w).is a u1 k:=fun κ w h=>by cases κ <;> first | trivial | simp [isN] at h
      exact this _ _ hN
  have av2:(d.tk.av z).is a u2 k:=by
    cases hN:isN d.tk with
    | false=>exact (Rk.av_is hN).2 h2
    | true =>
      have : ∀ (κ:Rk) (w:κ.D T),isN κ = true → (κ.av w).is a u2 k:=fun κ w h=>by cases κ <;> first | trivial | simp [isN] at h
      exact this _ _ hN
  have f1 : ∀ b,(d.tu.av y).fp u1 k b → d.tu.fp T u1 k b:=fun b hb=>by
    cases hN:isN d.tu with
    | false=>rw [← Rk.av_fp hN]; exact hb
    | true =>
      have : ∀ (κ:Rk) (w:κ.D T),isN κ = true → ¬ (κ.av w).fp u1 k b:=fun κ w h=>by cases κ <;> first | exact fun f=>f | simp [isN] at h
      exact (this _ _ hN hb).elim
  have f2 : ∀ b,(d.tk.av z).fp u2 k b → d.tk.fp T u2 k b:=fun b hb=>by
    cases hN:isN d.tk with
    | false=>rw [← Rk.av_fp hN]; exact hb
    | true =>
      have : ∀ (κ:Rk) (w:κ.D T),isN κ = true → ¬ (κ.av w).fp u2 k b:=fun κ w h=>by cases κ <;> first | exact fun f=>f | simp [isN] at h
      exact (this _ _ hN hb).elim
  have h0:Hl C.n (fun b=>d.tu.fp T u1 k b ∨ d.tk.fp T u2 k b) k (wrs (body fn)) a (initR 0 d.pm x (d.tu.av y) (d.tk.av z)) a k:=by
    refine ⟨Chg.refl _ k,hs,hd,fun _ _=>rfl,fun t=>?_,fun t s hms=>?_,fun t _ b hb=>?_,fun t t' hne b hb hb'=>?_,hG⟩
    · rcases hin t with h3 | ⟨_, h3, h4⟩ | ⟨_, h3, h4⟩
      · exact h3.1
      · rw [h3,h4]; exact av1
      · rw [h3,h4]; exact av2
    · rcases hin t with h3 | ⟨_, h3, h4⟩ | ⟨_, h3, h4⟩
      · rw [h3.2.2] at hms; simp at hms
      · rw [h3,Rk.av_ment] at hms; simp at hms
      · rw [h3,Rk.av_ment] at hms; simp at hms
    · rcases hin t with h3 | ⟨_, h3, h4⟩ | ⟨_, h3, h4⟩
      · exact absurd hb (fp_nonres h3.2.1 _ _ b)
      · rw [h3,h4] at hb; exact .inl (.inl (f1 b hb))
      · rw [h3,h4] at hb; exact .inl (.inr (f2 b hb))
    · rcases hin t with h3 | ⟨h5, h3, h4⟩ | ⟨h5, h3, h4⟩
      · exact absurd hb (fp_nonres h3.2.1 _ _ b)
      · rw [h3, h4] at hb
        rcases hin t' with g3 | ⟨g5,g3,g4⟩ | ⟨g5,g3,g4⟩
        · exact absurd hb' (fp_nonres g3.2.1 _ _ b)
        · exact hne (Option.some.inj (h5.symm.trans g5))
        · rw [g3,g4] at hb'; exact hap b (f1 b hb) (f2 b hb')
      · rw [h3, h4] at hb
        rcases hin t' with g3 | ⟨g5,g3,g4⟩ | ⟨g5,g3,g4⟩
        · exact absurd hb' (fp_nonres g3.2.1 _ _ b)
        · rw [g3,g4] at hb'; exact hap b (f1 b hb') (f2 b hb)
        · exact hne (Option.some.inj (h5.symm.trans g5))
  have fin : ∀ (y:d.ρ) (a' : Act) (k' : K),y = r → RetOk C ⟨sl,d.tu,d.ro,d.cod,d.ρ,pr,d.inj,hpr⟩ (fun b=>d.tu.fp T u1 k b ∨ d.tk.fp T u2 k b) k a y a' k' → ∃ k2 v,a'.defers = []∧k2.w = k'.w∧(results fn a'.tmps).run P k2.w = .ok v k2.w∧Chg (fun b=>d.tu.fp T u1 k b ∨ d.tk.fp T u2 k b) k k2 ∧
      PostF d (fun b=>d.tu.fp T u1 k b ∨ d.tk.fp T u2 k b) u1 (d.inj r) k v k2:=fun y a' k' hy hret=>by
    subst hy
    obtain ⟨g1,g2,k2,g3,g4,g5,g6,g7⟩:=hret
    obtain ⟨v,g8,g9,g10,g11⟩:=g7 fn rfl
    have hu1:isN d.tu = false → a'.get sl = u1:=fun hN=>by
      obtain ⟨p1,p2⟩:=hpos hN
      refine (g2 hN).trans ?_
      exact posP_get hi ha p1
    refine ⟨k2,v,g1,g3,g8,g4,?_⟩
    cases hN:isN d.tu with
    | false =>
      have e1:=hu1 hN
      dsimp only at g5 g6 g11
      rw [e1] at g5 g6 g11
      exact ⟨g5,g9,g11,g6,g10⟩
    | true =>
      have : ∀ (κ:Rk) (w:κ.D T),isN κ = true → κ.is w u1 k2:=fun κ w h=>by cases κ <;> first | trivial | simp [isN] at h
      exact ⟨this _ _ hN,g9,fun b hb=>(Rk.fpN hN b hb).elim,fun b hb=>(Rk.fpN hN b hb).elim,g10⟩
  refine code_ok hC hH (body fn) (fun _ h=>h) h _ _ _ r hev _ k _ a a k _ (fun t ht=>ht) (fun hN=>(hpos hN).2) h0 (fun e' a' k' g hl'=>?_) (fun i e' a' k' g=>by simp at g) (fun y a' k' g hret=>?_)
  · obtain ⟨k2, v, g1, g3, g8, g4, g5⟩ := fin r a' k' rfl (ret_ok hl' (fun hN => (hpos hN).2) g)
    rw [← g3]
    exact bodyPost_ret' g1 g8 g4 g5
  · obtain ⟨k2, v, g1, g3, g8, g4, g5⟩ := fin y a' k' (Option.some.inj g) hret
    rw [← g3]
    exact bodyPost_ret' g1 g8 g4 g5
where posP_get {a:Act} {k:K} {u1 u2:Value} {sl:Nat} : ∀ {l:List Pm} {x:HL T.S (valsP l)} {vs:List Value} {i:Nat},PIs l x u1 u2 vs k → ArgsAre a i vs → posP false l i = some sl → a.get sl = u1
  | [],_,_,_,_,_,h=>by simp [posP] at h
  | .v _::_,_,[],_,h,_,_=>h.elim
  | .tu::_,_,[],_,h,_,_=>h.elim
  | .tk::_,_,[],_,h,_,_=>h.elim
  | .v _::l,_,_::_,_,h,ha,hp=>posP_get (l:=l) h.2 ha.2 hp
  | .tu :: l, _, _ :: _, i, h, ha, hp => by
    simp only [posP,cond_false,Option.some.injEq] at hp
    subst hp
    exact ha.1.trans h.1
  | .tk::l,_,_::_,_,h,ha,hp=>posP_get (l:=l) h.2 ha.2 (by simpa [posP] using hp)
  | .fn _::_,_,[],_,h,_,_=>h.elim
  | .fn _::l,_,_::_,_,h,ha,hp=>posP_get (l:=l) h.2 ha.2 hp

/-! from the other form -/
section
variable {P:Program} {f:FuncId}
theorem callsRetC {vs : Array Value} {w : World} {k : K} {F G : FP} {R S : Pred} (h : Calls P f vs w (RetC F k R)) (hF : ∀ b, F b ↔ G b) (hi : ∀ v k', Chg F k k' → R v k' → S v k') : Calls P f vs w (RetC G k S) := by
  have e:F = G:=funext fun b=>propext (hF b)
  subst e
  refine Calls.mono h fun e w' he=>?_
  cases e with
  | returned v => obtain ⟨k', h1, h2, h3⟩ := he; exact ⟨k', h1, h2, hi _ _ h2 h3⟩
  | panicked c=>exact he.elim
  | outgrown=>exact he.elim
/-- a slice is turned in place -/
def fnT (T:Tb) (pm:List Pm) (e:TypeId) (t:Tp) (run:HL T.S (valsP pm) → List (T.D t) → Option (List (T.D t))):FnR T:=⟨pm,.o e t,.n,.n,[],List (T.D t),fun r=>(r,(),()),fun x y _=>run x y⟩
/-- a slice is taken over, and the result is its own -/
def fnK (T : Tb) (pm : List Pm) (e : TypeId) (t : Tp) (e' : TypeId) (t' : Tp) (run : HL T.S (valsP pm) → List (T.D t) → Option (List (T.D t'))) : FnR T := ⟨pm, .n, .o e t, .o e' t', [], List (T.D t'), fun r => ((), r, ()), fun x _ z => run x z⟩
theorem fnT_ok {pm:List Pm} {e:TypeId} {t:Tp} {run:HL T.S (valsP pm) → List (T.D t) → Option (List (T.D t))} (hc : ∀ args w,(callFunc f args).run P w = .ok (.enter f args) w)
    (ok : ∀ (k0:K) (vs:List Value) (u1 u2:Value) (x:HL T.S (valsP pm)) (y r:List (T.D t)),GOk T k0 → PIs pm x u1 u2 vs k0 → IsOwn 0 e y u1 k0 → run x y = some r → Calls P f vs.toArray k0.w (RetC (obF u1) k0 fun _ k'=>IsOwn 0 e r u1 k')):FnROk P f (fnT T pm e t run):=
  ⟨hc,fun k0 vs u1 u2 x y z r hG hi h1 _ _ hr=>callsRetC (ok k0 vs u1 u2 x y r hG hi h1 hr) (fun b=>⟨.inl,fun h=>h.elim id fun h=>h.elim⟩) fun v k' hg hv=>⟨hv,trivial,fun b _ h=>h.elim,fun b hb=>.inl (.inl hb),fun b h=>h.elim⟩⟩
theorem fnK_ok {pm:List Pm} {e e' : TypeId} {t t' : Tp} {run:HL T.S (valsP pm) → List (T.D t) → Option (List (T.D t'))} (hc : ∀ args w,(callFunc f args).run P w = .ok (.enter f args) w)
    (ok : ∀ (k0:K) (vs:List Value) (u1 u2:Value) (x:HL T.S (valsP pm)) (z:List (T.D t)) (r:List (T.D t')),GOk T k0 → PIs pm x u1 u2 vs k0 → IsOwn 0 e z u2 k0 → run x z = some r → Calls P f vs.toArray k0.w (RetC (obF u2) k0 (IsOwnW u2 k0 e' r))):FnROk P f (fnK T pm e t e' t' run):=
  ⟨hc,fun k0 vs u1 u2 x y z r hG hi _ h2 _ hr=>callsRetC (ok k0 vs u1 u2 x z r hG hi h2 hr) (fun b=>⟨.inr,fun h=>h.elim (fun h=>h.elim) id⟩) fun v k' hg hv=>⟨trivial,hv.1,fun b h=>h.elim,fun b h=>h.elim,fun b hb=>(hv.2 b hb).imp .inr id⟩⟩
end
/-! package-level variables -/
theorem GOk.none {k:K} (h : ∀ g,T.gl g = .none) (h' : ∀ g,T.gi = some g → ∃ m:Int,IsRef m (.pointer (some ⟨g,0,.none⟩)) k):GOk T k:=⟨fun g t x e=>by rw [h g] at e; simp at e,h'⟩
/-- in the world of a call -/
theorem GOk.at {k0 k k' : K} (h:GOk T k0) (g:Chg noF k0 k) (g' : Grow k k'):GOk T k':=(h.le (g.le fun _ f=>f.elim)).le g'.le
/-- the same structs, and what the package-level variables hold -/
def Tb.withG (T:Tb) (gl:Nat → Option (Σ t:Tp,t.den T.S)) (gi:Option Nat):Tb:={ T with gl:=gl,gi:=gi }
theorem HIs.low {gl:Nat → Option (Σ t:Tp,t.den T.S)} {gi:Option Nat} {k:K} : ∀ {l:List Tp} {x:HL T.S l} {vs:List Value},HIs (T:=T.withG gl gi) l x vs k → HIs (T:=T) l x vs k
  | [],_,[],_=>trivial
  | [_],_,[_],h=>h
  | _::_::_,_,_::_,h=>⟨h.1,HIs.low h.2⟩
  | [],_,_::_,h=>h.elim
  | [_],_,[],h=>h.elim
  | [_],_,_::_::_,h=>h.elim
  | _::_::_,_,[],h=>h.elim
/-! from and to the other form -/
end Go.Gb
namespace Go.Gb
variable {T:Tb}
theorem PIs.v {t:Tp} {l:List Pm} {x:HL T.S (valsP (.v t::l))} {u1 u2:Value} {vs:List Value} {k:K} (h:PIs (.v t::l) x u1 u2 vs k) : ∃ v ws,vs = v::ws∧IsV (α:=T.D t) (hdH x) v k∧PIs l (tlH x) u1 u2 ws k:=by
  cases vs with
  | nil=>exact h.elim
  | cons v ws=>exact ⟨v,ws,rfl,h.1,h.2⟩
theorem PIs.tu {l:List Pm} {x:HL T.S (valsP (.tu::l))} {u1 u2:Value} {vs:List Value} {k:K} (h:PIs (.tu::l) x u1 u2 vs k) : ∃ ws,vs = u1::ws∧PIs l x u1 u2 ws k:=by
  cases vs with
  | nil=>exact h.elim
  | cons v ws=>exact ⟨ws,by rw [h.1],h.2⟩
theorem PIs.tk {l:List Pm} {x:HL T.S (valsP (.tk::l))} {u1 u2:Value} {vs:List Value} {k:K} (h:PIs (.tk::l) x u1 u2 vs k) : ∃ ws,vs = u2::ws∧PIs l x u1 u2 ws k:=by
  cases vs with
  | nil=>exact h.elim
  | cons v ws=>exact ⟨ws,by rw [h.1],h.2⟩
theorem PIs.fn {g:Nat} {l:List Pm} {x:HL T.S (valsP (.fn g::l))} {u1 u2:Value} {vs:List Value} {k:K} (h:PIs (.fn g::l) x u1 u2 vs k) : ∃ ws,vs = .func (.func g) #[] #[]::ws∧PIs l x u1 u2 ws k:=by
  cases vs with
  | nil=>exact h.elim
  | cons v ws=>exact ⟨ws,by rw [h.1],h.2⟩
theorem PIs.nil {x:HL T.S (valsP [])} {u1 u2:Value} {vs:List Value} {k:K} (h:PIs [] x u1 u2 vs k):vs = []:=by
  cases vs with
  | nil=>rfl
  | cons v ws=>exact h.elim
end Go.Gb


set_option linter.unusedVariables false
set_option linter.unusedSimpArgs false
/- General part of the proofs: what a program tells of its own regions (no program in sight). -/
namespace Go.Gb

theorem len8 {l:List Value} (h:l.length = 8) : ∃ a b c d e f g i,l = [a,b,c,d,e,f,g,i]:=by
  match l,h with
  | [a,b,c,d,e,f,g,i],_=>exact ⟨a,b,c,d,e,f,g,i,rfl⟩

/-- as chkL; moves of the first part may be late too -/
def chkM (n m:Nat) (late ord:List Nat) (A:Array Oper) (es:List Ent):Bool:=
  chkS n m A.toList es && Region.noSelect A && chkLate A (Array.replicate A.size false) late && late.all (fun l=>decide (l < A.size)) &&
  allI (fun j _=>decide (j < m) || late.contains j || (List.range m).all fun i=>late.contains i || hasBit (masks A.toList []) j i) 0 A.toList &&
  chkT A (fullL A m late) ord && ((fullL A m late).toList.filter (· = false)).length == ord.length && decide late.Nodup &&
  late.all (fun l=>late.all fun l'=>(mvOf A l).2 != (mvOf A l').1 && (l == l' || (mvOf A l).1 != (mvOf A l').1)) && late.all (fun l=>decide ((mvOf A l).1 < n)) &&
  late.all fun l=>match nth es l with | some e=>e.need.all fun x=>x.1 != (mvOf A l).1 | none=>true
section
variable {P:Program} {a0:Act} {k0:K} {es:List Ent}
theorem any_mid {A:Array Oper} {n m:Nat} {late ord:List Nat} {Q:Exit → Act → World → Prop} (hn:a0.tmps.size = n) (hchk:chkM n m late ord A es = true)
    (hst:Steps P es a0 k0 (A.toList.take m) es) (hQ:LetsOut Q) (hQp : ∀ c a w,¬ Q (.panic c) a w) (hQo : ∀ a w,¬ Q .outgrown a w)
    (hpost : ∀ a k,Inv A.toList es a0 k0 (· < m) a k → wpOps P A Q ord a k.w) :
    ∀ (fuel:Nat) (listed:Array Bool) (a:Act) (k:K),listed.size = A.size → fuel = (listed.toList.filter (· = false)).length →
      (∀ l ∈ late,listed.getD l false = true) → (∀ j,listed.getD j false = true → j < m ∨ j ∈ late) → Inv A.toList es a0 k0 (fun j=>listed.getD j false = true∧j < m) a k → wpAny P .any A Q fuel listed a k.w:=by
  have hchk':=hchk
  simp only [chkM,Bool.and_eq_true,beq_iff_eq,decide_eq_true_eq] at hchk'
  obtain ⟨⟨⟨⟨⟨⟨⟨⟨⟨⟨hS,hnos⟩,hlate⟩,hlm⟩,htail⟩,hT⟩,hcnt⟩,hnd⟩,hsrc⟩,hdst⟩,hown⟩:=hchk'
  have hS':=hS
  simp only [chkS,Bool.and_eq_true,beq_iff_eq,decide_eq_true_eq] at hS'
  obtain ⟨⟨⟨⟨hlen,hml⟩,h2⟩,hedge⟩,hdist⟩:=hS'
  have hmA:m ≤ A.size:=by simpa using hml
  have hmv : ∀ l ∈ late,∃ o,A[l]? = some o∧o.after = #[]:=by
    have : ∀ (r:List Nat) (b:Array Bool),chkLate A b r = true → ∀ l ∈ r,isMv A l = true:=by
      intro r
      induction r with
      | nil=>intro b _ l hl; simp at hl
      | cons x r ih =>
        intro b hb l hl
        simp only [chkLate,Bool.and_eq_true] at hb
        rcases List.mem_cons.1 hl with rfl | hl
        · exact hb.1.1.1
        · exact ih _ hb.2 l hl
    intro l hl
    obtain ⟨o,ho,_,ha,_⟩:=isMv_spec (P:=P) (this late _ hlate l hl)
    exact ⟨o,ho,ha⟩
  intro fuel
  induction fuel with
  | zero =>
    intro listed a k hls hf hL hDm hinv
    have hall : ∀ j,j < A.size → listed.getD j false = true:=by
      intro j hj
      have hz:=List.eq_nil_of_length_eq_zero hf.symm
      have:listed[j]'(by omega) ∉ listed.toList.filter (· = false):=by rw [hz]; simp
      simp only [List.mem_filter,Array.mem_toList_iff,Array.getElem_mem,true_and,decide_eq_true_eq,Bool.not_eq_false] at this
      simp [Array.getD_eq_getD_getElem?,Array.getElem?_eq_getElem (show j < listed.size by omega),this]
    have hfl:listed = fullL A m late:=by
      refine Array.ext (by simp [fullL,hls]) fun j h1 h2=>?_
      have h3:=hall j (by omega)
      have h4:=hDm j h3
      have h5:listed[j] = true:=by simpa [Array.getD_eq_getD_getElem?,Array.getElem?_eq_getElem h1] using h3
      rw [h5]
      simp only [fullL,Array.getElem_map,Array.getElem_range]
      simpa using h4
    have hinv' : Inv A.toList es a0 k0 (· < m) a k:=by
      have he:(fun j=>listed.getD j false = true∧j < m) = (· < m):=funext fun j=>propext ⟨fun h=>h.2,fun h=>⟨hall j (by omega),h⟩⟩
      rw [he] at hinv; exact hinv
    have h0:ord.length = 0:=by rw [← hcnt,← hfl]; exact hf.symm
    have:=tail_ord hnos hQp hQo ord listed a k.w (by rw [hfl]; exact hT) (hpost a k hinv')
    rw [h0] at this
    exact this
  | succ fuel ih =>
    intro listed a k hls hf hL hDm hinv
    by_cases hfull : ∀ j,j < m → listed.getD j false = true
    · have hfl : listed = fullL A m late := by
        refine Array.ext (by simp [fullL,hls]) fun j h1 h2=>?_
        have hg:listed.getD j false = listed[j]:=by simp [Array.getD_eq_getD_getElem?,Array.getElem?_eq_getElem h1]
        have e:(fullL A m late)[j] = (decide (j < m) || late.contains j):=by simp [fullL]
        rw [e,← hg,Bool.eq_iff_iff]
        simp only [Bool.or_eq_true,decide_eq_true_eq,List.contains_iff_mem]
        exact ⟨hDm j,fun h=>h.elim (hfull j) (hL j)⟩
      have hinv' : Inv A.toList es a0 k0 (· < m) a k:=by
        have he:(fun j=>listed.getD j false = true∧j < m) = (· < m):=funext fun j=>propext ⟨fun h=>h.2,fun h=>⟨hfull j h,h⟩⟩
        rw [he] at hinv; exact hinv
      have h0:ord.length = fuel + 1:=by rw [← hcnt,← hfl]; exact hf.symm
      have:=tail_ord hnos hQp hQo ord listed a k.w (by rw [hfl]; exact hT) (hpost a k hinv')
      rw [h0] at this
      exact this
    · have hex : ∃ j, j < m ∧ listed.getD j false = false ∧ ∀ i, i < j → listed.getD i false = true := by
        obtain ⟨j,hj⟩:=Classical.not_forall.1 hfull
        have hj:j < m∧listed.getD j false = false:=by
          by_cases h:j < m
          · exact ⟨h,by cases hb:listed.getD j false with | false=>rfl | true=>exact absurd (fun _=>hb) hj⟩
          · exact absurd (fun h'=>absurd h' h) hj
        clear hfull
        induction j using Nat.strongRecOn with
        | _ j ihj =>
          by_cases hall : ∀ i,i < j → listed.getD i false = true
          · exact ⟨j,hj.1,hj.2,hall⟩
          · obtain ⟨i, hi⟩ := Classical.not_forall.1 hall
            obtain ⟨hij,hib⟩:i < j∧¬ listed.getD i false = true:=⟨Classical.byContradiction fun h=>hi fun h'=>absurd h' h,fun h=>hi fun _=>h⟩
            exact ihj i hij (fun h=>absurd (h (by omega)) hib) ⟨by omega,by simpa using hib⟩
      have hT2 : ∀ j,j < A.size → listed.getD j true = listed.getD j false:=by
        intro j hj; simp [Array.getD_eq_getD_getElem?,Array.getElem?_eq_getElem (show j < listed.size by omega)]
      have hbind : ∀ j,j < A.size → ((A[j]?).map (·.after.all fun e=>!Region.binds .any e || listed.getD e.on false)).getD false = true →
          ∀ o,nth A.toList j = some o → ∀ e ∈ binding o,listed.getD e false = true:=by
        intro j hjA hj2 o ho e he
        have hA:A[j]? = some o:=by rw [← nth_toList]; exact ho
        rw [hA] at hj2
        simp only [Option.map_some,Option.getD_some,Array.all_eq_true_iff_forall_mem] at hj2
        simp only [binding,List.mem_map,List.mem_filter,Array.mem_toList_iff] at he
        obtain ⟨y,⟨hy,hyb⟩,rfl⟩:=he
        have:=hj2 y hy
        simpa only [hyb,Bool.not_true,Bool.false_or] using this
      have hclosed : ∀ x o', nth A.toList x = some o' → listed.getD x false = true → ∀ e ∈ binding o', listed.getD e false = true := by
        intro x o' ho' hx e he
        rcases hDm x hx with h | h
        · exact (hinv.closed x o' ho' ⟨hx,h⟩ e he).1
        · obtain ⟨o2, h1, h2⟩ := hmv x h
          rw [nth_toList,h1,Option.some.injEq] at ho'
          subst ho'
          simp [binding,h2] at he
      refine ⟨fun hnil=>?_,fun i hi=>?_⟩
      · exfalso
        obtain ⟨j,hjm,hjb,hlow⟩:=hex
        have hjr:j ∈ Region.ready .any A listed:=by
          simp only [Region.ready,List.mem_filter,List.mem_range,Bool.and_eq_true,Bool.not_eq_true']
          refine ⟨by omega,by rw [hT2 j (by omega)]; exact hjb,?_⟩
          have hA:A[j]? = some A[j]:=by simp [show j < A.size by omega]
          rw [hA]
          simp only [Option.map_some,Option.getD_some,Array.all_eq_true_iff_forall_mem]
          intro y hy
          cases hyb:Region.binds .any y with
          | false=>rfl
          | true =>
            simp only [Bool.not_true,Bool.false_or]
            have ho:nth A.toList j = some A[j]:=by rw [nth_toList]; exact hA
            have:=allI_spec hedge j _ ho
            simp only [Nat.zero_add,List.all_eq_true,decide_eq_true_eq] at this
            exact hlow _ (this y.on (by simp only [binding,List.mem_map,List.mem_filter,Array.mem_toList_iff]; exact ⟨y,⟨hy,hyb⟩,rfl⟩))
        rw [hnil] at hjr; simp at hjr
      · simp only [Region.ready, List.mem_filter, List.mem_range, Bool.and_eq_true, Bool.not_eq_true'] at hi
        obtain ⟨hiA,hi1,hi2⟩:=hi
        rw [hT2 i hiA] at hi1
        have ho:nth A.toList i = some A[i]:=by rw [nth_toList]; simp [hiA]
        have hb:=hbind i hiA hi2 _ ho
        have him:i < m:=by
          rcases Nat.lt_or_ge i m with h | h
          · exact h
          · exfalso
            have hnl:i ∉ late:=fun hl=>by rw [hL i hl] at hi1; simp at hi1
            have hc:=allI_spec htail i _ ho
            simp only [Nat.zero_add,Bool.or_eq_true,decide_eq_true_eq,List.contains_iff_mem] at hc
            have hc:=(hc.resolve_left (fun h'=>h'.elim (fun h''=>by omega) hnl))
            obtain ⟨j,hjm,hjb,hlow⟩:=hex
            have hbit:=List.all_eq_true.1 hc j (by simp; omega)
            have hjl:late.contains j = false:=by
              cases hcj:late.contains j with
              | false=>rfl
              | true=>rw [hL j (by simpa using hcj)] at hjb; simp at hjb
            rw [hjl,Bool.false_or] at hbit
            have:=hasBit_spec (L:=A.toList) (D:=fun x=>listed.getD x false = true) hclosed (j:=i) (i:=j)
              (fun o' ho'=>hbind i hiA hi2 o' ho') hbit
            rw [this] at hjb; simp at hjb
        have hbm : ∀ e ∈ binding A[i],e < i:=by
          have:=allI_spec hedge i _ ho
          simp only [Nat.zero_add,List.all_eq_true,decide_eq_true_eq] at this
          exact this
        refine step_op hn hS hst hinv (fun j h=>h.2) ho him (fun j hj=>⟨hb j hj,by have:=hbm j hj; omega⟩) (fun h=>by rw [h.1] at hi1; simp at hi1) hQ fun a' k' hinv'=>?_
        refine ih _ a' k' (by simp [hls]) ?_ (fun l hl=>getD_set_true (hL l hl)) (fun j hj=>?_) ?_
        · have hil : i < listed.size := by omega
          have h0:listed[i] = false:=by simpa [Array.getD_eq_getD_getElem?,Array.getElem?_eq_getElem hil] using hi1
          have hsplit:listed.toList = listed.toList.take i ++ false::listed.toList.drop (i + 1):=by
            have h1:=List.take_append_drop i listed.toList
            have h2:listed.toList.drop i = listed.toList[i]'(by simpa using hil)::listed.toList.drop (i + 1):=List.drop_eq_getElem_cons (by simpa using hil)
            rw [Array.getElem_toList,h0] at h2
            exact (h1.symm.trans (by rw [h2]))
          have hset:(listed.setIfInBounds i true).toList = listed.toList.take i ++ true::listed.toList.drop (i + 1):=by
            rw [Array.toList_setIfInBounds,List.set_eq_take_append_cons_drop,if_pos (by simpa using hil)]
          rw [hset,List.filter_append,List.length_append]
          rw [hsplit,List.filter_append,List.length_append] at hf
          simp only [List.filter_cons] at hf ⊢
          simp at hf ⊢
          omega
        · by_cases hji : j = i
          · exact .inl (by omega)
          · rw [getD_set_ne _ (fun e=>hji e.symm)] at hj; exact hDm j hj
        · have he : (fun j => (listed.setIfInBounds i true).getD j false = true ∧ j < m) = (fun j => (listed.getD j false = true ∧ j < m) ∨ j = i) := by
            funext j
            by_cases hji:j = i
            · subst hji; simp [Array.getD_eq_getD_getElem?,show j < listed.size by omega,him]
            · rw [getD_set_ne _ (fun e=>hji e.symm)]; simp [hji]
          rw [he]; exact hinv'


/-- What is known when the operations in any order, and the moves, have run. -/
structure PostM (A:Array Oper) (es:List Ent) (m:Nat) (late:List Nat) (a0:Act) (k0:K) (a:Act) (k:K):Prop where
  grow:Grow k0 k
  size:a.tmps.size = a0.tmps.size
  defers:a.defers = a0.defers
  val : ∀ i d R nd,i < m → (nth A.toList i).bind (·.dst) = some d → nth es i = some ⟨some R,nd⟩ → R (a.get d) k
  old : ∀ t,allI (fun i o=>(decide (i ≥ m) && !late.contains i) || o.dst != some t) 0 A.toList = true → a.get t = a0.get t
  moved : ∀ l d s,late.contains l = true → m ≤ l → mvOf A l = (d,s) → a.get d = a0.get s

set_option maxHeartbeats 2000000 in
theorem region_mid {id:Nat} {A:Array Oper} {n m:Nat} {Q:Exit → Act → World → Prop} (es:List Ent) (late ord:List Nat) (hm:P.follows .mixedOrders = true)
    (hn:a0.tmps.size = n) (hchk:chkM n m late ord A es = true) (hst:Steps P es a0 k0 (A.toList.take m) es) (hQ:LetsOut Q)
    (hlo : ∀ l ∈ late,l < m → ∀ e,nth es l = some e → ∃ R,e.R = some R∧∀ k,Grow k0 k → R (a0.get (mvOf A l).2) k)
    (hpost : ∀ a k,PostM A es m late a0 k0 a k → wpOps P A (QN Q) ord a k.w):(Code.region id A true).wp P Q a0 k0.w:=by
  have hchk':=hchk
  simp only [chkM,Bool.and_eq_true,beq_iff_eq,decide_eq_true_eq] at hchk'
  obtain ⟨⟨⟨⟨⟨⟨⟨⟨⟨⟨hS,hnos⟩,hlate⟩,hlm⟩,htail⟩,hT⟩,hcnt⟩,hnd⟩,hsrc⟩,hdst⟩,hown⟩:=hchk'
  have hS':=hS
  simp only [chkS,Bool.and_eq_true,beq_iff_eq,decide_eq_true_eq] at hS'
  obtain ⟨⟨⟨⟨hlen,hml⟩,h2⟩,hedge⟩,hdist⟩:=hS'
  have hlm' : ∀ l ∈ late,l < A.size:=fun l hl=>by
    have:=List.all_eq_true.1 hlm l hl
    simpa using this
  have hdst' : ∀ l ∈ late,(mvOf A l).1 < n:=fun l hl=>by
    have:=List.all_eq_true.1 hdst l hl
    simpa using this
  have hsrc' : ∀ l ∈ late,∀ l' ∈ late,(mvOf A l).2 ≠ (mvOf A l').1∧(l = l' ∨ (mvOf A l).1 ≠ (mvOf A l').1):=fun l hl l' hl'=>by
    have:=List.all_eq_true.1 (List.all_eq_true.1 hsrc l hl) l' hl'
    simpa using this
  have hmv : ∀ l ∈ late,∃ o,A[l]? = some o∧o.after = #[]∧o.dst = some (mvOf A l).1:=by
    have : ∀ (r:List Nat) (b:Array Bool),chkLate A b r = true → ∀ l ∈ r,isMv A l = true:=by
      intro r
      induction r with
      | nil=>intro b _ l hl; simp at hl
      | cons x r ih =>
        intro b hb l hl
        simp only [chkLate,Bool.and_eq_true] at hb
        rcases List.mem_cons.1 hl with rfl | hl
        · exact hb.1.1.1
        · exact ih _ hb.2 l hl
    intro l hl
    obtain ⟨o,ho,_,ha,hd,_⟩:=isMv_spec (P:=P) (this late _ hlate l hl)
    exact ⟨o,ho,ha,hd⟩
  -- what no move writes
  have hbase : ∀ t,(∀ l ∈ late,(mvOf A l).1 ≠ t) → (lateAct A late a0).get t = a0.get t:=fun t ht=>lateAct_old (n:=n) late a0 hn hdst' ht
  have hst' : Steps P es (lateAct A late a0) k0 (A.toList.take m) es:=by
    refine steps_base (fun i o e ho he t ht=>hbase t fun l hl hd=>?_) hst
    have hi:i < m:=by
      have:=nth_lt ho
      simp only [List.length_take] at this
      omega
    obtain ⟨e', he', hc⟩ := chk2_spec h2 i o ho
    rw [he,Option.some.injEq] at he'
    subst he'
    simp only [chkOp,Bool.and_eq_true,Nat.zero_add] at hc
    have:=List.all_eq_true.1 hc.2 _ ht
    simp only at this
    obtain ⟨ol,hol,hal,hdl⟩:=hmv l hl
    have hnl:nth A.toList l = some ol:=by rw [nth_toList]; exact hol
    have h3:=allI_spec this l ol hnl
    simp only [Nat.zero_add,Bool.or_eq_true,bne_iff_ne,beq_iff_eq,hdl] at h3
    rcases h3 with (h3 | h3) | h3
    · exact h3 (by rw [hd])
    · subst h3
      have h5:=List.all_eq_true.1 hown l hl
      simp only [he,List.all_eq_true,bne_iff_ne] at h5
      exact h5 _ ht hd.symm
    · have hf := hasBit_spec (L := A.toList) (D := fun _ => False) (fun _ _ _ hx => hx.elim) (j := l) (i := i) (fun o' ho' e he => by
        rw [hnl,Option.some.injEq] at ho'
        subst ho'
        simp [binding,hal] at he) h3
      exact hf
  have hp : ∀ a k,Inv A.toList es (lateAct A late a0) k0 (· < m) a k → wpOps P A (QN Q) ord a k.w:=by
    intro a k hinv
    refine hpost a k ⟨hinv.grow,hinv.size.trans (lateAct_size late a0),hinv.defers.trans (lateAct_defers late a0),?_,?_,?_⟩
    · intro i d R nd him hd he
      cases ho:nth A.toList i with
      | none=>rw [ho] at hd; simp at hd
      | some o=>rw [ho] at hd; exact hinv.vals i o d _ him ho hd he
    · intro t ht
      rw [hinv.rest t ?_,hbase t ?_]
      · intro l hl hd
        obtain ⟨ol,hol,_,hdl⟩:=hmv l hl
        have:=allI_spec ht l ol (by rw [nth_toList]; exact hol)
        simp only [Nat.zero_add, Bool.or_eq_true, Bool.and_eq_true, decide_eq_true_eq, Bool.not_eq_true', bne_iff_ne, ne_eq, hdl] at this
        rcases this with h | h
        · exact absurd (List.contains_iff_mem.2 hl) (by rw [h.2]; simp)
        · exact h (by rw [hd])
      · intro i o hi ho hd
        have:=allI_spec ht i o ho
        simp only [Nat.zero_add,Bool.or_eq_true,Bool.and_eq_true,decide_eq_true_eq,bne_iff_ne,ne_eq] at this
        rcases this with h | h
        · omega
        · exact h hd
    · intro l d s hl hml hds
      have hlm2:=List.contains_iff_mem.1 hl
      obtain ⟨ol,hol,_,hdl⟩:=hmv l hlm2
      have hd:(mvOf A l).1 = d:=by rw [hds]
      have hs:(mvOf A l).2 = s:=by rw [hds]
      rw [hinv.rest d ?_,← hd,← hs,lateAct_new (n:=n) late a0 hn hdst' hnd hsrc' l hlm2]
      intro i o hi ho hod
      have:=allI_spec (allI_spec hdist i o ho) l ol (by rw [nth_toList]; exact hol)
      simp only [Nat.zero_add,Bool.or_eq_true,beq_iff_eq,bne_iff_ne,ne_eq] at this
      rcases this with (h | h) | h
      · omega
      · rw [hod] at h; simp at h
      · exact h (by rw [hod,hdl,hd])
  refine wp_mono (Q:=QN Q) ?_ (fun e a w h=>by cases e <;> first | exact h | exact h.elim)
  refine wp_region_any hm ?_
  let k1:K:=⟨{ k0.w with drawn:=k0.w.drawn + 1 },k0.sh,k0.lt⟩
  have hg:Grow k0 k1:=⟨rfl,rfl,rfl,Nat.le_refl _,fun _ _=>rfl,fun _ h=>h,fun _ _ h=>h,Nat.le_succ _⟩
  have hF : ∀ j,¬ (Array.replicate A.size false).getD j false = true:=by
    intro j hj; simp [Array.getD_eq_getD_getElem?,Array.getElem?_replicate] at hj; split at hj <;> simp at hj
  have hLg : ∀ j,(listL (Array.replicate A.size false) late).getD j false = true ↔ j ∈ late:=by
    intro j
    rw [listL_get late _ j (fun l hl=>by simpa using hlm' l hl)]
    exact ⟨fun h=>h.resolve_left (hF j),.inr⟩
  obtain ⟨fuel,hfuel⟩ : ∃ f,f = ((listL (Array.replicate A.size false) late).toList.filter (· = false)).length:=⟨_,rfl⟩
  have hsum : ∀ (r:List Nat) (b:Array Bool),r.Nodup → (∀ l ∈ r,l < b.size∧b.getD l false = false) → ((listL b r).toList.filter (· = false)).length + r.length = (b.toList.filter (· = false)).length:=by
    intro r
    induction r with
    | nil=>intro b _ _; rfl
    | cons l r ih =>
      intro b hn hb
      obtain ⟨hx,hn'⟩:=List.nodup_cons.1 hn
      obtain ⟨hl,hlb⟩:=hb l List.mem_cons_self
      have ih:=ih (b.setIfInBounds l true) hn' fun l' hl'=>⟨by simpa using (hb l' (List.mem_cons_of_mem _ hl')).1,by rw [getD_set_ne _ (fun e:l = l'=>hx (by rw [e]; exact hl'))]; exact (hb l' (List.mem_cons_of_mem _ hl')).2⟩
      have h0:b[l] = false:=by simpa [Array.getD_eq_getD_getElem?,Array.getElem?_eq_getElem hl] using hlb
      have hsplit:b.toList = b.toList.take l ++ false::b.toList.drop (l + 1):=by
        have h1:=List.take_append_drop l b.toList
        have h2:b.toList.drop l = b.toList[l]'(by simpa using hl)::b.toList.drop (l + 1):=List.drop_eq_getElem_cons (by simpa using hl)
        rw [Array.getElem_toList,h0] at h2
        exact (h1.symm.trans (by rw [h2]))
      have hset:(b.setIfInBounds l true).toList = b.toList.take l ++ true::b.toList.drop (l + 1):=by
        rw [Array.toList_setIfInBounds,List.set_eq_take_append_cons_drop,if_pos (by simpa using hl)]
      rw [listL]
      rw [hset,List.filter_append,List.length_append] at ih
      rw [hsplit,List.filter_append,List.length_append]
      simp only [List.filter_cons] at ih ⊢
      simp at ih ⊢
      omega
  have hs:=hsum late (Array.replicate A.size false) hnd fun l hl=>⟨by simpa using hlm' l hl,by simpa using hF l⟩
  have hsz:A.size = fuel + late.length:=by rw [hfuel,hs]; simp
  have hbig:=take_late (P:=P) (A:=A) (Q:=QN Q) hnos (fun _ _ _ h=>h) late (Array.replicate A.size false) a0 k1.w fuel hlate ?_
  · rw [← hsz] at hbig; exact hbig
  refine any_mid (by rw [lateAct_size]; exact hn) hchk hst' trivial (fun _ _ _ h=>h) (fun _ _ h=>h) hp fuel _ _ k1 (by rw [listL_size]; simp) hfuel (fun l hl=>(hLg l).2 hl) (fun j hj=>.inr ((hLg j).1 hj)) ?_
  refine ⟨hg,rfl,rfl,fun i o d e hi ho hd he=>?_,fun _ _=>rfl,fun j o ho hj x hx=>?_,fun i hi=>by simpa using hlm' i ((hLg i).1 hi.1)⟩
  · have hl := (hLg i).1 hi.1
    obtain ⟨ol,hol,_,hdl⟩:=hmv i hl
    rw [nth_toList,hol,Option.some.injEq] at ho
    subst ho
    rw [hdl,Option.some.injEq] at hd
    subst hd
    obtain ⟨R,hR,hk⟩:=hlo i hl hi.2 e he
    rw [hR,lateAct_new (n:=n) late a0 hn hdst' hnd hsrc' i hl]
    exact hk k1 hg
  · obtain ⟨ol, hol, hal, _⟩ := hmv j ((hLg j).1 hj.1)
    rw [nth_toList,hol,Option.some.injEq] at ho
    subst ho
    simp [binding,hal] at hx
end

section
variable {T:Tb} {n:Nat} {F:FP} {k0:K} {W:List Nat} {a0:Act} {e:Env T} {a a' : Act} {k k' : K}
/-- are these slots free? -/
def topsE (D:List Nat) (e:Env T):Bool:=D.all fun t=>match lk e t with | .top=>true | _=>false
theorem topsE_at {D:List Nat} (h:topsE D e = true) {t:Nat} (ht:t ∈ D):lk e t = .top:=by
  have:=List.all_eq_true.1 h t ht
  cases hl:lk e t <;> rw [hl] at this <;> first | rfl | simp at this
/-- Behind a region: a slot holds something else, which takes over its blocks; what the slots D hold is forgotten. -/
theorem Hl.redo (h:Hl n F k0 W a0 e a k) {s:Nat} {av:AV T} {G:FP} {D:List Nat} (hD:topsE D e = true) (hW : ∀ t ∈ D,t ∈ W) (hsW:s ∈ W ∨ a'.get s = a.get s) (c:Chg G k k')
    (hG : ∀ b,G b → unl (lk e s) = true∧(lk e s).fp (a.get s) k b) (hs:a'.tmps.size = a.tmps.size) (hd:a'.defers = a.defers) (ho : ∀ t,t ∉ D → t ≠ s → a'.get t = a.get t)
    (hv:av.is a' (a'.get s) k') (hm : ∀ t,av.ment t = false) (hf : ∀ b,av.fp (a'.get s) k' b → (unl (lk e s) = true∧(lk e s).fp (a.get s) k b) ∨ k.w.heap.size ≤ b) :
    Hl n F k0 W a0 ((s,av)::mapE (klA s) e) a' k':=by
  have lks:lk ((s,av)::mapE (klA s) e) s = av:=by rw [lk_cons,if_pos rfl]
  have lkt : ∀ t,t ≠ s → lk ((s,av)::mapE (klA s) e) t = klA s (lk e t):=fun t ht=>by rw [lk_cons,if_neg (Ne.symm ht),lk_mapE rfl]
  have top : ∀ t ∈ D,t ≠ s → lk ((s,av)::mapE (klA s) e) t = .top:=fun t ht hne=>by rw [lkt t hne,topsE_at hD ht]; rfl
  refine h.multi (fun t=>t = s ∨ t ∈ D) c (fun b hb=>⟨s,.inl rfl,hG b hb⟩) hs hd (fun t ht=>?_) (fun t ht=>ho t (fun h=>ht (.inr h)) fun h=>ht (.inl h)) (fun t ht=>?_) (fun t ht u=>?_) (fun t ht hu b hb=>?_) (fun t ht b hb=>?_) (fun t u ht hu hne=>?_) (fun t ht=>?_) (fun t ht hr=>?_)
  · by_cases hts : t = s
    · subst hts; exact hsW.resolve_left ht
    · exact ho t (fun hd=>ht (hW t hd)) hts
  · by_cases hts : t = s
    · subst hts; rw [lks]; exact hv
    · rw [top t (ht.resolve_left hts) hts]; trivial
  · by_cases hts : t = s
    · subst hts; rw [lks]; exact hm u
    · rw [top t (ht.resolve_left hts) hts]; rfl
  · by_cases hts : t = s
    · subst hts; rw [lks] at hb
      exact (hf b hb).elim (fun h=>.inr (.inl ⟨t,.inl rfl,h⟩)) fun h=>.inr (.inr h)
    · rw [top t (ht.resolve_left hts) hts] at hb; exact hb.elim
  · by_cases hts : t = s
    · subst hts; rw [lks] at hb
      exact (hf b hb).elim (fun h=>.inl ⟨t,.inl rfl,h.2⟩) .inr
    · rw [top t (ht.resolve_left hts) hts] at hb; exact hb.elim
  · intro b hb hb'
    by_cases hts:t = s
    · have hus : u ≠ s := fun e => hne (hts.trans e.symm)
      rw [top u (hu.resolve_left hus) hus] at hb'; exact hb'
    · rw [top t (ht.resolve_left hts) hts] at hb; exact hb
  · have hts : t ≠ s := fun h => ht (.inl h)
    rw [lkt t hts]
    rcases klA_or s (lk e t) with e1 | e1
    · refine .inr ⟨e1, fun u hu hS => ?_⟩
      rcases hS with rfl | hS
      · rw [← e1] at hu; exact absurd rfl (klA_ment hu).2
      · have := h.inv t u hu
        rw [topsE_at hD hS] at this
        simp [isRes] at this
    · exact .inl e1
  · have hts : t ≠ s := fun h => ht (.inl h)
    rw [lkt t hts,klA_res hr]
end

section
variable {P:Program} {o:Oper} {a:Act} {k:K} {α:Type} [Enc α] {b:Nat} {all hs:List (Hole α)} {x:α} {F G:FP} {v:Value}
/-- a part that is no slice of the box's own is written to -/
theorem tail_storeP {β:Type} [Enc β] {A:Array Oper} {i off:Nat} {rest:List Nat} {Q:Exit → Act → World → Prop} {t:TypeId} {p y:Operand} {z:List β} {set:α → List β → α} {x' : α}
    (ho:nth A.toList i = some o) (hgd:o.guard = none) (hop:o.op = .store t p y) (hd:o.dst = none) (hs1:(P.info? t).map (·.size) = some 1) (hu:Upd off set)
    (hp:IsAdr b off (a.eval p) k) (hB:BoxH b all hs x F v k) (hoff:off < Enc.sz α) (hne : ∀ h ∈ all,h.off ≠ off) (hne' : ∀ h ∈ hs,h.off ≠ off) (hx:nilx all x' = set (nilx all x) z)
    (hO : ∀ cs k G,Owns cs x k hs G → Owns cs x' k hs G) (hv:IsV z (a.eval y) k)
    (next : ∀ k', Chg F k k' → BoxH b all hs x' F v k' → wpOps P A Q rest a k'.w) : wpOps P A Q (i :: rest) a k.w := by
  obtain ⟨e,cs,G,hb,hr,hOw,hn,eF⟩:=hB
  subst eF
  have hone:(a.eval y).oneCell' = true:=by
    obtain ⟨cs,h1,h2⟩:=hv
    have h3:=Enc.one h2
    obtain ⟨u,rfl⟩:=List.length_eq_one_iff.1 (Enc.len h2)
    have:a.eval y = u:=h1
    rw [this]; exact h3 u (by simp)
  refine tail_storeB ho hgd hop hd hs1 (updRaw hoff) hp hb (raw_self hone) fun k' hch hz=>?_
  have hns : ∀ c,b = c → ¬ k.sh c:=fun c e=>e ▸ hb.own
  have hle:=hch.le hns
  have hlen:=hb.rawrep
  have hOw' : Owns cs x k' hs G:=hOw.keep hch hns fun c hc e=>hn (e ▸ hc)
  have hset : ∀ {l:List (Hole α)} {G:FP},(∀ h ∈ l,h.off ≠ off) → Owns cs x' k' l G → Owns (cs.set off (a.eval y)) x' k' l G:=by
    intro l
    induction l with
    | nil=>intro G _ h; exact h
    | cons q l ih =>
      rintro G hq ⟨w,H,h0,h1,h2,h3,h4⟩
      exact ⟨w,H,by rw [List.getElem?_set_ne (fun e=>hq q List.mem_cons_self e.symm)]; exact h0,h1,ih (fun h hh=>hq h (List.mem_cons_of_mem _ hh)) h2,h3,h4⟩
  have hns2 : ∀ {l:List (Hole α)},(∀ h ∈ l,h.off ≠ off) → nils l (cs.set off (a.eval y)) = (nils l cs).set off (a.eval y):=by
    intro l
    induction l with
    | nil=>intro _; rfl
    | cons q l ih =>
      intro hq
      rw [nils,nils,ih fun h hh=>hq h (List.mem_cons_of_mem _ hh),List.set_comm _ _ fun e=>hq q List.mem_cons_self e.symm]
  refine next k' ⟨hch.tape,hch.os,hch.out,hch.size,fun c hc hF=>hch.blk c hc (fun e=>hF (.inl e)),hch.up,fun c hc hs=>(hch.new c hc hs).imp id .inl,hch.drawn⟩ ⟨e,cs.set off (a.eval y),G,hz,?_,hset hne' (hO _ _ _ hOw'),hn,rfl⟩
  rw [hns2 hne,hx]
  obtain ⟨u,hu1,hu2⟩ : ∃ u,a.eval y = u∧SliceRep k' u z:=⟨_,rfl,isV_list.1 (Pers.pers hle hv)⟩
  rw [hu1]
  obtain ⟨hle2,hr2⟩:=hu k' _ [u] _ z (Enc.mono hle hr) ⟨u,rfl,hu2⟩
  have e2:(nils all cs).take off ++ [u] ++ (nils all cs).drop (off + [u].length) = (nils all cs).set off u:=take_set_drop _ _ _ (by rw [nils_len]; omega)
  rw [e2] at hr2
  exact hr2
/-- a box for a value in some cells of which the nil slice stands -/
theorem ok_boxN {offs:List Nat} {t:TypeId} {y:Operand} {x:α} (ho:o.op = .box t y) (h:IsVN offs x (a.eval y) k) :
    Does P o a k (fun v k'=>∃ b,v = .pointer (some ⟨b,0,none⟩)∧k.w.heap.size ≤ b∧Box b x k'∧∀ o ∈ offs,HdAt b o nilSl k'):=by
  obtain ⟨cs,e,ha,hr,hn⟩:=h
  refine does_run (v:=.pointer (some ⟨k.w.heap.size,0,none⟩)) (k':=k.alloc (.cells cs.toArray t)) ?_ (K.alloc_grow k _) ⟨_,rfl,Nat.le_refl _,box_new (by simpa using hr),fun o ho=>?_⟩
  · simp only [execOp, ho, e]
    simp [Instr.box,newVar,newRow,newObj,Value.cells,K.alloc]
    rfl
  · have hh := heap_alloc_new k.w (.cells cs.toArray t)
    exact ⟨(Array.getElem?_eq_some_iff.1 hh).1,cs.toArray,t,(0,0),hh,by simpa using hn o ho⟩
theorem Box.cells_eq {cs cs' : List Value} {n:Nat} (h:Box b (⟨cs⟩:RawC n) k) (h' : Box b (⟨cs'⟩:RawC n) k):cs = cs':=by
  obtain ⟨_,arr,t,hh,e,_⟩:=h
  obtain ⟨_, arr', t', hh', e', _⟩ := h'
  rw [hh] at hh'
  simp only [Option.some.injEq,Obj.cells.injEq] at hh'
  obtain ⟨rfl,_⟩:=hh'
  exact (show arr.toList = cs from e).symm.trans e'
omit [Enc α] in
theorem Owns.one {cs:List Value} {y:α} : ∀ {l:List (Hole α)} {F G:FP},Owns cs x k l F → Owns cs y k l G → F = G
  | [],_,_,h,h'=>(show _ = noF from h).trans (show _ = noF from h').symm
  | _ :: _, _, _, ⟨w, H, h0, _, h2, _, e⟩, ⟨w', H', h0', _, h2', _, e'⟩ => by
    rw [h0] at h0'
    obtain rfl:=Option.some.inj h0'
    rw [e, e', h2.one h2']
/-- the blocks of such a box -/
theorem BoxH.one {b b' : Nat} {y:α} (h:BoxH b all hs x F v k) (h' : BoxH b' all hs y G v k):F = G:=by
  obtain ⟨e,cs,H,hb,_,ho,_,eF⟩:=h
  obtain ⟨e', cs', H', hb', _, ho', _, eG⟩ := h'
  rw [e] at e'
  have e' : b = b':=by simpa using e'
  subst e'
  obtain rfl:=hb.cells_eq hb'
  rw [eF,eG,ho.one ho']
theorem BoxH.root {c:Nat} (h:BoxH b all hs x F v k) (hv:v = .pointer (some ⟨c,0,none⟩) ∨ obF v c):F c:=by
  have e:=h.ptr
  rcases hv with hv | hv
  · rw [e] at hv
    have:b = c:=by simpa using hv
    exact this ▸ h.has
  · rw [e] at hv; simp [obF,ob] at hv
theorem Handed.trans {k k1 k2:K} {F G:FP} (c1:Handed k k1 F) (c2:Handed k1 k2 G) (h : ∀ b,G b → F b):Handed k k2 F:=
  ⟨c2.w.trans c1.w,⟨fun b hb=>(c2.le.blk b (c1.le.up b hb)).trans (c1.le.blk b hb),fun b hb=>c2.le.up b (c1.le.up b hb)⟩,fun b hb=>(c2.sh b hb).elim (c1.sh b) fun hb=>.inr (h b hb)⟩
/-- .. handed over as a whole -/
theorem BoxH.ref (h:BoxH b all hs x F v k) (hc:CloseOk x all) (hm : ∀ g ∈ all,g ∈ hs) : ∃ k' : K,Handed k k' F∧IsRef x v k':=by
  obtain ⟨k1,c1,h1⟩:=h.close hc hm
  obtain ⟨k2,c2,h2⟩:=h1.give
  exact ⟨k2,c1.trans c2 h.sub,by rw [h.ptr]; exact h2⟩
end

theorem Rsc.ex {ι:Type} {R:ι → FP → Pred} (h : ∀ i,Rsc (R i)):Rsc (fun F v k=>∃ i,R i F v k):=
  ⟨fun ⟨i,h1⟩ c ha hn=>⟨i,(h i).keep h1 c ha hn⟩,fun ⟨i,h1⟩ c ha=>⟨i,(h i).handed h1 c ha⟩,fun ⟨i,h1⟩=>(h i).lt h1,fun ⟨i,h1⟩=>(h i).nsh h1⟩
/-- the region of a number -/
def isReg (i:Nat):Code → Bool
  | .region j _ _=>Nat.beq j i
  | _=>false
theorem mem_reg2 {l:List Code} {i:Nat} {A A0:Array Oper} {d d0:Bool} (h1:l.filter (isReg i) = [.region i A0 d0]) (h:Code.region i A d ∈ l):A = A0∧d = d0:=by
  have hm:Code.region i A d ∈ l.filter (isReg i):=List.mem_filter.2 ⟨h,Nat.beq_refl i⟩
  rw [h1,List.mem_singleton] at hm
  cases hm
  exact ⟨rfl,rfl⟩
section
variable {T:Tb} {e:Env T} {n:Nat} {F:FP} {k0:K} {W:List Nat} {a0 a:Act} {k:K}
/-- what a slot points to -/
def refAt (e:Env T) (s:Nat) (t:Tp):Option (T.D t):=match lk e s with
  | .ref u x=>cast? u t x
  | _=>none
theorem refAt_is (h:Hl n F k0 W a0 e a k) {s:Nat} {t:Tp} {x:T.D t} (hx:refAt e s t = some x):IsRef x (a.get s) k:=by
  have hs:=h.sl s
  unfold refAt at hx
  split at hx
  · rename_i u y hl
    obtain ⟨rfl,rfl⟩:=cast?_eq hx
    rw [hl] at hs; exact hs
  · simp at hx
theorem takeC (h:Hl n F k0 W a0 e a k) {s m:Nat} {x:T.RD m} (hx:takeS e s (.c m) = some x):lk e s = .rs false m x∧∃ G,T.RP m x G (a.get s) k:=by
  have hs:=h.sl s
  simp only [takeS] at hx
  split at hx
  · rename_i m' y hl
    split at hx
    · rename_i hm _
      obtain rfl:=hm.down
      obtain rfl:y = x:=by simpa using hx
      rw [hl] at hs
      exact ⟨hl,hs⟩
    · simp at hx
  · simp at hx
end
end Go.Gb


