/- The general part of the proofs (no program in sight): worlds with shared blocks, regions, operations, calls, loops, what comes in as data, part 7 -/
import Derived.Test.YtegglcdhfnjhcaaGreatL6
set_option linter.unusedVariables false
set_option linter.unusedSimpArgs false
set_option linter.unusedSectionVars false
namespace Go.Gb
variable {T:Tb} {R:Type}
section
variable {C:Cx T} {F:FP} {k0:K} {W:List Nat} {a0:Act} {A:Array Oper} {Q:Exit → Act → World → Prop}

theorem xX (hC:sR C) : ∀ {l pre:List Oper} {e:Env T} {a:Act} {k:K} {K:Env T → Option R} {r:R},A.toList = pre ++ l → (∀ o ∈ l,∀ d,o.dst = some d → d ∈ W) → Hl C.n F k0 W a0 e a k → ev2 C (ixs pre.length l) e K = some r →
  (∀ e' a' k', K e' = some r → Hl C.n F k0 W a0 e' a' k' → Q .normal a' k'.w) → wpOps C.P A Q (List.range' pre.length l.length) a k.w
 | [], pre, e, a, k, K, r, hA, hW, h, hk, hQ => by
  simp only [ixs,ev2] at hk
  exact hQ e a k hk h
 | o :: l, pre, e, a, k, K, r, hA, hW, h, hk, hQ => by
  simp only [ixs,ev2] at hk
  split at hk
  ·rename_i hg hd
   obtain ⟨e1,k1,h1,h2,h3⟩:=nV h hk
   rw [List.length_cons,List.range'_succ,← h2]
   have hnth:nth A.toList pre.length = some o:=by rw [hA]; exact vI
   refine En hC h3 hnth hg (fun d hd'=>⟨?_,hW o (by simp) d hd'⟩) h1 fun e' a' k' hk' h'=>?_
   ·rw [hd'] at hd
    simp only [Nat.blt_eq] at hd
    exact hd
   ·have := xX hC (l := l) (pre := pre ++ [o]) (e := e') (a := a') (k := k') (K := K) (r := r) (by rw [hA]; simp) (fun o' ho' => hW o' (by simp [ho'])) h' (by simpa using hk') hQ
    simpa using this
  ·simp at hk

theorem wa {n:Nat} {ops0:List Oper} {ms:List Nat} : ∀ {ops:List Oper} {es es' : List Ent} {i:Nat},es.map (·.need) = es'.map (·.need) → wo n ops0 ms i ops es = wo n ops0 ms i ops es'
 | [],_,_,_,_=>by simp [wo]
 | o::ops,[],[],i,_=>rfl
 | o::ops,[],_::_,i,h=>by simp at h
 | o::ops,_::_,[],i,h=>by simp at h
 | o :: ops, x :: es, y :: es', i, h => by
  simp only [List.map_cons,List.cons.injEq] at h
  simp only [wo,wa h.2]
  congr 1
  unfold rV
  rw [h.1]
theorem oW {n m:Nat} {ops:List Oper} {es es' : List Ent} (h:es.map (·.need) = es'.map (·.need)):lW n m ops es = lW n m ops es':=by
 have hl:es.length = es'.length:=by simpa using congrArg List.length h
 unfold lW
 rw [hl,wa h]
theorem DK {n m:Nat} {ops:List Oper} {es es' : List Ent} (h:es.map (·.need) = es'.map (·.need)):chk n m ops es = chk n m ops es':=by
 unfold chk
 rw [oW h]
theorem sS {l:List Oper}:(wg l).map (·.need) = mi [] l:=by simp [wg,List.map_map,Function.comp_def]

theorem Cs {α:Type} {f:Nat → α → Bool} : ∀ {l:List α} {i:Nat},(∀ j x,nth l j = some x → f (i + j) x = true) → allI f i l = true
 | [],_,_=>rfl
 | x :: l, i, h => by
  simp only [allI,Bool.and_eq_true]
  exact ⟨h 0 x rfl,Cs fun j y hy=>by have:=h (j + 1) y hy; rwa [show i + (j + 1) = i + 1 + j by omega] at this⟩

theorem yT {e0 e:Env T} {a:Act} {k:K} {ak:Act} {kk:K} {pre l:List Oper} {es:List Ent} (h0:Hl C.n F k0 W a0 e0 ak kk) (hW : ∀ o ∈ pre,∀ d,o.dst = some d → d ∈ W)
  (p:P1 e0 ak pre es e) (q:jU (pre ++ l) es pre.length ak kk a k):Hl C.n F k0 W a0 e a k:=by
 have old : ∀ t,bA t pre 0 none = none → a.get t = ak.get t:=by
  intro t ht
  refine q.old t (Cs fun j o ho=>?_)
  simp only [Nat.zero_add,Bool.or_eq_true,decide_eq_true_eq,bne_iff_ne]
  by_cases hj:j < pre.length
  ·refine .inr ((jX ht).2 o ?_)
   rw [eg,List.getElem?_append_left hj] at ho
   exact List.mem_of_getElem? ho
  ·exact .inl (by omega)
 have resOld : ∀ t,aH (lk e t) = true → lk e t = lk e0 t∧a.get t = ak.get t:=by
  intro t ht
  have h1:=p.res t ht
  have h2:=p.slot t
  rw [h1] at h2
  exact ⟨h2,old t h1⟩
 have fpOld : ∀ t b,(lk e t).fp (a.get t) k b → (lk e0 t).fp (ak.get t) kk b:=by
  intro t b hb
  cases hr:aH (lk e t) with
  | false=>exact absurd hb (cD hr _ _ b)
  | true =>
   obtain ⟨h1,h2⟩:=resOld t hr
   rw [h1,h2,AV.gY _ q.grow (h0.sl t)] at hb; exact hb
 refine ⟨h0.g.then q.grow,q.size.trans h0.s,q.defers.trans h0.d,fun t ht=>?_,fun t=>?_,p.inv,fun t ht=>?_,fun t t' hne b hb hb'=>h0.ap t t' hne b (fpOld t b hb) (fpOld t' b hb'),h0.gl.le q.grow.le⟩
 ·rw [← h0.old t ht]
  refine old t ?_
  cases hl:bA t pre 0 none with
  | none=>rfl
  | some j =>
   rcases dU hl with h1 | ⟨o,_,h1,h2⟩
   ·simp at h1
   ·rw [eg] at h1
    exact absurd (hW o (List.mem_of_getElem? h1) t h2) ht
 ·have key : (lk e t).is ak (a.get t) k := by
   have h1:=p.slot t
   cases hl:bA t pre 0 none with
   | none =>
    rw [hl] at h1
    dsimp only at h1
    rw [h1,old t hl]
    exact (lk e0 t).mono q.grow (h0.sl t)
   | some j =>
    rw [hl] at h1
    obtain ⟨Rr,nd,h2,h3⟩:=h1
    rcases h3 with h3 | ⟨R', rfl, h3⟩
    ·rw [h3]; trivial
    ·rcases dU hl with h4 | ⟨o, _, h4, h5⟩
     ·simp at h4
     ·have hj := pI h4
      exact h3 _ _ (q.val j t R' nd (by simpa using hj) (by rw [jk (show nth pre j = some o by simpa using h4)]; exact h5) h2)
  refine (lk e t).congr (fun s hs=>?_) key
  exact (resOld s (p.inv t s hs)).2
 ·obtain ⟨h1, h2⟩ := resOld t (p6 ht)
  rw [h1] at ht ⊢
  rw [h2,AV.gY _ q.grow (h0.sl t)]; exact h0.wr t ht

theorem Hl.grow {n:Nat} {a:Act} {e:Env T} {k k' : K} (h:Hl n F k0 W a0 e a k) (hg:bN k k'):Hl n F k0 W a0 e a k':=
 ⟨h.g.then hg,h.s,h.d,h.old,fun t=>(lk e t).mono hg (h.sl t),h.inv,fun t ht=>by rw [AV.gY _ hg (h.sl t)]; exact h.wr t ht,fun t t' hne=>by rw [AV.gY _ hg (h.sl t),AV.gY _ hg (h.sl t')]; exact h.ap t t' hne,h.gl.le hg.le⟩
theorem Hl.Eg {n:Nat} {a:Act} {e:Env T} {k:K} (h:Hl n F k0 W a0 e a k) {s b:Nat} {t:Tp} {z:T.D t} (hs:lk e s = .top) (hb:a.get s = .pointer (some ⟨b,0,none⟩)) (hz:Box b z k)
  (hw : Wr F k0 (Eq b)) (ha : ∀ t', t' ≠ s → ai (Eq b) ((lk e t').fp (a.get t') k)) : Hl n F k0 W a0 ((s, .box false t z) :: e) a k := by
 have lks:lk ((s,AV.box false t z)::e) s = .box false t z:=by rw [bo,if_pos rfl]
 have lkt : ∀ t', t' ≠ s → lk ((s, AV.box false t z) :: e) t' = lk e t' := fun t' ht => by rw [bo, if_neg (Ne.symm ht)]
 have hfp : ∀ c,(AV.box (T:=T) false t z).fp (a.get s) k c → b = c:=fun c hc=>by
  have:a.get s = .pointer (some ⟨c,0,none⟩):=hc
  rw [hb] at this; simpa using this
 refine ⟨h.g,h.s,h.d,h.old,fun t'=>?_,fun t' u hu=>?_,fun t' hu=>?_,fun t1 t2 hne c hc hc'=>?_,h.gl⟩
 ·by_cases ht : t' = s
  ·subst ht; rw [lks]; exact ⟨b,hb,hz⟩
  ·rw [lkt t' ht]; exact h.sl t'
 ·by_cases ht : t' = s
  ·subst ht; rw [lks] at hu; simp [AV.bt] at hu
  ·rw [lkt t' ht] at hu
   have h1:=h.inv t' u hu
   have h2 : u ≠ s := fun e' => by rw [e', hs] at h1; simp [aH] at h1
   rw [lkt u h2]; exact h1
 ·by_cases ht : t' = s
  ·subst ht; rw [lks]; exact fun c hc=>hw c (hfp c hc)
  ·rw [lkt t' ht] at hu ⊢; exact h.wr t' hu
 ·by_cases h1 : t1 = s
  ·subst h1
   rw [lks] at hc; rw [lkt t2 (Ne.symm hne)] at hc'
   exact ha t2 (Ne.symm hne) c (hfp c hc) hc'
  ·rw [lkt t1 h1] at hc
   by_cases h2:t2 = s
   ·subst h2
    rw [lks] at hc'
    exact ha t1 h1 c (hfp c hc') hc
   ·rw [lkt t2 h2] at hc'
    exact h.ap t1 t2 hne c hc hc'
theorem sw : ∀ {l:List Oper} {i m:Nat} {o:Oper},yL l i = some (m,o) → i ≤ m∧nth l (m - i) = some o
 | [],_,_,_,h=>by simp [yL] at h
 | x :: l, i, m, o, h => by
  simp only [yL] at h
  split at h
  ·simp only [Option.some.injEq, Prod.mk.injEq] at h
   obtain ⟨rfl,rfl⟩:=h
   exact ⟨Nat.le_refl _,by simp [nth]⟩
  ·obtain ⟨h1, h2⟩ := sw h
   exact ⟨by omega,by rw [show m - i = (m - (i + 1)) + 1 by omega]; exact h2⟩
theorem Bk {ops:List Oper} {m s pt:Nat} {t u:Tp} {L:gO T t u} (h:Et C ops m s pt t = some ⟨u,L⟩):L.ok∧((pt = s∧L.off = 0) ∨
  ∃ j o st f,bA pt (ops.take m) 0 none = some j∧nth ops j = some o∧o.op = .fieldAddr st (.tmp s) f∧o.guard = none∧cY (dm ops []) m j = true∧pv C.P st f = some L.off):=by
 unfold Et at h
 cases hb:Nat.beq pt s with
 | true =>
  rw [hb] at h
  simp only [cond_true] at h
  cases hn:pN pt ops with
  | false=>rw [hn] at h; simp at h
  | true =>
   rw [hn] at h
   simp only [cond_true,Option.some.injEq,Sigma.mk.injEq] at h
   obtain ⟨rfl,h⟩:=h
   obtain rfl:=eq_of_heq h
   exact ⟨gO.Cl,.inl ⟨Nat.eq_of_beq_eq_true hb,rfl⟩⟩
 | false =>
  rw [hb] at h
  simp only [cond_false] at h
  split at h
  rotate_left
  ·simp at h
  rename_i j hj
  split at h
  rotate_left
  ·simp at h
  rename_i o ho
  split at h
  rotate_left
  ·simp at h
  rename_i st s' f hop hgd
  cases hc:(Nat.beq s s' && cY (dm ops []) m j) with
  | false=>rw [hc] at h; simp at h
  | true=>
  rw [hc] at h
  simp only [cond_true] at h
  rw [Bool.and_eq_true] at hc
  obtain rfl:=Nat.eq_of_beq_eq_true hc.1
  unfold JZ at h
  split at h
  rotate_left
  ·simp at h
  rename_i n
  split at h
  rotate_left
  ·simp at h
  rename_i off w L' hoff hfl
  cases hb2:Nat.beq L'.off off with
  | false=>rw [hb2] at h; simp at h
  | true=>
  rw [hb2] at h
  simp only [cond_true,Option.some.injEq,Sigma.mk.injEq] at h
  obtain ⟨rfl,h⟩:=h
  obtain rfl:=eq_of_heq h
  obtain rfl:=Nat.eq_of_beq_eq_true hb2
  exact ⟨uz hfl,.inr ⟨j,o,st,f,hj,ho,hop,hgd,hc.2,hoff⟩⟩
theorem Iz (hC:sR C) {id:Nat} {e:Env T} {a:Act} {k:K} {K:Env T → Option R} {r:R} (hW : ∀ o ∈ A.toList,∀ d,o.dst = some d → d ∈ W) (h:Hl C.n F k0 W a0 e a k) (hk:evX C A.toList e K = some r)
    (hQ : ∀ e' a' k', K e' = some r → Hl C.n F k0 W a0 e' a' k' → Q .normal a' k'.w) : (Code.region id A true).wp C.P Q a k.w := by
  unfold evX at hk
  split at hk
  rotate_left
  · simp at hk
  rename_i m o hst
  split at hk
  rotate_left
  · simp at hk
  rename_i ty pt y hop hdst hgd
  split at hk
  rotate_left
  · simp at hk
  rename_i t x0 hls
  split at hk
  rotate_left
  · simp at hk
  rename_i u L hptr
  generalize hsdef:pJ A.toList m pt = s at hk hls hptr
  cases c4:pN s A.toList with
  | false=>rw [c4] at hk; simp at hk
  | true=>
  rw [c4] at hk
  simp only [Bool.not_true,cond_false] at hk
  obtain ⟨hL,hpt⟩:=Bk hptr
  obtain ⟨_,hno⟩:=sw hst
  simp only [Nat.sub_zero] at hno
  rw [gh] at hk
  have hsl:=h.sl s
  rw [hls] at hsl
  obtain ⟨b,hb,hbx⟩:=hsl
  have hunl:unl (lk e s) = true:=by rw [hls]; rfl
  have hfps : ∀ (kx:Gb.K) c,b = c → (lk e s).fp (a.get s) kx c:=fun kx c hc=>by rw [hls]; subst hc; exact hb
  have hnsh : ∀ c,b = c → ¬ k.sh c:=fun c hc=>(h.lt s c (hfps _ c hc)).2
  generalize he0:(s,AV.top)::l5 (klA s) e = e0 at hk
  have hl0:lk e0 s = .top:=by rw [← he0,bo,if_pos rfl]
  have hlt : ∀ t', t' ≠ s → lk e0 t' = klA s (lk e t') := fun t' ht => by rw [← he0, bo, if_neg (Ne.symm ht), mA rfl]
  have hide : ∀ k1 k2,bN k k1 → Chg (Eq b) k1 k2 → Hl C.n F k0 W a0 e0 a k2:=fun k1 k2 g c=>by
    rw [← he0]; exact (h.grow g).IX hunl c (hfps _)
  have hh0:Hl C.n F k0 W a0 e0 a k:=hide k k (bN.refl k) (Chg.refl _ k)
  have p0:P1 e0 a [] [] e0:=⟨rfl,fun t=>rfl,fun t _=>rfl,hh0.inv⟩
  obtain ⟨cs,rest,es,e1,h1,h2,_,h4,h5,h6,h7,h8,h9⟩:=q7 (n:=C.n) (F:=F) (kk:=k0) (W:=W) (aa:=a0) hC (bH:=b) (B:=0) A.toList (fun s' hs'=>by injection hs' with hs'; subst hs'; exact ⟨hb,c4⟩) (A.toList.length + 1) R none [] A.toList [] e0 _ r [] (by simp) p0 (fun es' o ho=>by unfold gZ; rw [ho]) hk
  simp only [List.nil_append] at h5 h6 h7
  cases rest with
  | nil=>simp [ixs] at h5
  | cons o1 rest=>
  simp only [ixs] at h5
  have hlen:A.toList.length - ((cs.length,o1)::ixs (cs.length + 1) rest).length = cs.length:=by
    have:(ixs (cs.length + 1) rest).length = rest.length:=by rw [← List.length_map (f:=(·.2)),tX]
    rw [List.length_cons,this,h1]; simp
  rw [hlen] at h5
  cases hc:(Nat.beq cs.length m && lW C.n m A.toList (wg (A.toList.take m)) && Gi m A.toList && nP m A.toList y && tyB C.P T ty u) with
  | false=>rw [hc] at h5; simp at h5
  | true=>
  rw [hc] at h5
  simp only [cond_true] at h5
  simp only [Bool.and_eq_true] at hc
  obtain ⟨⟨⟨⟨c1,c2⟩,c3⟩,c5⟩,c6⟩:=hc
  obtain rfl:=Nat.eq_of_beq_eq_true c1
  have ho1:o1 = o:=by
    rw [h1,vI,Option.some.injEq] at hno; exact hno
  subst ho1
  split at h5
  rotate_left
  · simp at h5
  rename_i z hz
  have htake:A.toList.take cs.length = cs:=by rw [h1,List.take_left']; rfl
  have hneed:(wg cs).map (·.need) = es.map (·.need):=by rw [sS,h4]
  rw [htake,oW hneed] at c2
  have hmA:cs.length < A.size:=by
    have:A.size = (cs ++ o1::rest).length:=by rw [← h1]; simp
    rw [this]; simp
  have hsz:A.size - (cs.length + 1) = rest.length:=by
    have:A.size = (cs ++ o1::rest).length:=by rw [← h1]; simp
    rw [this]; simp; omega
  have hst' : ∀ kb,Hl C.n F k0 W a0 e0 a kb → Steps C.P es a kb (A.toList.take cs.length) es:=fun kb hkb=>by
    rw [htake]
    have:=h7 kb hkb (Nat.zero_le _) []
    simpa using this
  have hl1:lk e1 s = .top:=by
    have:=h6.slot s
    rw [s8 (rest:=o1::rest) (by rw [← h1]; exact c4)] at this
    exact (show lk e1 s = lk e0 s from this).trans hl0
  refine wp_region_any hC.mix ?_
  let kd:Gb.K:=⟨{ k.w with drawn:=k.w.drawn + 1 },k.sh,k.lt⟩
  have hg:bN k kd:=⟨rfl,rfl,rfl,Nat.le_refl _,fun _ _=>rfl,fun _ h=>h,fun _ _ h=>h,Nat.le_succ _⟩
  have hF : ∀ j,(Array.replicate A.size false).getD j false = true → False:=by
    intro j hj; simp [Array.getD_eq_getD_getElem?,Array.getElem?_replicate] at hj; split at hj <;> simp at hj
  have hwr:Wr F k0 (Eq b):=fun c hc=>h.wr s hunl c (hfps _ c hc)
  refine IS (B := fun kb => Hl C.n F k0 W a0 e0 a kb ∧ Box b (L.set x0 z) kb ∧ ∀ t', t' ≠ s → (lk e t').fp (a.get t') kb = (lk e t').fp (a.get t') k) (k0 := k) h.s c2 hmA c3 (hst' k hh0) (fun kb hkb => hst' kb hkb.1) trivial ?_ ?_ A.size _ a kd (by simp) (by simp) (fun j hj => (hF j hj).elim) (.inl ⟨?_, ?_⟩)
  · -- the store
    intro a' k' D hD hinv hbind C' hC'
    have hk' : Hl C.n F k0 W a0 e a k':=h.grow hinv.grow
    have hs' : a'.get s = a.get s:=hinv.rest s fun i o' _ ho'=>l9 c4 i o' ho'
    have hyv:IsV (α:=T.D u) z (a'.eval y) k':=by
      refine iO (a:=a) hz (dV (e:=e1) ?_)
      cases y with
      | tmp yt =>
        have h9:=h6.slot yt
        simp only [nP,htake] at c5
        cases hli:bA yt cs 0 none with
        | none =>
          rw [hli] at h9 c5
          have hu:a'.get yt = a.get yt:=hinv.rest yt fun i o' _ ho'=>l9 c5 i o' ho'
          refine ⟨?_,fun _=>hu⟩
          rw [hu,show lk e1 yt = lk e0 yt from h9]
          exact (lk e0 yt).mono hinv.grow (hh0.sl yt)
        | some j =>
          rw [hli] at h9 c5
          have hDj:D j:=bO (L:=A.toList) (D:=D) hinv.closed (j:=cs.length) (i:=j) (fun o' ho'=>hbind o' ho') c5
          obtain ⟨Rr,nd,h10,h11⟩:=h9
          refine ⟨?_,fun hr=>by rw [h6.res yt hr] at hli; simp at hli⟩
          rcases h11 with h11 | ⟨R', rfl, h11⟩
          · rw [h11]; trivial
          · rcases dU hli with h12 | ⟨oj, _, h12, h13⟩
            · simp at h12
            · have hnj : nth A.toList j = some oj := by rw [h1]; exact jk (by simpa using h12)
              exact h11 _ _ (hinv.vals j oj yt _ hDj hnj h13 h10)
      | const v=>trivial
      | global g=>simp [nP] at c5
      | func g=>simp [nP] at c5
    have hpv:jG b L.off (a'.eval (.tmp pt)) k':=by
      rcases hpt with ⟨rfl,hoff⟩ | ⟨j,oj,st,f,hj,hoj,hopj,hgj,hbit,hfo⟩
      · rw [hoff]; exact hs'.trans hb
      · rw [htake] at hj
        have hDj:D j:=bO (L:=A.toList) (D:=D) hinv.closed (j:=cs.length) (i:=j) (fun o' ho'=>hbind o' ho') hbit
        rcases dU hj with h12 | ⟨o2,_,h12,h13⟩
        · simp at h12
        · simp only [Nat.sub_zero] at h12
          have hnj:nth A.toList j = some o2:=by rw [h1]; exact jk h12
          rw [hoj,Option.some.injEq] at hnj
          subst hnj
          obtain ⟨nd,hen⟩:=h9 rfl j oj (.adr L.off) h12 hgj (by simp [tF,hopj,hfo,Nat.beq_refl])
          exact hinv.vals j oj pt _ hDj hoj h13 hen
    have hw:wpOps C.P A (fun ex a w=>match ex with | .normal=>C' a w | _=>False) [cs.length] a' k'.w:=by
      refine bC (set:=L.set) (x:=x0) (z:=z) (b:=b) (off:=L.off) hno hgd hop hdst (o3 c6) hL.2.1 hpv (hbx.grow hinv.grow) hyv fun k1 hch hbz=>?_
      show wpOps C.P A _ [] a' k1.w
      simp only [wpOps]
      refine hC' k1 k1 ⟨hide k' k1 hinv.grow hch,hbz,fun t' ht'=>(AV.mo _ hch (fun c hc=>((h.grow hinv.grow).lt s c (hfps _ c hc)).2) (fun c hc hc'=>(h.grow hinv.grow).ap s t' (Ne.symm ht') c (hfps _ c hc') hc) ((h.grow hinv.grow).sl t')).trans (AV.gY _ hinv.grow (h.sl t'))⟩ ⟨bN.refl k1,hinv.size,hinv.defers,fun i oi d en hDi hoi hd hen=>?_,hinv.rest,hinv.closed,hinv.mem⟩
      have hv:=hinv.vals i oi d en hDi hoi hd hen
      obtain ⟨Rr,nd⟩:=en
      cases Rr with
      | none=>exact hv
      | some Rr =>
        have hmem:(⟨some Rr,nd⟩:Ent) ∈ es:=by rw [eg] at hen; exact List.mem_of_getElem? hen
        rcases h8 _ hmem Rr rfl with ⟨av,rfl,hav1,hav2⟩ | ⟨ox,yx,hox,rfl⟩
        rotate_left
        · cases yx with
          | adr off=>exact hv
          | box t=>obtain ⟨_,_,h20,_⟩:=rQ hox; simp at h20
        refine av.keep hch (fun c hc=>(hk'.lt s c (hfps _ c hc)).2) (fun c hc=>absurd hc (cD hav1 _ _ c)) (fun s' hs' u hu hui c hc hc'=>?_) hv
        have h14:=hav2 s' (AV.jv hs')
        have hne : s' ≠ s := fun e' => by rw [e', hl0] at h14; simp [aH] at h14
        rw [hlt s' hne] at h14
        have h15:aH (lk e s') = true:=by
          rcases iw s (lk e s') with h16 | h16
          · rw [h16] at h14; exact h14
          · rw [h16] at h14; simp [aH] at h14
        exact hk'.apm h15 hne hu hui c hc (hfps _ c hc')
    rw [wpOps_cons] at hw
    have hw2:wpOp C.P A (fun ex a w=>match ex with | .normal=>C' a w | _=>False) cs.length C' a' k'.w:=wpOp_mono (fun a2 w2 h2=>by simpa [wpOps] using h2) hw
    unfold wpOp at hw2 ⊢
    have hAo:A[cs.length]? = some o1:=by rw [← aV]; exact hno
    rw [hAo] at hw2 ⊢
    dsimp only at hw2 ⊢
    split at hw2
    · rename_i hwant
      rw [if_pos hwant]
      rcases hw2 with hw2 | hw2
      · left
        unfold Oper.wp at *
        generalize (execOp a'.eval o1).run C.P k'.w = res at *
        cases res with
        | ok nx w'=>cases nx <;> simp only [Oper.upon] at hw2 ⊢ <;> first | exact hw2 | (refine Calls.mono hw2 fun ee w2 he=>?_; cases ee <;> first | exact he | exact he.elim | (obtain ⟨_,_,hb'⟩:=he; exact hb'.elim)) | (exact Rows.mono hw2 fun _ _ he=>he)
        | halt x w'=>cases x <;> simp only [Oper.upon] at hw2 ⊢ <;> first | exact hw2 | exact hw2.elim
      · obtain ⟨_,_,_,hb'⟩:=hw2; exact hb'.elim
    · rename_i hwant
      rw [if_neg hwant]; exact hw2
  · -- behind
    intro kb hkb a' k' hinv
    have hp:jU A.toList es cs.length a kb a' k':=jU.of hinv
    have hs' : a'.get s = a.get s:=hinv.rest s fun i o' _ ho'=>l9 c4 i o' ho'
    have hp2:=hp
    rw [h1] at hp2
    have hh:=yT hkb.1 (fun o hoc=>hW o (by rw [h1]; simp [hoc])) h6 hp2
    have hh2:=hh.Eg (b:=b) (z:=L.set x0 z) hl1 (hs'.trans hb) (hkb.2.1.grow hinv.grow) hwr fun t' ht c hc hc'=>by
      cases hr:aH (lk e1 t') with
      | false=>exact absurd hc' (cD hr _ _ c)
      | true =>
        have h9:=h6.res t' hr
        have h10:=h6.slot t'
        rw [h9] at h10
        have h11:lk e1 t' = lk e0 t':=h10
        have h12:a'.get t' = a.get t':=hinv.rest t' fun i o' hi ho' hd=>by
          have h13:=(jX h9).2 o' (by
            rw [h1,eg,List.getElem?_append_left hi] at ho'
            exact List.mem_of_getElem? ho')
          exact h13 hd
        rw [h11,h12,hlt t' ht] at hc'
        have h13:(lk e t').fp (a.get t') k c:=by
          rcases iw s (lk e t') with h16 | h16
          · have hslb : (lk e t').is a (a.get t') kb := by have := hkb.1.sl t'; rw [hlt t' ht, h16] at this; exact this
            rw [h16,AV.gY _ hinv.grow hslb,hkb.2.2 t' ht] at hc'; exact hc'
          · rw [h16] at hc'; exact hc'.elim
        exact h.ap s t' (Ne.symm ht) c (hfps _ c hc) h13
    rw [hsz]
    have:=xX hC (A:=A) (Q:=Q) (l:=rest) (pre:=cs ++ [o1]) (e:=(s,.box false t (L.set x0 z))::e1) (a:=a') (k:=k') (r:=r) (by rw [h1]; simp) (fun o hor=>hW o (by rw [h1]; simp [hor])) hh2 (by simpa using h5) (fun e' a2 k2 hk2 h'=>by
      obtain ⟨e2,k3,g1,g2,g3⟩:=kW h' hk2
      rw [← g2]
      exact hQ e2 a2 k3 g1 g3)
    simpa using this
  · cases hx : (Array.replicate A.size false).getD cs.length false with
    | false=>rfl
    | true=>exact (hF _ hx).elim
  · exact ⟨hg,rfl,rfl,fun i o d e hi=>(hF i hi).elim,fun _ _=>rfl,fun j o _ hj=>(hF j hj).elim,fun i hi=>(hF i hi).elim⟩

theorem Fo {a:Act} {k:K} {x u:AV T} {v:Value} (hr:aH x = true) (hsl:x.is a v k) (hu:B6 u = true) (hui:u.is a v k) : ∀ b,u.fp v k b → x.fp v k b:=by
 intro b hb
 cases u with
 | own l e' t xs => cases x with
  | own l' e'' t' xs'=>exact hb
  | box l' t' x'=>obtain ⟨c,rfl,_⟩:=hsl; simp [AV.fp,obF,ob] at hb
  | rs l' m z =>
   obtain ⟨F,h1⟩:=hsl
   show Rk.fp T (.c m) v k b
   rw [rl h1]
   exact T.RProot _ _ _ _ _ _ h1 (.inr hb)
  | tr lf κ z l' =>
   obtain ⟨u,vs,rfl,_⟩:=hsl
   simp [AV.fp,obF,ob] at hb
  | _=>simp [aH] at hr
 | box l t y => cases x with
  | own l' e'' t' xs' =>
   obtain ⟨c,rfl,_⟩:=hui
   rcases (show ay 0 e'' xs' _ k from hsl) with ⟨e1,_⟩ | ⟨_,e1,_⟩ | ⟨_,_,_,_,_,e1,_⟩ <;> simp at e1
  | box l' t' x'=>exact hb
  | rs l' m z =>
   obtain ⟨F,h1⟩:=hsl
   show Rk.fp T (.c m) v k b
   rw [rl h1]
   exact T.RProot _ _ _ _ _ _ h1 (.inl hb)
  | tr lf κ z l' =>
   obtain ⟨u,vs,rfl,_⟩:=hsl
   obtain ⟨c,e,_⟩:=hui
   simp at e
  | _=>simp [aH] at hr
 | _=>simp [B6] at hu
theorem Hl.K8 {n:Nat} {a:Act} {e:Env T} {k k' : K} {G:FP} (h:Hl n F k0 W a0 e a k) (c:Chg G k k') (hn : ∀ b,G b → ¬ k.sh b) (hw:Wr F k0 G) (ha : ∀ t,ai ((lk e t).fp (a.get t) k) G):Hl n F k0 W a0 e a k':=
 have fpk : ∀ t,(lk e t).fp (a.get t) k' = (lk e t).fp (a.get t) k:=fun t=>AV.mo _ c hn (ha t) (h.sl t)
 ⟨h.g.step c hw,h.s,h.d,h.old,fun t=>(lk e t).keep c hn (ha t) (fun s hs u hu hui b hb hb'=>
   ha s b (Fo (h.inv t s (AV.jv hs)) (h.sl s) hu hui b hb) hb') (h.sl t),h.inv,fun t ht=>by rw [fpk]; exact h.wr t ht,fun t t' hne=>by rw [fpk,fpk]; exact h.ap t t' hne,h.gl.le (c.le hn)⟩
theorem yF {s j:Nat} {ops:List Oper} (h:yw s j ops = true) : ∀ i o,i ≠ j → nth ops i = some o → o.dst ≠ some s:=by
 intro i o hi ho hd
 have:=bl h i o ho
 simp only [Nat.zero_add,hd,Bool.or_eq_true] at this
 rcases this with h1 | h1
 ·exact hi (Nat.eq_of_beq_eq_true h1)
 ·simp [Nat.beq_refl] at h1
theorem HA (hC:sR C) {id:Nat} {e:Env T} {a:Act} {k:K} {K:Env T → Option R} {r:R} (hW : ∀ o ∈ A.toList,∀ d,o.dst = some d → d ∈ W) (h:Hl C.n F k0 W a0 e a k) (hk:evN C A.toList e K = some r)
    (hQ : ∀ e' a' k', K e' = some r → Hl C.n F k0 W a0 e' a' k' → Q .normal a' k'.w) : (Code.region id A true).wp C.P Q a k.w := by
  unfold evN at hk
  split at hk
  rotate_left
  · simp at hk
  rename_i m o hst
  split at hk
  rotate_left
  · simp at hk
  rename_i ty pt y hop hdst hgd
  split at hk
  rotate_left
  · simp at hk
  rename_i ja hja
  split at hk
  rotate_left
  · simp at hk
  rename_i oa hoa
  split at hk
  rotate_left
  · simp at hk
  rename_i tya hopa hgda
  split at hk
  rotate_left
  · simp at hk
  rename_i t htid
  obtain ⟨_,hno⟩:=sw hst
  simp only [Nat.sub_zero] at hno
  have p0:P1 e a [] [] e:=⟨rfl,fun t=>rfl,fun t _=>rfl,h.inv⟩
  obtain ⟨cs,rest,es,e1,h1,h2,_,h4,h5,h6,h7,h8,h9⟩:=q7 (n:=C.n) (F:=F) (kk:=k0) (W:=W) (aa:=a0) hC (bH:=0) (B:=k.w.heap.size) A.toList (fun s' hs'=>by simp at hs') (A.toList.length + 1) R none [] A.toList [] e _ r [] (by simp) p0 (fun es' o ho=>by unfold gZ; rw [ho]) hk
  simp only [List.nil_append] at h5 h6 h7
  cases rest with
  | nil=>simp [ixs] at h5
  | cons o1 rest=>
  simp only [ixs] at h5
  have hlen:A.toList.length - ((cs.length,o1)::ixs (cs.length + 1) rest).length = cs.length:=by
    have:(ixs (cs.length + 1) rest).length = rest.length:=by rw [← List.length_map (f:=(·.2)),tX]
    rw [List.length_cons,this,h1]; simp
  rw [hlen] at h5
  cases hc:(Nat.beq cs.length m && lW C.n m A.toList (wg (A.toList.take m)) && GQ m (CD m A.toList) A.toList && vX m (CD m A.toList) A.toList.toArray && cY (dm A.toList []) m ja && yw pt ja A.toList && nP m A.toList y && tyB C.P T ty t && mV C.P T tya t && D9 (lk e1 pt) && !(aH (lk e pt))) with
  | false=>rw [hc] at h5; simp at h5
  | true=>
  rw [hc] at h5
  simp only [cond_true] at h5
  simp only [Bool.and_eq_true,Bool.not_eq_true'] at hc
  obtain ⟨⟨⟨⟨⟨⟨⟨⟨⟨⟨c1,c2⟩,c3⟩,c11⟩,c4⟩,c7⟩,c5⟩,c6⟩,c8⟩,c9⟩,c10⟩:=hc
  rw [Array.toArray_toList] at c11
  obtain rfl:=Nat.eq_of_beq_eq_true c1
  have ho1:o1 = o:=by
    rw [h1,vI,Option.some.injEq] at hno; exact hno
  subst ho1
  split at h5
  rotate_left
  · simp at h5
  rename_i z hz
  have htake:A.toList.take cs.length = cs:=by rw [h1,List.take_left']; rfl
  have hneed:(wg cs).map (·.need) = es.map (·.need):=by rw [sS,h4]
  rw [htake,oW hneed] at c2
  rw [htake] at hja
  have hmA:cs.length < A.size:=by
    have:A.size = (cs ++ o1::rest).length:=by rw [← h1]; simp
    rw [this]; simp
  have hsz:A.size - (cs.length + 1) = rest.length:=by
    have:A.size = (cs ++ o1::rest).length:=by rw [← h1]; simp
    rw [this]; simp; omega
  have hst' : ∀ kb,Hl C.n F k0 W a0 e a kb → k.w.heap.size ≤ kb.w.heap.size → Steps C.P es a kb (A.toList.take cs.length) es:=fun kb hkb hkz=>by
    rw [htake]
    have:=h7 kb hkb hkz []
    simpa using this
  have hl1:lk e1 pt = .top:=by
    cases hlt:lk e1 pt <;> rw [hlt] at c9 <;> first | rfl | simp [D9] at c9
  -- the operation that makes the box
  obtain ⟨hjl,hdpt,nda,hea⟩:nth cs ja = some oa∧oa.dst = some pt∧∃ nd,nth es ja = some ⟨some (uU (T.D t) k.w.heap.size),nd⟩:=by
    rcases dU hja with h12 | ⟨o2,_,h12,h13⟩
    · simp at h12
    · simp only [Nat.sub_zero] at h12
      have hnj:nth A.toList ja = some o2:=by rw [h1]; exact jk h12
      rw [hoa,Option.some.injEq] at hnj
      subst hnj
      refine ⟨h12,h13,?_⟩
      exact h9 rfl ja oa (.box t) h12 hgda (by simp [tF,hopa,h13,Nat.beq_refl,c8])
  refine wp_mono (Q:=QN Q) ?_ (fun e a w h=>by cases e <;> first | exact h | exact h.elim)
  refine wp_region_any hC.mix ?_
  let kd:Gb.K:=⟨{ k.w with drawn:=k.w.drawn + 1 },k.sh,k.lt⟩
  have hg:bN k kd:=⟨rfl,rfl,rfl,Nat.le_refl _,fun _ _=>rfl,fun _ h=>h,fun _ _ h=>h,Nat.le_succ _⟩
  have hF : ∀ j,(Array.replicate A.size false).getD j false = true → False:=by
    intro j hj; simp [Array.getD_eq_getD_getElem?,Array.getElem?_replicate] at hj; split at hj <;> simp at hj
  -- what the new box's block is to the rest
  have hwr : ∀ b,k.w.heap.size ≤ b → Wr F k0 (Eq b):=fun b hb c hc=>by subst hc; exact .inr (Nat.le_trans h.g.size hb)
  have hap : ∀ b, k.w.heap.size ≤ b → ∀ t', ai ((lk e t').fp (a.get t') k) (Eq b) := fun b hb t' c hc hc' => by
    subst hc'
    have:=(h.lt t' b hc).1
    omega
  refine Gq (pt := pt) (ja := ja) (B := fun kb u => ∃ b, u = .pointer (some ⟨b, 0, none⟩) ∧ k.w.heap.size ≤ b ∧ k.w.heap.size ≤ kb.w.heap.size ∧ Hl C.n F k0 W a0 e a kb ∧ Box b z kb ∧ ∀ t', (lk e t').fp (a.get t') kb = (lk e t').fp (a.get t') k) (k0 := k) (fun i o' hi ho' => yF c7 i o' hi ho') c4 h.s c2 hmA c3 c11 (fun _ _ _ h => h) (hst' k h (Nat.le_refl _)) (fun kb u ⟨b, _, _, hkz, hkb, _, _⟩ => hst' kb hkb hkz) trivial ?_ ?_ A.size _ a kd (by simp) (by simp) (fun j hj => (hF j hj).elim) (.inl ⟨?_, ?_⟩)
  · -- the store
    intro a' k' D hD hinv hbind C' hC'
    have hk' : Hl C.n F k0 W a0 e a k':=h.grow hinv.grow
    obtain ⟨x,b,hpv,hsb,hbx⟩:uU (T.D t) k.w.heap.size (a'.get pt) k':=by
      have hDj:D ja:=bO (L:=A.toList) (D:=D) hinv.closed (j:=cs.length) (i:=ja) (fun o' ho'=>hbind o' ho') c4
      exact hinv.vals ja oa pt _ hDj hoa hdpt hea
    have hyv:IsV (α:=T.D t) z (a'.eval y) k':=by
      refine iO (a:=a) hz (dV (e:=e1) ?_)
      cases y with
      | tmp yt =>
        have h9:=h6.slot yt
        simp only [nP,htake] at c5
        cases hli:bA yt cs 0 none with
        | none =>
          rw [hli] at h9 c5
          have hu:a'.get yt = a.get yt:=hinv.rest yt fun i o' _ ho'=>l9 c5 i o' ho'
          refine ⟨?_,fun _=>hu⟩
          rw [hu,show lk e1 yt = lk e yt from h9]
          exact (lk e yt).mono hinv.grow (h.sl yt)
        | some j =>
          rw [hli] at h9 c5
          have hDj:D j:=bO (L:=A.toList) (D:=D) hinv.closed (j:=cs.length) (i:=j) (fun o' ho'=>hbind o' ho') c5
          obtain ⟨Rr,nd,h10,h11⟩:=h9
          refine ⟨?_,fun hr=>by rw [h6.res yt hr] at hli; simp at hli⟩
          rcases h11 with h11 | ⟨R', rfl, h11⟩
          · rw [h11]; trivial
          · rcases dU hli with h12 | ⟨oj, _, h12, h13⟩
            · simp at h12
            · have hnj : nth A.toList j = some oj := by rw [h1]; exact jk (by simpa using h12)
              exact h11 _ _ (hinv.vals j oj yt _ hDj hnj h13 h10)
      | const v=>trivial
      | global g=>simp [nP] at c5
      | func g=>simp [nP] at c5
    have hw:wpOps C.P A (fun ex a w=>match ex with | .normal=>C' a w | _=>False) [cs.length] a' k'.w:=by
      refine bC (set:=fun _ y=>y) (x:=x) (z:=z) (b:=b) (off:=0) hno hgd hop hdst (o3 c6) Upd.self (show jG b 0 (a'.eval (.tmp pt)) k' from hpv) hbx hyv fun k1 hch hbz=>?_
      show wpOps C.P A _ [] a' k1.w
      simp only [wpOps]
      have hnsh : ∀ c,b = c → ¬ k'.sh c:=fun c hc=>hbx.kN c hc
      refine hC' k1 k1 ⟨b,hpv,hsb,Nat.le_trans hinv.grow.size hch.size,hk'.K8 hch hnsh (hwr b hsb) (fun t'=>by rw [AV.gY _ hinv.grow (h.sl t')]; exact hap b hsb t'),hbz,fun t'=>(AV.mo _ hch hnsh (by rw [AV.gY _ hinv.grow (h.sl t')]; exact hap b hsb t') (hk'.sl t')).trans (AV.gY _ hinv.grow (h.sl t'))⟩ ⟨bN.refl k1,hinv.size,hinv.defers,fun i oi d en hDi hoi hd hen=>?_,hinv.rest,hinv.closed,hinv.mem⟩
      have hv:=hinv.vals i oi d en hDi hoi hd hen
      obtain ⟨Rr,nd⟩:=en
      cases Rr with
      | none=>exact hv
      | some Rr =>
        have hmem:(⟨some Rr,nd⟩:Ent) ∈ es:=by rw [eg] at hen; exact List.mem_of_getElem? hen
        rcases h8 _ hmem Rr rfl with ⟨av,rfl,hav1,hav2⟩ | ⟨ox,yx,hox,rfl⟩
        rotate_left
        · cases yx with
          | adr off=>exact hv
          | box t2 =>
            obtain ⟨_,_,h20,_⟩:=rQ hox
            injection h20 with h21 h22
            subst h22
            obtain ⟨x2,b2,hp2,hs2,hb2⟩:=hv
            by_cases hbb:b2 = b
            · subst hbb; exact ⟨z,b2,hp2,hs2,hbz⟩
            · exact ⟨x2,b2,hp2,hs2,hb2.keep hch (fun e'=>hbb e'.symm) hnsh⟩
        refine av.keep hch hnsh (fun c hc=>absurd hc (cD hav1 _ _ c)) (fun s' hs' u hu hui c hc hc'=>?_) hv
        have h14:=hav2 s' (AV.jv hs')
        subst hc'
        have h15:=Fo h14 (hk'.sl s') hu hui b hc
        rw [AV.gY _ hinv.grow (h.sl s')] at h15
        have:=(h.lt s' b h15).1
        omega
    rw [wpOps_cons] at hw
    have hw2:wpOp C.P A (fun ex a w=>match ex with | .normal=>C' a w | _=>False) cs.length C' a' k'.w:=wpOp_mono (fun a2 w2 h2=>by simpa [wpOps] using h2) hw
    unfold wpOp at hw2 ⊢
    have hAo:A[cs.length]? = some o1:=by rw [← aV]; exact hno
    rw [hAo] at hw2 ⊢
    dsimp only at hw2 ⊢
    split at hw2
    · rename_i hwant
      rw [if_pos hwant]
      rcases hw2 with hw2 | hw2
      · left
        unfold Oper.wp at *
        generalize (execOp a'.eval o1).run C.P k'.w = res at *
        cases res with
        | ok nx w'=>cases nx <;> simp only [Oper.upon] at hw2 ⊢ <;> first | exact hw2 | (refine Calls.mono hw2 fun ee w2 he=>?_; cases ee <;> first | exact he | exact he.elim | (obtain ⟨_,_,hb'⟩:=he; exact hb'.elim)) | (exact Rows.mono hw2 fun _ _ he=>he)
        | halt x w'=>cases x <;> simp only [Oper.upon] at hw2 ⊢ <;> first | exact hw2 | exact hw2.elim
      · obtain ⟨_,_,_,hb'⟩:=hw2; exact hb'.elim
    · rename_i hwant
      rw [if_neg hwant]; exact hw2
  · -- behind
    intro kb a' k' ⟨b,hpv,hsb,hkz,hkb,hbz,hfk⟩ hinv
    have hp:jU A.toList es cs.length a kb a' k':=jU.of hinv
    have hp2:=hp
    rw [h1] at hp2
    have hh:=yT hkb (fun o hoc=>hW o (by rw [h1]; simp [hoc])) h6 hp2
    have hh2:=hh.Eg (b:=b) (z:=z) hl1 hpv (hbz.grow hinv.grow) (hwr b hsb) fun t' ht c hc hc'=>by
      subst hc
      cases hr:aH (lk e1 t') with
      | false=>exact absurd hc' (cD hr _ _ b)
      | true =>
        have h9:=h6.res t' hr
        have h10:=h6.slot t'
        rw [h9] at h10
        have h11:lk e1 t' = lk e t':=h10
        have h12:a'.get t' = a.get t':=hinv.rest t' fun i o' hi ho' hd=>by
          have h13:=(jX h9).2 o' (by
            rw [h1,eg,List.getElem?_append_left hi] at ho'
            exact List.mem_of_getElem? ho')
          exact h13 hd
        rw [h11,h12,AV.gY _ hinv.grow (hkb.sl t'),hfk t'] at hc'
        exact hap b hsb t' b hc' rfl
    rw [hsz]
    have:=xX hC (A:=A) (Q:=QN Q) (l:=rest) (pre:=cs ++ [o1]) (e:=(pt,.box false t z)::e1) (a:=a') (k:=k') (r:=r) (by rw [h1]; simp) (fun o hor=>hW o (by rw [h1]; simp [hor])) hh2 (by simpa using h5) (fun e' a2 k2 hk2 h'=>by
      obtain ⟨e2,k3,g1,g2,g3⟩:=kW h' hk2
      rw [← g2]
      exact hQ e2 a2 k3 g1 g3)
    simpa using this
  · cases hx : (Array.replicate A.size false).getD cs.length false with
    | false=>rfl
    | true=>exact (hF _ hx).elim
  · exact ⟨hg,rfl,rfl,fun i o d e hi=>(hF i hi).elim,fun _ _=>rfl,fun j o _ hj=>(hF j hj).elim,fun i hi=>(hF i hi).elim⟩

theorem Fj (hC:sR C) {id:Nat} {draw:Bool} {e:Env T} {a:Act} {k:K} {K:Env T → Option R} {r:R} (hW : ∀ o ∈ A.toList,∀ d,o.dst = some d → d ∈ W) (h:Hl C.n F k0 W a0 e a k) (hk:evR C A.toList draw e K = some r)
    (hQ : ∀ e' a' k', K e' = some r → Hl C.n F k0 W a0 e' a' k' → Q .normal a' k'.w) : (Code.region id A draw).wp C.P Q a k.w := by
  unfold evR at hk
  cases hlate:(draw && (FO A.toList || (Co A.toList && Ht A.toList))) with
  | true =>
    rw [hlate] at hk
    simp only [cond_true] at hk
    rw [Bool.and_eq_true] at hlate
    obtain rfl:=hlate.1
    cases hnw:Co A.toList with
    | true=>rw [hnw] at hk; exact HA hC hW h hk hQ
    | false=>rw [hnw] at hk; exact Iz hC hW h hk hQ
  | false=>
  rw [hlate] at hk
  simp only [cond_false] at hk
  have p0:P1 e a [] [] e:=⟨rfl,fun t=>rfl,fun t _=>rfl,h.inv⟩
  obtain ⟨cs,rest,es,e1,h1,h2,_,h4,h5,h6,h7,_⟩:=q7 (n:=C.n) (F:=F) (kk:=k0) (W:=W) (aa:=a0) hC (bH:=0) (B:=0) A.toList (fun s hs=>by simp at hs) (A.toList.length + 1) R none [] A.toList [] e _ r [] (by simp) p0 (fun es' o ho=>by unfold gZ; rw [ho]) hk
  simp only [List.nil_append] at h5 h6 h7
  have hlen:A.toList.length - (ixs cs.length rest).length = cs.length:=by
    have:(ixs cs.length rest).length = rest.length:=by rw [← List.length_map (f:=(·.2)),tX]
    rw [this,h1]; simp
  have htake:A.toList.take cs.length = cs:=by rw [h1,List.take_left']; rfl
  rw [hlen,htake] at h5
  have hneed:(wg cs).map (·.need) = es.map (·.need):=by rw [sS,h4]
  have hst:Steps C.P es a k (A.toList.take cs.length) es:=by
    rw [htake]
    have:=h7 k h (Nat.zero_le _) []
    simpa using this
  have hsz:A.size - cs.length = rest.length:=by
    have:A.size = (cs ++ rest).length:=by rw [← h1]; simp
    rw [this]; simp
  -- behind the first part
  have tail:(ev2 C (ixs cs.length rest) e1 fun e''=>nT C A.toList e'' K) = some r → ∀ b q,jU A.toList es cs.length a k b q → wpOps C.P A Q (List.range' cs.length (A.size - cs.length)) b q.w:=by
    intro hev b q hp
    rw [hsz]
    rw [h1] at hp
    have hh:=yT h (fun o ho=>hW o (by rw [h1]; simp [ho])) h6 hp
    exact xX hC h1 (fun o ho=>hW o (by rw [h1]; simp [ho])) hh hev fun e' a' k' hk' h'=>by
      obtain ⟨e2,k2,g1,g2,g3⟩:=kW h' hk'
      rw [← g2]
      exact hQ e2 a' k2 g1 g3
  cases draw with
  | false =>
    simp only [cond_false] at h5
    rw [oW hneed] at h5
    cases hc:lW C.n cs.length A.toList es with
    | false=>rw [hc] at h5; simp at h5
    | true =>
      rw [hc] at h5
      exact y5 es h.s hc hst trivial (tail h5)
  | true =>
    simp only [cond_true] at h5
    rw [DK hneed] at h5
    cases hc:chk C.n cs.length A.toList es with
    | false=>rw [hc] at h5; simp at h5
    | true =>
      rw [hc] at h5
      exact region es hC.mix h.s hc hst trivial (tail h5)
end
end Go.Gb

namespace Go.Gb
variable {T:Tb} {R:Type}

def xc (W:List Nat) (e:Env T):Env T:=e.map fun p=>(p.1,bif W.contains p.1 then p.2 else lkA p.2)
theorem px (W:List Nat) : ∀ (e:Env T) (k:Env T → Option R),vT W e k = k (xc W e)
 | [],_=>rfl
 | (t,a)::e,k=>by rw [vT,px W e]; rfl
theorem mX {W:List Nat} : ∀ (e:Env T) (t:Nat),lk (xc W e) t = bif W.contains t then lk e t else lkA (lk e t)
 | [],t=>by show AV.top = _; cases W.contains t <;> rfl
 | (s, x) :: e, t => by
  show lk ((s,_)::xc W e) t = _
  rw [bo,bo,mX e]
  split
  ·rename_i h; subst h; rfl
  ·rfl
def lX (lock:Bool) (W Wd:List Nat):Env T → Env T
 | []=>[]
 | (t,a)::e=>bif W.contains t then lX lock W Wd e else (t,bif Wd.contains t then a else fT lock (W ++ Wd) a)::lX lock W Wd e
theorem nk (lock:Bool) (W Wd:List Nat) : ∀ (e:Env T) (k:Env T → Option R),rB lock W Wd e k = k (lX lock W Wd e)
 | [],_=>rfl
 | (t,a)::e,k=>by rw [rB,nk lock W Wd e]; rfl
theorem rT {lock:Bool} {W Wd:List Nat} : ∀ (e:Env T) (t:Nat),lk (lX lock W Wd e) t = bif W.contains t then .top else bif Wd.contains t then lk e t else fT lock (W ++ Wd) (lk e t)
 | [],t=>by show AV.top = _; cases W.contains t <;> cases Wd.contains t <;> rfl
 | (s, x) :: e, t => by
  simp only [lX]
  cases hs:W.contains s with
  | true =>
   simp only [cond_true]
   rw [rT e,bo]
   split
   ·rename_i h; subst h; rw [hs]; rfl
   ·rfl
  | false =>
   simp only [cond_false]
   rw [bo,bo,rT e]
   split
   ·rename_i h; subst h; rw [hs]; rfl
   ·rfl

theorem HJ {a:Act} {x:AV T} {v:Value} {k:K} (h:x.is a v k):(lkA x).is a v k:=by cases x <;> exact h
theorem IL {x:AV T} {v:Value} {k:K}:(lkA x).fp v k = x.fp v k:=by cases x <;> rfl
theorem Gk {x:AV T}:aH (lkA x) = aH x:=by cases x <;> rfl
theorem Fh {x:AV T} {s:Nat}:(lkA x).bt s = x.bt s:=by cases x <;> rfl
theorem GV {x:AV T}:unl (lkA x) = false:=by cases x <;> rfl

def FU (e:Env T) (a:Act) (k:K) (L:List Nat):FP:=fun b=>∃ t,L.contains t = true∧unl (lk e t) = true∧(lk e t).fp (a.get t) k b

section
variable {n:Nat} {F:FP} {k0:K} {W:List Nat} {a0:Act} {e e' : Env T} {a a' : Act} {k k' : K}
theorem Hl.lock (h:Hl n F k0 W a0 e a k) (L Wc:List Nat):Hl n (FU e a k L) k Wc a (xc L e) a k:=by
 have fpe : ∀ t,(lk (xc L e) t).fp (a.get t) k = (lk e t).fp (a.get t) k:=fun t=>by
  rw [mX]; cases L.contains t
  ·exact IL
  ·rfl
 refine ⟨Chg.refl _ k,h.s,h.d,fun _ _=>rfl,fun t=>?_,fun t s hs=>?_,fun t ht=>?_,fun t t' hne=>by rw [fpe,fpe]; exact h.ap t t' hne,h.gl⟩
 ·rw [mX]; cases L.contains t
  ·exact HJ (h.sl t)
  ·exact h.sl t
 ·have h1 : (lk e t).bt s = true := by
   rw [mX] at hs
   cases hc:L.contains t <;> rw [hc] at hs
   ·rwa [cond_false,Fh] at hs
   ·exact hs
  rw [mX]
  cases L.contains s
  ·rw [cond_false,Gk]; exact h.inv t s h1
  ·exact h.inv t s h1
 ·rw [fpe]
  rw [mX] at ht
  cases hc:L.contains t <;> rw [hc] at ht
  ·rw [cond_false,GV] at ht; simp at ht
  ·exact fun b hb=>.inl ⟨t,hc,ht,hb⟩

theorem EN {a:Act} {lock:Bool} {L:List Nat} {x:AV T} {v:Value} {k:K} (h:x.is a v k):(fT lock L x).is a v k:=by
 cases x with
 | al s=>simp only [fT]; cases L.contains s; exact h; trivial
 | mv f s=>simp only [fT]; cases L.contains s; exact h; trivial
 | _=>first | exact h | trivial
theorem pz {lock:Bool} {L:List Nat} {x:AV T} {v:Value} {k:K} : ∀ b,(fT lock L x).fp v k b → x.fp v k b:=by
 intro b hb
 cases x with
 | al s=>simp only [fT] at hb; cases hc:L.contains s <;> rw [hc] at hb <;> exact hb
 | mv f s=>simp only [fT] at hb; cases hc:L.contains s <;> rw [hc] at hb <;> exact hb
 | _=>exact hb
theorem AE {lock:Bool} {L:List Nat} {x:AV T} {s:Nat}:(fT lock L x).kK s = false:=by
 cases x with
 | al s'=>simp only [fT]; cases L.contains s' <;> rfl
 | mv f s'=>simp only [fT]; cases L.contains s' <;> rfl
 | _=>rfl
theorem vz {lock:Bool} {L:List Nat} {x:AV T} {s:Nat} (h:(fT lock L x).bt s = true):x.bt s = true∧L.contains s = false:=by
 cases x with
 | al s' =>
  simp only [fT] at h
  cases hc:L.contains s' with
  | true=>rw [hc] at h; simp [AV.bt] at h
  | false =>
   rw [hc] at h
   have:s' = s:=Nat.eq_of_beq_eq_true h
   subst this
   exact ⟨h,hc⟩
 | mv f s' =>
  simp only [fT] at h
  cases hc:L.contains s' with
  | true=>rw [hc] at h; simp [AV.bt] at h
  | false =>
   rw [hc] at h
   have:s' = s:=Nat.eq_of_beq_eq_true h
   subst this
   exact ⟨h,hc⟩
 | _=>simp [fT,AV.bt] at h
theorem DQ {lock:Bool} {L:List Nat} {x:AV T} (h:aH x = true):aH (fT lock L x) = true:=by
 cases x <;> first | rfl | simp [aH] at h
theorem DE {lock:Bool} {L:List Nat} {x:AV T} (h:unl (fT lock L x) = true):lock = false∧unl x = true:=by
 cases x with
 | own b e t xs=>cases lock <;> cases b <;> simp [fT,unl] at h ⊢
 | box b t x=>cases lock <;> cases b <;> simp [fT,unl] at h ⊢
 | rs b m x=>cases lock <;> cases b <;> simp [fT,unl] at h ⊢
 | tr b κ x l=>cases lock <;> cases b <;> simp [fT,unl] at h ⊢
 | al s=>simp only [fT] at h; cases hc:L.contains s <;> rw [hc] at h <;> simp [unl] at h
 | mv f s=>simp only [fT] at h; cases hc:L.contains s <;> rw [hc] at h <;> simp [unl] at h
 | _=>simp [fT,unl] at h

theorem vY (h:Hl n F k0 W a0 e a k) {t:Nat} {κ:Kd} {x:κ.D T} (ht:nb e t κ = some x):(avK κ x).is a (a.get t) k∧(∀ s,(avK κ x).bt s = false)∧∀ b,(avK κ x).fp (a.get t) k b → unl (lk e t) = true∧(lk e t).fp (a.get t) k b:=by
 have hsl:=h.sl t
 cases κ with
 | v u =>
  simp only [nb] at ht
  exact ⟨ri.2 (iO ht (yV hsl)),fun _=>oC,fun b hb=>absurd hb (cD qg _ _ b)⟩
 | o el u =>
  simp only [nb] at ht
  split at ht
  ·rename_i el' u' xs hl
   cases hb:Nat.beq el el' with
   | false=>rw [hb] at ht; simp at ht
   | true =>
    rw [hb] at ht
    obtain rfl:=Nat.eq_of_beq_eq_true hb
    obtain ⟨he,hx⟩:=cast?_eq ht
    injection he with he
    subst he
    obtain rfl:x = xs:=hx
    rw [hl] at hsl
    exact ⟨hsl,fun _=>rfl,fun b hb=>⟨by rw [hl]; rfl,by rw [hl]; exact hb⟩⟩
  ·rename_i hl
   obtain rfl:=Option.some.inj ht
   rw [hl] at hsl
   exact ⟨cO.DS hsl,fun _=>rfl,fun b hb=>absurd hb (cO.Ik (k:=k) hsl b)⟩
  ·simp at ht
 | b u =>
  simp only [nb] at ht
  split at ht
  ·rename_i u' y hl
   obtain ⟨rfl,hx⟩:=cast?_eq ht
   obtain rfl:x = y:=hx
   rw [hl] at hsl
   exact ⟨hsl,fun _=>rfl,fun b hb=>⟨by rw [hl]; rfl,by rw [hl]; exact hb⟩⟩
  ·simp at ht
 | c m =>
  simp only [nb] at ht
  split at ht
  ·rename_i m' y hl
   split at ht
   ·rename_i hm _
    obtain rfl:=hm.down
    obtain rfl:=Option.some.inj ht
    rw [hl] at hsl
    exact ⟨hsl,fun _=>rfl,fun b hb=>⟨by rw [hl]; rfl,by rw [hl]; exact hb⟩⟩
   ·simp at ht
  ·simp at ht
theorem BH {ds:List Nat} {e e' : Env T} : ∀ {sp:Sp},(∀ t,t ∈ spW sp → lk e t = lk e' t) → take ds e sp = take ds e' sp:=by
 have one : ∀ p:Nat × Kd,lk e p.1 = lk e' p.1 → nb e p.1 p.2 = nb e' p.1 p.2:=by
  intro p hp
  obtain ⟨s,κ⟩:=p
  cases κ <;> simp only [nb] <;> rw [show lk e s = lk e' s from hp]
 intro sp
 induction sp with
 | nil=>intro _; rfl
 | cons p l ih =>
  intro h
  cases l with
  | nil=>simp only [take]; rw [one p (h p.1 (by simp [spW]))]
  | cons q l=>simp only [take]; rw [one p (h p.1 (by simp [spW])),ih fun t ht=>h t (by simp only [spW,List.map_cons,List.mem_cons] at ht ⊢; exact .inr ht)]
theorem CG {ds xs:List Nat} (hds : ∀ d,ds.contains d = true → xs.contains d = true) {e base:Env T} : ∀ {sp:Sp} {s:SpD T sp},take ds e sp = some s → ∀ t,
  ((spW sp).contains t = false∧lk (fZ xs sp s base) t = lk base t) ∨ ((spW sp).contains t = true∧(lk (fZ xs sp s base) t = .top ∨ ∃ κ x,nb e t κ = some x∧lk (fZ xs sp s base) t = avK κ x)):=by
 have one : ∀ {p:Nat × Kd} {y:p.2.D T} {b:Env T} (t:Nat),(bif ds.contains p.1 then some p.2.tE else nb e p.1 p.2) = some y → p.1 = t →
   (lk ((p.1,bif xs.contains p.1 then .top else avK p.2 y)::b) t = .top ∨ ∃ κ x,nb e t κ = some x∧lk ((p.1,bif xs.contains p.1 then .top else avK p.2 y)::b) t = avK κ x):=by
  intro p y b t hy ht
  rw [bo,if_pos ht]
  cases hx:xs.contains p.1 with
  | true=>exact .inl rfl
  | false =>
   have hd:ds.contains p.1 = false:=by
    cases hd:ds.contains p.1 with
    | false=>rfl
    | true=>rw [hds _ hd] at hx; simp at hx
   rw [hd] at hy
   rw [← ht]
   exact .inr ⟨p.2,y,hy,rfl⟩
 have cont : ∀ (p:Nat × Kd) (l:Sp) (t:Nat),(spW (p::l)).contains t = (t == p.1 || (spW l).contains t):=fun p l t=>by simp [spW]
 intro sp
 induction sp with
 | nil=>intro s _ t; exact .inl ⟨rfl,rfl⟩
 | cons p l ih =>
  intro s hs t
  cases l with
  | nil =>
   simp only [take] at hs
   rw [cont]
   by_cases ht:p.1 = t
   ·exact .inr ⟨by simp [ht],one t hs ht⟩
   ·have : (t == p.1) = false := by simpa using fun e => ht e.symm
    exact .inl ⟨by rw [this]; rfl,by simp only [fZ]; rw [bo,if_neg ht]⟩
  | cons q l =>
   simp only [take] at hs
   split at hs
   ·rename_i y ys hy hys
    obtain rfl:=Option.some.inj hs
    rw [cont]
    by_cases ht:p.1 = t
    ·exact .inr ⟨by simp [ht],one t hy ht⟩
    ·have hne : (t == p.1) = false := by simpa using fun e => ht e.symm
     have:=ih hys t
     rw [hne,Bool.false_or]
     simp only [fZ]
     rw [bo,if_neg ht]
     exact this
   ·simp at hs

theorem EF (h:Hl n F k0 W a0 e a k) {Wc:List Nat} {sp:Sp} {ds xs:List Nat} (hds : ∀ d,ds.contains d = true → xs.contains d = true) {s:SpD T sp}
    (i:Hl n (FU e a k (Wc ++ spW sp)) k Wc a e' a' k') (ht:take ds e' sp = some s) (lock:Bool) :
    let E:=fZ xs sp s (lX lock Wc (spW sp) e)
    (∀ t, (lk E t).is a' (a'.get t) k') ∧ (∀ t u, (lk E t).bt u = true → aH (lk E u) = true) ∧ (∀ t t', t ≠ t' → ai ((lk E t).fp (a'.get t) k') ((lk E t').fp (a'.get t') k')) ∧
    ∀ t,unl (lk E t) = true → Wr (FU e a k (Wc ++ spW sp)) k ((lk E t).fp (a'.get t) k') ∨ (lock = false∧unl (lk e t) = true∧∀ b,(lk E t).fp (a'.get t) k' b → (lk e t).fp (a.get t) k b):=by
  intro E
  have hFn : ∀ b,FU e a k (Wc ++ spW sp) b → ¬ k.sh b:=fun b ⟨t,_,_,hb⟩=>(h.lt t b hb).2
  -- the three kinds of slots
  have cases3 : ∀ t,(Wc.contains t = false∧(spW sp).contains t = false∧lk E t = fT lock (Wc ++ spW sp) (lk e t)) ∨ lk E t = .top ∨ ((spW sp).contains t = true∧∃ κ x,nb e' t κ = some x∧lk E t = avK κ x):=by
    intro t
    rcases CG hds (base:=lX lock Wc (spW sp) e) ht t with ⟨h1,h2⟩ | ⟨h1,h2 | h2⟩
    · rw [rT] at h2
      cases hw:Wc.contains t with
      | true=>rw [hw] at h2; exact .inr (.inl h2)
      | false=>rw [hw,h1] at h2; exact .inl ⟨rfl,h1,h2⟩
    · exact .inr (.inl h2)
    · exact .inr (.inr ⟨h1,h2⟩)
  have hold : ∀ t,Wc.contains t = false → a'.get t = a.get t:=fun t ht=>i.old t (by simpa using ht)
  have apK : ∀ t,Wc.contains t = false → (spW sp).contains t = false → ∀ b,(lk e t).fp (a.get t) k b → ¬ FU e a k (Wc ++ spW sp) b:=by
    intro t h1 h2 b hb ⟨t2,h3,h4,h5⟩
    by_cases e1:t = t2
    · subst e1
      simp at h1 h2 h3
      exact h3.elim h1 h2
    · exact h.ap t t2 e1 b hb h5
  have fpk : ∀ t,Wc.contains t = false → (spW sp).contains t = false → (lk e t).fp (a.get t) k' = (lk e t).fp (a.get t) k:=fun t h1 h2=>AV.mo _ i.g hFn (fun b hb hb'=>apK t h1 h2 b hb hb') (h.sl t)
  have fpT : ∀ t κ x,nb e' t κ = some x → ∀ b,(avK κ x).fp (a'.get t) k' b → (lk e' t).fp (a'.get t) k' b∧(FU e a k (Wc ++ spW sp) b ∨ k.w.heap.size ≤ b):=by
    intro t κ x hx b hb
    obtain ⟨_,_,h3⟩:=vY i hx
    obtain ⟨h4,h5⟩:=h3 b hb
    exact ⟨h5,i.wr t h4 b h5⟩
  refine ⟨fun t=>?_,fun t u hu=>?_,fun t t' hne b hb hb'=>?_,fun t hu=>?_⟩
  · rcases cases3 t with ⟨h1, h2, h3⟩ | h3 | ⟨_, κ, x, h2, h3⟩
    · rw [h3, hold t h1]
      have h4:(fT lock (Wc ++ spW sp) (lk e t)).is a (a.get t) k':=AV.keep _ i.g hFn (fun b hb hb'=>apK t h1 h2 b (pz b hb) hb') (fun s hs=>by rw [AE] at hs; simp at hs) (EN (h.sl t))
      refine AV.congr _ (fun s hs=>?_) h4
      have:=(vz hs).2
      exact hold s (by simp at this ⊢; exact this.1)
    · rw [h3]; trivial
    · rw [h3]; exact (vY i h2).1
  · rcases cases3 t with ⟨h1, h2, h3⟩ | h3 | ⟨_, κ, x, h2, h3⟩
    · rw [h3] at hu
      obtain ⟨h4,h5⟩:=vz hu
      have h6:=h.inv t u h4
      simp at h5
      rcases CG hds (base:=lX lock Wc (spW sp) e) ht u with ⟨h7,h8⟩ | ⟨h7,_⟩
      · show aH (lk (fZ xs sp s (lX lock Wc (spW sp) e)) u) = true
        rw [h8,rT,h7]
        have:Wc.contains u = false:=by simpa using h5.1
        rw [this]
        exact DQ h6
      · simp at h7; exact absurd h7 h5.2
    · rw [h3] at hu; simp [AV.bt] at hu
    · rw [h3,(vY i h2).2.1] at hu; simp at hu
  · rcases cases3 t with ⟨h1, h2, h3⟩ | h3 | ⟨_, κ, x, h2, h3⟩
    · rw [h3, hold t h1] at hb
      have hb:=pz b hb
      rw [fpk t h1 h2] at hb
      rcases cases3 t' with ⟨h4, h5, h6⟩ | h6 | ⟨_, κ', x', h5, h6⟩
      · rw [h6, hold t' h4] at hb'
        have hb':=pz b hb'
        rw [fpk t' h4 h5] at hb'
        exact h.ap t t' hne b hb hb'
      · rw [h6] at hb'; exact hb'
      · rw [h6] at hb'
        rcases (fpT t' κ' x' h5 b hb').2 with h7 | h7
        · exact apK t h1 h2 b hb h7
        · have:=(h.lt t b hb).1; omega
    · rw [h3] at hb; exact hb
    · rw [h3] at hb
      obtain ⟨h7,h8⟩:=fpT t κ x h2 b hb
      rcases cases3 t' with ⟨h4, h5, h6⟩ | h6 | ⟨_, κ', x', h5, h6⟩
      · rw [h6, hold t' h4] at hb'
        have hb':=pz b hb'
        rw [fpk t' h4 h5] at hb'
        rcases h8 with h8 | h8
        · exact apK t' h4 h5 b hb' h8
        · have:=(h.lt t' b hb').1; omega
      · rw [h6] at hb'; exact hb'
      · rw [h6] at hb'
        exact i.ap t t' hne b h7 (fpT t' κ' x' h5 b hb').1
  · rcases cases3 t with ⟨h1, h2, h3⟩ | h3 | ⟨_, κ, x, h2, h3⟩
    · rw [h3] at hu
      obtain ⟨h4,h5⟩:=DE hu
      refine .inr ⟨h4,h5,fun b hb=>?_⟩
      rw [h3,hold t h1] at hb
      have hb:=pz b hb
      rw [fpk t h1 h2] at hb
      exact hb
    · rw [h3] at hu; simp [unl] at hu
    · refine .inl fun b hb => ?_
      rw [h3] at hb
      exact (fpT t κ x h2 b hb).2
theorem Cn (h:Hl n F k0 W a0 e a k) {Wc:List Nat} {sp:Sp} {ds xs:List Nat} (hds : ∀ d,ds.contains d = true → xs.contains d = true) {s:SpD T sp}
  (i:Hl n (FU e a k (Wc ++ spW sp)) k Wc a e' a' k') (ht:take ds e' sp = some s):Hl n (FU e a k (Wc ++ spW sp)) k Wc a (fZ xs sp s (lX true Wc (spW sp) e)) a' k':=by
 obtain ⟨h1,h2,h3,h4⟩:=EF h hds i ht true
 refine ⟨i.g,i.s,i.d,i.old,h1,h2,fun t hu=>?_,h3,i.gl⟩
 rcases h4 t hu with h5 | ⟨h5,_⟩
 ·exact h5
 ·simp at h5
theorem rM (h:Hl n F k0 W a0 e a k) {Wc:List Nat} {sp:Sp} {ds xs:List Nat} (hds : ∀ d,ds.contains d = true → xs.contains d = true) {s:SpD T sp} (hW : ∀ t ∈ Wc,t ∈ W)
  (i:Hl n (FU e a k (Wc ++ spW sp)) k Wc a e' a' k') (ht:take ds e' sp = some s):Hl n F k0 W a0 (fZ xs sp s (lX false Wc (spW sp) e)) a' k':=by
 obtain ⟨h1,h2,h3,h4⟩:=EF h hds i ht false
 have hwr:Wr F k0 (FU e a k (Wc ++ spW sp)):=fun b ⟨t,_,h5,h6⟩=>h.wr t h5 b h6
 refine ⟨h.g.step i.g hwr,i.s,i.d,fun t ht=>?_,h1,h2,fun t hu b hb=>?_,h3,i.gl⟩
 ·rw [i.old t (fun h'=>ht (hW t h')),h.old t ht]
 ·rcases h4 t hu with h5 | ⟨_, h5, h6⟩
  ·rcases h5 b hb with h5 | h5
   ·exact hwr b h5
   ·exact .inr (Nat.le_trans h.g.size h5)
  ·exact h.wr t h5 b (h6 b hb)
end
end Go.Gb

namespace Go.Gb
variable {T:Tb} {R:Type}

structure Hr (C:Cx T) (sl:Nat) (tu ro:Rk) (cod:List Tp) (F:FP) (k0:K) (a0:Act) (x:tu.D T × ro.D T × HL T.S cod) (a:Act) (k:K):Prop where
 dn:a.defers = []
 sle:isN tu = false → a.get sl = a0.get sl
 ex : ∃ k', k'.w = k.w ∧ Chg F k0 k' ∧ tu.is x.1 (a.get sl) k' ∧ Wr F k0 (tu.fp T (a.get sl) k') ∧ ∀ fn : Func, fn.results.toList = C.rs → ∃ v, (results fn a.tmps).run C.P k'.w = .ok v k'.w ∧
  (o5 ro cod x.2.1 x.2.2).is ⟨#[],[]⟩ v k'∧Wr F k0 ((o5 ro cod x.2.1 x.2.2).fp v k')∧ai (tu.fp T (a.get sl) k') ((o5 ro cod x.2.1 x.2.2).fp v k')
abbrev qw (C:Cx T) (rv:Rv T) (F:FP) (k0:K) (a0:Act) (x:rv.D T) (a:Act) (k:K):Prop:=Hr C rv.sl rv.tu rv.ro rv.cod F k0 a0 (rv.inj x) a k
theorem qw.step {C:Cx T} {rv:Rv T} {F G:FP} {k0 k1 k:K} {x:rv.D T} {a0 a1 a:Act} (h:qw C rv G k1 a1 x a k) (g:Chg F k0 k1) (hw:Wr F k0 G) (ho:isN rv.tu = false → a1.get rv.sl = a0.get rv.sl):qw C rv F k0 a0 x a k:=by
 obtain ⟨h1, h2, k', h3, h4, h5, h6, h7⟩ := h
 have wr : ∀ H,Wr G k1 H → Wr F k0 H:=fun H hH b hb=>by
  rcases hH b hb with h8 | h8
  ·exact hw b h8
  ·exact .inr (Nat.le_trans g.size h8)
 refine ⟨h1, fun hN => (h2 hN).trans (ho hN), k', h3, g.step h4 hw, h5, wr _ h6, fun fn hfn => ?_⟩
 obtain ⟨v,g1,g2,g3,g4⟩:=h7 fn hfn
 exact ⟨v,g1,g2,wr _ g3,g4⟩

section
variable {C:Cx T} {cod:Rv T} {F:FP} {k0:K} {W:List Nat} {a0:Act} {e:Env T} {a:Act} {k:K}

theorem zl (h:Hl C.n F k0 W a0 e a k) {t:Tp} {rv:ResultVar} {x:T.D t} (hx:sZ.resH1 C e t rv = some x) : ∃ v,(pR a.tmps rv).run C.P k.w = .ok v k.w∧IsV x v k:=by
 cases rv with
 | tmp s =>
  simp only [sZ.resH1] at hx
  exact ⟨_,rfl,iO hx (yV (h.sl s))⟩
 | cell s ty =>
  simp only [sZ.resH1] at hx
  have hsl:=h.sl s
  split at hx
  ·rename_i l u y hl
   rw [hl] at hsl
   obtain ⟨b,hb,hbx⟩:=hsl
   cases ht:tyB C.P T ty u with
   | false=>rw [ht] at hx; simp at hx
   | true =>
    rw [ht] at hx
    obtain ⟨rfl,hxy⟩:=cast?_eq hx
    obtain rfl:x = y:=hxy
    exact qj (tU (sI ht) hb hbx)
  ·simp at hx
theorem CP (h:Hl C.n F k0 W a0 e a k) : ∀ {l:List Tp} {rs:List ResultVar} {x:HL T.S l},sZ C e l rs = some x →
  ∃ vs:List Value,(rs.mapM (pR a.tmps)).run C.P k.w = .ok vs k.w∧vs.length = l.length∧Fa2 (unH l x) vs k
 | [],[],x,_=>⟨[],by simp,rfl,trivial⟩
 | [t], [rv], x, hx => by
  simp only [sZ] at hx
  obtain ⟨v,h1,h2⟩:=zl h hx
  exact ⟨[v],by simp [h1],rfl,h2,trivial⟩
 | t :: t' :: l, rv :: rs, x, hx => by
  simp only [sZ] at hx
  split at hx
  ·rename_i y ys hy hys
   obtain rfl:=Option.some.inj hx
   obtain ⟨v,h1,h2⟩:=zl h hy
   obtain ⟨vs,h3,h4,h5⟩:=CP h hys
   exact ⟨v::vs,by simp [List.mapM_cons,h1,h3],by simp [h4],h2,h5⟩
  ·simp at hx
 | [],_::_,_,hx=>by simp [sZ] at hx
 | [_],[],_,hx=>by simp [sZ] at hx
 | [_],_::_::_,_,hx=>by simp [sZ] at hx
 | _::_::_,[],_,hx=>by simp [sZ] at hx
theorem A0 {κ:Rk} {av:AV T} {y:κ.D T} {v:Value} (h:jR κ av = some y) (hv:av.is a v k):κ.is y v k∧∀ b,κ.fp T v k b → unl av = true∧av.fp v k b:=by
 cases hr:aH av with
 | true =>
  obtain ⟨h1,h2⟩:=AQ h hv hr
  refine ⟨h1,fun b hb=>?_⟩
  cases hN:isN κ with
  | true=>exact (Rk.fpN hN b hb).elim
  | false=>obtain ⟨h3,h4⟩:=h2 hN; exact ⟨h4,by rw [← h3]; exact hb⟩
 | false =>
  cases κ with
  | n=>exact ⟨trivial,fun b hb=>hb.elim⟩
  | o e t =>
   cases av with
   | e0 =>
    simp only [jR,Option.some.injEq] at h
    subst h
    exact ⟨cO.DS hv,fun b hb=>absurd hb (cO.Ik (k:=k) hv b)⟩
   | own _ _ _ _=>simp [aH] at hr
   | _=>simp [jR] at h
  | b t =>
   cases av with
   | box _ _ _=>simp [aH] at hr
   | _=>simp [jR] at h
  | c m =>
   cases av with
   | rs _ _ _=>simp [aH] at hr
   | _=>simp [jR] at h
theorem EJ {κ:Rk} (hN:isN κ = false):roR C e κ = ro1 e κ C.rs:=by cases κ <;> first | rfl | simp [isN] at hN
theorem CQ {l:List Tp} {x:HL T.S l} {v:Value} {k:K} : ∀ b,¬ (qM l x).fp v k b:=cD tx v k
theorem Gj (h:Hl C.n F k0 W a0 e a k) {sl:Nat} {tu ro:Rk} {cod:List Tp} (hsl:isN tu = false → sl ∉ W) (hc:(!(isN tu) && !(isN ro) && yy C.rs sl) = false) {y:tu.D T} {w:ro.D T} {r:HL T.S cod} (hy:jR tu (lk e sl) = some y) (hw:roR C e ro = some w) (hr:sZ C e cod (CE ro C.rs) = some r):Hr C sl tu ro cod F k0 a0 (y,w,r) a k:=by
 obtain ⟨t1,t2⟩:=A0 hy (h.sl sl)
 refine ⟨h.d,fun hN=>h.old _ (hsl hN),k,rfl,h.g,t1,fun b hb=>h.wr _ (t2 b hb).1 b (t2 b hb).2,fun fn hfn=>?_⟩
 obtain ⟨vs,h1,h2,h3⟩:=CP h hr
 unfold CE at h1
 try dsimp only at h1
 have norm : ∀ {vs:List Value},(C.rs.mapM (pR a.tmps)).run C.P k.w = .ok vs k.w → (fn.results.mapM (pR a.tmps)).run C.P k.w = .ok vs.toArray k.w:=fun {vs} h1=>by
  rw [← hfn] at h1
  rw [Array.mapM_eq_mapM_toList]; simp [h1]
 rw [qK]
 cases hro:isN ro with
 | true =>
  rw [hro] at h1
  simp only [cond_true] at h1
  have h4:=norm h1
  have eR:o5 ro cod w r = qM cod r:=by unfold o5; rw [hro]; rfl
  rw [eR]
  have fin : ∀ v,(qM cod r).is ⟨#[],[]⟩ v k → (qM cod r).is ⟨#[],[]⟩ v k∧Wr F k0 ((qM cod r).fp v k)∧ai (tu.fp T (a.get sl) k) ((qM cod r).fp v k):=fun v hv=>
   ⟨hv,fun b hb=>absurd hb (CQ b),fun b _ hb=>CQ b hb⟩
  match cod,r,vs,h2,h3 with
  | [],r,[],_,_=>exact ⟨.tuple #[],by simp [h4],fin _ trivial⟩
  | [t],r,[v],_,h3=>exact ⟨v,by simp [h4],fin _ (ri.2 h3.1)⟩
  | t::t'::l,r,v::v'::vs,_,h3=>exact ⟨.tuple (v::v'::vs).toArray,by simp [h4],fin _ ⟨_,rfl,h3⟩⟩
 | false =>
  rw [hro] at h1
  simp only [cond_false] at h1
  rw [EJ hro] at hw
  unfold ro1 at hw
  split at hw
  ·rename_i s rs hrs
   rw [hrs] at h1 hc
   simp only [List.tail_cons] at h1
   obtain ⟨w1,w2⟩:=A0 hw (h.sl s)
   have h4:=norm (vs:=a.get s::vs) (by rw [hrs]; simp [List.mapM_cons,h1,pR,Act.get,Array.getD_eq_getD_getElem?])
   have hap:ai (tu.fp T (a.get sl) k) (ro.fp T (a.get s) k):=fun b hb hb'=>by
    have hN:isN tu = false:=by
     cases hN:isN tu with
     | false=>rfl
     | true=>exact (Rk.fpN hN b hb).elim
    rw [hN,hro] at hc
    simp only [Bool.not_false,Bool.true_and,yy] at hc
    exact h.ap sl s (fun e1=>by rw [e1,Nat.beq_refl] at hc; simp at hc) b (t2 b hb).2 (w2 b hb').2
   have hwr:Wr F k0 (ro.fp T (a.get s) k):=fun b hb=>h.wr _ (w2 b hb).1 b (w2 b hb).2
   match cod,r,vs,h2,h3 with
   | [], r, [], _, _ =>
    have eR:o5 ro [] w r = ro.av w:=by unfold o5; rw [hro]; rfl
    rw [eR]
    exact ⟨a.get s,by simp [h4],(Rk.Aq hro).2 w1,by rw [Rk.wU hro]; exact hwr,by rw [Rk.wU hro]; exact hap⟩
   | t :: l, r, v :: vs, _, h3 =>
    have eR:o5 ro (t::l) w r = .tr false ro w (unH (t::l) r):=by unfold o5; rw [hro]; rfl
    rw [eR]
    exact ⟨.tuple (a.get s::v::vs).toArray,by simp [h4],⟨_,_,rfl,w1,h3⟩,hwr,hap⟩
  ·simp at hw
theorem Fx (h:Hl C.n F k0 W a0 e a k) (hsl:isN cod.tu = false → cod.sl ∉ W) {x:cod.D T} (hx:F1 C e cod = some x):qw C cod F k0 a0 x a k:=by
 obtain ⟨sl,tu,ro,cod,ρ,pr,inj,hpr⟩:=cod
 unfold F1 at hx
 dsimp only at hx hsl
 cases hc:(!(isN tu) && !(isN ro) && yy C.rs sl) with
 | true=>rw [hc] at hx; simp at hx
 | false=>
 rw [hc] at hx; simp only [cond_false] at hx
 split at hx
 ·rename_i y w r hy hw hr
  obtain rfl:=Option.some.inj hx
  unfold qw
  dsimp only
  rw [hpr]
  exact Gj h hsl hc hy hw hr
 ·simp at hx

theorem oB (h : Hl C.n F k0 W a0 e a k) {ds : List Nat} {sp : Sp} {K : SpD T sp → Option R} {r : R} (hk : mP ds e sp K = some r) : ∃ s e' k', K s = some r ∧ take ds e' sp = some s ∧ k'.w = k.w ∧ Hl C.n F k0 W a0 e' a k' := by
 unfold mP at hk
 obtain ⟨e', k', h1, h2, h3⟩ := nV h hk
 split at h1
 ·rename_i s hs; exact ⟨s, e', k', h1, hs, h2, h3⟩
 ·simp at h1
theorem Av {xs:Ls} : ∀ d,xs.2.contains d = true → (xs.1 ++ xs.2).contains d = true:=by
 intro d h; simp at h ⊢; exact .inr h
theorem wW {i j:Nat} {x:Ls} {l:List (Nat × Ls)} {y:Ls} (h:yY ((i,x)::l) j = some y):(i = j∧x = y) ∨ (i ≠ j∧yY l j = some y):=by
 simp only [yY] at h
 cases hb:Nat.beq i j with
 | true=>rw [hb] at h; exact .inl ⟨Nat.eq_of_beq_eq_true hb,Option.some.inj h⟩
 | false=>rw [hb] at h; exact .inr ⟨fun e=>by rw [e,Nat.beq_refl] at hb; simp at hb,h⟩
theorem BX {ρ:Type} {sp:Sp} {base:Env T} {K:Kt T ρ R} {r:R} {s:SpD T sp} : ∀ {l:List (Nat × Ls)} {j:Nat} {x:Ls},yY l j = some x → exK base K l j s = some r → K.ex j (fZ (x.1 ++ x.2) sp s base) = some r
 | [],j,x,h,_=>by simp [yY] at h
 | [(i, y)], j, x, h, hk => by
  rcases wW h with ⟨rfl,rfl⟩ | ⟨_,h⟩
  ·exact hk
  ·simp [yY] at h
 | (i, y) :: z :: l, j, x, h, hk => by
  simp only [exK] at hk
  rcases wW h with ⟨rfl,rfl⟩ | ⟨hne,h⟩
  ·rw [if_pos rfl] at hk; exact hk
  ·rw [if_neg (Ne.symm hne)] at hk; exact BX h hk
def LG (C:Cx T) (c:Code) (e e' : Env T):Prop:=
 ∀ (F : FP) (k0 : K) (W : List Nat) (a0 : Act) (a : Act) (k : K) (Q : Exit → Act → World → Prop), (∀ t ∈ wrs c, t ∈ W) → Hl C.n F k0 W a0 e a k → (∀ a' k', Hl C.n F k0 W a0 e' a' k' → Q .normal a' k'.w) → c.wp C.P Q a k.w
def wX (C : Cx T) : Prop := ∀ i c e e', C.rg c → C.hk i c e = some e' → LG C c e e'
def mf (C:Cx T) (cod:Rv T) (c:Code):Prop:=(∀ c' ∈ mg c,C.rg c') →
 ∀ (h:Hn T) (R:Type) (e:Env T) (M:Kt T (cod.D T) R) (r:R),ev C cod c h R e M = some r →
 ∀ (F:FP) (k0:K) (W:List Nat) (a0:Act) (a:Act) (k:K) (Q:Exit → Act → World → Prop),(∀ t ∈ wrs c,t ∈ W) → (isN cod.tu = false → cod.sl ∉ W) → Hl C.n F k0 W a0 e a k →
 (∀ e' a' k', M.go e' = some r → Hl C.n F k0 W a0 e' a' k' → Q .normal a' k'.w) →
 (∀ i e' a' k', M.ex i e' = some r → Hl C.n F k0 W a0 e' a' k' → Q (.exit i) a' k'.w) →
 (∀ x a' k', M.rv x = some r → qw C cod F k0 a0 x a' k' → Q .ret a' k'.w) → c.wp C.P Q a k.w

theorem CA {h:Hl C.n F k0 W a0 e a k} {Wc:List Nat} {sp:Sp} {xs:Ls} {exs:List (Nat × Ls)} {M:Kt T (cod.D T) R} {r:R} {Q:Exit → Act → World → Prop} {fl:aN (SpD T sp) (cod.D T)}
  (hW : ∀ t ∈ Wc,t ∈ W)
  (hk:(match fl with | .go s=>M.go (fZ (xs.1 ++ xs.2) sp s (lX false Wc (spW sp) e)) | .ex i s=>exK (lX false Wc (spW sp) e) M exs i s | .ret x=>M.rv x) = some r)
  (hgo : ∀ e' a' k', M.go e' = some r → Hl C.n F k0 W a0 e' a' k' → Q .normal a' k'.w)
  (hex : ∀ i e' a' k', M.ex i e' = some r → Hl C.n F k0 W a0 e' a' k' → Q (.exit i) a' k'.w)
  (hsl : isN cod.tu = false → cod.sl ∉ W) (hrv : ∀ x a' k', M.rv x = some r → qw C cod F k0 a0 x a' k' → Q .ret a' k'.w) :
  (∀ e' a' k', (mP xs.2 e' sp fun s => some (.go s)) = some fl → Hl C.n (FU e a k (Wc ++ spW sp)) k Wc a e' a' k' → Q .normal a' k'.w) ∧
  (∀ i e' a' k', exF exs sp i e' = some fl → Hl C.n (FU e a k (Wc ++ spW sp)) k Wc a e' a' k' → Q (.exit i) a' k'.w) ∧
  (∀ x a' k', some (.ret x) = some fl → qw C cod (FU e a k (Wc ++ spW sp)) k a x a' k' → Q .ret a' k'.w) := by
 refine ⟨fun e' a' k' h1 h2=>?_,fun i e' a' k' h1 h2=>?_,fun x a' k' h1 h2=>?_⟩
 ·obtain ⟨s, e2, k2, h3, h4, h5, h6⟩ := oB h2 h1
  obtain rfl:=Option.some.inj h3
  rw [← h5]
  exact hgo _ a' k2 hk (rM h Av hW h6 h4)
 ·unfold exF at h1
  split at h1
  ·rename_i x hx
   obtain ⟨s,e2,k2,h3,h4,h5,h6⟩:=oB h2 h1
   obtain rfl:=Option.some.inj h3
   rw [← h5]
   exact hex i _ a' k2 (BX hx hk) (rM h Av hW h6 h4)
  ·simp at h1
 ·obtain rfl := Option.some.inj h1
  exact hrv x a' k' hk (h2.step h.g (fun b ⟨t,_,h5,h6⟩=>h.wr t h5 b h6) fun hN=>h.old _ (hsl hN))

theorem H8 {x y:Code} (hx:mf C cod x) (hy:mf C cod y):mf C cod (.seq x y):=by
 intro hsb
 replace hx:=hx fun c' hc=>hsb c' (by simp [mg,hc])
 replace hy:=hy fun c' hc=>hsb c' (by simp [mg,hc])
 intro h R e M r hk F k0 W a0 a k Q hW hsl hl hgo hex hrv
 have main : ∀ hxx hyy,ev C cod x hxx R e { M with go:=fun e'=>ev C cod y hyy R e' M } = some r → (Code.seq x y).wp C.P Q a k.w:=by
  intro hxx hyy hk
  refine wp_seq (hx hxx R e _ r hk F k0 W a0 a k _ (fun t ht=>hW t (by simp [wrs,ht])) hsl hl (fun e' a' k' h1 h2=>?_) (fun i e' a' k' h1 h2=>hex i e' a' k' h1 h2) (fun x a' k' h1 h2=>hrv x a' k' h1 h2))
  exact hy hyy R e' M r h1 F k0 W a0 a' k' Q (fun t ht=>hW t (by simp [wrs,ht])) hsl h2 hgo hex hrv
 cases h <;> exact main _ _ hk
theorem Gn {c:Operand} {x y:Code} (hx:mf C cod x) (hy:mf C cod y):mf C cod (.cond c x y):=by
 intro hsb
 replace hx:=hx fun c' hc=>hsb c' (by simp [mg,hc])
 replace hy:=hy fun c' hc=>hsb c' (by simp [mg,hc])
 intro h R e M r hk F k0 W a0 a k Q hW hsl hl hgo hex hrv
 have hWx : ∀ t ∈ wrs x,t ∈ W:=fun t ht=>hW t (by simp [wrs,ht])
 have hWy : ∀ t ∈ wrs y,t ∈ W:=fun t ht=>hW t (by simp [wrs,ht])
 have cv : ∀ {F:FP} {k0:K} {W:List Nat} {a0:Act} {e:Env T} {k:K} {m:Bool},Hl C.n F k0 W a0 e a k → asB (opv e c) = some m → a.eval c = .bool m:=by
  intro F k0 W a0 e k m hl hm
  exact bx.1 (pw hm (dV (a0:=a) (by
   cases c with
   | tmp t=>exact ⟨hl.sl t,fun _=>rfl⟩
   | global _=>exact hl.gl
   | _=>trivial)))
 have plain : ∀ hxx hyy,(match asB (opv e c) with | some m=>if m then ev C cod x hxx R e M else ev C cod y hyy R e M | none=>none) = some r → (Code.cond c x y).wp C.P Q a k.w:=by
  intro hxx hyy hk
  split at hk
  ·rename_i m hm
   refine wp_cond_split (cv hl hm) (fun hm1=>?_) (fun hm0=>?_)
   ·rw [if_pos hm1] at hk
    exact hx hxx R e M r hk F k0 W a0 a k Q hWx hsl hl hgo hex hrv
   ·rw [if_neg (by rw [hm0]; simp)] at hk
    exact hy hyy R e M r hk F k0 W a0 a k Q hWy hsl hl hgo hex hrv
  ·simp at hk
 have hwc : ∀ t ∈ wrs x ++ wrs y,t ∈ W:=fun t ht=>hW t (by simpa [wrs] using ht)
 have hsc:isN cod.tu = false → cod.sl ∉ wrs x ++ wrs y:=fun hN ht=>hsl hN (hwc _ ht)
 unfold ev at hk
 split at hk
 ·rename_i fz sp xs hxx hyy
  obtain ⟨e0,k1,h1,h2,h3⟩:=nV hl hk
  rw [px,nk] at h1
  rw [← h2]
  have hin:=h3.lock (wrs x ++ wrs y ++ spW sp) (wrs x ++ wrs y)
  split at h1
  ·rename_i m hm
   obtain ⟨s,hs,h1⟩:=bind_some h1
   have fin : ∀ e' a' k', (mP xs.2 e' sp some) = some s → Hl C.n (FU e0 a k1 (wrs x ++ wrs y ++ spW sp)) k1 (wrs x ++ wrs y) a e' a' k' → Q .normal a' k'.w := by
    intro e' a' k' g1 g2
    obtain ⟨s', e2, k2, g3, g4, g5, g6⟩ := oB g2 g1
    obtain rfl:=Option.some.inj g3
    rw [← g5]
    exact hgo _ a' k2 h1 (rM h3 Av hwc g6 g4)
   refine wp_cond_split (cv hin hm) (fun hm1=>?_) (fun hm0=>?_)
   ·rw [if_pos hm1] at hs
    exact hx hxx _ _ _ s hs _ _ _ _ a k1 Q (fun t ht=>by simp [ht]) hsc hin fin (fun i e' a' k' g1 _=>by simp at g1) (fun x' a' k' g1 _=>by simp at g1)
   ·rw [if_neg (by rw [hm0]; simp)] at hs
    exact hy hyy _ _ _ s hs _ _ _ _ a k1 Q (fun t ht=>by simp [ht]) hsc hin fin (fun i e' a' k' g1 _=>by simp at g1) (fun x' a' k' g1 _=>by simp at g1)
  ·simp at h1
 ·rename_i fz sp xs exs hxx hyy
  obtain ⟨e0,k1,h1,h2,h3⟩:=nV hl hk
  rw [px,nk] at h1
  rw [← h2]
  have hin:=h3.lock (wrs x ++ wrs y ++ spW sp) (wrs x ++ wrs y)
  split at h1
  ·rename_i m hm
   obtain ⟨fl,hs,h1⟩:=bind_some h1
   obtain ⟨f1,f2,f3⟩:=CA (h:=h3) (Q:=Q) (xs:=xs) hwc h1 hgo hex hsl hrv
   refine wp_cond_split (cv hin hm) (fun hm1=>?_) (fun hm0=>?_)
   ·rw [if_pos hm1] at hs
    exact hx hxx _ _ _ fl hs _ _ _ _ a k1 Q (fun t ht=>by simp [ht]) hsc hin f1 f2 f3
   ·rw [if_neg (by rw [hm0]; simp)] at hs
    exact hy hyy _ _ _ fl hs _ _ _ _ a k1 Q (fun t ht=>by simp [ht]) hsc hin f1 f2 f3
  ·simp at h1
 ·exact plain _ _ hk
 ·exact plain _ _ hk
theorem EW (hH:wX C) {id:Nat} {x:Code} (hx:mf C cod x):mf C cod (.block id x):=by
 intro hsb
 replace hx:=hx fun c' hc=>hsb c' (by simp [mg,hc])
 intro h R e M r hk F k0 W a0 a k Q hW hsl hl hgo hex hrv
 have hWx : ∀ t ∈ wrs x,t ∈ W:=fun t ht=>hW t (by simpa [wrs] using ht)
 have hsx:isN cod.tu = false → cod.sl ∉ wrs x:=fun hN ht=>hsl hN (hWx _ ht)
 have inb : ∀ {i:Nat} {a:Act} {w:World},(i = id → Q .normal a w) → (i ≠ id → Q (.exit i) a w) → Exit.inBlock id Q (.exit i) a w:=by
  intro i a w h1 h2
  simp only [Exit.inBlock]
  split
  ·rename_i h; exact h1 (by simpa using h)
  ·rename_i h; exact h2 (by simpa using h)
 have plain : ∀ hxx,ev C cod x hxx R e { M with ex:=fun i e'=>bif Nat.beq i id then M.go e' else M.ex i e' } = some r → (Code.block id x).wp C.P Q a k.w:=by
  intro hxx hk
  refine wp_block (hx hxx R e _ r hk F k0 W a0 a k _ hWx hsl hl hgo (fun i e' a' k' h1 h2=>inb (fun e1=>?_) (fun e1=>?_)) hrv)
  ·subst e1; simp only [Nat.beq_refl,cond_true] at h1; exact hgo e' a' k' h1 h2
  ·simp only [vA e1,cond_false] at h1; exact hex i e' a' k' h1 h2
 unfold ev at hk
 split at hk
 ·rename_i fz sp xs hxx
  obtain ⟨e0,k1,h1,h2,h3⟩:=nV hl hk
  rw [px,nk] at h1
  rw [← h2]
  have hin:=h3.lock (wrs x ++ spW sp) (wrs x)
  obtain ⟨s,hs,h1⟩:=bind_some h1
  have fin : ∀ e' a' k', (mP xs.2 e' sp some) = some s → Hl C.n (FU e0 a k1 (wrs x ++ spW sp)) k1 (wrs x) a e' a' k' → Q .normal a' k'.w := by
   intro e' a' k' g1 g2
   obtain ⟨s', e2, k2, g3, g4, g5, g6⟩ := oB g2 g1
   obtain rfl:=Option.some.inj g3
   rw [← g5]
   exact hgo _ a' k2 h1 (rM h3 Av hWx g6 g4)
  refine wp_block (hx hxx _ _ _ s hs _ _ _ _ a k1 _ (fun t ht=>ht) hsx hin fin (fun i e' a' k' g1 g2=>inb (fun e1=>?_) (fun e1=>?_)) (fun x' a' k' g1 _=>by simp at g1))
  ·subst e1; simp only [Nat.beq_refl,cond_true] at g1; exact fin e' a' k' g1 g2
  ·simp only [vA e1,cond_false] at g1; simp at g1
 ·rename_i fz sp xs exs hxx
  obtain ⟨e0,k1,h1,h2,h3⟩:=nV hl hk
  rw [px,nk] at h1
  rw [← h2]
  have hin:=h3.lock (wrs x ++ spW sp) (wrs x)
  obtain ⟨fl,hs,h1⟩:=bind_some h1
  obtain ⟨f1,f2,f3⟩:=CA (h:=h3) (Q:=Q) (xs:=xs) hWx h1 hgo hex hsl hrv
  refine wp_block (hx hxx _ _ _ fl hs _ _ _ _ a k1 _ (fun t ht=>ht) hsx hin f1 (fun i e' a' k' g1 g2=>inb (fun e1=>?_) (fun e1=>?_)) f3)
  ·subst e1; simp only [Nat.beq_refl,cond_true] at g1; exact f1 e' a' k' g1 g2
  ·simp only [vA e1,cond_false] at g1; exact f2 i e' a' k' g1 g2
 ·split at hk
  ·rename_i e' he
   exact hH _ _ _ _ (hsb _ (by simp [mg])) he F k0 W a0 a k Q hW hl fun a' k' h1=>hgo e' a' k' hk h1
  ·simp at hk
 ·exact plain _ hk
theorem F5 {x:Code} (hx:mf C cod x):mf C cod (.loop x):=by
 intro hsb
 replace hx:=hx fun c' hc=>hsb c' (by simpa [mg] using hc)
 intro h R e M r hk F k0 W a0 a k Q hW hsl hl hgo hex hrv
 have hWx : ∀ t ∈ wrs x,t ∈ W:=fun t ht=>hW t (by simpa [wrs] using ht)
 have hsx:isN cod.tu = false → cod.sl ∉ wrs x:=fun hN ht=>hsl hN (hWx _ ht)
 unfold ev at hk
 split at hk
 ·rename_i fz sp exs fuel hxx
  obtain ⟨e0,k1,h1,h2,h3⟩:=nV hl hk
  rw [nk,nk] at h1
  rw [← h2]
  split at h1
  ·rename_i s0 hs0
   obtain ⟨fl,hs,h1⟩:=bind_some h1
   have hin:=h3.lock (wrs x ++ spW sp) (wrs x)
   have hs0' : take [] (xc (wrs x ++ spW sp) e0) sp = some s0:=by
    rw [← hs0]
    refine BH fun t ht=>?_
    rw [mX]
    have:(wrs x ++ spW sp).contains t = true:=by simpa using Or.inr ht
    rw [this]; rfl
   have hst:=Cn h3 (ds:=[]) (xs:=[]) (fun d hd=>by simp at hd) hin hs0'
   have hsim:Sim C.P (.loop x) (fun s a' k'=>Hl C.n (FU e0 a k1 (wrs x ++ spW sp)) k1 (wrs x) a (fZ [] sp s (lX true (wrs x) (spW sp) e0)) a' k')
     (ah (fun s=>ev C cod x hxx (aN (SpD T sp) (cod.D T)) (fZ [] sp s (lX true (wrs x) (spW sp) e0)) ⟨fun e'=>mP [] e' sp fun s=>some (.go s),exF exs sp,fun r=>some (.ret r)⟩) (fuel e0))
     (fun s a' k'=>Hl C.n (FU e0 a k1 (wrs x ++ spW sp)) k1 (wrs x) a (fZ [] sp s (lX true (wrs x) (spW sp) e0)) a' k')
     (fun i s a' k'=>∃ y,yY exs i = some y∧Hl C.n F k0 W a0 (fZ (y.1 ++ y.2) sp s (lX false (wrs x) (spW sp) e0)) a' k')
     (fun x' a' k'=>qw C cod (FU e0 a k1 (wrs x ++ spW sp)) k1 a x' a' k'):=by
    refine ek ?_ _
    intro s f a2 k2 hb hS Q' _ hgo' hex' hret'
    refine hx hxx _ _ _ f hb _ _ _ _ a2 k2 Q' (fun t ht=>ht) hsx hS (fun e' a' k' g1 g2=>?_) (fun i e' a' k' g1 g2=>?_) (fun x' a' k' g1 g2=>?_)
    ·obtain ⟨s', e2, k3, g3, g4, g5, g6⟩ := oB g2 g1
     rw [← g5]
     exact hgo' s' a' k3 (Option.some.inj g3).symm (Cn h3 (fun d hd=>by simp at hd) g6 g4)
    ·have g1 : exF exs sp i e' = some f := g1
     unfold exF at g1
     split at g1
     ·rename_i y hy
      obtain ⟨s', e2, k3, g3, g4, g5, g6⟩ := oB g2 g1
      rw [← g5]
      exact hex' i s' a' k3 (Option.some.inj g3).symm ⟨y,hy,rM h3 Av hWx g6 g4⟩
     ·simp at g1
    ·exact hret' x' a' k' (Option.some.inj g1).symm g2
   refine hsim s0 fl a k1 hs hst Q trivial (fun s a' k' g1 _=>?_) (fun i s a' k' g1 g2=>?_) (fun x' a' k' g1 g2=>?_)
   ·rw [g1] at h1; simp at h1
   ·rw [g1] at h1
    obtain ⟨y,hy,g3⟩:=g2
    exact hex i _ a' k' (BX hy h1) g3
   ·rw [g1] at h1
    exact hrv x' a' k' h1 (g2.step h3.g (fun b ⟨t,_,h5,h6⟩=>h3.wr t h5 b h6) fun hN=>h3.old _ (hsl hN))
  ·simp at h1
 ·simp at hk
theorem DW (hC:sR C) (hH:wX C) {id:Nat} {A:Array Oper} {draw:Bool}:mf C cod (.region id A draw):=by
 intro hsb h R e M r hk F k0 W a0 a k Q hW hsl hl hgo hex hrv
 have hWx : ∀ o ∈ A.toList,∀ d,o.dst = some d → d ∈ W:=fun o ho d hd=>hW d (List.mem_filterMap.2 ⟨o,ho,hd⟩)
 unfold ev at hk
 split at hk
 ·obtain ⟨e1, k1, h1, h2, h3⟩ := nV hl hk
  rw [← h2]
  exact Fj hC hWx h3 h1 hgo
 ·split at hk
  ·rename_i e' he
   exact hH _ _ _ _ (hsb _ (by simp [mg])) he F k0 W a0 a k Q hW hl fun a' k' h1=>hgo e' a' k' hk h1
  ·simp at hk
 ·exact Fj hC hWx hl hk hgo
theorem nJ (hC:sR C) (hH:wX C) : ∀ c:Code,mf C cod c
 | .skip=>fun _ h R e M r hk F k0 W a0 a k Q hW _ hl hgo _ _=>wp_skip (hgo e a k hk hl)
 | .region _ _ _=>DW hC hH
 | .seq x y=>H8 (nJ hC hH x) (nJ hC hH y)
 | .cond _ x y=>Gn (nJ hC hH x) (nJ hC hH y)
 | .block _ x=>EW hH (nJ hC hH x)
 | .loop x=>F5 (nJ hC hH x)
 | .exit i=>fun _ h R e M r hk F k0 W a0 a k Q hW _ hl _ hex _=>wp_exit (hex i e a k hk hl)
 | .ret => fun _ h R e M r hk F k0 W a0 a k Q hW hsl hl _ _ hrv => by
  unfold ev at hk
  obtain ⟨e1,k1,h1,h2,h3⟩:=nV hl hk
  split at h1
  ·rename_i x hx
   rw [← h2]
   exact wp_ret (hrv x a k1 h1 (Fx h3 hsl hx))
  ·simp at h1
 | .rangeFunc _ _ _ _=>fun _ h R e M r hk=>by simp [ev] at hk
 | .scope _=>fun _ h R e M r hk=>by simp [ev] at hk
 | .label _=>fun _ h R e M r hk=>by simp [ev] at hk
 | .goto _=>fun _ h R e M r hk=>by simp [ev] at hk
 | .refuse _=>fun _ h R e M r hk=>by simp [ev] at hk
end
end Go.Gb

namespace Go.Gb
variable {T:Tb} {R:Type}
def body (f:Func):Code:=f.body.getD .skip
def JR:List (Nat × Tp) → Nat → Option Tp
 | [],_=>none
 | (a,t)::l,i=>bif Nat.beq a i then some t else JR l i
def fI (s:Nat) (e:Env T):Nat:=match lk e s with | .v .int n=>n.toNat + 1 | _=>0
def JB (e:Env T) (s:Nat):Nat:=match nrm (lk e s) with | .v (.list _) xs=>xs.length | .own _ _ _ xs=>xs.length | _=>0
def fLs (e:Env T):Nat → List Nat → Nat
 | a,[]=>a + 1
 | a,s::l=>fLs e (a + JB e s) l
def fL (l:List Nat) (e:Env T):Nat:=match l with
 | []=>1
 | s::l=>fLs e (JB e s) l
def gt (e:Env T) (s:Nat) (t:Tp):T.D t:=(asT t (nrm (lk e s))).getD (T.tE t)

def tt (P:Program) (T:Tb):List (TypeId × Nat) → Prop
 | []=>True
 | (t,n)::l=>@tR P t (T.S n) (T.enc n) (T.deq n)∧tt P T l
theorem tt.at {P:Program} : ∀ {l:List (TypeId × Nat)},tt P T l → ∀ t n,l.contains (t,n) = true → @tR P t (T.S n) (T.enc n) (T.deq n)
 | [],_,_,_,h=>by simp at h
 | (t', n') :: l, h, t, n, hc => by
  simp only [List.contains_cons,Bool.or_eq_true,beq_iff_eq,Prod.mk.injEq] at hc
  rcases hc with ⟨rfl,rfl⟩ | hc
  ·exact h.1
  ·exact tt.at h.2 t n hc
structure Fk (T:Tb) (P:Program) where
 f:FuncId
 d:FnE T
 ok:D2 P f d
def lg {P:Program} (l:List (Fk T P)):Hy T:=l.map fun k=>(k.f,k.d)
theorem sk {P:Program} : ∀ (l:List (Fk T P)) (f:FuncId) (d:FnE T),dep (lg l) f = some d → D2 P f d
 | [],_,_,h=>by simp [lg,dep] at h
 | k :: l, f, d, h => by
  simp only [lg,List.map_cons,dep] at h
  cases hb:Nat.beq k.f f with
  | true =>
   rw [hb] at h
   obtain rfl:=Nat.eq_of_beq_eq_true hb
   obtain rfl:=Option.some.inj h
   exact k.ok
  | false=>rw [hb] at h; exact sk l f d h

theorem HIs.cons {a b:Tp} {l:List Tp} {x:HL T.S (a::b::l)} {vs:List Value} {k:K} (h:HIs (a::b::l) x vs k) : ∃ u us,vs = u::us∧IsV x.1 u k∧HIs (b::l) x.2 us k:=by
 cases vs with
 | nil=>exact h.elim
 | cons u us=>exact ⟨u,us,rfl,h.1,h.2⟩
theorem HIs.one {a:Tp} {x:HL T.S [a]} {vs:List Value} {k:K} (h:HIs [a] x vs k) : ∃ u,vs = [u]∧IsV (α:=T.D a) x u k:=by
 cases vs with
 | nil=>exact h.elim
 | cons u us => cases us with
  | nil=>exact ⟨u,rfl,h⟩
  | cons _ _=>exact h.elim
theorem HIs.nil {x:HL T.S []} {vs:List Value} {k:K} (h:HIs [] x vs k):vs = []:=by
 cases vs with
 | nil=>rfl
 | cons u us=>exact h.elim
theorem zp {a:Act} {k:K} : ∀ {l:List Tp} {x:HL T.S l} {vs:List Value} {i:Nat},HIs l x vs k → mq a i vs → ∀ t,(lk (tf i l x) t).is a (a.get t) k∧aH (lk (tf i l x) t) = false∧∀ s,(lk (tf i l x) t).bt s = false
 | [],_,_,_,_,_,t=>⟨trivial,rfl,fun _=>rfl⟩
 | [b], x, vs, i, h, ha, t => by
  obtain ⟨u,rfl,hu⟩:=h.one
  simp only [tf]
  rw [bo]
  split
  ·rename_i e; subst e
   rw [ha.1]
   exact ⟨ri.2 hu,qg,fun _=>oC⟩
  ·exact ⟨trivial,rfl,fun _=>rfl⟩
 | b :: c :: l, x, vs, i, h, ha, t => by
  obtain ⟨u,us,rfl,hu,h'⟩:=h.cons
  simp only [tf]
  rw [bo]
  split
  ·rename_i e; subst e
   rw [ha.1]
   exact ⟨ri.2 hu,qg,fun _=>oC⟩
  ·exact zp h' ha.2 t
theorem HIs.len {k:K} : ∀ {l:List Tp} {x:HL T.S l} {vs:List Value},HIs l x vs k → vs.length = l.length
 | [],_,_,h=>by rw [h.nil]; rfl
 | [_],_,_,h=>by obtain ⟨u,rfl,_⟩:=h.one; rfl
 | _::_::_,_,_,h=>by obtain ⟨u,us,rfl,_,h'⟩:=h.cons; simp [HIs.len h']

structure FkR (T:Tb) (P:Program) where
 f:FuncId
 d:FnR T
 ok:vO P f d
def km {P:Program} (l:List (FkR T P)):Ep T:=l.map fun k=>(k.f,k.d)
theorem qV {P:Program} : ∀ (l:List (FkR T P)) (f:FuncId) (d:FnR T),vF (km l) f = some d → vO P f d
 | [],_,_,h=>by simp [km,vF] at h
 | k :: l, f, d, h => by
  simp only [km,List.map_cons,vF] at h
  cases hb:Nat.beq k.f f with
  | true =>
   rw [hb] at h
   obtain rfl:=Nat.eq_of_beq_eq_true hb
   obtain rfl:=Option.some.inj h
   exact k.ok
  | false=>rw [hb] at h; exact qV l f d h

theorem Hc {P:Program} {tid:TypeId → Option Tp} {eqs:List (TypeId × Nat)} {d:FnE T} {f:FuncId} (ks:List (Fk T P)) (rks:List (FkR T P)) (wr:Bool) (own:List Nat) (fn:Func) (hk:Nat → Code → Env T → Option (Env T)) (hH:wX ⟨P,tid,eqs,lg ks,km rks,wr,own,fn.results.toList,fn.ntmps,hk,fun c=>c ∈ mg (body fn)⟩) (h:Hn T) (hE:tt P T eqs) (hm:P.follows .mixedOrders = true) (hpe:P = T.P)
  (hf:P.funcs[f]? = some fn) (hc : ∀ args w,(callFunc f args).run P w = .ok (.enter f args) w) (hb:fn.body = some (body fn)) (hl:Nat.ble d.dom.length fn.ntmps = true)
  (he : ∀ x,evF ⟨P,tid,eqs,lg ks,km rks,wr,own,fn.results.toList,fn.ntmps,hk,fun c=>c ∈ mg (body fn)⟩ (body fn) h d.dom d.cod x = d.run x):D2 P f d:=by
 let C:Cx T:=⟨P,tid,eqs,lg ks,km rks,wr,own,fn.results.toList,fn.ntmps,hk,fun c=>c ∈ mg (body fn)⟩
 have hC:sR C:=⟨sk ks,qV rks,hE.at,hm,hpe⟩
 refine ⟨hc,fun k0 vs x r hG hi hr=>?_⟩
 refine Ret.ofC ?_
 refine iN hf hb rfl (by
  have:=hi.len
  have h2:=Nat.le_of_ble_eq_true hl
  simpa [this] using h2) fun a k hk0 hs hd ha=>?_
 subst hk0
 have hev:evF C (body fn) h d.dom d.cod x = some r:=(he x).trans hr
 have hin:=zp hi ha
 have h0:Hl C.n noF k (wrs (body fn)) a (tf 0 d.dom x) a k:=⟨Chg.refl _ k,hs,hd,fun _ _=>rfl,fun t=>(hin t).1,fun t s hms=>by rw [(hin t).2.2] at hms; simp at hms,
  fun t ht=>by have h1:=p6 ht; rw [(hin t).2.1] at h1; simp at h1,fun t t' _ b hb=>absurd hb (cD (hin t).2.1 _ _ b),hG⟩
 refine nJ hC hH (body fn) (fun _ h=>h) h _ _ _ r hev noF k _ a a k _ (fun t ht=>ht) (fun hN=>by simp [isN] at hN) h0 (fun e' a' k' g=>by simp at g) (fun i e' a' k' g=>by simp at g) (fun y a' k' g hret=>?_)
 obtain rfl:=Option.some.inj g
 obtain ⟨h1,_,k2,h2,h3,_,_,h4⟩:=hret
 obtain ⟨v,h5,h6,_⟩:=h4 fn rfl
 rw [← h2]
 exact nW h1 h5 h3 h6
theorem yO {C:Cx T} (h0:C.hk = yk:=by rfl):wX C:=fun _ _ _ _ _ h=>by rw [h0] at h; simp [yk] at h
theorem Lg {P:Program} {tid:TypeId → Option Tp} {eqs:List (TypeId × Nat)} {d:FnE T} {f:FuncId} (ks:List (Fk T P)) (own:List Nat) (fn:Func) (h:Hn T) (hE:tt P T eqs) (hm:P.follows .mixedOrders = true) (hpe:P = T.P)
  (hf:P.funcs[f]? = some fn) (hc : ∀ args w,(callFunc f args).run P w = .ok (.enter f args) w) (hb:fn.body = some (body fn)) (hl:Nat.ble d.dom.length fn.ntmps = true)
  (he : ∀ x,evF ⟨P,tid,eqs,lg ks,[],false,own,fn.results.toList,fn.ntmps,yk,fun c=>c ∈ mg (body fn)⟩ (body fn) h d.dom d.cod x = d.run x):D2 P f d:=
 Hc ks [] false own fn yk (yO rfl) h hE hm hpe hf hc hb hl he

def sA (tk:Bool):List Pm → Nat → Option Nat
 | [],_=>none
 | .v _::l,i=>sA tk l (i + 1)
 | .tu::l,i=>bif tk then sA tk l (i + 1) else some i
 | .tk::l,i=>bif tk then some i else sA tk l (i + 1)
 | .fn _::l,i=>sA tk l (i + 1)
theorem PIs.len {k:K} {u1 u2:Value} : ∀ {l:List Pm} {x:HL T.S (dS l)} {vs:List Value},PIs l x u1 u2 vs k → vs.length = l.length
 | [],_,[],_=>rfl
 | [],_,_::_,h=>h.elim
 | .v _::_,_,[],h=>h.elim
 | .tu::_,_,[],h=>h.elim
 | .tk::_,_,[],h=>h.elim
 | .v _::l,_,_::_,h=>by simp [PIs.len (l:=l) h.2]
 | .tu::l,_,_::_,h=>by simp [PIs.len (l:=l) h.2]
 | .tk::l,_,_::_,h=>by simp [PIs.len (l:=l) h.2]
 | .fn _::_,_,[],h=>h.elim
 | .fn _::l,_,_::_,h=>by simp [PIs.len (l:=l) h.2]
theorem pS {a:Act} {k:K} {u1 u2:Value} {y z:AV T} : ∀ {l:List Pm} {x:HL T.S (dS l)} {vs:List Value} {i:Nat},PIs l x u1 u2 vs k → mq a i vs → pc l = true → ∀ t,
  ((lk (nw i l x y z) t).is a (a.get t) k∧aH (lk (nw i l x y z) t) = false∧∀ s,(lk (nw i l x y z) t).bt s = false) ∨ (sA false l i = some t∧lk (nw i l x y z) t = y∧a.get t = u1) ∨ (sA true l i = some t∧lk (nw i l x y z) t = z∧a.get t = u2)
 | [],_,_,_,_,_,_,t=>.inl ⟨trivial,rfl,fun _=>rfl⟩
 | .v _::_,_,[],_,h,_,_,_=>h.elim
 | .tu::_,_,[],_,h,_,_,_=>h.elim
 | .tk::_,_,[],_,h,_,_,_=>h.elim
 | .v p :: l, x, v :: vs, i, h, ha, hu, t => by
  simp only [nw]
  rw [bo]
  split
  ·rename_i e; subst e
   rw [ha.1]
   exact .inl ⟨ri.2 h.1,qg,fun _=>oC⟩
  ·exact pS (l:=l) h.2 ha.2 hu t
 | .tu :: l, x, v :: vs, i, h, ha, hu, t => by
  simp only [pc,Bool.and_eq_true] at hu
  simp only [nw]
  rw [bo]
  split
  ·rename_i e; subst e
   exact .inr (.inl ⟨rfl,rfl,ha.1.trans h.1⟩)
  ·rcases pS (l := l) (x := x) (y := y) (z := z) h.2 ha.2 hu.2 t with h1 | ⟨h1, _⟩ | h1
   ·exact .inl h1
   ·exact absurd h1 (by rw [posP_no hu.1]; simp)
   ·exact .inr (.inr h1)
 | .tk :: l, x, v :: vs, i, h, ha, hu, t => by
  simp only [pc,Bool.and_eq_true] at hu
  simp only [nw]
  rw [bo]
  split
  ·rename_i e; subst e
   exact .inr (.inr ⟨rfl,rfl,ha.1.trans h.1⟩)
  ·rcases pS (l := l) (x := x) (y := y) (z := z) h.2 ha.2 hu.2 t with h1 | h1 | ⟨h1, _⟩
   ·exact .inl h1
   ·exact .inr (.inl h1)
   ·exact absurd h1 (by rw [posP_no hu.1]; simp)
 | .fn _::_,_,[],_,h,_,_,_=>h.elim
 | .fn _::l,x,v::vs,i,h,ha,hu,t=>pS (l:=l) h.2 ha.2 hu t
where posP_no {tk:Bool} : ∀ {l:List Pm} {i:Nat},noP tk l = true → sA tk l i = none
 | [],_,_=>rfl
 | .v _::l,i,h=>posP_no (l:=l) h
 | .tu :: l, i, h => by
  cases tk with
  | false=>simp [noP] at h
  | true=>exact posP_no (l:=l) (by simpa [noP] using h)
 | .tk :: l, i, h => by
  cases tk with
  | true=>simp [noP] at h
  | false=>exact posP_no (l:=l) (by simpa [noP] using h)
 | .fn _::l,i,h=>posP_no (l:=l) h
def Hx (d:FnR T) (sl:Nat) (c:Code):Bool:=pc d.pm && (isN d.tu || ((match sA false d.pm 0 with | some i=>Nat.beq i sl | none=>false) && !((wrs c).contains sl)))
theorem Js {P:Program} {tid:TypeId → Option Tp} {eqs:List (TypeId × Nat)} {d:FnR T} {f:FuncId} (pr:d.tu.D T × d.ro.D T × HL T.S d.cod → d.ρ) (hpr : ∀ r,d.inj (pr r) = r) (ks:List (Fk T P)) (rks:List (FkR T P)) (wr:Bool) (own:List Nat) (fn:Func) (hk:Nat → Code → Env T → Option (Env T)) (hH:wX ⟨P,tid,eqs,lg ks,km rks,wr,own,fn.results.toList,fn.ntmps,hk,fun c=>c ∈ mg (body fn)⟩) (h:Hn T) (sl:Nat) (hE:tt P T eqs) (hm:P.follows .mixedOrders = true) (hpe:P = T.P)
  (hf:P.funcs[f]? = some fn) (hc : ∀ args w,(callFunc f args).run P w = .ok (.enter f args) w) (hb:fn.body = some (body fn)) (hl:Nat.ble d.pm.length fn.ntmps = true) (hsl:Hx d sl (body fn) = true)
  (he : ∀ x y z,IH ⟨P,tid,eqs,lg ks,km rks,wr,own,fn.results.toList,fn.ntmps,hk,fun c=>c ∈ mg (body fn)⟩ (body fn) h d pr hpr sl x y z = d.run x y z):vO P f d:=by
 let C:Cx T:=⟨P,tid,eqs,lg ks,km rks,wr,own,fn.results.toList,fn.ntmps,hk,fun c=>c ∈ mg (body fn)⟩
 have hC:sR C:=⟨sk ks,qV rks,hE.at,hm,hpe⟩
 simp only [Hx,Bool.and_eq_true,Bool.or_eq_true] at hsl
 obtain ⟨huq,hsl⟩:=hsl
 have hpos:isN d.tu = false → sA false d.pm 0 = some sl∧sl ∉ wrs (body fn):=fun hN=>by
  rcases hsl with h1 | ⟨h1,h2⟩
  ·rw [hN] at h1; simp at h1
  ·refine ⟨?_, by simpa using h2⟩
   split at h1
   ·rename_i i hi; rw [hi,Nat.eq_of_beq_eq_true h1]
   ·simp at h1
 refine ⟨hc,fun k0 vs u1 u2 x y z r hG hi h1 h2 hap hr=>?_⟩
 refine iN hf hb rfl (by
  have:=hi.len
  have h2:=Nat.le_of_ble_eq_true hl
  simpa [this] using h2) fun a k hk0 hs hd ha=>?_
 subst hk0
 have hev:IH C (body fn) h d pr hpr sl x y z = some r:=(he x y z).trans hr
 have hin:=pS (y:=d.tu.av y) (z:=d.tk.av z) hi ha huq
 have av1:(d.tu.av y).is a u1 k:=by
  cases hN:isN d.tu with
  | false=>exact (Rk.Aq hN).2 h1
  | true =>
   have : ∀ (κ:Rk) (w:κ.D T),isN κ = true → (κ.av w).is a u1 k:=fun κ w h=>by cases κ <;> first | trivial | simp [isN] at h
   exact this _ _ hN
 have av2:(d.tk.av z).is a u2 k:=by
  cases hN:isN d.tk with
  | false=>exact (Rk.Aq hN).2 h2
  | true =>
   have : ∀ (κ:Rk) (w:κ.D T),isN κ = true → (κ.av w).is a u2 k:=fun κ w h=>by cases κ <;> first | trivial | simp [isN] at h
   exact this _ _ hN
 have f1 : ∀ b,(d.tu.av y).fp u1 k b → d.tu.fp T u1 k b:=fun b hb=>by
  cases hN:isN d.tu with
  | false=>rw [← Rk.wU hN]; exact hb
  | true =>
   have : ∀ (κ:Rk) (w:κ.D T),isN κ = true → ¬ (κ.av w).fp u1 k b:=fun κ w h=>by cases κ <;> first | exact fun f=>f | simp [isN] at h
   exact (this _ _ hN hb).elim
 have f2 : ∀ b,(d.tk.av z).fp u2 k b → d.tk.fp T u2 k b:=fun b hb=>by
  cases hN:isN d.tk with
  | false=>rw [← Rk.wU hN]; exact hb
  | true =>
   have : ∀ (κ:Rk) (w:κ.D T),isN κ = true → ¬ (κ.av w).fp u2 k b:=fun κ w h=>by cases κ <;> first | exact fun f=>f | simp [isN] at h
   exact (this _ _ hN hb).elim
 have h0:Hl C.n (fun b=>d.tu.fp T u1 k b ∨ d.tk.fp T u2 k b) k (wrs (body fn)) a (nw 0 d.pm x (d.tu.av y) (d.tk.av z)) a k:=by
  refine ⟨Chg.refl _ k,hs,hd,fun _ _=>rfl,fun t=>?_,fun t s hms=>?_,fun t _ b hb=>?_,fun t t' hne b hb hb'=>?_,hG⟩
  ·rcases hin t with h3 | ⟨_, h3, h4⟩ | ⟨_, h3, h4⟩
   ·exact h3.1
   ·rw [h3,h4]; exact av1
   ·rw [h3,h4]; exact av2
  ·rcases hin t with h3 | ⟨_, h3, h4⟩ | ⟨_, h3, h4⟩
   ·rw [h3.2.2] at hms; simp at hms
   ·rw [h3,Rk.rm] at hms; simp at hms
   ·rw [h3,Rk.rm] at hms; simp at hms
  ·rcases hin t with h3 | ⟨_, h3, h4⟩ | ⟨_, h3, h4⟩
   ·exact absurd hb (cD h3.2.1 _ _ b)
   ·rw [h3,h4] at hb; exact .inl (.inl (f1 b hb))
   ·rw [h3,h4] at hb; exact .inl (.inr (f2 b hb))
  ·rcases hin t with h3 | ⟨h5, h3, h4⟩ | ⟨h5, h3, h4⟩
   ·exact absurd hb (cD h3.2.1 _ _ b)
   ·rw [h3, h4] at hb
    rcases hin t' with g3 | ⟨g5,g3,g4⟩ | ⟨g5,g3,g4⟩
    ·exact absurd hb' (cD g3.2.1 _ _ b)
    ·exact hne (Option.some.inj (h5.symm.trans g5))
    ·rw [g3,g4] at hb'; exact hap b (f1 b hb) (f2 b hb')
   ·rw [h3, h4] at hb
    rcases hin t' with g3 | ⟨g5,g3,g4⟩ | ⟨g5,g3,g4⟩
    ·exact absurd hb' (cD g3.2.1 _ _ b)
    ·rw [g3,g4] at hb'; exact hap b (f1 b hb') (f2 b hb)
    ·exact hne (Option.some.inj (h5.symm.trans g5))
 have fin : ∀ (y:d.ρ) (a' : Act) (k' : K),y = r → qw C ⟨sl,d.tu,d.ro,d.cod,d.ρ,pr,d.inj,hpr⟩ (fun b=>d.tu.fp T u1 k b ∨ d.tk.fp T u2 k b) k a y a' k' → ∃ k2 v,a'.defers = []∧k2.w = k'.w∧(results fn a'.tmps).run P k2.w = .ok v k2.w∧Chg (fun b=>d.tu.fp T u1 k b ∨ d.tk.fp T u2 k b) k k2 ∧
   Hm d (fun b=>d.tu.fp T u1 k b ∨ d.tk.fp T u2 k b) u1 (d.inj r) k v k2:=fun y a' k' hy hret=>by
  subst hy
  obtain ⟨g1,g2,k2,g3,g4,g5,g6,g7⟩:=hret
  obtain ⟨v,g8,g9,g10,g11⟩:=g7 fn rfl
  have hu1:isN d.tu = false → a'.get sl = u1:=fun hN=>by
   obtain ⟨p1,p2⟩:=hpos hN
   refine (g2 hN).trans ?_
   exact posP_get hi ha p1
  refine ⟨k2,v,g1,g3,g8,g4,?_⟩
  cases hN:isN d.tu with
  | false =>
   have e1:=hu1 hN
   dsimp only at g5 g6 g11
   rw [e1] at g5 g6 g11
   exact ⟨g5,g9,g11,g6,g10⟩
  | true =>
   have : ∀ (κ:Rk) (w:κ.D T),isN κ = true → κ.is w u1 k2:=fun κ w h=>by cases κ <;> first | trivial | simp [isN] at h
   exact ⟨this _ _ hN,g9,fun b hb=>(Rk.fpN hN b hb).elim,fun b hb=>(Rk.fpN hN b hb).elim,g10⟩
 refine nJ hC hH (body fn) (fun _ h=>h) h _ _ _ r hev _ k _ a a k _ (fun t ht=>ht) (fun hN=>(hpos hN).2) h0 (fun e' a' k' g hl'=>?_) (fun i e' a' k' g=>by simp at g) (fun y a' k' g hret=>?_)
 ·obtain ⟨k2, v, g1, g3, g8, g4, g5⟩ := fin r a' k' rfl (Fx hl' (fun hN => (hpos hN).2) g)
  rw [← g3]
  exact nW g1 g8 g4 g5
 ·obtain ⟨k2, v, g1, g3, g8, g4, g5⟩ := fin y a' k' (Option.some.inj g) hret
  rw [← g3]
  exact nW g1 g8 g4 g5
where posP_get {a:Act} {k:K} {u1 u2:Value} {sl:Nat} : ∀ {l:List Pm} {x:HL T.S (dS l)} {vs:List Value} {i:Nat},PIs l x u1 u2 vs k → mq a i vs → sA false l i = some sl → a.get sl = u1
 | [],_,_,_,_,_,h=>by simp [sA] at h
 | .v _::_,_,[],_,h,_,_=>h.elim
 | .tu::_,_,[],_,h,_,_=>h.elim
 | .tk::_,_,[],_,h,_,_=>h.elim
 | .v _::l,_,_::_,_,h,ha,hp=>posP_get (l:=l) h.2 ha.2 hp
 | .tu :: l, _, _ :: _, i, h, ha, hp => by
  simp only [sA,cond_false,Option.some.injEq] at hp
  subst hp
  exact ha.1.trans h.1
 | .tk::l,_,_::_,_,h,ha,hp=>posP_get (l:=l) h.2 ha.2 (by simpa [sA] using hp)
 | .fn _::_,_,[],_,h,_,_=>h.elim
 | .fn _::l,_,_::_,_,h,ha,hp=>posP_get (l:=l) h.2 ha.2 hp

section
variable {P:Program} {f:FuncId}
theorem wL {vs : Array Value} {w : World} {k : K} {F G : FP} {R S : Pred} (h : Calls P f vs w (dw F k R)) (hF : ∀ b, F b ↔ G b) (hi : ∀ v k', Chg F k k' → R v k' → S v k') : Calls P f vs w (dw G k S) := by
 have e:F = G:=funext fun b=>propext (hF b)
 subst e
 refine Calls.mono h fun e w' he=>?_
 cases e with
 | returned v => obtain ⟨k', h1, h2, h3⟩ := he; exact ⟨k', h1, h2, hi _ _ h2 h3⟩
 | panicked c=>exact he.elim
 | outgrown=>exact he.elim
def fnT (T:Tb) (pm:List Pm) (e:TypeId) (t:Tp) (run:HL T.S (dS pm) → List (T.D t) → Option (List (T.D t))):FnR T:=⟨pm,.o e t,.n,.n,[],List (T.D t),fun r=>(r,(),()),fun x y _=>run x y⟩
def fnB (T:Tb) (pm:List Pm) (t:Tp) (run:HL T.S (dS pm) → T.D t → Option (T.D t)):FnR T:=⟨pm,.b t,.n,.n,[],T.D t,fun r=>(r,(),()),fun x y _=>run x y⟩
def fnK (T : Tb) (pm : List Pm) (e : TypeId) (t : Tp) (e' : TypeId) (t' : Tp) (run : HL T.S (dS pm) → List (T.D t) → Option (List (T.D t'))) : FnR T := ⟨pm, .n, .o e t, .o e' t', [], List (T.D t'), fun r => ((), r, ()), fun x _ z => run x z⟩
theorem Fq {pm:List Pm} {e:TypeId} {t:Tp} {run:HL T.S (dS pm) → List (T.D t) → Option (List (T.D t))} (hc : ∀ args w,(callFunc f args).run P w = .ok (.enter f args) w)
  (ok : ∀ (k0:K) (vs:List Value) (u1 u2:Value) (x:HL T.S (dS pm)) (y r:List (T.D t)),GOk T k0 → PIs pm x u1 u2 vs k0 → ay 0 e y u1 k0 → run x y = some r → Calls P f vs.toArray k0.w (dw (obF u1) k0 fun _ k'=>ay 0 e r u1 k')):vO P f (fnT T pm e t run):=
 ⟨hc,fun k0 vs u1 u2 x y z r hG hi h1 _ _ hr=>wL (ok k0 vs u1 u2 x y r hG hi h1 hr) (fun b=>⟨.inl,fun h=>h.elim id fun h=>h.elim⟩) fun v k' hg hv=>⟨hv,trivial,fun b _ h=>h.elim,fun b hb=>.inl (.inl hb),fun b h=>h.elim⟩⟩
theorem HC {pm:List Pm} {e e' : TypeId} {t t' : Tp} {run:HL T.S (dS pm) → List (T.D t) → Option (List (T.D t'))} (hc : ∀ args w,(callFunc f args).run P w = .ok (.enter f args) w)
  (ok : ∀ (k0:K) (vs:List Value) (u1 u2:Value) (x:HL T.S (dS pm)) (z:List (T.D t)) (r:List (T.D t')),GOk T k0 → PIs pm x u1 u2 vs k0 → ay 0 e z u2 k0 → run x z = some r → Calls P f vs.toArray k0.w (dw (obF u2) k0 (yr u2 k0 e' r))):vO P f (fnK T pm e t e' t' run):=
 ⟨hc,fun k0 vs u1 u2 x y z r hG hi _ h2 _ hr=>wL (ok k0 vs u1 u2 x z r hG hi h2 hr) (fun b=>⟨.inr,fun h=>h.elim (fun h=>h.elim) id⟩) fun v k' hg hv=>⟨trivial,hv.1,fun b h=>h.elim,fun b h=>h.elim,fun b hb=>(hv.2 b hb).imp .inr id⟩⟩
end
theorem GOk.none {k:K} (h : ∀ g,T.gl g = .none) (h' : ∀ g,T.gi = some g → ∃ m:Int,aL m (.pointer (some ⟨g,0,.none⟩)) k):GOk T k:=⟨fun g t x e=>by rw [h g] at e; simp at e,h'⟩
section
variable {P:Program} {f:FuncId} {vs:Array Value} {w:World} {k:K}
theorem EL {R S : Pred} (h : Calls P f vs w (Ret k R)) (hi : ∀ v k', R v k' → S v k') : Calls P f vs w (Ret k S) := by
 refine Calls.mono h fun e w' he=>?_
 cases e with
 | returned v => obtain ⟨k', h1, h2, h3⟩ := he; exact ⟨k', h1, h2, hi _ _ h3⟩
 | panicked c=>exact he.elim
 | outgrown=>exact he.elim
theorem Hj {a b:Tp} {x:HL T.S [a,b]} (h:Calls P f vs w (Ret k fun u k'=>(qM [a,b] x).is ⟨#[],[]⟩ u k')):Calls P f vs w (Ret k (dv (IsV (α:=T.D a) x.1) (IsV (α:=T.D b) x.2))):=
 EL h fun v k' ⟨us,e,hf⟩=>by
  match us,hf with
  | [u1,u2],hf=>exact ⟨u1,u2,e,hf.1,hf.2.1⟩
theorem Hh {a b:Tp} {x:HL T.S [a,b]} (h:Calls P f vs w (Ret k (dv (IsV (α:=T.D a) x.1) (IsV (α:=T.D b) x.2)))):Calls P f vs w (Ret k fun u k'=>(qM [a,b] x).is ⟨#[],[]⟩ u k'):=
 EL h fun v k' ⟨u1,u2,e,h1,h2⟩=>⟨[u1,u2],e,h1,h2,trivial⟩
end
end Go.Gb
namespace Go.Gb
variable {T:Tb}
theorem PIs.tu {l:List Pm} {x:HL T.S (dS (.tu::l))} {u1 u2:Value} {vs:List Value} {k:K} (h:PIs (.tu::l) x u1 u2 vs k) : ∃ ws,vs = u1::ws∧PIs l x u1 u2 ws k:=by
 cases vs with
 | nil=>exact h.elim
 | cons v ws=>exact ⟨ws,by rw [h.1],h.2⟩
theorem PIs.tk {l:List Pm} {x:HL T.S (dS (.tk::l))} {u1 u2:Value} {vs:List Value} {k:K} (h:PIs (.tk::l) x u1 u2 vs k) : ∃ ws,vs = u2::ws∧PIs l x u1 u2 ws k:=by
 cases vs with
 | nil=>exact h.elim
 | cons v ws=>exact ⟨ws,by rw [h.1],h.2⟩
theorem PIs.fn {g:Nat} {l:List Pm} {x:HL T.S (dS (.fn g::l))} {u1 u2:Value} {vs:List Value} {k:K} (h:PIs (.fn g::l) x u1 u2 vs k) : ∃ ws,vs = .func (.func g) #[] #[]::ws∧PIs l x u1 u2 ws k:=by
 cases vs with
 | nil=>exact h.elim
 | cons v ws=>exact ⟨ws,by rw [h.1],h.2⟩
theorem PIs.nil {x:HL T.S (dS [])} {u1 u2:Value} {vs:List Value} {k:K} (h:PIs [] x u1 u2 vs k):vs = []:=by
 cases vs with
 | nil=>rfl
 | cons v ws=>exact h.elim
end Go.Gb


