/- The general part of the proofs (no program in sight): worlds with shared blocks, regions, operations, calls, loops, what comes in as data, part 6 -/
import Derived.Test.YtljfakcblkdhbaaDoorL5
set_option linter.unusedVariables false
set_option linter.unusedSimpArgs false
/- General part of the proofs: operations one after the other. -/
namespace Go.Gb
variable {T:Tb} {R:Type}
section
variable {C:Cx T} {n:Nat} {F:FP} {k0:K} {W:List Nat} {a0:Act} {e:Env T} {a a' : Act} {k k' : K}

/-- As far as the operands go, all is known in an environment that holds. -/
theorem Hl.rd1 (h:Hl n F k0 W a0 e a k) (o:Oper):Rd1 e o a a k:=by
  refine ⟨fun x _=>?_,fun s _=>h.sl s,h.gl⟩
  cases x with
  | tmp t=>exact ⟨h.sl t,fun _=>rfl⟩
  | global _=>exact h.gl
  | _=>trivial

/-- A resource is changed in place. -/
theorem Hl.turn (h:Hl n F k0 W a0 e a k) {s:Nat} {av:AV T} {G:FP} (hs:unl (lk e s) = true) (c:Chg G k k') (hG : ∀ b,G b → (lk e s).fp (a.get s) k b) (hv:av.is a (a.get s) k') (hm : ∀ t,av.ment t = false)
    (hu:unl av = true) (hf : ∀ b,av.fp (a.get s) k' b → (lk e s).fp (a.get s) k b):Hl n F k0 W a0 ((s,av)::mapE (kl s) e) a k':=by
  have hn : ∀ b,G b → ¬ k.sh b:=fun b hb=>(h.lt s b (hG b hb)).2
  have hlt : ∀ b,G b → b < k.w.heap.size:=fun b hb=>(h.lt s b (hG b hb)).1
  have lks:lk ((s,av)::mapE (kl s) e) s = av:=by rw [lk_cons,if_pos rfl]
  have lkt : ∀ t,t ≠ s → lk ((s,av)::mapE (kl s) e) t = kl s (lk e t):=fun t ht=>by rw [lk_cons,if_neg (Ne.symm ht),lk_mapE rfl]
  have fpk : ∀ t,t ≠ s → (lk e t).fp (a.get t) k' = (lk e t).fp (a.get t) k:=fun t ht=>AV.fp_keep _ c hn (fun b hb hb'=>h.ap t s ht b hb (hG b hb')) (h.sl t)
  refine ⟨h.g.step c (fun b hb=>h.wr s hs b (hG b hb)),h.s,h.d,h.old,fun t=>?_,fun t u hu'=>?_,fun t ht=>?_,fun t t' hne=>?_,h.gl.le (c.le hn)⟩
  · by_cases ht : t = s
    · subst ht; rw [lks]; exact hv
    · rw [lkt t ht]
      have h1:(kl s (lk e t)).is a (a.get t) k:=by
        rcases kl_or s (lk e t) with e1 | e1
        · rw [e1]; exact h.sl t
        · rw [e1]; trivial
      refine (kl s (lk e t)).keep c hn (fun b hb hb'=>?_) (fun u hu1 u' hu2 hu3 b hb hb'=>?_) h1
      · rcases kl_or s (lk e t) with e1 | e1
        · rw [e1] at hb; exact h.ap t s ht b hb (hG b hb')
        · rw [e1] at hb; exact hb
      · obtain ⟨hu4, hu5⟩ := kl_ment2 hu1
        exact h.apm (h.inv t u (AV.ment2_ment hu4)) hu5 hu2 hu3 b hb (hG b hb')
  · have : isRes (lk e u) = true := by
      by_cases ht:t = s
      · subst ht; rw [lks,hm] at hu'; simp at hu'
      · rw [lkt t ht] at hu'
        exact h.inv t u (kl_ment hu')
    by_cases hus:u = s
    · subst hus; rw [lks]; exact unl_res hu
    · rw [lkt u hus,kl_res this]; exact this
  · by_cases ht' : t = s
    · subst ht'; rw [lks]
      exact fun b hb=>h.wr t hs b (hf b hb)
    · rw [lkt t ht'] at ht ⊢
      rcases kl_or s (lk e t) with e1 | e1
      · rw [e1] at ht ⊢; rw [fpk t ht']; exact h.wr t ht
      · rw [e1] at ht; simp [unl] at ht
  · have sub : ∀ t b, (lk ((s, av) :: mapE (kl s) e) t).fp (a.get t) k' b → (lk e t).fp (a.get t) k b := by
      intro t b hb
      by_cases ht:t = s
      · subst ht; rw [lks] at hb; exact hf b hb
      · rw [lkt t ht] at hb
        rcases kl_or s (lk e t) with e1 | e1
        · rw [e1,fpk t ht] at hb; exact hb
        · rw [e1] at hb; exact hb.elim
    exact fun b hb hb'=>h.ap t t' hne b (sub t b hb) (sub t' b hb')

/-- A resource is given up, or turned into something else. -/
theorem Hl.swap (h:Hl n F k0 W a0 e a k) {s:Nat} {av:AV T} {G:FP} (hg:Chg F k0 k')
    (hkeep : ∀ (x:AV T) (v:Value),Apart (x.fp v k) G → (∀ u,x.ment2 u = true → ∀ y:AV T,isOB y = true → y.is a (a.get u) k → Apart (y.fp (a.get u) k) G) → x.is a v k → x.is a v k')
    (hkf : ∀ (x:AV T) (v:Value),Apart (x.fp v k) G → x.is a v k → x.fp v k' = x.fp v k)
    (hG : ∀ b,G b → (lk e s).fp (a.get s) k b) (hv:av.is a (a.get s) k') (hm : ∀ t,av.ment t = false) (hw:unl av = true → Wr F k0 (av.fp (a.get s) k')) (hf : ∀ b,av.fp (a.get s) k' b → (lk e s).fp (a.get s) k b) :
    Hl n F k0 W a0 ((s,av)::mapE (klA s) e) a k':=by
  have lks:lk ((s,av)::mapE (klA s) e) s = av:=by rw [lk_cons,if_pos rfl]
  have lkt : ∀ t,t ≠ s → lk ((s,av)::mapE (klA s) e) t = klA s (lk e t):=fun t ht=>by rw [lk_cons,if_neg (Ne.symm ht),lk_mapE rfl]
  have fpk : ∀ t,t ≠ s → (lk e t).fp (a.get t) k' = (lk e t).fp (a.get t) k:=fun t ht=>hkf _ _ (fun b hb hb'=>h.ap t s ht b hb (hG b hb')) (h.sl t)
  refine ⟨hg,h.s,h.d,h.old,fun t=>?_,fun t u hu'=>?_,fun t ht=>?_,fun t t' hne=>?_,⟨fun g t x e1=>hkeep (.ref t x) _ (fun b hb _=>hb.elim) (fun u hu=>by simp [AV.ment2] at hu) (h.gl.1 g t x e1),
    fun g e1=>(h.gl.2 g e1).imp fun m r=>hkeep (.ref .int m) _ (fun b hb _=>hb.elim) (fun u hu=>by simp [AV.ment2] at hu) r⟩⟩
  · by_cases ht : t = s
    · subst ht; rw [lks]; exact hv
    · rw [lkt t ht]
      have h1:(klA s (lk e t)).is a (a.get t) k:=by
        rcases klA_or s (lk e t) with e1 | e1
        · rw [e1]; exact h.sl t
        · rw [e1]; trivial
      refine hkeep _ _ (fun b hb hb'=>?_) (fun u hu1 u' hu2 hu3 b hb hb'=>?_) h1
      · rcases klA_or s (lk e t) with e1 | e1
        · rw [e1] at hb; exact h.ap t s ht b hb (hG b hb')
        · rw [e1] at hb; exact hb
      · obtain ⟨hu4, hu5⟩ := klA_ment (AV.ment2_ment hu1)
        exact h.apm (h.inv t u hu4) hu5 hu2 hu3 b hb (hG b hb')
  · by_cases ht : t = s
    · subst ht; rw [lks,hm] at hu'; simp at hu'
    · rw [lkt t ht] at hu'
      obtain ⟨h1,h2⟩:=klA_ment hu'
      have:=h.inv t u h1
      rw [lkt u h2,klA_res this]; exact this
  · by_cases ht' : t = s
    · subst ht'; rw [lks] at ht ⊢; exact hw ht
    · rw [lkt t ht'] at ht ⊢
      rcases klA_or s (lk e t) with e1 | e1
      · rw [e1] at ht ⊢; rw [fpk t ht']; exact h.wr t ht
      · rw [e1] at ht; simp [unl] at ht
  · have sub : ∀ t b, (lk ((s, av) :: mapE (klA s) e) t).fp (a.get t) k' b → (lk e t).fp (a.get t) k b := by
      intro t b hb
      by_cases ht:t = s
      · subst ht; rw [lks] at hb; exact hf b hb
      · rw [lkt t ht] at hb
        rcases klA_or s (lk e t) with e1 | e1
        · rw [e1,fpk t ht] at hb; exact hb
        · rw [e1] at hb; exact hb.elim
    exact fun b hb hb'=>h.ap t t' hne b (sub t b hb) (sub t' b hb')
theorem Hl.lose (h:Hl n F k0 W a0 e a k) {s:Nat} {G:FP} (hs:unl (lk e s) = true) (c:Chg G k k') (hG : ∀ b,G b → (lk e s).fp (a.get s) k b):Hl n F k0 W a0 ((s,.top)::mapE (klA s) e) a k':=
  h.swap (h.g.step c fun b hb=>h.wr s hs b (hG b hb)) (fun x v h1 h2 h3=>x.keep c (fun b hb=>(h.lt s b (hG b hb)).2) h1 h2 h3) (fun x v h1 h3=>x.fp_keep c (fun b hb=>(h.lt s b (hG b hb)).2) h1 h3) hG trivial (fun _=>rfl) (fun hu=>by simp [unl] at hu) (fun b hb=>hb.elim)
theorem Hl.hand (h:Hl n F k0 W a0 e a k) {s:Nat} {G:FP} {av:AV T} (hs:unl (lk e s) = true) (c:Handed k k' G) (hG : ∀ b,G b → (lk e s).fp (a.get s) k b) (hv:av.is a (a.get s) k') (hm : ∀ t,av.ment t = false) (hr:isRes av = false) :
    Hl n F k0 W a0 ((s,av)::mapE (klA s) e) a k':=
  h.swap (h.g.hand c fun b hb=>h.wr s hs b (hG b hb)) (fun x v h1 h2 h3=>x.handed c h1 h2 h3) (fun x v h1 h3=>x.fp_handed c h1 h3) hG hv hm (fun hu=>by rw [unl_res hu] at hr; simp at hr) (fun b hb=>absurd hb (fp_nonres hr _ _ b))
/-- More is told of a slot. -/
theorem Hl.set (h:Hl n F k0 W a0 e a k) {s:Nat} {av:AV T} (hs:isRes (lk e s) = false) (hv:av.is a (a.get s) k) (hm : ∀ t,av.ment t = true → isRes (lk e t) = true) (hr:isRes av = false):Hl n F k0 W a0 ((s,av)::e) a k:=by
  have lks:lk ((s,av)::e) s = av:=by rw [lk_cons,if_pos rfl]
  have lkt : ∀ t,t ≠ s → lk ((s,av)::e) t = lk e t:=fun t ht=>by rw [lk_cons,if_neg (Ne.symm ht)]
  have ne : ∀ t,isRes (lk e t) = true → t ≠ s:=fun t ht e=>by rw [e,hs] at ht; simp at ht
  have fps : ∀ t b,(lk ((s,av)::e) t).fp (a.get t) k b → (lk e t).fp (a.get t) k b:=by
    intro t b hb
    by_cases ht:t = s
    · subst ht; rw [lks] at hb; exact absurd hb (fp_nonres hr _ _ b)
    · rw [lkt t ht] at hb; exact hb
  refine ⟨h.g,h.s,h.d,h.old,fun t=>?_,fun t u hu=>?_,fun t ht=>?_,fun t t' hne b hb hb'=>h.ap t t' hne b (fps t b hb) (fps t' b hb'),h.gl⟩
  · by_cases ht : t = s
    · subst ht; rw [lks]; exact hv
    · rw [lkt t ht]; exact h.sl t
  · have : isRes (lk e u) = true := by
      by_cases ht:t = s
      · subst ht; rw [lks] at hu; exact hm u hu
      · rw [lkt t ht] at hu; exact h.inv t u hu
    rw [lkt u (ne u this)]; exact this
  · by_cases ht' : t = s
    · subst ht'; rw [lks] at ht; rw [unl_res ht] at hr; simp at hr
    · rw [lkt t ht'] at ht ⊢; exact h.wr t ht
/-- A new resource in a slot. -/
theorem Hl.putFresh (h:Hl n F k0 W a0 e a k) {d:Nat} {av:AV T} (hd:d ∈ W) (hg:Grow k k') (hs:a'.tmps.size = a.tmps.size) (hdf:a'.defers = a.defers)
    (ho : ∀ t,t ≠ d → a'.get t = a.get t) (hv:av.is a' (a'.get d) k') (hm : ∀ s,av.ment s = true → isRes (lk e s) = true)
    (hf : ∀ b, av.fp (a'.get d) k' b → k.w.heap.size ≤ b) {r : R} {K : Env T → Option R} (hk : Gb.put e d av K = some r) : ∃ e', K e' = some r ∧ Hl n F k0 W a0 e' a' k' := by
  obtain ⟨e', h1, h2, _⟩ := h.put hd hg hs hdf ho hv hm (fun _ b hb => .inr (Nat.le_trans h.g.size (hf b hb))) (fun t _ b hb hb' => by
    have:=(h.lt t b hb').1; have:=hf b hb; omega) hk
  exact ⟨e', h1, h2⟩

/-- Some slots are filled anew. -/
theorem Hl.multi (h:Hl n F k0 W a0 e a k) {e' : Env T} {G:FP} (S:Nat → Prop) (c:Chg G k k') (hG : ∀ b,G b → ∃ s,S s∧unl (lk e s) = true∧(lk e s).fp (a.get s) k b)
    (hs:a'.tmps.size = a.tmps.size) (hd:a'.defers = a.defers) (ho : ∀ t,t ∉ W → a'.get t = a.get t) (ho' : ∀ t,¬ S t → a'.get t = a.get t)
    (h1 : ∀ s,S s → (lk e' s).is a' (a'.get s) k') (h2 : ∀ s,S s → ∀ t,(lk e' s).ment t = false) (h3 : ∀ s,S s → unl (lk e' s) = true → ∀ b,(lk e' s).fp (a'.get s) k' b → G b ∨ (∃ u,S u∧unl (lk e u) = true∧(lk e u).fp (a.get u) k b) ∨ k.w.heap.size ≤ b)
    (h3' : ∀ s,S s → ∀ b,(lk e' s).fp (a'.get s) k' b → (∃ u,S u∧(lk e u).fp (a.get u) k b) ∨ k.w.heap.size ≤ b)
    (h4 : ∀ s u,S s → S u → s ≠ u → Apart ((lk e' s).fp (a'.get s) k') ((lk e' u).fp (a'.get u) k'))
    (h5 : ∀ t,¬ S t → lk e' t = .top ∨ (lk e' t = lk e t∧∀ s,(lk e t).ment s = true → S s → a'.get s = a.get s∧isRes (lk e' s) = true∧(lk e t).ment2 s = false))
    (h6 : ∀ t,¬ S t → isRes (lk e t) = true → lk e' t = lk e t):Hl n F k0 W a0 e' a' k':=by
  have hn : ∀ b,G b → ¬ k.sh b:=fun b hb=>let ⟨s,_,_,h7⟩:=hG b hb; (h.lt s b h7).2
  have apG : ∀ t,¬ S t → Apart ((lk e t).fp (a.get t) k) G:=fun t ht b hb hb'=>by
    obtain ⟨s,h7,_,h8⟩:=hG b hb'
    exact h.ap t s (fun e1=>ht (e1 ▸ h7)) b hb h8
  have wrG:Wr F k0 G:=fun b hb=>let ⟨s,_,h7,h8⟩:=hG b hb; h.wr s h7 b h8
  have fpk : ∀ t,¬ S t → (lk e t).fp (a.get t) k' = (lk e t).fp (a.get t) k:=fun t ht=>AV.fp_keep _ c hn (apG t ht) (h.sl t)
  have sub : ∀ t,¬ S t → ∀ b,(lk e' t).fp (a'.get t) k' b → (lk e t).fp (a.get t) k b:=fun t ht b hb=>by
    rcases h5 t ht with e1 | ⟨e1,_⟩
    · rw [e1] at hb; exact hb.elim
    · rw [e1,ho' t ht,fpk t ht] at hb; exact hb
  refine ⟨h.g.step c wrG,hs.trans h.s,hd.trans h.d,fun t ht=>(ho t ht).trans (h.old t ht),fun t=>?_,fun t s hms=>?_,fun t ht b hb=>?_,fun t t' hne b hb hb'=>?_,h.gl.le (c.le hn)⟩
  · by_cases ht : S t
    · exact h1 t ht
    · rcases h5 t ht with e1 | ⟨e1, h7⟩
      · rw [e1]; trivial
      · rw [e1, ho' t ht]
        have hk:(lk e t).is a (a.get t) k':=AV.keep _ c hn (apG t ht) (fun u hu y hy hyi b hb hb'=>by
          have hus : ¬ S u:=fun hS=>by have:=(h7 u (AV.ment2_ment hu) hS).2.2; rw [hu] at this; simp at this
          obtain ⟨s,h8,_,h9⟩:=hG b hb'
          exact h.apm (h.inv t u (AV.ment2_ment hu)) (fun e2=>hus (e2 ▸ h8)) hy hyi b hb h9) (h.sl t)
        exact AV.congr _ (fun s hs'=>by
          by_cases hS:S s
          · exact (h7 s hs' hS).1
          · exact ho' s hS) hk
  · by_cases ht : S t
    · rw [h2 t ht] at hms; simp at hms
    · rcases h5 t ht with e1 | ⟨e1, h7⟩
      · rw [e1] at hms; simp [AV.ment] at hms
      · rw [e1] at hms
        by_cases hS:S s
        · exact (h7 s hms hS).2.1
        · rw [h6 s hS (h.inv t s hms)]; exact h.inv t s hms
  · by_cases hS : S t
    · rcases h3 t hS ht b hb with h7 | ⟨u, _, h8, h9⟩ | h7
      · exact wrG b h7
      · exact h.wr u h8 b h9
      · exact .inr (Nat.le_trans h.g.size h7)
    · have h7 := sub t hS b hb
      rcases h5 t hS with e1 | ⟨e1,_⟩
      · rw [e1] at ht; simp [unl] at ht
      · rw [e1] at ht; exact h.wr t ht b h7
  · by_cases hS : S t
    · by_cases hS' : S t'
      · exact h4 t t' hS hS' hne b hb hb'
      · have h7 := sub t' hS' b hb'
        rcases h3' t hS b hb with ⟨u,h8,h9⟩ | h8
        · exact h.ap u t' (fun e1=>hS' (e1 ▸ h8)) b h9 h7
        · have:=(h.lt t' b h7).1; omega
    · have h7 := sub t hS b hb
      by_cases hS' : S t'
      · rcases h3' t' hS' b hb' with ⟨u, h8, h9⟩ | h8
        · exact h.ap u t (fun e1=>hS (e1 ▸ h8)) b h9 h7
        · have:=(h.lt t b h7).1; omega
      · exact h.ap t t' hne b h7 (sub t' hS' b hb')

theorem frz1_ok (h : Hl n F k0 W a0 e a k) {x : Operand} {K : Env T → Option R} {r : R} (hk : frz1 e x K = some r) : ∃ e' k', K e' = some r ∧ k'.w = k.w ∧ Hl n F k0 W a0 e' a k' := by
  have go : ∀ {s : Nat} {el : TypeId} {u : Tp} {xs : List (T.D u)}, lk e s = .own false el u xs → ∃ k', k'.w = k.w ∧ Hl n F k0 W a0 ((s, .v (.list u) xs) :: mapE (klA s) e) a k' ∧ IsV (α := List (T.D u)) xs (a.get s) k' := by
    intro s el u xs hl
    have hsl:=h.sl s
    rw [hl] at hsl
    obtain ⟨k', hh, hv⟩ := IsOwn.give (show IsOwn 0 el xs (a.get s) k from hsl)
    exact ⟨k', hh.w, h.hand (av := .v (.list u) xs) (by rw [hl]; rfl) hh (by rw [hl]; exact fun b hb => hb) hv (fun _ => rfl) rfl, hv⟩
  have goB : ∀ {s : Nat} {u : Tp} {x : T.D u}, lk e s = .box false u x → ∃ k', k'.w = k.w ∧ Hl n F k0 W a0 ((s, .ref u x) :: mapE (klA s) e) a k' ∧ IsRef x (a.get s) k' := by
    intro s u x hl
    have hsl:=h.sl s
    rw [hl] at hsl
    obtain ⟨b,hb,hbx⟩:=hsl
    obtain ⟨k', hh, hv⟩ := hbx.give
    exact ⟨k', hh.w, h.hand (av := .ref u x) (by rw [hl]; rfl) hh (by rw [hl]; intro b' hb'; rw [← hb']; exact hb) (by rw [hb]; exact hv) (fun _ => rfl) rfl, by rw [hb]; exact hv⟩
  unfold frz1 at hk
  split at hk
  · rename_i t
    split at hk
    · rename_i el u xs hl
      rw [mapK_eq] at hk
      obtain ⟨k', h1, h2, _⟩ := go hl
      exact ⟨_, k', hk, h1, h2⟩
    · rename_i u x hl
      rw [mapK_eq] at hk
      obtain ⟨k', h1, h2, _⟩ := goB hl
      exact ⟨_, k', hk, h1, h2⟩
    · rename_i s hl
      split at hk
      · rename_i el u xs hl'
        rw [mapK_eq] at hk
        obtain ⟨k', h1, h2, h3⟩ := go hl'
        cases hr:isRes (lk (mapE (klA s) e) t) with
        | true=>rw [hr] at hk; simp at hk
        | false =>
          rw [hr] at hk
          simp only [cond_false] at hk
          have hts:a.get t = a.get s:=by have:=h.sl t; rw [hl] at this; exact this
          have hne:t ≠ s:=fun e=>by rw [e,hl'] at hl; simp at hl
          refine ⟨_, k', hk, h1, h2.set (av := .v (.list u) xs) ?_ (by rw [hts]; exact h3) (fun _ hm => by simp [AV.ment] at hm) rfl⟩
          rw [lk_cons,if_neg (Ne.symm hne)]; exact hr
      · rename_i u x hl'
        rw [mapK_eq] at hk
        obtain ⟨k', h1, h2, h3⟩ := goB hl'
        cases hr:isRes (lk (mapE (klA s) e) t) with
        | true=>rw [hr] at hk; simp at hk
        | false =>
          rw [hr] at hk
          simp only [cond_false] at hk
          have hts:a.get t = a.get s:=by have:=h.sl t; rw [hl] at this; exact this
          have hne:t ≠ s:=fun e=>by rw [e,hl'] at hl; simp at hl
          refine ⟨_, k', hk, h1, h2.set (av := .ref u x) ?_ (by rw [hts]; exact h3) (fun _ hm => by simp [AV.ment] at hm) rfl⟩
          rw [lk_cons,if_neg (Ne.symm hne)]; exact hr
      · exact ⟨e,k,hk,rfl,h⟩
    · exact ⟨e,k,hk,rfl,h⟩
  · exact ⟨e,k,hk,rfl,h⟩
end
section
variable {C:Cx T} {n:Nat} {F:FP} {k0:K} {W:List Nat} {a0:Act} {a:Act}
theorem frz_ok : ∀ {l : List Operand} {e : Env T} {k : K} {K : Env T → Option R} {r : R}, Hl n F k0 W a0 e a k → frz e l K = some r → ∃ e' k', K e' = some r ∧ k'.w = k.w ∧ Hl n F k0 W a0 e' a k'
  | [],e,k,_,_,h,hk=>⟨e,k,hk,rfl,h⟩
  | x :: l, e, k, _, _, h, hk => by
    obtain ⟨e1,k1,h1,h2,h3⟩:=frz1_ok h (show frz1 e x _ = _ from hk)
    obtain ⟨e2,k2,h4,h5,h6⟩:=frz_ok h3 h1
    exact ⟨e2,k2,h4,h5.trans h2,h6⟩
theorem shareK_ok : ∀ {l : List Oper} {e : Env T} {k : K} {K : Env T → Option R} {r : R}, Hl n F k0 W a0 e a k → shareK C l e K = some r → ∃ e' k', K e' = some r ∧ k'.w = k.w ∧ Hl n F k0 W a0 e' a k'
  | [],e,k,_,_,h,hk=>⟨e,k,hk,rfl,h⟩
  | o :: l, e, k, K, r, h, hk => by
    simp only [shareK] at hk
    split at hk
    · rename_i d _ _
      cases hc:C.own.contains d with
      | true=>rw [hc] at hk; exact shareK_ok h hk
      | false =>
        rw [hc] at hk
        simp only [cond_false] at hk
        split at hk
        · rename_i t x hl
          rw [mapK_eq] at hk
          have hsl:=h.sl d
          rw [hl] at hsl
          obtain ⟨b,hb,hbx⟩:=hsl
          obtain ⟨k', hh, hv⟩ := hbx.give
          have h1:=h.hand (av:=.ref t x) (by rw [hl]; rfl) hh (by rw [hl]; intro b' hb'; rw [← hb']; exact hb) (by rw [hb]; exact hv) (fun _=>rfl) rfl
          obtain ⟨e2,k2,h4,h5,h6⟩:=shareK_ok h1 hk
          exact ⟨e2,k2,h4,h5.trans hh.w,h6⟩
        · exact shareK_ok h hk
    · exact shareK_ok h hk
end
end Go.Gb

/- General part of the proofs: operations one after the other, continued; regions. -/
namespace Go.Gb
variable {T:Tb} {R:Type}
section
variable {C:Cx T} {n:Nat} {F:FP} {k0:K} {W:List Nat} {a0:Act} {e:Env T} {a a' : Act} {k k' : K}

theorem resSlot_ok (h:Hl n F k0 W a0 e a k) {x:Operand} {s:Nat} (hs:resSlot e x = some s):a.eval x = a.get s:=by
  unfold resSlot at hs
  split at hs
  · rename_i t
    split at hs
    · rename_i s' hl
      obtain rfl:=Option.some.inj hs
      have:=h.sl t; rw [hl] at this; exact this
    · obtain rfl:=Option.some.inj hs; rfl
    · obtain rfl:=Option.some.inj hs; rfl
    · obtain rfl:=Option.some.inj hs; rfl
    · obtain rfl:=Option.some.inj hs; rfl
    · simp at hs
  · simp at hs

theorem Rk.av_is {κ:Rk} {w:κ.D T} {v:Value} (hn:isN κ = false):(κ.av w).is a v k ↔ κ.is w v k:=by
  cases κ <;> first | exact Iff.rfl | simp [isN] at hn
theorem Rk.av_fp {κ:Rk} {w:κ.D T} {v:Value} (hn:isN κ = false):(κ.av w).fp v k = κ.fp T v k:=by
  cases κ <;> first | rfl | simp [isN] at hn
theorem Rk.av_ment {κ:Rk} {w:κ.D T} {t:Nat}:(κ.av w).ment t = false:=by cases κ <;> rfl
theorem Rk.av_unl {κ:Rk} {w:κ.D T} (hn:isN κ = false):unl (κ.av w) = true:=by
  cases κ <;> first | rfl | simp [isN] at hn
theorem Rk.fpN {κ:Rk} {v:Value} (hn:isN κ = true) : ∀ b,¬ κ.fp T v k b:=by
  cases κ <;> first | exact fun _ f=>f | simp [isN] at hn
theorem resR_ment {ro:Rk} {cod:List Tp} {w:ro.D T} {r:HL T.S cod} {t:Nat}:(resR ro cod w r).ment t = false:=by
  unfold resR
  cases isN ro with
  | true=>exact resV_ment
  | false =>
    simp only [cond_false]
    split
    · exact Rk.av_ment
    · rfl
theorem takeR_is {κ:Rk} {av:AV T} {y:κ.D T} {v:Value} (h:takeR κ av = some y) (hv:av.is a v k) (hr:isRes av = true):κ.is y v k∧(isN κ = false → κ.fp T v k = av.fp v k∧unl av = true):=by
  cases κ with
  | n=>exact ⟨trivial,fun h=>by simp [isN] at h⟩
  | o e t =>
    cases av with
    | own l e' u xs =>
      cases l with
      | true=>simp [takeR] at h
      | false =>
        simp only [takeR] at h
        cases hb:Nat.beq e e' with
        | false=>rw [hb] at h; simp at h
        | true =>
          rw [hb] at h
          obtain rfl:=Nat.eq_of_beq_eq_true hb
          obtain ⟨he,hx⟩:=cast?_eq h
          injection he with he
          subst he
          obtain rfl:y = xs:=hx
          exact ⟨hv,fun _=>⟨rfl,rfl⟩⟩
    | e0=>simp [isRes] at hr
    | _=>simp [takeR] at h
  | b t =>
    cases av with
    | box l u x =>
      cases l with
      | true=>simp [takeR] at h
      | false =>
        simp only [takeR] at h
        obtain ⟨rfl,hx⟩:=cast?_eq h
        obtain rfl:y = x:=hx
        exact ⟨hv,fun _=>⟨rfl,rfl⟩⟩
    | _=>simp [takeR] at h
  | c m =>
    cases av with
    | rs l m' x =>
      cases l with
      | true=>simp [takeR] at h
      | false =>
        simp only [takeR] at h
        split at h
        · rename_i hm _
          obtain rfl:=hm.down
          obtain rfl:=Option.some.inj h
          exact ⟨hv,fun _=>⟨rfl,rfl⟩⟩
        · simp at h
    | _=>simp [takeR] at h
theorem bif_some {c:Bool} {x:Option R} {r:R} (h:(bif c then x else none) = some r):c = true∧x = some r:=by
  cases c
  · simp at h
  · exact ⟨rfl,h⟩
theorem locR_some {κ:Rk} (hN:isN κ = false) {x:Operand}:locR e κ (some x) = (match resSlot e x with
    | some s => (match takeR κ (lk e s) with
      | some y=>bif isRes (lk e s) then some (some s,y) else none
      | none=>none)
    | none=>none):=by
  cases κ <;> first | rfl | simp [isN] at hN
theorem locR_none {κ:Rk} (hN:isN κ = false) {r:Option Nat × κ.D T} (hl:locR e κ none = some r) : ∃ s z,takeR κ (lk e s) = some z∧isRes (lk e s) = true∧r = (some s,z):=by
  cases κ with
  | c m =>
    simp only [locR] at hl
    split at hl
    · rename_i s hs
      split at hl
      · rename_i z hz
        obtain ⟨h1,h2⟩:=bif_some hl
        exact ⟨s,z,hz,h1,(Option.some.inj h2).symm⟩
      · simp at hl
    · simp at hl
  | n=>simp [isN] at hN
  | o _ _=>simp [locR] at hl
  | b _=>simp [locR] at hl
theorem locR_spec (h:Hl n F k0 W a0 e a k) {κ:Rk} {ox:Option Operand} {s:Option Nat} {y:κ.D T} (hl:locR e κ ox = some (s,y)) :
    ∃ u,κ.is y u k∧(∀ x,ox = some x → a.eval x = u)∧((s = none∧isN κ = true∧ox = none) ∨ ∃ t,s = some t∧isN κ = false∧u = a.get t∧unl (lk e t) = true∧κ.fp T u k = (lk e t).fp (a.get t) k):=by
  cases hN:isN κ with
  | true =>
    cases κ with
    | n =>
      cases ox with
      | none =>
        have hl:some ((none:Option Nat),()) = some (s,y):=hl
        simp only [Option.some.injEq,Prod.mk.injEq] at hl
        exact ⟨undef,trivial,fun x hx=>by simp at hx,.inl ⟨hl.1.symm,rfl,rfl⟩⟩
      | some x=>exact nomatch (show (none:Option (Option Nat × Unit)) = some (s,y) from hl)
    | _=>simp [isN] at hN
  | false =>
    cases ox with
    | none =>
      obtain ⟨t,z,hz,hr,hq⟩:=locR_none hN hl
      simp only [Prod.mk.injEq] at hq
      obtain ⟨rfl,rfl⟩:=hq
      obtain ⟨h1,h2⟩:=takeR_is hz (h.sl t) hr
      obtain ⟨h3,h4⟩:=h2 hN
      exact ⟨a.get t, h1, fun x' hx' => by simp at hx', .inr ⟨t, rfl, rfl, rfl, h4, h3⟩⟩
    | some x =>
      rw [locR_some hN] at hl
      split at hl
      · rename_i t ht
        split at hl
        · rename_i z hz
          obtain ⟨hr,hl⟩:=bif_some hl
          simp only [Option.some.injEq,Prod.mk.injEq] at hl
          obtain ⟨rfl,rfl⟩:=hl
          obtain ⟨h1,h2⟩:=takeR_is hz (h.sl t) hr
          obtain ⟨h3,h4⟩:=h2 hN
          refine ⟨a.get t,h1,fun x' hx'=>?_,.inr ⟨t,rfl,rfl,rfl,h4,h3⟩⟩
          obtain rfl:=Option.some.inj hx'
          exact resSlot_ok h ht
        · simp at hl
      · simp at hl
theorem noP_arg {tk:Bool} : ∀ {l:List Pm} {xs:List Operand},noP tk l = true → resArg tk l xs = none
  | [],[],_=>rfl
  | [],_::_,_=>rfl
  | .v _::_,[],_=>rfl
  | .v _::l,_::xs,h=>noP_arg (l:=l) h
  | .tu::_,[],_=>rfl
  | .tu :: l, _ :: xs, h => by
    cases tk with
    | false=>simp [noP] at h
    | true=>exact noP_arg (l:=l) (by simpa [noP] using h)
  | .tk::_,[],_=>rfl
  | .tk :: l, _ :: xs, h => by
    cases tk with
    | true=>simp [noP] at h
    | false=>exact noP_arg (l:=l) (by simpa [noP] using h)
  | .fn _::_,[],_=>rfl
  | .fn _::l,_::xs,h=>noP_arg (l:=l) h
theorem hdH_cons {t:Tp} {l:List Tp} {x:T.D t} {y:HL T.S l}:hdH (S:=T.S) (consH x y) = x:=by cases l <;> rfl
theorem tlH_cons {t:Tp} {l:List Tp} {x:T.D t} {y:HL T.S l}:tlH (S:=T.S) (t:=t) (consH x y) = y:=by
  cases l with
  | nil=>cases y; rfl
  | cons _ _=>rfl
theorem argP_v {ov:Operand → AV T} {t:Tp} {x:Operand} {l:List Pm} {r:Option (HL T.S (valsP l))} {z:HL T.S (valsP (.v t::l))} (h:argP ov (.v t) x l r = some z) : ∃ y ys,asT t (ov x) = some y∧r = some ys∧z = consH y ys:=by
  have h:(match (generalizing:=false) asT t (ov x),r with | some y,some ys=>some (consH y ys) | _,_=>none:Option (HL T.S (t::valsP l))) = some z:=h
  cases hy:asT t (ov x) with
  | none=>rw [hy] at h; exact nomatch h
  | some y =>
    cases r with
    | none=>rw [hy] at h; exact nomatch h
    | some ys=>rw [hy] at h; exact ⟨y,ys,rfl,rfl,(Option.some.inj h).symm⟩
theorem argP_f {ov:Operand → AV T} {g:Nat} {x:Operand} {l:List Pm} {r:Option (HL T.S (valsP l))} {z:HL T.S (valsP (.fn g::l))} (h:argP ov (.fn g) x l r = some z):x = .func g∧r = some z:=by
  cases x with
  | func g' =>
    have h' : (bif Nat.beq g g' then r else none) = some z:=h
    cases hb:Nat.beq g g' with
    | false=>rw [hb] at h'; exact nomatch h'
    | true =>
      rw [hb] at h'
      exact ⟨by rw [Nat.eq_of_beq_eq_true hb],h'⟩
  | _=>exact nomatch (show (none:Option (HL T.S (valsP l))) = some z from h)
theorem argsP_is (ov:Operand → AV T) {u1 u2:Value} : ∀ (l:List Pm) (xs:List Operand) (x:HL T.S (valsP l)),argsP ov l xs = some x → uniqP l = true → (∀ y ∈ xs,(ov y).is a (a.eval y) k) →
    (∀ y,resArg false l xs = some y → a.eval y = u1) → (∀ y,resArg true l xs = some y → a.eval y = u2) → PIs l x u1 u2 (xs.map a.eval) k:=by
  intro l
  induction l with
  | nil =>
    intro xs x h _ _ _ _
    cases xs with
    | nil=>exact trivial
    | cons _ _=>exact nomatch (show (none:Option (HL T.S (valsP []))) = some x from h)
  | cons p l ih =>
    intro xs z h hu hi h1 h2
    cases xs with
    | nil=>exact nomatch (show (none:Option (HL T.S (valsP (p::l)))) = some z from h)
    | cons x xs =>
      have hi' : ∀ y ∈ xs,(ov y).is a (a.eval y) k:=fun y hy=>hi y (by simp [hy])
      have h:argP ov p x l (argsP ov l xs) = some z:=h
      generalize hr:argsP ov l xs = r at h
      cases p with
      | v t =>
        obtain ⟨y,ys,hy,rfl,rfl⟩:=argP_v h
        refine ⟨?_,?_⟩
        · rw [hdH_cons]; exact asT_is hy (hi x (by simp))
        · rw [tlH_cons]
          exact ih xs ys hr hu hi' h1 h2
      | tu =>
        simp only [uniqP,Bool.and_eq_true] at hu
        have h:r = some z:=h
        exact ⟨h1 x rfl,ih xs z (hr.trans h) hu.2 hi' (fun y hy=>by rw [noP_arg hu.1] at hy; simp at hy) h2⟩
      | tk =>
        simp only [uniqP,Bool.and_eq_true] at hu
        have h:r = some z:=h
        exact ⟨h2 x rfl,ih xs z (hr.trans h) hu.2 hi' h1 (fun y hy=>by rw [noP_arg hu.1] at hy; simp at hy)⟩
      | fn g =>
        obtain ⟨rfl,rfl⟩:=argP_f h
        exact ⟨rfl,ih xs z hr hu hi' h1 h2⟩
theorem rdepU_some {f:FuncId} {dst:Option Nat} {q:FnR T} (h:rdepU C f dst = some q):rdep C.rdeps f = some q:=by
  unfold rdepU at h
  cases hq:rdep C.rdeps f with
  | none=>rw [hq] at h; simp at h
  | some q' =>
    rw [hq] at h
    have : ∀ c:Bool,(bif c then none else some q' : Option (FnR T)) = some q → q' = q:=fun c h=>by cases c <;> simp at h; exact h
    rw [this _ h]
theorem lk_addO {s:Option Nat} {x:AV T} {e:Env T} {t:Nat}:lk (addO s x e) t = if s = some t then x else lk e t:=by
  cases s with
  | none=>simp [addO]
  | some s =>
    simp only [addO,lk_cons,Option.some.injEq]
theorem neO_ne {s t:Option Nat} {u:Nat} (h:neO s t = true) (hs:s = some u):t ≠ some u:=by
  rintro rfl
  subst hs
  simp [neO] at h
theorem klO_or {f:Nat → AV T → AV T} (hf : ∀ d x,f d x = x ∨ f d x = .top) (s:Option Nat) (x:AV T):klO f s x = x ∨ klO f s x = .top:=by
  cases s with
  | none=>exact .inl rfl
  | some s=>exact hf s x
theorem klO_top {f:Nat → AV T → AV T} (hf : ∀ d x,f d x = x ∨ f d x = .top) (s:Option Nat):klO f s (.top:AV T) = .top:=by
  rcases klO_or hf s (.top:AV T) with e | e <;> exact e
theorem klO_res {f:Nat → AV T → AV T} (hf : ∀ d x,isRes x = true → f d x = x) (s:Option Nat) {x:AV T} (h:isRes x = true):klO f s x = x:=by
  cases s with
  | none=>rfl
  | some s=>exact hf s x h
theorem klO_ment {s:Option Nat} {x:AV T} {t:Nat} (h:(klO klA s x).ment t = true):x.ment t = true∧s ≠ some t:=by
  cases s with
  | none=>exact ⟨h,by simp⟩
  | some s =>
    obtain ⟨h1,h2⟩:=klA_ment (show (klA s x).ment t = true from h)
    exact ⟨h1,fun e=>h2 (Option.some.inj e).symm⟩
theorem klO_ment1 {s:Option Nat} {x:AV T} {t:Nat} (h:(klO kl s x).ment t = true):x.ment t = true:=by
  cases s with
  | none=>exact h
  | some s=>exact kl_ment h
theorem klO_ment2 {s:Option Nat} {x:AV T} {t:Nat} (h:(klO kl s x).ment2 t = true):s ≠ some t:=by
  cases s with
  | none=>simp
  | some s=>exact fun e=>(kl_ment2 (show (kl s x).ment2 t = true from h)).2 (Option.some.inj e).symm
theorem tail_enter {A:Array Oper} {i:Nat} {rest:List Nat} {o:Oper} {Q:Exit → Act → World → Prop} {P:Program} {f:FuncId} {args:Array Value} {R:Pred}
    (ho:nth A.toList i = some o) (hgd:o.guard = none) (hx:(execOp a.eval o).run P k.w = .ok (.enter f args) k.w) (hda : ∀ d,o.dst = some d → d < a.tmps.size) (hcall:Calls P f args k.w (RetC F k R))
    (h : ∀ (a' : Act) (k' : K) (v:Value),a'.tmps.size = a.tmps.size → a'.defers = a.defers → (∀ t,o.dst ≠ some t → a'.get t = a.get t) → (∀ d,o.dst = some d → a'.get d = v) → Chg F k k' → R v k' → wpOps P A Q rest a' k'.w):wpOps P A Q (i::rest) a k.w:=by
  rw [wpOps_cons]
  rw [nth_toList] at ho
  unfold wpOp
  simp only [ho,Region.wanted,hgd,if_true]
  refine .inl ?_
  unfold Oper.wp
  rw [hx]
  refine Calls.mono hcall fun e w' he=>?_
  cases e with
  | returned v =>
    obtain ⟨k', rfl, hg, hv⟩ := he
    cases hd:o.dst with
    | none =>
      have e1:a.put none v = a:=rfl
      show wpOps P A Q rest (a.put none v) k'.w
      rw [e1]
      exact h a k' v rfl rfl (fun _ _=>rfl) (fun d hd'=>by rw [hd] at hd'; simp at hd') hg hv
    | some d =>
      refine h _ k' v (put_size _ _ _) (put_defers' _ _ _) (fun t ht=>?_) (fun d' hd'=>?_) hg hv
      · rw [get_put _ _ _ _ (hda d hd),if_neg (fun e=>ht (by rw [hd,e]))]
      · rw [hd] at hd'
        obtain rfl:=Option.some.inj hd'
        rw [get_put _ _ _ _ (hda d hd)]; simp
  | panicked c=>exact he.elim
  | outgrown=>exact he.elim
theorem callR_ok (hC:CxOk C) (h:Hl n F k0 W a0 e a k) {A:Array Oper} {i:Nat} {rest:List Nat} {o:Oper} {Q:Exit → Act → World → Prop} {K:Env T → Option R} {r:R} (hA:nth A.toList i = some o) (hg:o.guard = none)
    (hn : ∀ d,o.dst = some d → d < n∧d ∈ W) {f:FuncId} {d:FnR T} (hd:FnROk C.P f d) {as_:List Operand} (hx:(execOp a.eval o).run C.P k.w = .ok (.enter f (as_.map a.eval).toArray) k.w)
    (hk : callR C e d as_ o.dst K = some r) (hQ : ∀ e' a' k', K e' = some r → Hl n F k0 W a0 e' a' k' → wpOps C.P A Q rest a' k'.w) : wpOps C.P A Q (i :: rest) a k.w := by
  have is1 : ∀ x,(opvF C e x).is a (a.eval x) k:=fun x=>opvF_is hC (opv_is (e:=e) (a0:=a) (by
    cases x with
    | tmp t=>exact ⟨h.sl t,fun _=>rfl⟩
    | global _=>exact h.gl
    | _=>trivial)) h.gl
  unfold callR at hk
  split at hk
  · rename_i x s1 y s2 z hx1 hl1 hl2
    obtain ⟨hb,hk⟩:=bif_some hk
    obtain ⟨res0,hres,hk⟩:=bind_some hk
    rw [mapK_eq] at hk
    generalize hRes:d.inj res0 = res at hk
    simp only [Bool.and_eq_true] at hb
    obtain ⟨⟨⟨⟨hu,hne12⟩,hned1⟩,hned2⟩,_⟩:=hb
    obtain ⟨u1,hi1,ho1,hc1⟩:=locR_spec h hl1
    obtain ⟨u2,hi2,ho2,hc2⟩:=locR_spec h hl2
    have fp1 : ∀ b,d.tu.fp T u1 k b → ∃ t,s1 = some t∧unl (lk e t) = true∧(lk e t).fp (a.get t) k b:=fun b hb=>by
      rcases hc1 with ⟨_,h1,_⟩ | ⟨t,h1,_,_,h3,h4⟩
      · exact (Rk.fpN h1 b hb).elim
      · exact ⟨t,h1,h3,by rw [← h4]; exact hb⟩
    have fp2 : ∀ b,d.tk.fp T u2 k b → ∃ t,s2 = some t∧unl (lk e t) = true∧(lk e t).fp (a.get t) k b:=fun b hb=>by
      rcases hc2 with ⟨_,h1,_⟩ | ⟨t,h1,_,_,h3,h4⟩
      · exact (Rk.fpN h1 b hb).elim
      · exact ⟨t,h1,h3,by rw [← h4]; exact hb⟩
    have ap12:Apart (d.tu.fp T u1 k) (d.tk.fp T u2 k):=fun b h1 h2=>by
      obtain ⟨t,e1,_,h3⟩:=fp1 b h1
      obtain ⟨t', e2, _, h4⟩ := fp2 b h2
      exact h.ap t t' (fun e3=>neO_ne hne12 e1 (e3 ▸ e2)) b h3 h4
    refine tail_enter hA hg hx (fun dd hdd=>by rw [h.s]; exact (hn dd hdd).1) (hd.ok k (as_.map a.eval) u1 u2 x y z res0 h.gl (argsP_is (opvF C e) _ _ _ hx1 hu (fun y _=>is1 y) ho1 ho2) hi1 hi2 ap12 hres) fun a' k' v hsz hdf hoth hnew hch hpost=>?_
    rw [hRes] at hpost
    have lkE : ∀ t,lk (addO o.dst (resR d.ro d.cod res.2.1 res.2.2) (addO s1 (d.tu.av res.1) (addO s2 .top (mapE (fun a=>klO kl s1 (klO klA s2 (klO klA o.dst a))) e)))) t =
        if o.dst = some t then resR d.ro d.cod res.2.1 res.2.2 else if s1 = some t then d.tu.av res.1 else if s2 = some t then .top else klO kl s1 (klO klA s2 (klO klA o.dst (lk e t))):=fun t=>by
      rw [lk_addO,lk_addO,lk_addO,lk_mapE (by rw [klO_top klA_or,klO_top klA_or,klO_top kl_or])]
    generalize addO o.dst (resR d.ro d.cod res.2.1 res.2.2) (addO s1 (d.tu.av res.1) (addO s2 .top (mapE (fun a=>klO kl s1 (klO klA s2 (klO klA o.dst a))) e))) = E at hk lkE
    have keep1 : ∀ t,s1 = some t → a'.get t = a.get t:=fun t ht=>hoth t fun e1=>neO_ne hned1 e1 ht
    have keep2 : ∀ t,s2 = some t → a'.get t = a.get t:=fun t ht=>hoth t fun e1=>neO_ne hned2 e1 ht
    have lkd : ∀ t,o.dst = some t → lk E t = resR d.ro d.cod res.2.1 res.2.2:=fun t ht=>by rw [lkE,if_pos ht]
    have lk1 : ∀ t,s1 = some t → lk E t = d.tu.av res.1:=fun t ht=>by rw [lkE,if_neg (fun e1=>neO_ne hned1 e1 ht),if_pos ht]
    have lk2 : ∀ t,s2 = some t → lk E t = .top:=fun t ht=>by rw [lkE,if_neg (fun e1=>neO_ne hned2 e1 ht),if_neg (fun e1=>neO_ne hne12 e1 ht),if_pos ht]
    have tu1 : ∀ t,s1 = some t → isN d.tu = false∧u1 = a.get t:=fun t ht=>by
      rcases hc1 with ⟨h1, _⟩ | ⟨t', h1, h2, h3, _⟩
      · rw [h1] at ht; simp at ht
      · rw [h1] at ht; obtain rfl:=Option.some.inj ht; exact ⟨h2,h3⟩
    have fpd : ∀ t,o.dst = some t → ∀ b,(lk E t).fp (a'.get t) k' b → (d.tu.fp T u1 k b ∨ d.tk.fp T u2 k b) ∨ k.w.heap.size ≤ b:=fun t ht b hb=>by
      rw [lkd t ht,hnew t ht] at hb; exact hpost.w2 b hb
    have fpe1 : ∀ t,s1 = some t → (lk E t).fp (a'.get t) k' = d.tu.fp T u1 k':=fun t ht=>by
      rw [lk1 t ht,keep1 t ht,(tu1 t ht).2,Rk.av_fp (tu1 t ht).1]
    have fpS : ∀ t,(o.dst = some t ∨ s1 = some t ∨ s2 = some t) → ∀ b,(lk E t).fp (a'.get t) k' b → (d.tu.fp T u1 k b ∨ d.tk.fp T u2 k b) ∨ k.w.heap.size ≤ b:=fun t ht b hb=>by
      rcases ht with ht | ht | ht
      · exact fpd t ht b hb
      · rw [fpe1 t ht] at hb; exact hpost.w1 b hb
      · rw [lk2 t ht] at hb; exact hb.elim
    refine hQ _ a' k' hk (h.multi (G:=fun b=>d.tu.fp T u1 k b ∨ d.tk.fp T u2 k b) (fun t=>o.dst = some t ∨ s1 = some t ∨ s2 = some t) hch (fun b hb=>?_) hsz hdf (fun t ht=>hoth t fun e1=>ht (hn t e1).2) (fun t ht=>hoth t fun e1=>ht (.inl e1))
      (fun t ht=>?_) (fun t ht u=>?_) (fun t ht _ b hb=>?_) (fun t ht b hb=>?_) (fun t u ht hu' hne b hb hb'=>?_) (fun t ht=>?_) (fun t ht hr=>?_))
    · rcases hb with hb | hb
      · obtain ⟨t,h1,h2,h3⟩:=fp1 b hb; exact ⟨t,.inr (.inl h1),h2,h3⟩
      · obtain ⟨t,h1,h2,h3⟩:=fp2 b hb; exact ⟨t,.inr (.inr h1),h2,h3⟩
    · rcases ht with ht | ht | ht
      · rw [lkd t ht,hnew t ht]; exact is_act (fun s=>resR_ment) hpost.res
      · rw [lk1 t ht,keep1 t ht,← (tu1 t ht).2]; exact (Rk.av_is (tu1 t ht).1).2 hpost.tu
      · rw [lk2 t ht]; trivial
    · rcases ht with ht | ht | ht
      · rw [lkd t ht]; exact resR_ment
      · rw [lk1 t ht]; exact Rk.av_ment
      · rw [lk2 t ht]; rfl
    · rcases fpS t ht b hb with h1 | h1
      · exact .inl h1
      · exact .inr (.inr h1)
    · rcases fpS t ht b hb with h1 | h1
      · rcases h1 with h1 | h1
        · obtain ⟨t', h2, _, h3⟩ := fp1 b h1; exact .inl ⟨t', .inr (.inl h2), h3⟩
        · obtain ⟨t', h2, _, h3⟩ := fp2 b h1; exact .inl ⟨t', .inr (.inr h2), h3⟩
      · exact .inr h1
    · rcases ht with ht | ht | ht
      · rcases hu' with hu' | hu' | hu'
        · exact hne (Option.some.inj (ht.symm.trans hu'))
        · rw [lkd t ht, hnew t ht] at hb
          rw [fpe1 u hu'] at hb'
          exact hpost.ap b hb' hb
        · rw [lk2 u hu'] at hb'; exact hb'
      · rcases hu' with hu' | hu' | hu'
        · rw [lkd u hu', hnew u hu'] at hb'
          rw [fpe1 t ht] at hb
          exact hpost.ap b hb hb'
        · exact hne (Option.some.inj (ht.symm.trans hu'))
        · rw [lk2 u hu'] at hb'; exact hb'
      · rw [lk2 t ht] at hb; exact hb
    · have e1 : lk E t = klO kl s1 (klO klA s2 (klO klA o.dst (lk e t))) := by
        rw [lkE,if_neg (fun e1=>ht (.inl e1)),if_neg (fun e1=>ht (.inr (.inl e1))),if_neg (fun e1=>ht (.inr (.inr e1)))]
      have key : ∀ u,(lk E t).ment u = true → (o.dst ≠ some u∧s2 ≠ some u):=fun u hu'=>by
        rw [e1] at hu'
        obtain ⟨h1,h2⟩:=klO_ment (klO_ment1 hu')
        exact ⟨(klO_ment h1).2,h2⟩
      have key2 : ∀ u,(lk E t).ment2 u = true → s1 ≠ some u:=fun u hu'=>by rw [e1] at hu'; exact klO_ment2 hu'
      have hor:lk E t = lk e t ∨ lk E t = .top:=by
        rw [e1]
        rcases klO_or klA_or o.dst (lk e t) with h1 | h1
        · rw [h1]
          rcases klO_or klA_or s2 (lk e t) with h2 | h2
          · rw [h2]; exact klO_or kl_or s1 (lk e t)
          · rw [h2,klO_top kl_or]; exact .inr rfl
        · rw [h1,klO_top klA_or,klO_top kl_or]; exact .inr rfl
      rcases hor with h1 | h1
      · refine .inr ⟨h1, fun u hu' hS => ?_⟩
        obtain ⟨h2,h3⟩:=key u (by rw [h1]; exact hu')
        rcases hS with hS | hS | hS
        · exact (h2 hS).elim
        · refine ⟨keep1 u hS, ?_, ?_⟩
          · rw [lk1 u hS]; exact unl_res (Rk.av_unl (tu1 u hS).1)
          · cases h4 : (lk e t).ment2 u with
            | false=>rfl
            | true=>exact absurd hS (key2 u (by rw [h1]; exact h4))
        · exact (h3 hS).elim
      · exact .inl h1
    · rw [lkE,if_neg (fun e1=>ht (.inl e1)),if_neg (fun e1=>ht (.inr (.inl e1))),if_neg (fun e1=>ht (.inr (.inr e1))),klO_res (fun _ _=>klA_res) _ hr,klO_res (fun _ _=>klA_res) _ hr,klO_res (fun _ _=>kl_res) _ hr]
  · simp at hk

theorem Hl.moveTo (h:Hl n F k0 W a0 e a k) {s d:Nat} {x y:AV T} (hsd:s ≠ d) (hdW:d ∈ W) (hu:unl (lk e s) = true) (hsz:a'.tmps.size = a.tmps.size) (hdf:a'.defers = a.defers) (hoth : ∀ t,t ≠ d → a'.get t = a.get t)
    (hv:x.is a' (a'.get d) k') (hm : ∀ t,x.ment t = false) (hf : ∀ b,x.fp (a'.get d) k' b → (lk e s).fp (a.get s) k b) (hy:y.is a' (a'.get s) k') (hym : ∀ t,y.ment t = false) (hyr:isRes y = false) (hgr:Grow k k') :
    Hl n F k0 W a0 ((d,x)::(s,y)::mapE (fun z=>klA s (klA d z)) e) a' k':=by
  have lkt : ∀ t,t ≠ d → t ≠ s → lk ((d,x)::(s,y)::mapE (fun z=>klA s (klA d z)) e) t = klA s (klA d (lk e t)):=fun t h1 h2=>by
    rw [lk_cons,if_neg (Ne.symm h1),lk_cons,if_neg (Ne.symm h2),lk_mapE rfl]
  have lkd:lk ((d,x)::(s,y)::mapE (fun z=>klA s (klA d z)) e) d = x:=by rw [lk_cons,if_pos rfl]
  have lks:lk ((d,x)::(s,y)::mapE (fun z=>klA s (klA d z)) e) s = y:=by rw [lk_cons,if_neg (Ne.symm hsd),lk_cons,if_pos rfl]
  have hS : ∀ t,(t = d ∨ t = s) → ∀ b,(lk ((d,x)::(s,y)::mapE (fun z=>klA s (klA d z)) e) t).fp (a'.get t) k' b → (lk e s).fp (a.get s) k b:=fun t ht b hb=>by
    rcases ht with rfl | rfl
    · rw [lkd] at hb; exact hf b hb
    · rw [lks] at hb; exact absurd hb (fp_nonres hyr _ _ b)
  refine h.multi (G:=noF) (fun t=>t = d ∨ t = s) (Chg.of hgr) (fun _ f=>f.elim) hsz hdf (fun t ht=>hoth t fun e1=>ht (e1 ▸ hdW)) (fun t ht=>hoth t fun e1=>ht (.inl e1)) (fun t ht=>?_) (fun t ht u=>?_)
    (fun t ht _ b hb=>.inr (.inl ⟨s,.inr rfl,hu,hS t ht b hb⟩)) (fun t ht b hb=>.inl ⟨s,.inr rfl,hS t ht b hb⟩) (fun t u ht hu' hne=>?_) (fun t ht=>?_) (fun t ht hr=>?_)
  · rcases ht with rfl | rfl
    · rw [lkd]; exact hv
    · rw [lks]; exact hy
  · rcases ht with rfl | rfl
    · rw [lkd]; exact hm u
    · rw [lks]; exact hym u
  · rcases ht with rfl | rfl
    · rcases hu' with rfl | rfl
      · exact absurd rfl hne
      · intro b _ hb; rw [lks] at hb; exact fp_nonres hyr _ _ b hb
    · intro b hb; rw [lks] at hb; exact (fp_nonres hyr _ _ b hb).elim
  · have h1 : t ≠ d := fun e1 => ht (.inl e1)
    have h2:t ≠ s:=fun e1=>ht (.inr e1)
    rw [lkt t h1 h2]
    rcases klA_or d (lk e t) with e1 | e1
    · rw [e1]
      rcases klA_or s (lk e t) with e2 | e2
      · refine .inr ⟨e2, fun u hu' hSu => ?_⟩
        rcases hSu with rfl | rfl
        · rw [← e1] at hu'; exact absurd rfl (klA_ment hu').2
        · rw [← e2] at hu'; exact absurd rfl (klA_ment hu').2
      · exact .inl e2
    · rw [e1]; exact .inl (by rcases klA_or s (.top:AV T) with e2 | e2 <;> exact e2)
  · rw [lkt t (fun e1=>ht (.inl e1)) (fun e1=>ht (.inr e1)),klA_res hr,klA_res hr]
theorem Hl.know {n:Nat} {F:FP} {k0:K} {W:List Nat} {a0:Act} {e:Env T} {a:Act} {k:K} (h:Hl n F k0 W a0 e a k) {c:Nat} {av:AV T} (hnr:isRes (lk e c) = false) (hn:isRes av = false) (hm : ∀ s,av.ment s = false) (hv:av.is a (a.get c) k):Hl n F k0 W a0 ((c,av)::e) a k:=by
  have lkt : ∀ t,lk ((c,av)::e) t = if c = t then av else lk e t:=fun t=>lk_cons _ _ _ _
  have hres : ∀ t,isRes (lk ((c,av)::e) t) = isRes (lk e t):=fun t=>by
    rw [lkt]; split
    · rename_i h1; subst h1; rw [hnr,hn]
    · rfl
  have hfp : ∀ t b,(lk ((c,av)::e) t).fp (a.get t) k b → (lk e t).fp (a.get t) k b:=fun t b hb=>by
    rw [lkt] at hb; split at hb
    · exact absurd hb (fp_nonres hn _ _ b)
    · exact hb
  refine ⟨h.g,h.s,h.d,h.old,fun t=>?_,fun t s hs=>?_,fun t ht=>?_,fun t t' hne b hb hb'=>h.ap t t' hne b (hfp t b hb) (hfp t' b hb'),h.gl⟩
  · rw [lkt]; split
    · rename_i h1; subst h1; exact hv
    · exact h.sl t
  · rw [lkt] at hs; split at hs
    · rw [hm] at hs; simp at hs
    · rw [hres]; exact h.inv t s hs
  · rw [lkt] at ht ⊢; split at ht
    · have:=unl_res ht; rw [hn] at this; simp at this
    · rename_i h1; rw [if_neg h1]; exact h.wr t ht
theorem step2_ok (hC:CxOk C) (h:Hl n F k0 W a0 e a k) {A:Array Oper} {i:Nat} {rest:List Nat} {o:Oper} {Q:Exit → Act → World → Prop} {K:Env T → Option R} {r:R} (hA:nth A.toList i = some o) (hg:o.guard = none)
    (hn : ∀ d,o.dst = some d → d < n∧d ∈ W) (hk:step2 C e o K = some r)
    (hQ : ∀ e' a' k', K e' = some r → Hl n F k0 W a0 e' a' k' → wpOps C.P A Q rest a' k'.w) : wpOps C.P A Q (i :: rest) a k.w := by
  have is1 : ∀ x,(opv e x).is a (a.eval x) k:=fun x=>opv_is (e:=e) (a0:=a) (by
    cases x with
    | tmp t=>exact ⟨h.sl t,fun _=>rfl⟩
    | global _=>exact h.gl
    | _=>trivial)
  -- an operation that writes to nothing
  have pure1 : ∀ d,o.dst = some d → ∀ {K1:AV T → Option R},step1 C e o K1 = some r → ∃ av,K1 av = some r∧(∀ s,av.ment s = true → isRes (lk e s) = true)∧isRes av = false∧Does C.P o a k (av.is a):=by
    intro d hd K1 h1
    obtain ⟨av,h2,h3,h4,h5⟩:=step1_ok hC h.inv h1
    exact ⟨av,h2,h3,h4,h5 a a k (h.rd1 o)⟩
  have simple : ∀ d,o.dst = some d → (step1 C e o fun x=>put e d x K) = some r → wpOps C.P A Q (i::rest) a k.w:=by
    intro d hd h1
    obtain ⟨av,h2,h3,h4,h5⟩:=pure1 d hd h1
    obtain ⟨hdn,hdW⟩:=hn d hd
    refine tail_does hA hg hd (by rw [h.s]; exact hdn) trivial h5 fun a' k' hs hdf hoth hgr hv=>?_
    have hv' : av.is a' (a'.get d) k':=av.congr (fun s hs'=>hoth s (fun e=>by
      have:av.ment d = false:=by
        cases hmd:av.ment d with
        | false=>rfl
        | true=>unfold Gb.put at h2; rw [hmd] at h2; simp at h2
      rw [e,this] at hs'; simp at hs')) hv
    obtain ⟨e', h6, h7⟩ := h.putFresh hdW hgr hs hdf hoth hv' h3 (fun b hb => absurd hb (fp_nonres h4 _ _ b)) h2
    exact hQ e' a' k' h6 h7
  -- a new resource
  have fresh : ∀ d,o.dst = some d → ∀ {av:AV T},put e d av K = some r → (∀ t,av.ment t = false) → Does C.P o a k (fun v k'=>(∀ a1:Act,av.is a1 v k')∧∀ b,av.fp v k' b → k.w.heap.size ≤ b) → wpOps C.P A Q (i::rest) a k.w:=by
    intro d hd av h2 h3 h5
    obtain ⟨hdn,hdW⟩:=hn d hd
    refine tail_does hA hg hd (by rw [h.s]; exact hdn) trivial h5 fun a' k' hs hdf hoth hgr hv=>?_
    obtain ⟨e', h6, h7⟩ := h.putFresh hdW hgr hs hdf hoth (hv.1 a') (fun s hs => by rw [h3] at hs; simp at hs) hv.2 h2
    exact hQ e' a' k' h6 h7
  unfold step2 at hk
  split at hk
  · -- store
    rename_i ty p y hop hd
    split at hk
    · rename_i pt
      have hsel : ∀ av:AV T,(match lk e pt with | .al s=>(match lk e s with | .box _ t x=>AV.ab s t x t (Lens.id t) | _=>.top) | .box _ t x=>AV.ab pt t x t (Lens.id t) | a=>a) = av → av.is a (a.get pt) k:=by
        intro av hav
        have hsl:=h.sl pt
        split at hav
        · rename_i s hl
          rw [hl] at hsl
          split at hav
          · rename_i lck t x hl'
            have hsl':=h.sl s
            rw [hl'] at hsl'
            obtain ⟨b,hb,hbx⟩:=hsl'
            rw [← hav]
            exact ⟨Lens.id_ok,b,hb,(show a.get pt = a.get s from hsl).trans hb,hbx⟩
          · rw [← hav]; trivial
        · rename_i lck t x hl
          rw [hl] at hsl
          obtain ⟨b,hb,hbx⟩:=hsl
          rw [← hav]
          exact ⟨Lens.id_ok,b,hb,hb,hbx⟩
        · rw [← hav]; exact hsl
      split at hk
      · rename_i s t x u L hav
        have hp:=hsel _ hav
        split at hk
        · rename_i t' x' hl
          split at hk
          · rename_i z hz
            cases hb:tyB C.P T ty u with
            | false=>rw [hb] at hk; simp at hk
            | true =>
              rw [hb] at hk; simp only [cond_true] at hk
              rw [mapK_eq] at hk
              obtain ⟨hL,b,h1,h2,h3⟩:=hp
              have hfp : ∀ b', Eq b b' → (lk e s).fp (a.get s) k b' := by rw [hl]; intro b' hb'; rw [← hb']; exact h1
              refine tail_storeB hA hg hop hd (tyB_sz hb) hL.2.1 h2 h3 (asT_is hz (is1 y)) fun k' hc hbx=>?_
              refine hQ _ a k' hk (h.turn (av:=.box false t (L.set x z)) (by rw [hl]; rfl) hc hfp ⟨b,h1,hbx⟩ (fun _=>rfl) rfl fun b' hb'=>?_)
              rw [hl]; exact hb'
          · simp at hk
        · simp at hk
      · rename_i s el t xs i' x u L hav
        have hp:=hsel _ hav
        split at hk
        · rename_i el' t' xs' hl
          split at hk
          · rename_i z hz
            cases hb:tyB C.P T ty u with
            | false=>rw [hb] at hk; simp at hk
            | true =>
              rw [hb] at hk; simp only [cond_true] at hk
              rw [mapK_eq] at hk
              obtain ⟨hL,h1,h2,h3⟩:=hp
              have hfp : ∀ b', obF (a.get s) b' → (lk e s).fp (a.get s) k b' := by rw [hl]; intro b' hb'; exact hb'
              refine tail_storeS (u:=a.get s) (xs:=xs) (x:=x) hA hg hop hd (tyB_sz hb) hL.2.1 h1 h2 h3 (asT_is hz (is1 y)) fun k' hc hown=>?_
              refine hQ _ a k' hk (h.turn (av:=.own false el t (xs.set i' (L.set x z))) (by rw [hl]; rfl) hc hfp hown (fun _=>rfl) rfl fun b' hb'=>?_)
              rw [hl]; exact hb'
          · simp at hk
        · simp at hk
      · simp at hk
    · simp at hk
  · -- alloc
    rename_i ty d hop hd
    split at hk
    · rename_i t ht
      cases hz:zeroB C.P T ty t with
      | false=>rw [hz] at hk; simp at hk
      | true =>
        rw [hz] at hk; simp only [cond_true] at hk
        obtain ⟨_,zv,_,_,_,_,hrun,_,hv⟩:=zeroB_ok hz
        refine fresh d hd hk (fun _=>rfl) (does_imp (ok_alloc k.w.heap.size (Nat.le_refl _) hop ⟨zv,hrun,hv⟩) fun v k' _ hb=>?_)
        obtain ⟨b,rfl,h1,h2⟩:=hb
        exact ⟨fun _=>⟨b,rfl,h2⟩,fun b' hb'=>by
          simp only [AV.fp,Value.pointer.injEq,Option.some.injEq,Addr.mk.injEq,and_true] at hb'
          omega⟩
    · simp at hk
  · -- box
    rename_i ty x d hop hd
    split at hk
    · rename_i t y hx
      cases hz:tyB C.P T ty t with
      | false=>rw [hz] at hk; simp at hk
      | true =>
        rw [hz] at hk; simp only [cond_true] at hk
        have hxv:=is1 x
        rw [hx] at hxv
        refine fresh d hd hk (fun _=>rfl) (does_imp (ok_box k.w.heap.size (Nat.le_refl _) hop (show IsV y (a.eval x) k from hxv)) fun v k' _ hb=>?_)
        obtain ⟨b,rfl,h1,h2⟩:=hb
        exact ⟨fun _=>⟨b,rfl,h2⟩,fun b' hb'=>by
          simp only [AV.fp,Value.pointer.injEq,Option.some.injEq,Addr.mk.injEq,and_true] at hb'
          omega⟩
    · simp at hk
  · -- assign
    rename_i x d hop hd
    split at hk
    · rename_i s hs
      split at hk
      · rename_i el t xs hl
        rw [mapK_eq] at hk
        obtain ⟨hdn,hdW⟩:=hn d hd
        refine tail_assign hA hg (.inl hop) hd (by rw [h.s]; exact hdn) fun a' hsz hdf hnew hoth=>?_
        have hsl:=h.sl s
        rw [hl] at hsl
        have h1:=h.lose (k':=k) (G:=noF) (s:=s) (by rw [hl]; rfl) (Chg.refl _ k) (fun b hb=>hb.elim)
        have hv:a'.get d = a.get s:=hnew.trans (resSlot_ok h hs)
        have hfp : ∀ b,obF (a.get s) b → (lk e s).fp (a.get s) k b:=by rw [hl]; exact fun b hb=>hb
        obtain ⟨e', h2, h3, h4, h5⟩ := h1.put (av := .own false el t xs) hdW (Grow.refl k) hsz hdf hoth (by rw [hv]; exact hsl) (fun s' hs' => by simp [AV.ment] at hs') (fun _ => by
            rw [hv]; exact fun b hb=>h.wr s (by rw [hl]; rfl) b (hfp b hb)) (fun t' ht' b hb hb'=>by
            rw [hv] at hb
            rw [lk_cons] at hb'
            by_cases e1:s = t'
            · rw [if_pos e1] at hb'; exact hb'
            · rw [if_neg e1, lk_mapE rfl] at hb'
              rcases klA_or s (lk e t') with e2 | e2
              · rw [e2] at hb'; exact h.ap s t' e1 b (hfp b hb) hb'
              · rw [e2] at hb'; exact hb') hk
        by_cases hsd:s = d
        · -- onto itself: nothing more is told
          subst hsd
          have hn' : isRes (lk e' s) = true:=by rw [h4]; rfl
          exact absurd h2 (by
            intro h2
            cases hb:isRes (lk e' s) with
            | false=>rw [hn'] at hb; simp at hb
            | true=>rw [hb] at h2; simp at h2)
        · have hns : isRes (lk e' s) = false := by
            rcases h5 s hsd with e1 | e1
            · rw [e1,lk_cons,if_pos rfl]; rfl
            · rw [e1]; rfl
          rw [hns] at h2
          simp only [cond_false] at h2
          refine hQ _ a' k h2 (h3.set (av := .al d) hns ?_ (fun t' ht' => by rw [← Nat.eq_of_beq_eq_true ht', h4]; rfl) rfl)
          exact (hoth s hsd).trans hv.symm
      · rename_i m z hl
        cases hsd:Nat.beq s d with
        | true=>rw [hsd] at hk; simp at hk
        | false=>
        rw [hsd] at hk; simp only [cond_false] at hk
        rw [mapK_eq] at hk
        have hsd:s ≠ d:=fun e=>by rw [e,Nat.beq_refl] at hsd; simp at hsd
        obtain ⟨hdn,hdW⟩:=hn d hd
        refine tail_assign hA hg (.inl hop) hd (by rw [h.s]; exact hdn) fun a' hsz hdf hnew hoth=>?_
        have hv:a'.get d = a.get s:=hnew.trans (resSlot_ok h hs)
        exact hQ _ a' k hk (h.moveTo (x:=.rs false m z) (y:=.top) hsd hdW (by rw [hl]; rfl) hsz hdf hoth (by rw [hv]; have:=h.sl s; rw [hl] at this; exact this) (fun _=>rfl) (fun b hb=>by rw [hv] at hb; rw [hl]; exact hb) trivial (fun _=>rfl) rfl (Grow.refl k))
      · simp at hk
    · exact simple d hd hk
  · -- extract
    rename_i x ix d hop hd
    split at hk
    · rename_i s hs
      split at hk
      · rename_i κ w l hl
        cases hsd:(Nat.beq s d || isN κ) with
        | true=>rw [hsd] at hk; simp at hk
        | false=>
        rw [hsd] at hk; simp only [cond_false] at hk
        simp only [Bool.or_eq_false_iff] at hsd
        rw [mapK_eq] at hk
        have hsd' : s ≠ d:=fun e=>by rw [e,Nat.beq_refl] at hsd; simp at hsd
        obtain ⟨hdn,hdW⟩:=hn d hd
        have hsl:=h.sl s
        rw [hl] at hsl
        obtain ⟨u0,vs,e1,h1,h2⟩:=hsl
        have hx:a.eval x = .tuple (u0::vs).toArray:=(resSlot_ok h hs).trans e1
        refine tail_does hA hg hd (by rw [h.s]; exact hdn) trivial (does_pure (v:=u0) (R:=fun v _=>v = u0) (by simp only [execOp,hop,hx]; simp [Instr.extract]) rfl) fun a' k' hsz hdf hoth hgr hv=>?_
        have hv:a'.get d = u0:=hv
        have hg1:=Rk.grow h1 hgr
        have H:=h.moveTo (x:=κ.av w) (y:=.tq l) hsd' hdW (by rw [hl]; rfl) hsz hdf hoth ((Rk.av_is hsd.2).2 (by rw [hv]; exact hg1.1)) (fun _=>Rk.av_ment) (fun b hb=>by
          rw [hv,Rk.av_fp hsd.2,hg1.2] at hb
          rw [hl,e1]; exact hb) ⟨u0,vs,(hoth s hsd').trans e1,h2.le hgr.le⟩ (fun _=>rfl) rfl hgr
        refine hQ _ a' k' hk ?_
        unfold reTq
        split
        · rename_i t
          split
          · rename_i s' hlt
            cases htd:Nat.beq t d with
            | true=>exact H
            | false =>
              have htd' : t ≠ d:=fun e=>by rw [e,Nat.beq_refl] at htd; simp at htd
              have hts:t ≠ s:=fun e=>by rw [e,hl] at hlt; simp at hlt
              refine H.know ?_ rfl (fun _=>rfl) ⟨u0,vs,(hoth t htd').trans hx,h2.le hgr.le⟩
              rw [lk_cons,if_neg (Ne.symm htd'),lk_cons,if_neg (Ne.symm hts),lk_mapE rfl,hlt]
              simp only [klA]
              cases Nat.beq s' d
              · simp only [cond_false]
                cases Nat.beq s' s <;> rfl
              · rfl
          · exact H
        · exact H
      · exact simple d hd hk
    · exact simple d hd hk
  · -- buildSlice
    rename_i ty m ps d hop hd
    split at hk
    · exact simple d hd hk
    · rename_i hm0
      split at hk
      · rename_i t el xs hb
        obtain ⟨h1,h2,h3,h4,h5⟩:=bslice_ok hb
        refine fresh d hd hk (fun _=>rfl) (does_imp (ok_buildSliceO (ps:=ps.toList) (B:=k.w.heap.size) (by rw [hop]) h1 h2 (Nat.le_refl _) h3 (Nat.pos_of_ne_zero fun e=>hm0 e) h4 (h5 a a k fun y _=>is1 y)) fun v k' _ hb=>⟨fun _=>hb.weaken (Nat.zero_le _),fun b hb'=>(hb.lt b hb').1⟩)
      · simp at hk
  · -- makeSlice
    rename_i ty lx cx d hop hd
    split at hk
    · rename_i n el hn hel
      split at hk
      · rename_i t ht
        cases hb:(sameTmp lx cx && elB C.P T el t && zeroB C.P T el t) with
        | false=>rw [hb] at hk; simp at hk
        | true =>
          rw [hb] at hk
          simp only [cond_true] at hk
          simp only [Bool.and_eq_true] at hb
          obtain ⟨⟨h1,h2⟩,h3⟩:=hb
          obtain ⟨r,hr,hk⟩:=bind_some hk
          obtain ⟨i,z,cs,hi,hz,hcs,_,hrep,_⟩:=zeroB_ok h3
          have hev:a.eval cx = a.eval lx:=by
            cases lx <;> cases cx <;> simp only [sameTmp] at h1 <;> first | (rw [Nat.eq_of_beq_eq_true h1]) | simp at h1
          have hlv:a.eval lx = .int .i64 n:=isV_int.1 (asI_is hn (is1 lx))
          refine fresh d hd hk (fun _=>rfl) (does_imp (ok_makeSliceO (B:=k.w.heap.size) hop (slOf_ok hel) (elB_ok h2) hi hz (by rw [hcs]; exact hrep k) (Nat.le_refl _) hlv (hev.trans hlv) hr) fun v k' _ hb=>⟨fun _=>hb.weaken (Nat.zero_le _),fun b hb'=>(hb.lt b hb').1⟩)
      · simp at hk
    · simp at hk
  · -- a call
    rename_i c d hop hd
    obtain ⟨cal,as_,ts⟩:=c
    dsimp only at hk
    split at hk
    · split at hk
      · rename_i x y ty ty' hx hty
        obtain rfl:=arr2 hx
        obtain rfl:=arr2 hty
        cases hb:Nat.beq ty ty' with
        | false=>rw [hb] at hk; simp at hk
        | true =>
          rw [hb] at hk; simp only [cond_true] at hk
          obtain rfl:=Nat.eq_of_beq_eq_true hb
          split at hk
          · rename_i el t ys hel hl
            have hy:=asL_is hl (is1 y) (opv_ment h.inv) (fun s _=>h.sl s)
            cases hb:elB C.P T el t with
            | false=>rw [hb] at hk; simp at hk
            | true =>
              rw [hb] at hk; simp only [cond_true] at hk
              split at hk
              · rename_i s hs
                split at hk
                · rename_i el' t' xs hls
                  split at hk
                  · rename_i xs' hxs
                    obtain ⟨he,hxe⟩:=cast?_eq hxs
                    injection he with he
                    subst he
                    obtain rfl:xs' = xs:=hxe
                    cases hb2:Nat.beq el el' with
                    | false=>rw [hb2] at hk; simp at hk
                    | true =>
                      rw [hb2] at hk; simp only [cond_true] at hk
                      obtain rfl:=Nat.eq_of_beq_eq_true hb2
                      obtain ⟨z,hz,hk⟩:=bind_some hk
                      rw [mapK_eq] at hk
                      obtain ⟨hdn,hdW⟩:=hn d hd
                      have hsl:=h.sl s
                      rw [hls] at hsl
                      have hev:=resSlot_ok h hs
                      have hfp : ∀ b,obF (a.get s) b → (lk e s).fp (a.get s) k b:=by rw [hls]; exact fun b hb=>hb
                      refine tail_appendS hA hg hop hd (by rw [h.s]; exact hdn) (slOf_ok hel) (elB_ok hb) (by rw [hev]; exact hsl) hy hz fun a' k' hsz hdf hoth hc hown hob=>?_
                      rw [hev] at hc hob
                      have h1:=h.lose (s:=s) (by rw [hls]; rfl) hc hfp
                      obtain ⟨e', h2, h3, _⟩ := h1.put (av := .own false el t' z) hdW (Grow.refl k') hsz hdf hoth hown (fun s' hs' => by simp [AV.ment] at hs') (fun _ b hb => by
                          rcases hob b hb with hb | hb
                          · exact h.wr s (by rw [hls]; rfl) b (hfp b hb)
                          · exact .inr (Nat.le_trans h.g.size hb)) (fun t2 ht2 b hb hb'=>by
                          rw [lk_cons] at hb'
                          by_cases e1:s = t2
                          · rw [if_pos e1] at hb'; exact hb'
                          · rw [if_neg e1, lk_mapE rfl] at hb'
                            rcases klA_or s (lk e t2) with e2 | e2
                            · rw [e2, AV.fp_keep _ hc (fun b hb => (h.lt s b (hfp b hb)).2) (fun b hb hb' => h.ap s t2 e1 b (hfp b hb') hb) (h.sl t2)] at hb'
                              rcases hob b hb with hb | hb
                              · exact h.ap s t2 e1 b (hfp b hb) hb'
                              · have:=(h.lt t2 b hb').1; omega
                            · rw [e2] at hb'; exact hb') hk
                      exact hQ e' a' k' h2 h3
                  · simp at hk
                · simp at hk
              · split at hk
                · rename_i hres
                  obtain ⟨z,hz,hk⟩:=bind_some hk
                  have hx0:=res_is (is1 x) (opv_ment h.inv) (fun s _=>h.sl s)
                  rw [hres] at hx0
                  exact fresh d hd hk (fun _=>rfl) (does_imp (ok_append0 (B:=k.w.heap.size) hop (slOf_ok hel) (elB_ok hb) (Nat.le_refl _) hx0 hy hz) fun v k' _ hb=>⟨fun _=>hb.weaken (Nat.zero_le _),fun b hb'=>(hb.lt b hb').1⟩)
                · simp at hk
          · simp at hk
      · simp at hk
    · rename_i f
      split at hk
      · rename_i q hq
        have hf:=hC.rdeps f q (rdepU_some hq)
        exact callR_ok (as_:=as_.toList) hC h hA hg hn hf (by simp [execOp,hop,resolve,invoke,Deferred.ofValue,Act.eval,hf.call]; apply Array.ext'; simp) (by rw [hd]; exact hk) hQ
      · exact simple d hd hk
    · rename_i s
      split at hk
      · rename_i f s' hl
        split at hk
        · rename_i q hq
          have hf:=hC.rdeps f q hq
          have hs:=h.sl s
          rw [hl] at hs
          exact callR_ok (as_:=.tmp s'::as_.toList) hC h hA hg hn hf (by
            have e1:a.eval (.tmp s) = .func (.func f) #[a.get s'] #[]:=hs
            have e2:a.eval (.tmp s') = a.get s':=rfl
            simp [execOp,hop,resolve,invoke,Deferred.ofValue,e1,e2,hf.call]) (by rw [hd]; exact hk) hQ
        · simp at hk
      · exact simple d hd hk
    · exact simple d hd hk
  · -- a call without results
    rename_i c hop hd
    obtain ⟨cal,as_,ts⟩:=c
    dsimp only at hk
    split at hk
    · rename_i f
      split at hk
      · rename_i q hq
        have hf:=hC.rdeps f q (rdepU_some hq)
        exact callR_ok (as_:=as_.toList) hC h hA hg hn hf (by simp [execOp,hop,resolve,invoke,Deferred.ofValue,Act.eval,hf.call]; apply Array.ext'; simp) (by rw [hd]; exact hk) hQ
      · simp at hk
    · rename_i s
      split at hk
      · rename_i f s' hl
        split at hk
        · rename_i q hq
          have hf:=hC.rdeps f q hq
          have hs:=h.sl s
          rw [hl] at hs
          exact callR_ok (as_:=.tmp s'::as_.toList) hC h hA hg hn hf (by
            have e1:a.eval (.tmp s) = .func (.func f) #[a.get s'] #[]:=hs
            have e2:a.eval (.tmp s') = a.get s':=rfl
            simp [execOp,hop,resolve,invoke,Deferred.ofValue,e1,e2,hf.call]) (by rw [hd]; exact hk) hQ
        · simp at hk
      · simp at hk
    · simp at hk
  · exact simple _ (by assumption) hk
  · simp at hk
end
end Go.Gb

/- General part of the proofs: regions. -/
namespace Go.Gb
variable {T:Tb} {R:Type}
section
variable {C:Cx T} {F:FP} {k0:K} {W:List Nat} {a0:Act} {A:Array Oper} {Q:Exit → Act → World → Prop}

theorem Hl.lit {n:Nat} {e:Env T} {a:Act} {k:K} (h:Hl n F k0 W a0 e a k) {c:Nat} {m:Bool} (hm:asB (lk e c) = some m):Hl n F k0 W a0 ((c,.v .bool m)::e) a k:=by
  have hnr:isRes (lk e c) = false:=by
    generalize lk e c = av at hm
    cases av with
    | v t x=>rfl
    | _=>simp [asB] at hm
  have lkt : ∀ t,lk ((c,AV.v (T:=T) .bool m)::e) t = if c = t then .v .bool m else lk e t:=fun t=>lk_cons _ _ _ _
  have hres : ∀ t,isRes (lk ((c,AV.v (T:=T) .bool m)::e) t) = isRes (lk e t):=fun t=>by
    rw [lkt]; split
    · rename_i h1; subst h1; rw [hnr]; rfl
    · rfl
  have hfp : ∀ t b,(lk ((c,AV.v (T:=T) .bool m)::e) t).fp (a.get t) k b → (lk e t).fp (a.get t) k b:=fun t b hb=>by
    rw [lkt] at hb; split at hb
    · exact hb.elim
    · exact hb
  refine ⟨h.g,h.s,h.d,h.old,fun t=>?_,fun t s hs=>?_,fun t ht=>?_,fun t t' hne b hb hb'=>h.ap t t' hne b (hfp t b hb) (hfp t' b hb'),h.gl⟩
  · rw [lkt]; split
    · rename_i h1; subst h1; exact asB_is hm (h.sl c)
    · exact h.sl t
  · rw [lkt] at hs; split at hs
    · simp [AV.ment] at hs
    · rw [hres]; exact h.inv t s hs
  · rw [lkt] at ht ⊢; split at ht
    · simp [unl] at ht
    · rename_i h1; rw [if_neg h1]; exact h.wr t ht
theorem set_at {A:Array Oper} {i:Nat} {o:Oper} (h:i < A.size) (j:Nat):(A.setIfInBounds i o)[j]? = if i = j then some o else A[j]?:=by
  rw [Array.getElem?_setIfInBounds]; split <;> simp_all
theorem wpOps_congr {A' : Array Oper} (hd : ∀ j:Nat,(A[j]?).bind (fun o:Oper=>o.dst) = (A'[j]?).bind (fun o:Oper=>o.dst)) : ∀ {rest:List Nat} {a:Act} {w:World},(∀ j ∈ rest,A[j]? = A'[j]?) → wpOps C.P A Q rest a w → wpOps C.P A' Q rest a w
  | [],_,_,_,h=>h
  | i :: rest, a, w, hr, h => by
    have hy : ∀ tm,yielded A tm = yielded A' tm:=fun tm=>by funext j; unfold yielded; rw [hd]
    rw [wpOps_cons] at h ⊢
    have h2:wpOp C.P A Q i (wpOps C.P A' Q rest) a w:=wpOp_mono (fun a w h=>wpOps_congr hd (fun j hj=>hr j (by simp [hj])) h) h
    unfold wpOp at h2 ⊢
    rw [← hr i (by simp),← hy]
    exact h2
/-- an operation that is wanted, as if it were without a guard -/
theorem wpOps_wanted {i:Nat} {rest:List Nat} {o:Oper} {a:Act} {w:World} (hA:nth A.toList i = some o) (hr:i ∉ rest) (hw:Region.wanted o (yielded A a.tmps) = true)
    (h:wpOps C.P (A.setIfInBounds i { o with guard:=none }) Q (i::rest) a w):wpOps C.P A Q (i::rest) a w:=by
  have hAi:A[i]? = some o:=by rw [← nth_toList]; exact hA
  have hlt:i < A.size:=(Array.getElem?_eq_some_iff.1 hAi).1
  have hd : ∀ j:Nat,((A.setIfInBounds i { o with guard:=none })[j]?).bind (fun o:Oper=>o.dst) = (A[j]?).bind (fun o:Oper=>o.dst):=fun j=>by
    rw [set_at hlt]
    split
    · rename_i e; subst e; rw [hAi]; rfl
    · rfl
  rw [wpOps_cons] at h ⊢
  have h2:=wpOp_mono (K':=wpOps C.P A Q rest) (fun a w h=>wpOps_congr hd (fun j hj=>by
    rw [set_at hlt,if_neg (fun e1:i = j=>hr (e1 ▸ hj))]) h) h
  unfold wpOp at h2 ⊢
  rw [hAi]
  rw [set_at hlt,if_pos rfl] at h2
  dsimp only at h2 ⊢
  rw [if_pos hw]
  rw [if_pos (by rfl)] at h2
  exact h2
theorem skip_ok {o:Oper} {i:Nat} {rest:List Nat} {e:Env T} {a:Act} {k:K} {K:Env T → Option R} {r:R} (h:Hl C.n F k0 W a0 e a k) (hA:nth A.toList i = some o) (hw:Region.wanted o (yielded A a.tmps) = false)
    (hn : ∀ d, o.dst = some d → d < C.n ∧ d ∈ W) (hk : skipO e o K = some r) (hQ : ∀ e' a' k', K e' = some r → Hl C.n F k0 W a0 e' a' k' → wpOps C.P A Q rest a' k'.w) : wpOps C.P A Q (i :: rest) a k.w := by
  have hAi:A[i]? = some o:=by rw [← nth_toList]; exact hA
  rw [wpOps_cons]
  unfold wpOp
  rw [hAi]
  dsimp only
  rw [if_neg (by rw [hw]; simp)]
  unfold skipO at hk
  cases hd:o.dst with
  | none =>
    rw [hd] at hk
    exact hQ e a k hk h
  | some d =>
    rw [hd] at hk
    obtain ⟨hdn,hdW⟩:=hn d hd
    obtain ⟨e', h1, h2, _, _⟩ := h.put (d := d) (av := .top) (a' := a.put (some d) undef) hdW (Grow.refl k) (put_size _ _ _) (put_defers' _ _ _) (fun t ht => by rw [get_put _ _ _ _ (by rw [h.s]; exact hdn), if_neg (Ne.symm ht)]) trivial (fun s hs => by simp [AV.ment] at hs) (fun hu => by simp [unl] at hu) (fun t _ b hb => hb.elim) hk
    exact hQ e' _ k h1 h2
theorem yield_get {a:Act} {c:Nat} {m:Bool} (h:a.get c = .bool m):(match (some c).bind (a.tmps[·]?) with | some (.bool b)=>some b | _=>none) = some m:=by
  have h1:a.tmps[c]? = some (.bool m):=by
    unfold Act.get at h
    rw [Array.getD_eq_getD_getElem?] at h
    cases h2:a.tmps[c]? with
    | none=>rw [h2] at h; simp [undef] at h
    | some v=>rw [h2] at h; simp at h; rw [h]
  simp [h1]
theorem step2_guard {e:Env T} {o:Oper} {K:Env T → Option R}:step2 C e { o with guard:=none } K = step2 C e o K:=rfl
theorem ev2_ok (hC:CxOk C) : ∀ {l pre:List Oper} {e:Env T} {a:Act} {k:K} {K:Env T → Option R} {r:R},A.toList = pre ++ l → (∀ o ∈ l,∀ d,o.dst = some d → d ∈ W) → Hl C.n F k0 W a0 e a k → ev2 C A.toList (ixs pre.length l) e K = some r →
    (∀ e' a' k', K e' = some r → Hl C.n F k0 W a0 e' a' k' → Q .normal a' k'.w) → wpOps C.P A Q (List.range' pre.length l.length) a k.w
  | [], pre, e, a, k, K, r, hA, hW, h, hk, hQ => by
    simp only [ixs,ev2] at hk
    exact hQ e a k hk h
  | o :: l, pre, e, a, k, K, r, hA, hW, h, hk, hQ => by
    simp only [ixs,ev2] at hk
    have hnth:nth A.toList pre.length = some o:=by rw [hA]; exact nth_at
    have hnr:pre.length ∉ List.range' (pre.length + 1) l.length:=fun hm=>by
      have:=(List.mem_range'_1.1 hm).1; omega
    -- the rest
    have more : ∀ e' a' k', ev2 C A.toList (ixs (pre.length + 1) l) e' K = some r → Hl C.n F k0 W a0 e' a' k' → wpOps C.P A Q (List.range' (pre.length + 1) l.length) a' k'.w := fun e' a' k' hk' h' => by
      have:=ev2_ok hC (l:=l) (pre:=pre ++ [o]) (e:=e') (a:=a') (k:=k') (K:=K) (r:=r) (by rw [hA]; simp) (fun o' ho'=>hW o' (by simp [ho'])) h' (by simpa using hk') hQ
      simpa using this
    rw [List.length_cons,List.range'_succ]
    split at hk
    · rename_i hg hd
      obtain ⟨e1,k1,h1,h2,h3⟩:=frz_ok h hk
      rw [← h2]
      refine step2_ok hC h3 hnth hg (fun d hd'=>⟨?_,hW o (by simp) d hd'⟩) h1 fun e' a' k' hk' h'=>more e' a' k' hk' h'
      rw [hd'] at hd
      simp only [Nat.blt_eq] at hd
      exact hd
    · rename_i j w hg hd
      have hdn : ∀ d,o.dst = some d → d < C.n∧d ∈ W:=fun d hd'=>⟨by rw [hd'] at hd; simpa using hd,hW o (by simp) d hd'⟩
      split at hk
      rotate_left
      · simp at hk
      rename_i c hc
      split at hk
      rotate_left
      · simp at hk
      rename_i m hm
      have hcv:a.get c = .bool m:=isV_bool.1 (asB_is hm (h.sl c))
      have hy:yielded A a.tmps j = some m:=by
        unfold yielded
        unfold dstOf at hc
        rw [nth_toList] at hc
        rw [hc]
        exact yield_get hcv
      have run : ∀ w', w = w' → m = w' → (frz ((c, .v .bool w') :: e) (frzOps C ((c, .v .bool w') :: e) o) fun e' => step2 C e' o fun e'' => ev2 C A.toList (ixs (pre.length + 1) l) e'' K) = some r → wpOps C.P A Q (pre.length :: List.range' (pre.length + 1) l.length) a k.w := by
        rintro w' rfl rfl hk
        refine wpOps_wanted hnth hnr (by unfold Region.wanted; rw [hg]; simp [hy]) ?_
        have hAi:A[pre.length]? = some o:=by rw [← nth_toList]; exact hnth
        have hlt:pre.length < A.size:=(Array.getElem?_eq_some_iff.1 hAi).1
        obtain ⟨e1,k1,h1,h2,h3⟩:=frz_ok (h.lit hm) hk
        rw [← h2]
        refine step2_ok (o:={ o with guard:=none }) hC h3 (by rw [nth_toList,set_at hlt,if_pos rfl]) rfl hdn (by rw [step2_guard]; exact h1) fun e' a' k' hk' h'=>?_
        refine wpOps_congr (A:=A) (fun jj=>?_) (fun jj hj=>?_) (more e' a' k' hk' h')
        · rw [set_at hlt]
          split
          · rename_i e; subst e; rw [hAi]; rfl
          · rfl
        · rw [set_at hlt,if_neg (fun e1:pre.length = jj=>hnr (e1 ▸ hj))]
      have skip : ∀ w', w = !w' → m = w' → (skipO ((c, .v .bool w') :: e) o fun e'' => ev2 C A.toList (ixs (pre.length + 1) l) e'' K) = some r → wpOps C.P A Q (pre.length :: List.range' (pre.length + 1) l.length) a k.w := by
        rintro w' rfl rfl hk
        exact skip_ok (h.lit hm) hnth (by unfold Region.wanted; rw [hg]; simp [hy]) hdn hk fun e' a' k' hk' h'=>more e' a' k' hk' h'
      cases w with
      | true =>
        cases m with
        | true=>exact run true rfl rfl (by simpa using hk)
        | false=>exact skip false rfl rfl (by simpa using hk)
      | false =>
        cases m with
        | true=>exact skip true rfl rfl (by simpa using hk)
        | false=>exact run false rfl rfl (by simpa using hk)
    · simp at hk

theorem chk2_congr {n:Nat} {ops0:List Oper} {ms:List Nat} : ∀ {ops:List Oper} {es es' : List Ent} {i:Nat},es.map (·.need) = es'.map (·.need) → chk2 n ops0 ms i ops es = chk2 n ops0 ms i ops es'
  | [],_,_,_,_=>by simp [chk2]
  | o::ops,[],[],i,_=>rfl
  | o::ops,[],_::_,i,h=>by simp at h
  | o::ops,_::_,[],i,h=>by simp at h
  | o :: ops, x :: es, y :: es', i, h => by
    simp only [List.map_cons,List.cons.injEq] at h
    simp only [chk2,chk2_congr h.2]
    congr 1
    unfold chkOp
    rw [h.1]
theorem chkS_congr {n m:Nat} {ops:List Oper} {es es' : List Ent} (h:es.map (·.need) = es'.map (·.need)):chkS n m ops es = chkS n m ops es':=by
  have hl:es.length = es'.length:=by simpa using congrArg List.length h
  unfold chkS
  rw [hl,chk2_congr h]
theorem chk_congr {n m:Nat} {ops:List Oper} {es es' : List Ent} (h:es.map (·.need) = es'.map (·.need)):chk n m ops es = chk n m ops es':=by
  unfold chk
  rw [chkS_congr h]
theorem esOf_need {l:List Oper}:(esOf l).map (·.need) = needs [] l:=by simp [esOf,List.map_map,Function.comp_def]

theorem allI_of {α:Type} {f:Nat → α → Bool} : ∀ {l:List α} {i:Nat},(∀ j x,nth l j = some x → f (i + j) x = true) → allI f i l = true
  | [],_,_=>rfl
  | x :: l, i, h => by
    simp only [allI,Bool.and_eq_true]
    exact ⟨h 0 x rfl,allI_of fun j y hy=>by have:=h (j + 1) y hy; rwa [show i + (j + 1) = i + 1 + j by omega] at this⟩

/-- what is known when the first part of a region has run -/
theorem post_hl {e0 e:Env T} {a:Act} {k:K} {ak:Act} {kk:K} {pre l:List Oper} {es:List Ent} (h0:Hl C.n F k0 W a0 e0 ak kk) (hW : ∀ o ∈ pre,∀ d,o.dst = some d → d ∈ W)
    (p:P1 e0 ak pre es e) (q:Post (pre ++ l) es pre.length ak kk a k):Hl C.n F k0 W a0 e a k:=by
  have old : ∀ t,lastIdx t pre 0 none = none → a.get t = ak.get t:=by
    intro t ht
    refine q.old t (allI_of fun j o ho=>?_)
    simp only [Nat.zero_add,Bool.or_eq_true,decide_eq_true_eq,bne_iff_ne]
    by_cases hj:j < pre.length
    · refine .inr ((lastIdx_none ht).2 o ?_)
      rw [nth_eq,List.getElem?_append_left hj] at ho
      exact List.mem_of_getElem? ho
    · exact .inl (by omega)
  have resOld : ∀ t,isRes (lk e t) = true → lk e t = lk e0 t∧a.get t = ak.get t:=by
    intro t ht
    have h1:=p.res t ht
    have h2:=p.slot t
    rw [h1] at h2
    exact ⟨h2,old t h1⟩
  have fpOld : ∀ t b,(lk e t).fp (a.get t) k b → (lk e0 t).fp (ak.get t) kk b:=by
    intro t b hb
    cases hr:isRes (lk e t) with
    | false=>exact absurd hb (fp_nonres hr _ _ b)
    | true =>
      obtain ⟨h1,h2⟩:=resOld t hr
      rw [h1,h2,AV.fp_grow _ q.grow (h0.sl t)] at hb; exact hb
  refine ⟨h0.g.then q.grow,q.size.trans h0.s,q.defers.trans h0.d,fun t ht=>?_,fun t=>?_,p.inv,fun t ht=>?_,fun t t' hne b hb hb'=>h0.ap t t' hne b (fpOld t b hb) (fpOld t' b hb'),h0.gl.le q.grow.le⟩
  · rw [← h0.old t ht]
    refine old t ?_
    cases hl:lastIdx t pre 0 none with
    | none=>rfl
    | some j =>
      rcases lastIdx_spec hl with h1 | ⟨o,_,h1,h2⟩
      · simp at h1
      · rw [nth_eq] at h1
        exact absurd (hW o (List.mem_of_getElem? h1) t h2) ht
  · have key : (lk e t).is ak (a.get t) k := by
      have h1:=p.slot t
      cases hl:lastIdx t pre 0 none with
      | none =>
        rw [hl] at h1
        dsimp only at h1
        rw [h1,old t hl]
        exact (lk e0 t).mono q.grow (h0.sl t)
      | some j =>
        rw [hl] at h1
        obtain ⟨Rr,nd,h2,h3⟩:=h1
        rcases h3 with h3 | ⟨R', rfl, h3⟩
        · rw [h3]; trivial
        · rcases lastIdx_spec hl with h4 | ⟨o, _, h4, h5⟩
          · simp at h4
          · have hj := nth_lt h4
            exact h3 _ _ (q.val j t R' nd (by simpa using hj) (by rw [nth_app (show nth pre j = some o by simpa using h4)]; exact h5) h2)
    refine (lk e t).congr (fun s hs=>?_) key
    exact (resOld s (p.inv t s hs)).2
  · obtain ⟨h1, h2⟩ := resOld t (unl_res ht)
    rw [h1] at ht ⊢
    rw [h2,AV.fp_grow _ q.grow (h0.sl t)]; exact h0.wr t ht

theorem Hl.grow {n:Nat} {a:Act} {e:Env T} {k k' : K} (h:Hl n F k0 W a0 e a k) (hg:Grow k k'):Hl n F k0 W a0 e a k':=
  ⟨h.g.then hg,h.s,h.d,h.old,fun t=>(lk e t).mono hg (h.sl t),h.inv,fun t ht=>by rw [AV.fp_grow _ hg (h.sl t)]; exact h.wr t ht,fun t t' hne=>by rw [AV.fp_grow _ hg (h.sl t),AV.fp_grow _ hg (h.sl t')]; exact h.ap t t' hne,h.gl.le hg.le⟩
/-- A box is told of again. -/
theorem Hl.addBox {n:Nat} {a:Act} {e:Env T} {k:K} (h:Hl n F k0 W a0 e a k) {s b:Nat} {t:Tp} {z:T.D t} (hs:lk e s = .top) (hb:a.get s = .pointer (some ⟨b,0,none⟩)) (hz:Box b z k)
    (hw : Wr F k0 (Eq b)) (ha : ∀ t', t' ≠ s → Apart (Eq b) ((lk e t').fp (a.get t') k)) : Hl n F k0 W a0 ((s, .box false t z) :: e) a k := by
  have lks:lk ((s,AV.box false t z)::e) s = .box false t z:=by rw [lk_cons,if_pos rfl]
  have lkt : ∀ t', t' ≠ s → lk ((s, AV.box false t z) :: e) t' = lk e t' := fun t' ht => by rw [lk_cons, if_neg (Ne.symm ht)]
  have hfp : ∀ c,(AV.box (T:=T) false t z).fp (a.get s) k c → b = c:=fun c hc=>by
    have:a.get s = .pointer (some ⟨c,0,none⟩):=hc
    rw [hb] at this; simpa using this
  refine ⟨h.g,h.s,h.d,h.old,fun t'=>?_,fun t' u hu=>?_,fun t' hu=>?_,fun t1 t2 hne c hc hc'=>?_,h.gl⟩
  · by_cases ht : t' = s
    · subst ht; rw [lks]; exact ⟨b,hb,hz⟩
    · rw [lkt t' ht]; exact h.sl t'
  · by_cases ht : t' = s
    · subst ht; rw [lks] at hu; simp [AV.ment] at hu
    · rw [lkt t' ht] at hu
      have h1:=h.inv t' u hu
      have h2 : u ≠ s := fun e' => by rw [e', hs] at h1; simp [isRes] at h1
      rw [lkt u h2]; exact h1
  · by_cases ht : t' = s
    · subst ht; rw [lks]; exact fun c hc=>hw c (hfp c hc)
    · rw [lkt t' ht] at hu ⊢; exact h.wr t' hu
  · by_cases h1 : t1 = s
    · subst h1
      rw [lks] at hc; rw [lkt t2 (Ne.symm hne)] at hc'
      exact ha t2 (Ne.symm hne) c (hfp c hc) hc'
    · rw [lkt t1 h1] at hc
      by_cases h2:t2 = s
      · subst h2
        rw [lks] at hc'
        exact ha t1 h1 c (hfp c hc') hc
      · rw [lkt t2 h2] at hc'
        exact h.ap t1 t2 hne c hc hc'
theorem stAt_spec : ∀ {l:List Oper} {i m:Nat} {o:Oper},stAt l i = some (m,o) → i ≤ m∧nth l (m - i) = some o
  | [],_,_,_,h=>by simp [stAt] at h
  | x :: l, i, m, o, h => by
    simp only [stAt] at h
    split at h
    · simp only [Option.some.injEq, Prod.mk.injEq] at h
      obtain ⟨rfl,rfl⟩:=h
      exact ⟨Nat.le_refl _,by simp [nth]⟩
    · obtain ⟨h1, h2⟩ := stAt_spec h
      exact ⟨by omega,by rw [show m - i = (m - (i + 1)) + 1 by omega]; exact h2⟩
theorem stPtr_spec {ops:List Oper} {m s pt:Nat} {t u:Tp} {L:Lens T t u} (h:stPtr C ops m s pt t = some ⟨u,L⟩):L.ok∧((pt = s∧L.off = 0) ∨
    ∃ j o st f,lastIdx pt (ops.take m) 0 none = some j∧nth ops j = some o∧o.op = .fieldAddr st (.tmp s) f∧o.guard = none∧hasBit (masks ops []) m j = true∧fldOff C.P st f = some L.off):=by
  unfold stPtr at h
  cases hb:Nat.beq pt s with
  | true =>
    rw [hb] at h
    simp only [cond_true] at h
    cases hn:notDst pt ops with
    | false=>rw [hn] at h; simp at h
    | true =>
      rw [hn] at h
      simp only [cond_true,Option.some.injEq,Sigma.mk.injEq] at h
      obtain ⟨rfl,h⟩:=h
      obtain rfl:=eq_of_heq h
      exact ⟨Lens.id_ok,.inl ⟨Nat.eq_of_beq_eq_true hb,rfl⟩⟩
  | false =>
    rw [hb] at h
    simp only [cond_false] at h
    split at h
    rotate_left
    · simp at h
    rename_i j hj
    split at h
    rotate_left
    · simp at h
    rename_i o ho
    split at h
    rotate_left
    · simp at h
    rename_i st s' f hop hgd
    cases hc:(Nat.beq s s' && hasBit (masks ops []) m j) with
    | false=>rw [hc] at h; simp at h
    | true=>
    rw [hc] at h
    simp only [cond_true] at h
    rw [Bool.and_eq_true] at hc
    obtain rfl:=Nat.eq_of_beq_eq_true hc.1
    unfold fldL at h
    split at h
    rotate_left
    · simp at h
    rename_i n
    split at h
    rotate_left
    · simp at h
    rename_i off w L' hoff hfl
    cases hb2:Nat.beq L'.off off with
    | false=>rw [hb2] at h; simp at h
    | true=>
    rw [hb2] at h
    simp only [cond_true,Option.some.injEq,Sigma.mk.injEq] at h
    obtain ⟨rfl,h⟩:=h
    obtain rfl:=eq_of_heq h
    obtain rfl:=Nat.eq_of_beq_eq_true hb2
    exact ⟨flens_ok hfl,.inr ⟨j,o,st,f,hj,ho,hop,hgd,hc.2,hoff⟩⟩
theorem evX_ok (hC:CxOk C) {id:Nat} {e:Env T} {a:Act} {k:K} {K:Env T → Option R} {r:R} (hW : ∀ o ∈ A.toList,∀ d,o.dst = some d → d ∈ W) (h:Hl C.n F k0 W a0 e a k) (hk:evX C A.toList e K = some r)
    (hQ : ∀ e' a' k', K e' = some r → Hl C.n F k0 W a0 e' a' k' → Q .normal a' k'.w) : (Code.region id A true).wp C.P Q a k.w := by
  unfold evX at hk
  split at hk
  rotate_left
  · simp at hk
  rename_i m o hst
  split at hk
  rotate_left
  · simp at hk
  rename_i ty pt y hop hdst hgd
  split at hk
  rotate_left
  · simp at hk
  rename_i t x0 hls
  split at hk
  rotate_left
  · simp at hk
  rename_i u L hptr
  generalize hsdef:stSlot A.toList m pt = s at hk hls hptr
  cases c4:notDst s A.toList with
  | false=>rw [c4] at hk; simp at hk
  | true=>
  rw [c4] at hk
  simp only [Bool.not_true,cond_false] at hk
  obtain ⟨hL,hpt⟩:=stPtr_spec hptr
  obtain ⟨_,hno⟩:=stAt_spec hst
  simp only [Nat.sub_zero] at hno
  rw [mapK_eq] at hk
  have hsl:=h.sl s
  rw [hls] at hsl
  obtain ⟨b,hb,hbx⟩:=hsl
  have hunl:unl (lk e s) = true:=by rw [hls]; rfl
  have hfps : ∀ (kx:Gb.K) c,b = c → (lk e s).fp (a.get s) kx c:=fun kx c hc=>by rw [hls]; subst hc; exact hb
  have hnsh : ∀ c,b = c → ¬ k.sh c:=fun c hc=>(h.lt s c (hfps _ c hc)).2
  generalize he0:(s,AV.top)::mapE (klA s) e = e0 at hk
  have hl0:lk e0 s = .top:=by rw [← he0,lk_cons,if_pos rfl]
  have hlt : ∀ t', t' ≠ s → lk e0 t' = klA s (lk e t') := fun t' ht => by rw [← he0, lk_cons, if_neg (Ne.symm ht), lk_mapE rfl]
  have hide : ∀ k1 k2,Grow k k1 → Chg (Eq b) k1 k2 → Hl C.n F k0 W a0 e0 a k2:=fun k1 k2 g c=>by
    rw [← he0]; exact (h.grow g).lose hunl c (hfps _)
  have hh0:Hl C.n F k0 W a0 e0 a k:=hide k k (Grow.refl k) (Chg.refl _ k)
  have p0:P1 e0 a [] [] e0:=⟨rfl,fun t=>rfl,fun t _=>rfl,hh0.inv⟩
  obtain ⟨cs,rest,es,e1,h1,h2,_,h4,h5,h6,h7,h8,h9⟩:=ev1_ok (n:=C.n) (F:=F) (kk:=k0) (W:=W) (aa:=a0) hC (bH:=b) (B:=0) A.toList (fun s' hs'=>by injection hs' with hs'; subst hs'; exact ⟨hb,c4⟩) (A.toList.length + 1) R none [] A.toList [] e0 _ r [] (by simp) p0 (fun es' o ho=>by unfold GuardIs; rw [ho]) hk
  simp only [List.nil_append] at h5 h6 h7
  cases rest with
  | nil=>simp [ixs] at h5
  | cons o1 rest=>
  simp only [ixs] at h5
  have hlen:A.toList.length - ((cs.length,o1)::ixs (cs.length + 1) rest).length = cs.length:=by
    have:(ixs (cs.length + 1) rest).length = rest.length:=by rw [← List.length_map (f:=(·.2)),ixs_map]
    rw [List.length_cons,this,h1]; simp
  rw [hlen] at h5
  cases hc:(Nat.beq cs.length m && chkS C.n m A.toList (esOf (A.toList.take m)) && chkB m A.toList && needSt m A.toList y && tyB C.P T ty u) with
  | false=>rw [hc] at h5; simp at h5
  | true=>
  rw [hc] at h5
  simp only [cond_true] at h5
  simp only [Bool.and_eq_true] at hc
  obtain ⟨⟨⟨⟨c1,c2⟩,c3⟩,c5⟩,c6⟩:=hc
  obtain rfl:=Nat.eq_of_beq_eq_true c1
  have ho1:o1 = o:=by
    rw [h1,nth_at,Option.some.injEq] at hno; exact hno
  subst ho1
  split at h5
  rotate_left
  · simp at h5
  rename_i z hz
  have htake:A.toList.take cs.length = cs:=by rw [h1,List.take_left']; rfl
  have hneed:(esOf cs).map (·.need) = es.map (·.need):=by rw [esOf_need,h4]
  rw [htake,chkS_congr hneed] at c2
  have hmA:cs.length < A.size:=by
    have:A.size = (cs ++ o1::rest).length:=by rw [← h1]; simp
    rw [this]; simp
  have hsz:A.size - (cs.length + 1) = rest.length:=by
    have:A.size = (cs ++ o1::rest).length:=by rw [← h1]; simp
    rw [this]; simp; omega
  have hst' : ∀ kb,Hl C.n F k0 W a0 e0 a kb → Steps C.P es a kb (A.toList.take cs.length) es:=fun kb hkb=>by
    rw [htake]
    have:=h7 kb hkb (Nat.zero_le _) []
    simpa using this
  have hl1:lk e1 s = .top:=by
    have:=h6.slot s
    rw [notDst_last (rest:=o1::rest) (by rw [← h1]; exact c4)] at this
    exact (show lk e1 s = lk e0 s from this).trans hl0
  refine wp_region_any hC.mix ?_
  let kd:Gb.K:=⟨{ k.w with drawn:=k.w.drawn + 1 },k.sh,k.lt⟩
  have hg:Grow k kd:=⟨rfl,rfl,rfl,Nat.le_refl _,fun _ _=>rfl,fun _ h=>h,fun _ _ h=>h,Nat.le_succ _⟩
  have hF : ∀ j,(Array.replicate A.size false).getD j false = true → False:=by
    intro j hj; simp [Array.getD_eq_getD_getElem?,Array.getElem?_replicate] at hj; split at hj <;> simp at hj
  have hwr:Wr F k0 (Eq b):=fun c hc=>h.wr s hunl c (hfps _ c hc)
  refine any_st (B := fun kb => Hl C.n F k0 W a0 e0 a kb ∧ Box b (L.set x0 z) kb ∧ ∀ t', t' ≠ s → (lk e t').fp (a.get t') kb = (lk e t').fp (a.get t') k) (k0 := k) h.s c2 hmA c3 (hst' k hh0) (fun kb hkb => hst' kb hkb.1) trivial ?_ ?_ A.size _ a kd (by simp) (by simp) (fun j hj => (hF j hj).elim) (.inl ⟨?_, ?_⟩)
  · -- the store
    intro a' k' D hD hinv hbind C' hC'
    have hk' : Hl C.n F k0 W a0 e a k':=h.grow hinv.grow
    have hs' : a'.get s = a.get s:=hinv.rest s fun i o' _ ho'=>notDst_spec c4 i o' ho'
    have hyv:IsV (α:=T.D u) z (a'.eval y) k':=by
      refine asT_is (a:=a) hz (opv_is (e:=e1) ?_)
      cases y with
      | tmp yt =>
        have h9:=h6.slot yt
        simp only [needSt,htake] at c5
        cases hli:lastIdx yt cs 0 none with
        | none =>
          rw [hli] at h9 c5
          have hu:a'.get yt = a.get yt:=hinv.rest yt fun i o' _ ho'=>notDst_spec c5 i o' ho'
          refine ⟨?_,fun _=>hu⟩
          rw [hu,show lk e1 yt = lk e0 yt from h9]
          exact (lk e0 yt).mono hinv.grow (hh0.sl yt)
        | some j =>
          rw [hli] at h9 c5
          have hDj:D j:=hasBit_spec (L:=A.toList) (D:=D) hinv.closed (j:=cs.length) (i:=j) (fun o' ho'=>hbind o' ho') c5
          obtain ⟨Rr,nd,h10,h11⟩:=h9
          refine ⟨?_,fun hr=>by rw [h6.res yt hr] at hli; simp at hli⟩
          rcases h11 with h11 | ⟨R', rfl, h11⟩
          · rw [h11]; trivial
          · rcases lastIdx_spec hli with h12 | ⟨oj, _, h12, h13⟩
            · simp at h12
            · have hnj : nth A.toList j = some oj := by rw [h1]; exact nth_app (by simpa using h12)
              exact h11 _ _ (hinv.vals j oj yt _ hDj hnj h13 h10)
      | const v=>trivial
      | global g=>simp [needSt] at c5
      | func g=>simp [needSt] at c5
    have hpv:IsAdr b L.off (a'.eval (.tmp pt)) k':=by
      rcases hpt with ⟨rfl,hoff⟩ | ⟨j,oj,st,f,hj,hoj,hopj,hgj,hbit,hfo⟩
      · rw [hoff]; exact hs'.trans hb
      · rw [htake] at hj
        have hDj:D j:=hasBit_spec (L:=A.toList) (D:=D) hinv.closed (j:=cs.length) (i:=j) (fun o' ho'=>hbind o' ho') hbit
        rcases lastIdx_spec hj with h12 | ⟨o2,_,h12,h13⟩
        · simp at h12
        · simp only [Nat.sub_zero] at h12
          have hnj:nth A.toList j = some o2:=by rw [h1]; exact nth_app h12
          rw [hoj,Option.some.injEq] at hnj
          subst hnj
          obtain ⟨nd,hen⟩:=h9 rfl j oj (.adr L.off) h12 hgj (by simp [hidO,hopj,hfo,Nat.beq_refl])
          exact hinv.vals j oj pt _ hDj hoj h13 hen
    have hw:wpOps C.P A (fun ex a w=>match ex with | .normal=>C' a w | _=>False) [cs.length] a' k'.w:=by
      refine tail_storeB (set:=L.set) (x:=x0) (z:=z) (b:=b) (off:=L.off) hno hgd hop hdst (tyB_sz c6) hL.2.1 hpv (hbx.grow hinv.grow) hyv fun k1 hch hbz=>?_
      show wpOps C.P A _ [] a' k1.w
      simp only [wpOps]
      refine hC' k1 k1 ⟨hide k' k1 hinv.grow hch,hbz,fun t' ht'=>(AV.fp_keep _ hch (fun c hc=>((h.grow hinv.grow).lt s c (hfps _ c hc)).2) (fun c hc hc'=>(h.grow hinv.grow).ap s t' (Ne.symm ht') c (hfps _ c hc') hc) ((h.grow hinv.grow).sl t')).trans (AV.fp_grow _ hinv.grow (h.sl t'))⟩ ⟨Grow.refl k1,hinv.size,hinv.defers,fun i oi d en hDi hoi hd hen=>?_,hinv.rest,hinv.closed,hinv.mem⟩
      have hv:=hinv.vals i oi d en hDi hoi hd hen
      obtain ⟨Rr,nd⟩:=en
      cases Rr with
      | none=>exact hv
      | some Rr =>
        have hmem:(⟨some Rr,nd⟩:Ent) ∈ es:=by rw [nth_eq] at hen; exact List.mem_of_getElem? hen
        rcases h8 _ hmem Rr rfl with ⟨av,rfl,hav1,hav2⟩ | ⟨ox,yx,hox,rfl⟩
        rotate_left
        · cases yx with
          | adr off=>exact hv
          | box t=>obtain ⟨_,_,h20,_⟩:=hidO_box hox; simp at h20
        refine av.keep hch (fun c hc=>(hk'.lt s c (hfps _ c hc)).2) (fun c hc=>absurd hc (fp_nonres hav1 _ _ c)) (fun s' hs' u hu hui c hc hc'=>?_) hv
        have h14:=hav2 s' (AV.ment2_ment hs')
        have hne : s' ≠ s := fun e' => by rw [e', hl0] at h14; simp [isRes] at h14
        rw [hlt s' hne] at h14
        have h15:isRes (lk e s') = true:=by
          rcases klA_or s (lk e s') with h16 | h16
          · rw [h16] at h14; exact h14
          · rw [h16] at h14; simp [isRes] at h14
        exact hk'.apm h15 hne hu hui c hc (hfps _ c hc')
    rw [wpOps_cons] at hw
    have hw2:wpOp C.P A (fun ex a w=>match ex with | .normal=>C' a w | _=>False) cs.length C' a' k'.w:=wpOp_mono (fun a2 w2 h2=>by simpa [wpOps] using h2) hw
    unfold wpOp at hw2 ⊢
    have hAo:A[cs.length]? = some o1:=by rw [← nth_toList]; exact hno
    rw [hAo] at hw2 ⊢
    dsimp only at hw2 ⊢
    split at hw2
    · rename_i hwant
      rw [if_pos hwant]
      rcases hw2 with hw2 | hw2
      · left
        unfold Oper.wp at *
        generalize (execOp a'.eval o1).run C.P k'.w = res at *
        cases res with
        | ok nx w'=>cases nx <;> simp only [Oper.upon] at hw2 ⊢ <;> first | exact hw2 | (refine Calls.mono hw2 fun ee w2 he=>?_; cases ee <;> first | exact he | exact he.elim | (obtain ⟨_,_,hb'⟩:=he; exact hb'.elim)) | (exact Rows.mono hw2 fun _ _ he=>he)
        | halt x w'=>cases x <;> simp only [Oper.upon] at hw2 ⊢ <;> first | exact hw2 | exact hw2.elim
      · obtain ⟨_,_,_,hb'⟩:=hw2; exact hb'.elim
    · rename_i hwant
      rw [if_neg hwant]; exact hw2
  · -- behind
    intro kb hkb a' k' hinv
    have hp:Post A.toList es cs.length a kb a' k':=Post.of hinv
    have hs' : a'.get s = a.get s:=hinv.rest s fun i o' _ ho'=>notDst_spec c4 i o' ho'
    have hp2:=hp
    rw [h1] at hp2
    have hh:=post_hl hkb.1 (fun o hoc=>hW o (by rw [h1]; simp [hoc])) h6 hp2
    have hh2:=hh.addBox (b:=b) (z:=L.set x0 z) hl1 (hs'.trans hb) (hkb.2.1.grow hinv.grow) hwr fun t' ht c hc hc'=>by
      cases hr:isRes (lk e1 t') with
      | false=>exact absurd hc' (fp_nonres hr _ _ c)
      | true =>
        have h9:=h6.res t' hr
        have h10:=h6.slot t'
        rw [h9] at h10
        have h11:lk e1 t' = lk e0 t':=h10
        have h12:a'.get t' = a.get t':=hinv.rest t' fun i o' hi ho' hd=>by
          have h13:=(lastIdx_none h9).2 o' (by
            rw [h1,nth_eq,List.getElem?_append_left hi] at ho'
            exact List.mem_of_getElem? ho')
          exact h13 hd
        rw [h11,h12,hlt t' ht] at hc'
        have h13:(lk e t').fp (a.get t') k c:=by
          rcases klA_or s (lk e t') with h16 | h16
          · have hslb : (lk e t').is a (a.get t') kb := by have := hkb.1.sl t'; rw [hlt t' ht, h16] at this; exact this
            rw [h16,AV.fp_grow _ hinv.grow hslb,hkb.2.2 t' ht] at hc'; exact hc'
          · rw [h16] at hc'; exact hc'.elim
        exact h.ap s t' (Ne.symm ht) c (hfps _ c hc) h13
    rw [hsz]
    have:=ev2_ok hC (A:=A) (Q:=Q) (l:=rest) (pre:=cs ++ [o1]) (e:=(s,.box false t (L.set x0 z))::e1) (a:=a') (k:=k') (r:=r) (by rw [h1]; simp) (fun o hor=>hW o (by rw [h1]; simp [hor])) hh2 (by simpa using h5) (fun e' a2 k2 hk2 h'=>by
      obtain ⟨e2,k3,g1,g2,g3⟩:=shareK_ok h' hk2
      rw [← g2]
      exact hQ e2 a2 k3 g1 g3)
    simpa using this
  · cases hx : (Array.replicate A.size false).getD cs.length false with
    | false=>rfl
    | true=>exact (hF _ hx).elim
  · exact ⟨hg,rfl,rfl,fun i o d e hi=>(hF i hi).elim,fun _ _=>rfl,fun j o _ hj=>(hF j hj).elim,fun i hi=>(hF i hi).elim⟩

theorem fp_sub {a:Act} {k:K} {x u:AV T} {v:Value} (hr:isRes x = true) (hsl:x.is a v k) (hu:isOB u = true) (hui:u.is a v k) : ∀ b,u.fp v k b → x.fp v k b:=by
  intro b hb
  cases u with
  | own l e' t xs => cases x with
    | own l' e'' t' xs'=>exact hb
    | box l' t' x'=>obtain ⟨c,rfl,_⟩:=hsl; simp [AV.fp,obF,ob] at hb
    | rs l' m z =>
      obtain ⟨F,h1⟩:=hsl
      show Rk.fp T (.c m) v k b
      rw [rp_fp h1]
      exact T.RProot _ _ _ _ _ _ h1 (.inr hb)
    | tr lf κ z l' =>
      obtain ⟨u,vs,rfl,_⟩:=hsl
      simp [AV.fp,obF,ob] at hb
    | _=>simp [isRes] at hr
  | box l t y => cases x with
    | own l' e'' t' xs' =>
      obtain ⟨c,rfl,_⟩:=hui
      rcases (show IsOwn 0 e'' xs' _ k from hsl) with ⟨e1,_⟩ | ⟨_,e1,_⟩ | ⟨_,_,_,_,_,e1,_⟩ <;> simp at e1
    | box l' t' x'=>exact hb
    | rs l' m z =>
      obtain ⟨F,h1⟩:=hsl
      show Rk.fp T (.c m) v k b
      rw [rp_fp h1]
      exact T.RProot _ _ _ _ _ _ h1 (.inl hb)
    | tr lf κ z l' =>
      obtain ⟨u,vs,rfl,_⟩:=hsl
      obtain ⟨c,e,_⟩:=hui
      simp at e
    | _=>simp [isRes] at hr
  | _=>simp [isOB] at hu
/-- Something is changed that no slot has for its own. -/
theorem Hl.away {n:Nat} {a:Act} {e:Env T} {k k' : K} {G:FP} (h:Hl n F k0 W a0 e a k) (c:Chg G k k') (hn : ∀ b,G b → ¬ k.sh b) (hw:Wr F k0 G) (ha : ∀ t,Apart ((lk e t).fp (a.get t) k) G):Hl n F k0 W a0 e a k':=
  have fpk : ∀ t,(lk e t).fp (a.get t) k' = (lk e t).fp (a.get t) k:=fun t=>AV.fp_keep _ c hn (ha t) (h.sl t)
  ⟨h.g.step c hw,h.s,h.d,h.old,fun t=>(lk e t).keep c hn (ha t) (fun s hs u hu hui b hb hb'=>
      ha s b (fp_sub (h.inv t s (AV.ment2_ment hs)) (h.sl s) hu hui b hb) hb') (h.sl t),h.inv,fun t ht=>by rw [fpk]; exact h.wr t ht,fun t t' hne=>by rw [fpk,fpk]; exact h.ap t t' hne,h.gl.le (c.le hn)⟩
theorem onlyDst_spec {s j:Nat} {ops:List Oper} (h:onlyDst s j ops = true) : ∀ i o,i ≠ j → nth ops i = some o → o.dst ≠ some s:=by
  intro i o hi ho hd
  have:=allI_spec h i o ho
  simp only [Nat.zero_add,hd,Bool.or_eq_true] at this
  rcases this with h1 | h1
  · exact hi (Nat.eq_of_beq_eq_true h1)
  · simp [Nat.beq_refl] at h1
theorem evN_ok (hC:CxOk C) {id:Nat} {e:Env T} {a:Act} {k:K} {K:Env T → Option R} {r:R} (hW : ∀ o ∈ A.toList,∀ d,o.dst = some d → d ∈ W) (h:Hl C.n F k0 W a0 e a k) (hk:evN C A.toList e K = some r)
    (hQ : ∀ e' a' k', K e' = some r → Hl C.n F k0 W a0 e' a' k' → Q .normal a' k'.w) : (Code.region id A true).wp C.P Q a k.w := by
  unfold evN at hk
  split at hk
  rotate_left
  · simp at hk
  rename_i m o hst
  split at hk
  rotate_left
  · simp at hk
  rename_i ty pt y hop hdst hgd
  split at hk
  rotate_left
  · simp at hk
  rename_i ja hja
  split at hk
  rotate_left
  · simp at hk
  rename_i oa hoa
  split at hk
  rotate_left
  · simp at hk
  rename_i tya hopa hgda
  split at hk
  rotate_left
  · simp at hk
  rename_i t htid
  obtain ⟨_,hno⟩:=stAt_spec hst
  simp only [Nat.sub_zero] at hno
  have p0:P1 e a [] [] e:=⟨rfl,fun t=>rfl,fun t _=>rfl,h.inv⟩
  obtain ⟨cs,rest,es,e1,h1,h2,_,h4,h5,h6,h7,h8,h9⟩:=ev1_ok (n:=C.n) (F:=F) (kk:=k0) (W:=W) (aa:=a0) hC (bH:=0) (B:=k.w.heap.size) A.toList (fun s' hs'=>by simp at hs') (A.toList.length + 1) R none [] A.toList [] e _ r [] (by simp) p0 (fun es' o ho=>by unfold GuardIs; rw [ho]) hk
  simp only [List.nil_append] at h5 h6 h7
  cases rest with
  | nil=>simp [ixs] at h5
  | cons o1 rest=>
  simp only [ixs] at h5
  have hlen:A.toList.length - ((cs.length,o1)::ixs (cs.length + 1) rest).length = cs.length:=by
    have:(ixs (cs.length + 1) rest).length = rest.length:=by rw [← List.length_map (f:=(·.2)),ixs_map]
    rw [List.length_cons,this,h1]; simp
  rw [hlen] at h5
  cases hc:(Nat.beq cs.length m && chkS C.n m A.toList (esOf (A.toList.take m)) && chkC m (lateL m A.toList) A.toList && lateOk m (lateL m A.toList) A.toList.toArray && hasBit (masks A.toList []) m ja && onlyDst pt ja A.toList && needSt m A.toList y && tyB C.P T ty t && zeroB C.P T tya t && isTop (lk e1 pt) && !(isRes (lk e pt))) with
  | false=>rw [hc] at h5; simp at h5
  | true=>
  rw [hc] at h5
  simp only [cond_true] at h5
  simp only [Bool.and_eq_true,Bool.not_eq_true'] at hc
  obtain ⟨⟨⟨⟨⟨⟨⟨⟨⟨⟨c1,c2⟩,c3⟩,c11⟩,c4⟩,c7⟩,c5⟩,c6⟩,c8⟩,c9⟩,c10⟩:=hc
  rw [Array.toArray_toList] at c11
  obtain rfl:=Nat.eq_of_beq_eq_true c1
  have ho1:o1 = o:=by
    rw [h1,nth_at,Option.some.injEq] at hno; exact hno
  subst ho1
  split at h5
  rotate_left
  · simp at h5
  rename_i z hz
  have htake:A.toList.take cs.length = cs:=by rw [h1,List.take_left']; rfl
  have hneed:(esOf cs).map (·.need) = es.map (·.need):=by rw [esOf_need,h4]
  rw [htake,chkS_congr hneed] at c2
  rw [htake] at hja
  have hmA:cs.length < A.size:=by
    have:A.size = (cs ++ o1::rest).length:=by rw [← h1]; simp
    rw [this]; simp
  have hsz:A.size - (cs.length + 1) = rest.length:=by
    have:A.size = (cs ++ o1::rest).length:=by rw [← h1]; simp
    rw [this]; simp; omega
  have hst' : ∀ kb,Hl C.n F k0 W a0 e a kb → k.w.heap.size ≤ kb.w.heap.size → Steps C.P es a kb (A.toList.take cs.length) es:=fun kb hkb hkz=>by
    rw [htake]
    have:=h7 kb hkb hkz []
    simpa using this
  have hl1:lk e1 pt = .top:=by
    cases hlt:lk e1 pt <;> rw [hlt] at c9 <;> first | rfl | simp [isTop] at c9
  -- the operation that makes the box
  obtain ⟨hjl,hdpt,nda,hea⟩:nth cs ja = some oa∧oa.dst = some pt∧∃ nd,nth es ja = some ⟨some (IsBoxS (T.D t) k.w.heap.size),nd⟩:=by
    rcases lastIdx_spec hja with h12 | ⟨o2,_,h12,h13⟩
    · simp at h12
    · simp only [Nat.sub_zero] at h12
      have hnj:nth A.toList ja = some o2:=by rw [h1]; exact nth_app h12
      rw [hoa,Option.some.injEq] at hnj
      subst hnj
      refine ⟨h12,h13,?_⟩
      exact h9 rfl ja oa (.box t) h12 hgda (by simp [hidO,hopa,h13,Nat.beq_refl,c8])
  refine wp_mono (Q:=QN Q) ?_ (fun e a w h=>by cases e <;> first | exact h | exact h.elim)
  refine wp_region_any hC.mix ?_
  let kd:Gb.K:=⟨{ k.w with drawn:=k.w.drawn + 1 },k.sh,k.lt⟩
  have hg:Grow k kd:=⟨rfl,rfl,rfl,Nat.le_refl _,fun _ _=>rfl,fun _ h=>h,fun _ _ h=>h,Nat.le_succ _⟩
  have hF : ∀ j,(Array.replicate A.size false).getD j false = true → False:=by
    intro j hj; simp [Array.getD_eq_getD_getElem?,Array.getElem?_replicate] at hj; split at hj <;> simp at hj
  -- what the new box's block is to the rest
  have hwr : ∀ b,k.w.heap.size ≤ b → Wr F k0 (Eq b):=fun b hb c hc=>by subst hc; exact .inr (Nat.le_trans h.g.size hb)
  have hap : ∀ b, k.w.heap.size ≤ b → ∀ t', Apart ((lk e t').fp (a.get t') k) (Eq b) := fun b hb t' c hc hc' => by
    subst hc'
    have:=(h.lt t' b hc).1
    omega
  refine any_stP (pt := pt) (ja := ja) (B := fun kb u => ∃ b, u = .pointer (some ⟨b, 0, none⟩) ∧ k.w.heap.size ≤ b ∧ k.w.heap.size ≤ kb.w.heap.size ∧ Hl C.n F k0 W a0 e a kb ∧ Box b z kb ∧ ∀ t', (lk e t').fp (a.get t') kb = (lk e t').fp (a.get t') k) (k0 := k) (fun i o' hi ho' => onlyDst_spec c7 i o' hi ho') c4 h.s c2 hmA c3 c11 (fun _ _ _ h => h) (hst' k h (Nat.le_refl _)) (fun kb u ⟨b, _, _, hkz, hkb, _, _⟩ => hst' kb hkb hkz) trivial ?_ ?_ A.size _ a kd (by simp) (by simp) (fun j hj => (hF j hj).elim) (.inl ⟨?_, ?_⟩)
  · -- the store
    intro a' k' D hD hinv hbind C' hC'
    have hk' : Hl C.n F k0 W a0 e a k':=h.grow hinv.grow
    obtain ⟨x,b,hpv,hsb,hbx⟩:IsBoxS (T.D t) k.w.heap.size (a'.get pt) k':=by
      have hDj:D ja:=hasBit_spec (L:=A.toList) (D:=D) hinv.closed (j:=cs.length) (i:=ja) (fun o' ho'=>hbind o' ho') c4
      exact hinv.vals ja oa pt _ hDj hoa hdpt hea
    have hyv:IsV (α:=T.D t) z (a'.eval y) k':=by
      refine asT_is (a:=a) hz (opv_is (e:=e1) ?_)
      cases y with
      | tmp yt =>
        have h9:=h6.slot yt
        simp only [needSt,htake] at c5
        cases hli:lastIdx yt cs 0 none with
        | none =>
          rw [hli] at h9 c5
          have hu:a'.get yt = a.get yt:=hinv.rest yt fun i o' _ ho'=>notDst_spec c5 i o' ho'
          refine ⟨?_,fun _=>hu⟩
          rw [hu,show lk e1 yt = lk e yt from h9]
          exact (lk e yt).mono hinv.grow (h.sl yt)
        | some j =>
          rw [hli] at h9 c5
          have hDj:D j:=hasBit_spec (L:=A.toList) (D:=D) hinv.closed (j:=cs.length) (i:=j) (fun o' ho'=>hbind o' ho') c5
          obtain ⟨Rr,nd,h10,h11⟩:=h9
          refine ⟨?_,fun hr=>by rw [h6.res yt hr] at hli; simp at hli⟩
          rcases h11 with h11 | ⟨R', rfl, h11⟩
          · rw [h11]; trivial
          · rcases lastIdx_spec hli with h12 | ⟨oj, _, h12, h13⟩
            · simp at h12
            · have hnj : nth A.toList j = some oj := by rw [h1]; exact nth_app (by simpa using h12)
              exact h11 _ _ (hinv.vals j oj yt _ hDj hnj h13 h10)
      | const v=>trivial
      | global g=>simp [needSt] at c5
      | func g=>simp [needSt] at c5
    have hw:wpOps C.P A (fun ex a w=>match ex with | .normal=>C' a w | _=>False) [cs.length] a' k'.w:=by
      refine tail_storeB (set:=fun _ y=>y) (x:=x) (z:=z) (b:=b) (off:=0) hno hgd hop hdst (tyB_sz c6) Upd.self (show IsAdr b 0 (a'.eval (.tmp pt)) k' from hpv) hbx hyv fun k1 hch hbz=>?_
      show wpOps C.P A _ [] a' k1.w
      simp only [wpOps]
      have hnsh : ∀ c,b = c → ¬ k'.sh c:=fun c hc=>hbx.nshF c hc
      refine hC' k1 k1 ⟨b,hpv,hsb,Nat.le_trans hinv.grow.size hch.size,hk'.away hch hnsh (hwr b hsb) (fun t'=>by rw [AV.fp_grow _ hinv.grow (h.sl t')]; exact hap b hsb t'),hbz,fun t'=>(AV.fp_keep _ hch hnsh (by rw [AV.fp_grow _ hinv.grow (h.sl t')]; exact hap b hsb t') (hk'.sl t')).trans (AV.fp_grow _ hinv.grow (h.sl t'))⟩ ⟨Grow.refl k1,hinv.size,hinv.defers,fun i oi d en hDi hoi hd hen=>?_,hinv.rest,hinv.closed,hinv.mem⟩
      have hv:=hinv.vals i oi d en hDi hoi hd hen
      obtain ⟨Rr,nd⟩:=en
      cases Rr with
      | none=>exact hv
      | some Rr =>
        have hmem:(⟨some Rr,nd⟩:Ent) ∈ es:=by rw [nth_eq] at hen; exact List.mem_of_getElem? hen
        rcases h8 _ hmem Rr rfl with ⟨av,rfl,hav1,hav2⟩ | ⟨ox,yx,hox,rfl⟩
        rotate_left
        · cases yx with
          | adr off=>exact hv
          | box t2 =>
            obtain ⟨_,_,h20,_⟩:=hidO_box hox
            injection h20 with h21 h22
            subst h22
            obtain ⟨x2,b2,hp2,hs2,hb2⟩:=hv
            by_cases hbb:b2 = b
            · subst hbb; exact ⟨z,b2,hp2,hs2,hbz⟩
            · exact ⟨x2,b2,hp2,hs2,hb2.keep hch (fun e'=>hbb e'.symm) hnsh⟩
        refine av.keep hch hnsh (fun c hc=>absurd hc (fp_nonres hav1 _ _ c)) (fun s' hs' u hu hui c hc hc'=>?_) hv
        have h14:=hav2 s' (AV.ment2_ment hs')
        subst hc'
        have h15:=fp_sub h14 (hk'.sl s') hu hui b hc
        rw [AV.fp_grow _ hinv.grow (h.sl s')] at h15
        have:=(h.lt s' b h15).1
        omega
    rw [wpOps_cons] at hw
    have hw2:wpOp C.P A (fun ex a w=>match ex with | .normal=>C' a w | _=>False) cs.length C' a' k'.w:=wpOp_mono (fun a2 w2 h2=>by simpa [wpOps] using h2) hw
    unfold wpOp at hw2 ⊢
    have hAo:A[cs.length]? = some o1:=by rw [← nth_toList]; exact hno
    rw [hAo] at hw2 ⊢
    dsimp only at hw2 ⊢
    split at hw2
    · rename_i hwant
      rw [if_pos hwant]
      rcases hw2 with hw2 | hw2
      · left
        unfold Oper.wp at *
        generalize (execOp a'.eval o1).run C.P k'.w = res at *
        cases res with
        | ok nx w'=>cases nx <;> simp only [Oper.upon] at hw2 ⊢ <;> first | exact hw2 | (refine Calls.mono hw2 fun ee w2 he=>?_; cases ee <;> first | exact he | exact he.elim | (obtain ⟨_,_,hb'⟩:=he; exact hb'.elim)) | (exact Rows.mono hw2 fun _ _ he=>he)
        | halt x w'=>cases x <;> simp only [Oper.upon] at hw2 ⊢ <;> first | exact hw2 | exact hw2.elim
      · obtain ⟨_,_,_,hb'⟩:=hw2; exact hb'.elim
    · rename_i hwant
      rw [if_neg hwant]; exact hw2
  · -- behind
    intro kb a' k' ⟨b,hpv,hsb,hkz,hkb,hbz,hfk⟩ hinv
    have hp:Post A.toList es cs.length a kb a' k':=Post.of hinv
    have hp2:=hp
    rw [h1] at hp2
    have hh:=post_hl hkb (fun o hoc=>hW o (by rw [h1]; simp [hoc])) h6 hp2
    have hh2:=hh.addBox (b:=b) (z:=z) hl1 hpv (hbz.grow hinv.grow) (hwr b hsb) fun t' ht c hc hc'=>by
      subst hc
      cases hr:isRes (lk e1 t') with
      | false=>exact absurd hc' (fp_nonres hr _ _ b)
      | true =>
        have h9:=h6.res t' hr
        have h10:=h6.slot t'
        rw [h9] at h10
        have h11:lk e1 t' = lk e t':=h10
        have h12:a'.get t' = a.get t':=hinv.rest t' fun i o' hi ho' hd=>by
          have h13:=(lastIdx_none h9).2 o' (by
            rw [h1,nth_eq,List.getElem?_append_left hi] at ho'
            exact List.mem_of_getElem? ho')
          exact h13 hd
        rw [h11,h12,AV.fp_grow _ hinv.grow (hkb.sl t'),hfk t'] at hc'
        exact hap b hsb t' b hc' rfl
    rw [hsz]
    have:=ev2_ok hC (A:=A) (Q:=QN Q) (l:=rest) (pre:=cs ++ [o1]) (e:=(pt,.box false t z)::e1) (a:=a') (k:=k') (r:=r) (by rw [h1]; simp) (fun o hor=>hW o (by rw [h1]; simp [hor])) hh2 (by simpa using h5) (fun e' a2 k2 hk2 h'=>by
      obtain ⟨e2,k3,g1,g2,g3⟩:=shareK_ok h' hk2
      rw [← g2]
      exact hQ e2 a2 k3 g1 g3)
    simpa using this
  · cases hx : (Array.replicate A.size false).getD cs.length false with
    | false=>rfl
    | true=>exact (hF _ hx).elim
  · exact ⟨hg,rfl,rfl,fun i o d e hi=>(hF i hi).elim,fun _ _=>rfl,fun j o _ hj=>(hF j hj).elim,fun i hi=>(hF i hi).elim⟩

theorem Grow.fresh {k k1 k2:K} {b:Nat} (g:Grow k k1) (c:Chg (Eq b) k1 k2) (hb:k.w.heap.size ≤ b):Grow k k2 where
  tape:=c.tape.trans g.tape
  os:=c.os.trans g.os
  out:=c.out.trans g.out
  size:=Nat.le_trans g.size c.size
  blk i hi:=(c.blk i (Nat.lt_of_lt_of_le hi g.size) (fun e=>by omega)).trans (g.blk i hi)
  up i hi:=c.up i (g.up i hi)
  new i hi hs:=(c.new i (Nat.lt_of_lt_of_le hi g.size) hs).elim (fun h=>g.new i hi h) fun e=>by omega
  drawn:=Nat.le_trans g.drawn c.drawn
theorem evT_cases {ops:List Oper} {l:List Oper} {m:Nat} {e:Env T} {K:Env T → Option R} {r:R} (h:evT C ops (ixs m l) e K = some r) :
    (∃ oa os d t z,l = [oa,os]∧rawAS C e oa os = some (d,⟨t,z⟩)∧put e d (.box false t z) K = some r) ∨ (ev2 C ops (ixs m l) e fun e''=>shareK C ops e'' K) = some r:=by
  match l,h with
  | [oa, os], h =>
    simp only [ixs,evT] at h
    cases hr:rawAS C e oa os with
    | none=>rw [hr] at h; exact .inr h
    | some x =>
      obtain ⟨d,t,z⟩:=x
      rw [hr] at h
      exact .inl ⟨oa,os,d,t,z,rfl,hr,h⟩
  | [],h=>exact .inr h
  | [_],h=>exact .inr h
  | _::_::_::_,h=>exact .inr h
theorem rawB_ok {P:Program} {ty:TypeId} {t:Tp} (h:rawB P T ty t = true):(T.e t).agg = true∧∃ z:Array Value,(∀ w,(zeroValue ty).run P w = .ok (.agg z) w)∧z.size = (T.e t).sz∧∀ u ∈ z.toList,u.oneCell' = true:=by
  unfold rawB at h
  split at h
  · rename_i i hi
    split at h
    · rename_i z hz
      simp only [Bool.and_eq_true,List.all_eq_true] at h
      exact ⟨h.1.1,z,fun w=>by simp [zeroValue,typeInfo,hi,hz],Nat.eq_of_beq_eq_true h.1.2,h.2⟩
    · simp at h
  · simp at h
theorem raw_ok {pre:List Oper} {oa os:Oper} {e:Env T} {a:Act} {k:K} {d:Nat} {t:Tp} {z:T.D t} {Kc:Env T → Option R} {r:R} (hA:A.toList = pre ++ [oa,os]) (hW : ∀ o ∈ [oa,os],∀ d,o.dst = some d → d ∈ W) (h:Hl C.n F k0 W a0 e a k)
    (hr : rawAS C e oa os = some (d, ⟨t, z⟩)) (hput : put e d (.box false t z) Kc = some r) (hQ : ∀ e' a' k', Kc e' = some r → Hl C.n F k0 W a0 e' a' k' → Q .normal a' k'.w) : wpOps C.P A Q (List.range' pre.length 2) a k.w := by
  unfold rawAS at hr
  split at hr
  · rename_i ty d0 ty' d' y ho1 hd1 hg1 ho2 hd2 hg2
    cases hb:(Nat.beq d' d0 && Nat.blt d0 C.n && !(sameTmp (.tmp d0) y)) with
    | false=>rw [hb] at hr; simp at hr
    | true =>
      rw [hb] at hr
      simp only [cond_true] at hr
      simp only [Bool.and_eq_true,Bool.not_eq_true'] at hb
      obtain ⟨⟨hb1,hb2⟩,hb3⟩:=hb
      obtain rfl:=Nat.eq_of_beq_eq_true hb1
      rw [Nat.blt_eq] at hb2
      split at hr
      · rename_i t0 ht0
        cases hc:(!(zeroB C.P T ty t0) && rawB C.P T ty t0 && tyB C.P T ty' t0) with
        | false=>rw [hc] at hr; simp at hr
        | true =>
          rw [hc] at hr
          simp only [cond_true] at hr
          simp only [Bool.and_eq_true] at hc
          split at hr
          · rename_i z0 hz0
            simp only [Option.some.injEq,Prod.mk.injEq] at hr
            obtain ⟨rfl,hr⟩:=hr
            injection hr with hr1 hr2
            subst hr1
            obtain rfl:=eq_of_heq hr2
            obtain ⟨hag,zc,hzr,hzs,hz1⟩:=rawB_ok hc.1.2
            have hA1:nth A.toList pre.length = some oa:=by rw [hA]; exact nth_at
            have hA2:nth A.toList (pre.length + 1) = some os:=by
              rw [hA,show pre ++ [oa,os] = (pre ++ [oa]) ++ [os] by simp,show pre.length + 1 = (pre ++ [oa]).length by simp]; exact nth_at
            have hv0:IsV z0 (a.eval y) k:=asT_is hz0 (opv_is (e:=e) (a0:=a) (by
              cases y with
              | tmp t=>exact ⟨h.sl t,fun _=>rfl⟩
              | global _=>exact h.gl
              | _=>trivial))
            show wpOps C.P A Q [pre.length,pre.length + 1] a k.w
            have hraw : ∀ k:Go.Gb.K,IsV (⟨zc.toList⟩:RawC (T.e t0).sz) (.agg zc) k:=fun k=>⟨zc.toList,by show Value.agg zc = .agg zc.toList.toArray; simp,rfl,by simpa using hzs,hz1⟩
            refine tail_does hA1 hg1 hd1 (by rw [h.s]; exact hb2) trivial (ok_alloc (x:=(⟨zc.toList⟩:RawC (T.e t0).sz)) k.w.heap.size (Nat.le_refl _) ho1 ⟨.agg zc,hzr,hraw⟩) fun a' k' hsz hdf hoth hgr hbx=>?_
            obtain ⟨b,hpb,hbs,hBx⟩:=hbx
            have hye:a'.eval y = a.eval y:=by
              cases y with
              | tmp t =>
                refine hoth t fun e1=>?_
                subst e1
                simp [sameTmp] at hb3
              | _=>rfl
            have hv1:IsV z0 (a'.eval y) k':=by rw [hye]; exact Mono.mono hgr hv0
            obtain ⟨cs,ecs,hrep⟩:=hv1
            refine tail_storeB (α:=RawC (T.e t0).sz) (β:=RawC (T.e t0).sz) (z:=⟨cs⟩) (b:=b) hA2 hg2 ho2 hd2 (tyB_sz hc.2) Upd.self ?_ hBx ⟨cs,?_,rfl,Enc.len hrep,Enc.one hrep⟩ fun k'' hch hz=>?_
            · show a'.get d' = _
              rw [hpb]
            · rw [ecs,hag]; rfl
            · have hle := hch.le (fun c e => e ▸ hBx.own)
              have hB:Box b z0 k'':=hz.unraw (Enc.mono hle hrep)
              obtain ⟨e', h1, h2⟩ := h.putFresh (d := d') (av := .box false t0 z0) (hW oa (by simp) _ hd1) (Grow.fresh hgr hch hbs) hsz hdf hoth ⟨b, hpb, hB⟩ (fun _ hm => by simp [AV.ment] at hm) (fun c hcf => by
                have:a'.get d' = .pointer (some ⟨c,0,none⟩):=hcf
                rw [hpb] at this
                simp only [Value.pointer.injEq,Option.some.injEq,Addr.mk.injEq,and_true] at this
                omega) hput
              exact hQ e' a' k'' h1 h2
          · simp at hr
      · simp at hr
  · simp at hr
theorem evR_ok (hC:CxOk C) {id:Nat} {draw:Bool} {e:Env T} {a:Act} {k:K} {K:Env T → Option R} {r:R} (hW : ∀ o ∈ A.toList,∀ d,o.dst = some d → d ∈ W) (h:Hl C.n F k0 W a0 e a k) (hk:evR C A.toList draw e K = some r)
    (hQ : ∀ e' a' k', K e' = some r → Hl C.n F k0 W a0 e' a' k' → Q .normal a' k'.w) : (Code.region id A draw).wp C.P Q a k.w := by
  unfold evR at hk
  cases hlate:(draw && (lateSt A.toList || (newSt A.toList && lateA A.toList))) with
  | true =>
    rw [hlate] at hk
    simp only [cond_true] at hk
    rw [Bool.and_eq_true] at hlate
    obtain rfl:=hlate.1
    cases hnw:newSt A.toList with
    | true=>rw [hnw] at hk; exact evN_ok hC hW h hk hQ
    | false=>rw [hnw] at hk; exact evX_ok hC hW h hk hQ
  | false=>
  rw [hlate] at hk
  simp only [cond_false] at hk
  have p0:P1 e a [] [] e:=⟨rfl,fun t=>rfl,fun t _=>rfl,h.inv⟩
  obtain ⟨cs,rest,es,e1,h1,h2,_,h4,h5,h6,h7,_⟩:=ev1_ok (n:=C.n) (F:=F) (kk:=k0) (W:=W) (aa:=a0) hC (bH:=0) (B:=0) A.toList (fun s hs=>by simp at hs) (A.toList.length + 1) R none [] A.toList [] e _ r [] (by simp) p0 (fun es' o ho=>by unfold GuardIs; rw [ho]) hk
  simp only [List.nil_append] at h5 h6 h7
  have hlen:A.toList.length - (ixs cs.length rest).length = cs.length:=by
    have:(ixs cs.length rest).length = rest.length:=by rw [← List.length_map (f:=(·.2)),ixs_map]
    rw [this,h1]; simp
  have htake:A.toList.take cs.length = cs:=by rw [h1,List.take_left']; rfl
  rw [hlen,htake] at h5
  have hneed:(esOf cs).map (·.need) = es.map (·.need):=by rw [esOf_need,h4]
  have hst:Steps C.P es a k (A.toList.take cs.length) es:=by
    rw [htake]
    have:=h7 k h (Nat.zero_le _) []
    simpa using this
  have hsz:A.size - cs.length = rest.length:=by
    have:A.size = (cs ++ rest).length:=by rw [← h1]; simp
    rw [this]; simp
  -- behind the first part
  have tail:evT C A.toList (ixs cs.length rest) e1 K = some r → ∀ b q,Post A.toList es cs.length a k b q → wpOps C.P A Q (List.range' cs.length (A.size - cs.length)) b q.w:=by
    intro hev b q hp
    rw [hsz]
    rw [h1] at hp
    have hh:=post_hl h (fun o ho=>hW o (by rw [h1]; simp [ho])) h6 hp
    rcases evT_cases hev with ⟨oa,os,d,t,z,rfl,hr,hput⟩ | hev
    · exact raw_ok h1 (fun o ho=>hW o (by rw [h1]; simp [ho])) hh hr hput hQ
    exact ev2_ok hC h1 (fun o ho=>hW o (by rw [h1]; simp [ho])) hh hev fun e' a' k' hk' h'=>by
      obtain ⟨e2,k2,g1,g2,g3⟩:=shareK_ok h' hk'
      rw [← g2]
      exact hQ e2 a' k2 g1 g3
  cases draw with
  | false =>
    simp only [cond_false] at h5
    rw [chkS_congr hneed] at h5
    cases hc:chkS C.n cs.length A.toList es with
    | false=>rw [hc] at h5; simp at h5
    | true =>
      rw [hc] at h5
      exact regionS es h.s hc hst trivial (tail h5)
  | true =>
    simp only [cond_true] at h5
    rw [chk_congr hneed] at h5
    cases hc:chk C.n cs.length A.toList es with
    | false=>rw [hc] at h5; simp at h5
    | true =>
      rw [hc] at h5
      exact region es hC.mix h.s hc hst trivial (tail h5)
end
end Go.Gb

/- General part of the proofs: environments over joins. -/
namespace Go.Gb
variable {T:Tb} {R:Type}

def lockE (W:List Nat) (e:Env T):Env T:=e.map fun p=>(p.1,bif W.contains p.1 then p.2 else lkA p.2)
theorem lockK_eq (W:List Nat) : ∀ (e:Env T) (k:Env T → Option R),lockK W e k = k (lockE W e)
  | [],_=>rfl
  | (t,a)::e,k=>by rw [lockK,lockK_eq W e]; rfl
theorem lk_lockE {W:List Nat} : ∀ (e:Env T) (t:Nat),lk (lockE W e) t = bif W.contains t then lk e t else lkA (lk e t)
  | [],t=>by show AV.top = _; cases W.contains t <;> rfl
  | (s, x) :: e, t => by
    show lk ((s,_)::lockE W e) t = _
    rw [lk_cons,lk_cons,lk_lockE e]
    split
    · rename_i h; subst h; rfl
    · rfl
def keepE (lock:Bool) (W Wd:List Nat):Env T → Env T
  | []=>[]
  | (t,a)::e=>bif W.contains t then keepE lock W Wd e else (t,bif Wd.contains t then a else keepA lock (W ++ Wd) a)::keepE lock W Wd e
theorem keepK_eq (lock:Bool) (W Wd:List Nat) : ∀ (e:Env T) (k:Env T → Option R),keepK lock W Wd e k = k (keepE lock W Wd e)
  | [],_=>rfl
  | (t,a)::e,k=>by rw [keepK,keepK_eq lock W Wd e]; rfl
theorem lk_keepE {lock:Bool} {W Wd:List Nat} : ∀ (e:Env T) (t:Nat),lk (keepE lock W Wd e) t = bif W.contains t then .top else bif Wd.contains t then lk e t else keepA lock (W ++ Wd) (lk e t)
  | [],t=>by show AV.top = _; cases W.contains t <;> cases Wd.contains t <;> rfl
  | (s, x) :: e, t => by
    simp only [keepE]
    cases hs:W.contains s with
    | true =>
      simp only [cond_true]
      rw [lk_keepE e,lk_cons]
      split
      · rename_i h; subst h; rw [hs]; rfl
      · rfl
    | false =>
      simp only [cond_false]
      rw [lk_cons,lk_cons,lk_keepE e]
      split
      · rename_i h; subst h; rw [hs]; rfl
      · rfl

theorem lkA_is {a:Act} {x:AV T} {v:Value} {k:K} (h:x.is a v k):(lkA x).is a v k:=by cases x <;> exact h
theorem lkA_fp {x:AV T} {v:Value} {k:K}:(lkA x).fp v k = x.fp v k:=by cases x <;> rfl
theorem lkA_res {x:AV T}:isRes (lkA x) = isRes x:=by cases x <;> rfl
theorem lkA_ment {x:AV T} {s:Nat}:(lkA x).ment s = x.ment s:=by cases x <;> rfl
theorem lkA_unl {x:AV T}:unl (lkA x) = false:=by cases x <;> rfl

/-- the blocks of some slots -/
def FU (e:Env T) (a:Act) (k:K) (L:List Nat):FP:=fun b=>∃ t,L.contains t = true∧unl (lk e t) = true∧(lk e t).fp (a.get t) k b

section
variable {n:Nat} {F:FP} {k0:K} {W:List Nat} {a0:Act} {e e' : Env T} {a a' : Act} {k k' : K}
theorem Hl.lock (h:Hl n F k0 W a0 e a k) (L Wc:List Nat):Hl n (FU e a k L) k Wc a (lockE L e) a k:=by
  have fpe : ∀ t,(lk (lockE L e) t).fp (a.get t) k = (lk e t).fp (a.get t) k:=fun t=>by
    rw [lk_lockE]; cases L.contains t
    · exact lkA_fp
    · rfl
  refine ⟨Chg.refl _ k,h.s,h.d,fun _ _=>rfl,fun t=>?_,fun t s hs=>?_,fun t ht=>?_,fun t t' hne=>by rw [fpe,fpe]; exact h.ap t t' hne,h.gl⟩
  · rw [lk_lockE]; cases L.contains t
    · exact lkA_is (h.sl t)
    · exact h.sl t
  · have h1 : (lk e t).ment s = true := by
      rw [lk_lockE] at hs
      cases hc:L.contains t <;> rw [hc] at hs
      · rwa [cond_false,lkA_ment] at hs
      · exact hs
    rw [lk_lockE]
    cases L.contains s
    · rw [cond_false,lkA_res]; exact h.inv t s h1
    · exact h.inv t s h1
  · rw [fpe]
    rw [lk_lockE] at ht
    cases hc:L.contains t <;> rw [hc] at ht
    · rw [cond_false,lkA_unl] at ht; simp at ht
    · exact fun b hb=>.inl ⟨t,hc,ht,hb⟩

theorem keepA_is {a:Act} {lock:Bool} {L:List Nat} {x:AV T} {v:Value} {k:K} (h:x.is a v k):(keepA lock L x).is a v k:=by
  cases x with
  | al s=>simp only [keepA]; cases L.contains s; exact h; trivial
  | mv f s=>simp only [keepA]; cases L.contains s; exact h; trivial
  | _=>first | exact h | trivial
theorem keepA_fp {lock:Bool} {L:List Nat} {x:AV T} {v:Value} {k:K} : ∀ b,(keepA lock L x).fp v k b → x.fp v k b:=by
  intro b hb
  cases x with
  | al s=>simp only [keepA] at hb; cases hc:L.contains s <;> rw [hc] at hb <;> exact hb
  | mv f s=>simp only [keepA] at hb; cases hc:L.contains s <;> rw [hc] at hb <;> exact hb
  | _=>exact hb
theorem keepA_ment2 {lock:Bool} {L:List Nat} {x:AV T} {s:Nat}:(keepA lock L x).ment2 s = false:=by
  cases x with
  | al s'=>simp only [keepA]; cases L.contains s' <;> rfl
  | mv f s'=>simp only [keepA]; cases L.contains s' <;> rfl
  | _=>rfl
theorem keepA_ment {lock:Bool} {L:List Nat} {x:AV T} {s:Nat} (h:(keepA lock L x).ment s = true):x.ment s = true∧L.contains s = false:=by
  cases x with
  | al s' =>
    simp only [keepA] at h
    cases hc:L.contains s' with
    | true=>rw [hc] at h; simp [AV.ment] at h
    | false =>
      rw [hc] at h
      have:s' = s:=Nat.eq_of_beq_eq_true h
      subst this
      exact ⟨h,hc⟩
  | mv f s' =>
    simp only [keepA] at h
    cases hc:L.contains s' with
    | true=>rw [hc] at h; simp [AV.ment] at h
    | false =>
      rw [hc] at h
      have:s' = s:=Nat.eq_of_beq_eq_true h
      subst this
      exact ⟨h,hc⟩
  | _=>simp [keepA,AV.ment] at h
theorem keepA_res {lock:Bool} {L:List Nat} {x:AV T} (h:isRes x = true):isRes (keepA lock L x) = true:=by
  cases x <;> first | rfl | simp [isRes] at h
theorem keepA_unl {lock:Bool} {L:List Nat} {x:AV T} (h:unl (keepA lock L x) = true):lock = false∧unl x = true:=by
  cases x with
  | own b e t xs=>cases lock <;> cases b <;> simp [keepA,unl] at h ⊢
  | box b t x=>cases lock <;> cases b <;> simp [keepA,unl] at h ⊢
  | rs b m x=>cases lock <;> cases b <;> simp [keepA,unl] at h ⊢
  | tr b κ x l=>cases lock <;> cases b <;> simp [keepA,unl] at h ⊢
  | al s=>simp only [keepA] at h; cases hc:L.contains s <;> rw [hc] at h <;> simp [unl] at h
  | mv f s=>simp only [keepA] at h; cases hc:L.contains s <;> rw [hc] at h <;> simp [unl] at h
  | _=>simp [keepA,unl] at h

theorem takeS_is (h:Hl n F k0 W a0 e a k) {t:Nat} {κ:Kd} {x:κ.D T} (ht:takeS e t κ = some x):(avK κ x).is a (a.get t) k∧(∀ s,(avK κ x).ment s = false)∧∀ b,(avK κ x).fp (a.get t) k b → unl (lk e t) = true∧(lk e t).fp (a.get t) k b:=by
  have hsl:=h.sl t
  cases κ with
  | v u =>
    simp only [takeS] at ht
    exact ⟨mkv_is.2 (asT_is ht (nrm_is hsl)),fun _=>mkv_ment,fun b hb=>absurd hb (fp_nonres mkv_res _ _ b)⟩
  | o el u =>
    simp only [takeS] at ht
    split at ht
    · rename_i el' u' xs hl
      cases hb:Nat.beq el el' with
      | false=>rw [hb] at ht; simp at ht
      | true =>
        rw [hb] at ht
        obtain rfl:=Nat.eq_of_beq_eq_true hb
        obtain ⟨he,hx⟩:=cast?_eq ht
        injection he with he
        subst he
        obtain rfl:x = xs:=hx
        rw [hl] at hsl
        exact ⟨hsl,fun _=>rfl,fun b hb=>⟨by rw [hl]; rfl,by rw [hl]; exact hb⟩⟩
    · rename_i hl
      obtain rfl:=Option.some.inj ht
      rw [hl] at hsl
      exact ⟨IsE0.own0 hsl,fun _=>rfl,fun b hb=>absurd hb (IsE0.noOb (k:=k) hsl b)⟩
    · simp at ht
  | b u =>
    simp only [takeS] at ht
    split at ht
    · rename_i u' y hl
      obtain ⟨rfl,hx⟩:=cast?_eq ht
      obtain rfl:x = y:=hx
      rw [hl] at hsl
      exact ⟨hsl,fun _=>rfl,fun b hb=>⟨by rw [hl]; rfl,by rw [hl]; exact hb⟩⟩
    · simp at ht
  | c m =>
    simp only [takeS] at ht
    split at ht
    · rename_i m' y hl
      split at ht
      · rename_i hm _
        obtain rfl:=hm.down
        obtain rfl:=Option.some.inj ht
        rw [hl] at hsl
        exact ⟨hsl,fun _=>rfl,fun b hb=>⟨by rw [hl]; rfl,by rw [hl]; exact hb⟩⟩
      · simp at ht
    · simp at ht
theorem take_congr {ds:List Nat} {e e' : Env T} : ∀ {sp:Sp},(∀ t,t ∈ spW sp → lk e t = lk e' t) → take ds e sp = take ds e' sp:=by
  have one : ∀ p:Nat × Kd,lk e p.1 = lk e' p.1 → takeS e p.1 p.2 = takeS e' p.1 p.2:=by
    intro p hp
    obtain ⟨s,κ⟩:=p
    cases κ <;> simp only [takeS] <;> rw [show lk e s = lk e' s from hp]
  intro sp
  induction sp with
  | nil=>intro _; rfl
  | cons p l ih =>
    intro h
    cases l with
    | nil=>simp only [take]; rw [one p (h p.1 (by simp [spW]))]
    | cons q l=>simp only [take]; rw [one p (h p.1 (by simp [spW])),ih fun t ht=>h t (by simp only [spW,List.map_cons,List.mem_cons] at ht ⊢; exact .inr ht)]
theorem give_lk {ds xs:List Nat} (hds : ∀ d,ds.contains d = true → xs.contains d = true) {e base:Env T} : ∀ {sp:Sp} {s:SpD T sp},take ds e sp = some s → ∀ t,
    ((spW sp).contains t = false∧lk (give xs sp s base) t = lk base t) ∨ ((spW sp).contains t = true∧(lk (give xs sp s base) t = .top ∨ ∃ κ x,takeS e t κ = some x∧lk (give xs sp s base) t = avK κ x)):=by
  have one : ∀ {p:Nat × Kd} {y:p.2.D T} {b:Env T} (t:Nat),(bif ds.contains p.1 then some p.2.dflt else takeS e p.1 p.2) = some y → p.1 = t →
      (lk ((p.1,bif xs.contains p.1 then .top else avK p.2 y)::b) t = .top ∨ ∃ κ x,takeS e t κ = some x∧lk ((p.1,bif xs.contains p.1 then .top else avK p.2 y)::b) t = avK κ x):=by
    intro p y b t hy ht
    rw [lk_cons,if_pos ht]
    cases hx:xs.contains p.1 with
    | true=>exact .inl rfl
    | false =>
      have hd:ds.contains p.1 = false:=by
        cases hd:ds.contains p.1 with
        | false=>rfl
        | true=>rw [hds _ hd] at hx; simp at hx
      rw [hd] at hy
      rw [← ht]
      exact .inr ⟨p.2,y,hy,rfl⟩
  have cont : ∀ (p:Nat × Kd) (l:Sp) (t:Nat),(spW (p::l)).contains t = (t == p.1 || (spW l).contains t):=fun p l t=>by simp [spW]
  intro sp
  induction sp with
  | nil=>intro s _ t; exact .inl ⟨rfl,rfl⟩
  | cons p l ih =>
    intro s hs t
    cases l with
    | nil =>
      simp only [take] at hs
      rw [cont]
      by_cases ht:p.1 = t
      · exact .inr ⟨by simp [ht],one t hs ht⟩
      · have : (t == p.1) = false := by simpa using fun e => ht e.symm
        exact .inl ⟨by rw [this]; rfl,by simp only [give]; rw [lk_cons,if_neg ht]⟩
    | cons q l =>
      simp only [take] at hs
      split at hs
      · rename_i y ys hy hys
        obtain rfl:=Option.some.inj hs
        rw [cont]
        by_cases ht:p.1 = t
        · exact .inr ⟨by simp [ht],one t hy ht⟩
        · have hne : (t == p.1) = false := by simpa using fun e => ht e.symm
          have:=ih hys t
          rw [hne,Bool.false_or]
          simp only [give]
          rw [lk_cons,if_neg ht]
          exact this
      · simp at hs

theorem rejoin (h:Hl n F k0 W a0 e a k) {Wc:List Nat} {sp:Sp} {ds xs:List Nat} (hds : ∀ d,ds.contains d = true → xs.contains d = true) {s:SpD T sp}
    (i:Hl n (FU e a k (Wc ++ spW sp)) k Wc a e' a' k') (ht:take ds e' sp = some s) (lock:Bool) :
    let E:=give xs sp s (keepE lock Wc (spW sp) e)
    (∀ t, (lk E t).is a' (a'.get t) k') ∧ (∀ t u, (lk E t).ment u = true → isRes (lk E u) = true) ∧ (∀ t t', t ≠ t' → Apart ((lk E t).fp (a'.get t) k') ((lk E t').fp (a'.get t') k')) ∧
    ∀ t,unl (lk E t) = true → Wr (FU e a k (Wc ++ spW sp)) k ((lk E t).fp (a'.get t) k') ∨ (lock = false∧unl (lk e t) = true∧∀ b,(lk E t).fp (a'.get t) k' b → (lk e t).fp (a.get t) k b):=by
  intro E
  have hFn : ∀ b,FU e a k (Wc ++ spW sp) b → ¬ k.sh b:=fun b ⟨t,_,_,hb⟩=>(h.lt t b hb).2
  -- the three kinds of slots
  have cases3 : ∀ t,(Wc.contains t = false∧(spW sp).contains t = false∧lk E t = keepA lock (Wc ++ spW sp) (lk e t)) ∨ lk E t = .top ∨ ((spW sp).contains t = true∧∃ κ x,takeS e' t κ = some x∧lk E t = avK κ x):=by
    intro t
    rcases give_lk hds (base:=keepE lock Wc (spW sp) e) ht t with ⟨h1,h2⟩ | ⟨h1,h2 | h2⟩
    · rw [lk_keepE] at h2
      cases hw:Wc.contains t with
      | true=>rw [hw] at h2; exact .inr (.inl h2)
      | false=>rw [hw,h1] at h2; exact .inl ⟨rfl,h1,h2⟩
    · exact .inr (.inl h2)
    · exact .inr (.inr ⟨h1,h2⟩)
  have hold : ∀ t,Wc.contains t = false → a'.get t = a.get t:=fun t ht=>i.old t (by simpa using ht)
  have apK : ∀ t,Wc.contains t = false → (spW sp).contains t = false → ∀ b,(lk e t).fp (a.get t) k b → ¬ FU e a k (Wc ++ spW sp) b:=by
    intro t h1 h2 b hb ⟨t2,h3,h4,h5⟩
    by_cases e1:t = t2
    · subst e1
      simp at h1 h2 h3
      exact h3.elim h1 h2
    · exact h.ap t t2 e1 b hb h5
  have fpk : ∀ t,Wc.contains t = false → (spW sp).contains t = false → (lk e t).fp (a.get t) k' = (lk e t).fp (a.get t) k:=fun t h1 h2=>AV.fp_keep _ i.g hFn (fun b hb hb'=>apK t h1 h2 b hb hb') (h.sl t)
  have fpT : ∀ t κ x,takeS e' t κ = some x → ∀ b,(avK κ x).fp (a'.get t) k' b → (lk e' t).fp (a'.get t) k' b∧(FU e a k (Wc ++ spW sp) b ∨ k.w.heap.size ≤ b):=by
    intro t κ x hx b hb
    obtain ⟨_,_,h3⟩:=takeS_is i hx
    obtain ⟨h4,h5⟩:=h3 b hb
    exact ⟨h5,i.wr t h4 b h5⟩
  refine ⟨fun t=>?_,fun t u hu=>?_,fun t t' hne b hb hb'=>?_,fun t hu=>?_⟩
  · rcases cases3 t with ⟨h1, h2, h3⟩ | h3 | ⟨_, κ, x, h2, h3⟩
    · rw [h3, hold t h1]
      have h4:(keepA lock (Wc ++ spW sp) (lk e t)).is a (a.get t) k':=AV.keep _ i.g hFn (fun b hb hb'=>apK t h1 h2 b (keepA_fp b hb) hb') (fun s hs=>by rw [keepA_ment2] at hs; simp at hs) (keepA_is (h.sl t))
      refine AV.congr _ (fun s hs=>?_) h4
      have:=(keepA_ment hs).2
      exact hold s (by simp at this ⊢; exact this.1)
    · rw [h3]; trivial
    · rw [h3]; exact (takeS_is i h2).1
  · rcases cases3 t with ⟨h1, h2, h3⟩ | h3 | ⟨_, κ, x, h2, h3⟩
    · rw [h3] at hu
      obtain ⟨h4,h5⟩:=keepA_ment hu
      have h6:=h.inv t u h4
      simp at h5
      rcases give_lk hds (base:=keepE lock Wc (spW sp) e) ht u with ⟨h7,h8⟩ | ⟨h7,_⟩
      · show isRes (lk (give xs sp s (keepE lock Wc (spW sp) e)) u) = true
        rw [h8,lk_keepE,h7]
        have:Wc.contains u = false:=by simpa using h5.1
        rw [this]
        exact keepA_res h6
      · simp at h7; exact absurd h7 h5.2
    · rw [h3] at hu; simp [AV.ment] at hu
    · rw [h3,(takeS_is i h2).2.1] at hu; simp at hu
  · rcases cases3 t with ⟨h1, h2, h3⟩ | h3 | ⟨_, κ, x, h2, h3⟩
    · rw [h3, hold t h1] at hb
      have hb:=keepA_fp b hb
      rw [fpk t h1 h2] at hb
      rcases cases3 t' with ⟨h4, h5, h6⟩ | h6 | ⟨_, κ', x', h5, h6⟩
      · rw [h6, hold t' h4] at hb'
        have hb':=keepA_fp b hb'
        rw [fpk t' h4 h5] at hb'
        exact h.ap t t' hne b hb hb'
      · rw [h6] at hb'; exact hb'
      · rw [h6] at hb'
        rcases (fpT t' κ' x' h5 b hb').2 with h7 | h7
        · exact apK t h1 h2 b hb h7
        · have:=(h.lt t b hb).1; omega
    · rw [h3] at hb; exact hb
    · rw [h3] at hb
      obtain ⟨h7,h8⟩:=fpT t κ x h2 b hb
      rcases cases3 t' with ⟨h4, h5, h6⟩ | h6 | ⟨_, κ', x', h5, h6⟩
      · rw [h6, hold t' h4] at hb'
        have hb':=keepA_fp b hb'
        rw [fpk t' h4 h5] at hb'
        rcases h8 with h8 | h8
        · exact apK t' h4 h5 b hb' h8
        · have:=(h.lt t' b hb').1; omega
      · rw [h6] at hb'; exact hb'
      · rw [h6] at hb'
        exact i.ap t t' hne b h7 (fpT t' κ' x' h5 b hb').1
  · rcases cases3 t with ⟨h1, h2, h3⟩ | h3 | ⟨_, κ, x, h2, h3⟩
    · rw [h3] at hu
      obtain ⟨h4,h5⟩:=keepA_unl hu
      refine .inr ⟨h4,h5,fun b hb=>?_⟩
      rw [h3,hold t h1] at hb
      have hb:=keepA_fp b hb
      rw [fpk t h1 h2] at hb
      exact hb
    · rw [h3] at hu; simp [unl] at hu
    · refine .inl fun b hb => ?_
      rw [h3] at hb
      exact (fpT t κ x h2 b hb).2
theorem rejoinT (h:Hl n F k0 W a0 e a k) {Wc:List Nat} {sp:Sp} {ds xs:List Nat} (hds : ∀ d,ds.contains d = true → xs.contains d = true) {s:SpD T sp}
    (i:Hl n (FU e a k (Wc ++ spW sp)) k Wc a e' a' k') (ht:take ds e' sp = some s):Hl n (FU e a k (Wc ++ spW sp)) k Wc a (give xs sp s (keepE true Wc (spW sp) e)) a' k':=by
  obtain ⟨h1,h2,h3,h4⟩:=rejoin h hds i ht true
  refine ⟨i.g,i.s,i.d,i.old,h1,h2,fun t hu=>?_,h3,i.gl⟩
  rcases h4 t hu with h5 | ⟨h5,_⟩
  · exact h5
  · simp at h5
theorem rejoinF (h:Hl n F k0 W a0 e a k) {Wc:List Nat} {sp:Sp} {ds xs:List Nat} (hds : ∀ d,ds.contains d = true → xs.contains d = true) {s:SpD T sp} (hW : ∀ t ∈ Wc,t ∈ W)
    (i:Hl n (FU e a k (Wc ++ spW sp)) k Wc a e' a' k') (ht:take ds e' sp = some s):Hl n F k0 W a0 (give xs sp s (keepE false Wc (spW sp) e)) a' k':=by
  obtain ⟨h1,h2,h3,h4⟩:=rejoin h hds i ht false
  have hwr:Wr F k0 (FU e a k (Wc ++ spW sp)):=fun b ⟨t,_,h5,h6⟩=>h.wr t h5 b h6
  refine ⟨h.g.step i.g hwr,i.s,i.d,fun t ht=>?_,h1,h2,fun t hu b hb=>?_,h3,i.gl⟩
  · rw [i.old t (fun h'=>ht (hW t h')),h.old t ht]
  · rcases h4 t hu with h5 | ⟨_, h5, h6⟩
    · rcases h5 b hb with h5 | h5
      · exact hwr b h5
      · exact .inr (Nat.le_trans h.g.size h5)
    · exact h.wr t h5 b (h6 b hb)
end
end Go.Gb


