/- The general part of the proofs (no program in sight): worlds with shared blocks, regions, operations, calls, loops, what comes in as data, part 4 -/
import Derived.Test.YtbanncpkgbiklaaL3
set_option linter.unusedVariables false
set_option linter.unusedSimpArgs false
/- General part of the proofs: each operation that writes to nothing does what the evaluator says: structs, slices, calls; all of them. -/
namespace Go.Gb
variable {T : Tb} {R : Type}

def HIs : (l : List Tp) → HL T.S l → List Value → K → Prop
  | [], _, [], _ => True
  | [_], x, [u], k => IsV x u k
  | _ :: b :: l, x, u :: us, k => IsV x.1 u k ∧ HIs (b :: l) x.2 us k
  | _, _, _, _ => False
/-- The arguments: values, and what is turned (u1) and taken over (u2). -/
def PIs : (l : List Pm) → HL T.S (valsP l) → (u1 u2 : Value) → List Value → K → Prop
  | [], _, _, _, [], _ => True
  | .v t :: l, x, u1, u2, v :: vs, k => IsV (α := T.D t) (hdH x) v k ∧ PIs l (tlH x) u1 u2 vs k
  | .tu :: l, x, u1, u2, v :: vs, k => v = u1 ∧ PIs l x u1 u2 vs k
  | .tk :: l, x, u1, u2, v :: vs, k => v = u2 ∧ PIs l x u1 u2 vs k
  | .fn g :: l, x, u1, u2, v :: vs, k => v = .func (.func g) #[] #[] ∧ PIs l x u1 u2 vs k
  | _, _, _, _, _, _ => False
section
variable {e : Env T} {a0 a : Act} {k : K} {P : Program} {o : Oper}
theorem HIs.le {k k' : K} (hl : Le k k') : ∀ {l : List Tp} {x : HL T.S l} {vs : List Value}, HIs l x vs k → HIs l x vs k'
  | [], _, [], _ => trivial
  | [t], x, [_], h => Pers.pers (R := IsV (α := T.D t) x) hl h
  | t :: _ :: _, x, _ :: _, h => ⟨Pers.pers (R := IsV (α := T.D t) x.1) hl h.1, HIs.le hl h.2⟩
  | [], _, _ :: _, h => h.elim
  | [_], _, [], h => h.elim
  | [_], _, _ :: _ :: _, h => h.elim
  | _ :: _ :: _, _, [], h => h.elim
end
end Go.Gb

/- General part of the proofs: each operation that writes to nothing does what the evaluator says: all of them. -/
namespace Go.Gb
variable {T : Tb} {R : Type}
end Go.Gb

/- General part of the proofs: the operations of a region that may run in any order. -/
namespace Go.Gb
variable {T : Tb} {R : Type}

theorem lastIdx_none {t : Nat} : ∀ {l : List Oper} {i : Nat} {r : Option Nat}, lastIdx t l i r = none → r = none ∧ ∀ o ∈ l, o.dst ≠ some t
  | [], _, _, h => ⟨h, by simp⟩
  | o :: l, i, r, h => by
    simp only [lastIdx] at h
    obtain ⟨h1, h2⟩ := lastIdx_none h
    cases hd : o.dst with
    | none => rw [hd] at h1; exact ⟨h1, by simpa [hd] using h2⟩
    | some d =>
      rw [hd] at h1
      cases hb : Nat.beq d t with
      | true => simp only [hb] at h1; simp at h1
      | false =>
        simp only [hb] at h1
        refine ⟨h1, ?_⟩
        simp only [List.mem_cons, forall_eq_or_imp]
        exact ⟨by rw [hd]; intro e; rw [Option.some.inj e, Nat.beq_refl] at hb; simp at hb, h2⟩
theorem lastIdx_snoc {t : Nat} {o : Oper} : ∀ {l : List Oper} {i : Nat} {r : Option Nat}, lastIdx t (l ++ [o]) i r = if o.dst = some t then some (i + l.length) else lastIdx t l i r
  | [], i, r => by
    simp only [List.nil_append, lastIdx]
    cases hd : o.dst with
    | none => simp
    | some d =>
      cases hb : Nat.beq d t with
      | true => simp [hb, Nat.eq_of_beq_eq_true hb]
      | false =>
        have : d ≠ t := fun e => by rw [e, Nat.beq_refl] at hb; simp at hb
        simp [hb, this]
  | x :: l, i, r => by
    simp only [List.cons_append, lastIdx, lastIdx_snoc, List.length_cons]
    congr 2
    omega
theorem lastIdx_spec {t : Nat} : ∀ {l : List Oper} {i : Nat} {r : Option Nat} {j : Nat}, lastIdx t l i r = some j → r = some j ∨ ∃ o, i ≤ j ∧ nth l (j - i) = some o ∧ o.dst = some t
  | [], _, _, _, h => .inl h
  | o :: l, i, r, j, h => by
    simp only [lastIdx] at h
    rcases lastIdx_spec h with h1 | ⟨o', h1, h2, h3⟩
    · cases hd : o.dst with
      | none => rw [hd] at h1; exact .inl h1
      | some d =>
        rw [hd] at h1
        cases hb : Nat.beq d t with
        | true =>
          simp only [hb, cond_true, Option.some.injEq] at h1
          subst h1
          exact .inr ⟨o, Nat.le_refl _, by simp [nth], by rw [hd, Nat.eq_of_beq_eq_true hb]⟩
        | false => simp only [hb] at h1; exact .inl h1
    · exact .inr ⟨o', by omega, by rw [show j - i = (j - (i + 1)) + 1 by omega]; exact h2, h3⟩

theorem nth_app {α : Type} : ∀ {l m : List α} {i : Nat} {x : α}, nth l i = some x → nth (l ++ m) i = some x
  | _ :: _, _, 0, _, h => h
  | _ :: l, m, i + 1, x, h => nth_app (l := l) h
  | [], _, _, _, h => by simp [nth] at h
theorem nth_at {α : Type} : ∀ {l : List α} {x : α} {m : List α}, nth (l ++ x :: m) l.length = some x
  | [], _, _ => rfl
  | _ :: l, x, m => nth_at (l := l)
section
variable {C : Cx T} {n : Nat} {F : FP} {kk : K} {W : List Nat} {aa : Act} {e0 : Env T} {a0 : Act} {k0 : K}

/-- What is known when some operations of a region have run. -/
structure P1 (e0 : Env T) (a0 : Act) (pre : List Oper) (es : List Ent) (e : Env T) : Prop where
  len : es.length = pre.length
  slot : ∀ t, (match lastIdx t pre 0 none with
    | some j => ∃ R nd, nth es j = some ⟨R, nd⟩ ∧ (lk e t = .top ∨ ∃ R', R = some R' ∧ ∀ v k, R' v k → (lk e t).is a0 v k)
    | none => lk e t = lk e0 t)
  res : ∀ t, isRes (lk e t) = true → lastIdx t pre 0 none = none
  inv : ∀ t s, (lk e t).ment s = true → isRes (lk e s) = true

theorem P1.push {pre : List Oper} {es : List Ent} {e : Env T} {o : Oper} {d : Nat} {av : AV T} {R' : Pred} {nd : List (Nat × Option Nat)} (p : P1 e0 a0 pre es e) (hd : o.dst = some d) (hr : isRes (lk e d) = false)
    (hm : ∀ s, av.ment s = true → isRes (lk e s) = true) (hav : isRes av = false) (hR : ∀ v k, R' v k → av.is a0 v k) : P1 e0 a0 (pre ++ [o]) (es ++ [⟨some R', nd⟩]) ((d, av) :: e) := by
  refine ⟨by simp [p.len], fun t => ?_, fun t ht => ?_, fun t s hms => ?_⟩
  · rw [lastIdx_snoc, hd, lk_cons]
    by_cases e1 : d = t
    · subst e1
      rw [if_pos rfl, if_pos rfl, Nat.zero_add]
      exact ⟨_, _, by rw [← p.len]; exact nth_at, .inr ⟨_, rfl, hR⟩⟩
    · rw [if_neg (fun e => e1 (Option.some.inj e)), if_neg e1]
      have := p.slot t
      split
      · rename_i j hj
        rw [hj] at this
        obtain ⟨R, nd, h1, h2⟩ := this
        exact ⟨R, nd, nth_app h1, h2⟩
      · rename_i hj
        rw [hj] at this
        exact this
  · rw [lk_cons] at ht
    rw [lastIdx_snoc, hd]
    by_cases e1 : d = t
    · rw [if_pos e1, hav] at ht; simp at ht
    · rw [if_neg e1] at ht
      rw [if_neg (fun e => e1 (Option.some.inj e))]
      exact p.res t ht
  · rw [lk_cons] at hms
    have hs : isRes (lk e s) = true := by
      by_cases e1 : d = t
      · rw [if_pos e1] at hms; exact hm s hms
      · rw [if_neg e1] at hms; exact p.inv t s hms
    rw [lk_cons, if_neg (fun e => by rw [e, hs] at hr; simp at hr)]
    exact hs

theorem tops_lk {e : Env T} : ∀ {gr : OpL} {t : Nat}, (lk (tops gr e) t = .top ∧ ∃ x ∈ gr, x.2.dst = some t) ∨ (lk (tops gr e) t = lk e t ∧ ∀ x ∈ gr, x.2.dst ≠ some t)
  | [], t => .inr ⟨rfl, by simp⟩
  | (i, o) :: l, t => by
    simp only [tops]
    cases hd : o.dst with
    | none =>
      rcases tops_lk (gr := l) (t := t) with ⟨h1, x, hx, h2⟩ | ⟨h1, h2⟩
      · exact .inl ⟨h1, x, by simp [hx], h2⟩
      · exact .inr ⟨h1, by simpa [hd] using h2⟩
    | some d =>
      dsimp only
      rw [lk_cons]
      by_cases e1 : d = t
      · subst e1
        rw [if_pos rfl]
        exact .inl ⟨rfl, (i, o), by simp, hd⟩
      · rw [if_neg e1]
        rcases tops_lk (gr := l) (t := t) with ⟨h1, x, hx, h2⟩ | ⟨h1, h2⟩
        · exact .inl ⟨h1, x, by simp [hx], h2⟩
        · exact .inr ⟨h1, by simp only [List.mem_cons, forall_eq_or_imp]; exact ⟨by rw [hd]; intro e; exact e1 (Option.some.inj e), h2⟩⟩

theorem lastIdx_skip {t : Nat} : ∀ {m : List Oper} {i : Nat} {r : Option Nat}, (∀ o ∈ m, o.dst ≠ some t) → lastIdx t m i r = r
  | [], _, _, _ => rfl
  | o :: m, i, r, h => by
    simp only [lastIdx]
    rw [lastIdx_skip fun o' ho' => h o' (by simp [ho'])]
    have := h o (by simp)
    cases hd : o.dst with
    | none => rfl
    | some d =>
      rw [hd] at this
      have hne : d ≠ t := fun e => this (congrArg some e)
      simp only [beq_ne hne, cond_false]
theorem lastIdx_app {t : Nat} : ∀ {l m : List Oper} {i : Nat} {r : Option Nat}, (∀ o ∈ m, o.dst ≠ some t) → lastIdx t (l ++ m) i r = lastIdx t l i r
  | [], m, i, r, h => lastIdx_skip h
  | x :: l, m, i, r, h => by simp only [List.cons_append, lastIdx]; exact lastIdx_app h

/-- operations that do not count any more -/
theorem P1.tops {pre cs : List Oper} {es es1 : List Ent} {e e' : Env T} {gr : OpL} (p : P1 e0 a0 pre es e) (hg : gr.map (·.2) = cs) (q : P1 e0 a0 (pre ++ cs) (es ++ es1) e' ∨ es1.length = cs.length)
    (hr : ∀ x ∈ gr, ∀ d, x.2.dst = some d → isRes (lk e d) = false) : P1 e0 a0 (pre ++ cs) (es ++ es1) (tops gr e) := by
  have hlen : es1.length = cs.length := by
    rcases q with q | q
    · have := q.len; have := p.len; simp at *; omega
    · exact q
  have hin : ∀ t, (∃ x ∈ gr, x.2.dst = some t) ↔ ∃ o ∈ cs, o.dst = some t := fun t => by
    rw [← hg]
    constructor
    · rintro ⟨x, hx, hd⟩; exact ⟨x.2, List.mem_map.2 ⟨x, hx, rfl⟩, hd⟩
    · rintro ⟨o, ho, hd⟩
      obtain ⟨x, hx, rfl⟩ := List.mem_map.1 ho
      exact ⟨x, hx, hd⟩
  refine ⟨by simp [p.len, hlen], fun t => ?_, fun t ht => ?_, fun t s hms => ?_⟩
  · rcases tops_lk (e := e) (gr := gr) (t := t) with ⟨h1, h2⟩ | ⟨h1, h2⟩
    · rw [h1]
      obtain ⟨o, ho, hd⟩ := (hin t).1 h2
      cases hl : lastIdx t (pre ++ cs) 0 none with
      | none => exact absurd hd ((lastIdx_none hl).2 o (by simp [ho]))
      | some j =>
        rcases lastIdx_spec hl with h3 | ⟨o', _, h3, _⟩
        · simp at h3
        · have hj := nth_lt h3
          have : j < (es ++ es1).length := by simp [p.len, hlen] at *; omega
          refine ⟨((es ++ es1)[j]).R, ((es ++ es1)[j]).need, ?_, .inl rfl⟩
          rw [nth_eq, List.getElem?_eq_getElem this]
    · rw [h1]
      have h3 : ∀ o ∈ cs, o.dst ≠ some t := fun o ho hd => by
        obtain ⟨x, hx, hd'⟩ := (hin t).2 ⟨o, ho, hd⟩
        exact h2 x hx hd'
      rw [lastIdx_app h3]
      have := p.slot t
      split
      · rename_i j hj
        rw [hj] at this
        obtain ⟨R, nd, h4, h5⟩ := this
        exact ⟨R, nd, nth_app h4, h5⟩
      · rename_i hj
        rw [hj] at this
        exact this
  · rcases tops_lk (e := e) (gr := gr) (t := t) with ⟨h1, h2⟩ | ⟨h1, h2⟩
    · rw [h1] at ht; simp [isRes] at ht
    · rw [h1] at ht
      rw [lastIdx_app fun o ho hd => by
        obtain ⟨x, hx, hd'⟩ := (hin t).2 ⟨o, ho, hd⟩
        exact h2 x hx hd']
      exact p.res t ht
  · have h3 : isRes (lk e s) = true := by
      rcases tops_lk (e := e) (gr := gr) (t := t) with ⟨h1, h2⟩ | ⟨h1, h2⟩
      · rw [h1] at hms; simp [AV.ment] at hms
      · rw [h1] at hms; exact p.inv t s hms
    rcases tops_lk (e := e) (gr := gr) (t := s) with ⟨h1, x, hx, hd⟩ | ⟨h1, h2⟩
    · rw [hr x hx s hd] at h3; simp at h3
    · rw [h1]; exact h3

end
end Go.Gb

/- General part of the proofs: the operations of a region that may run in any order, continued. -/
namespace Go.Gb
variable {T : Tb} {R : Type}
section
variable {C : Cx T} {n : Nat} {F : FP} {kk : K} {W : List Nat} {aa : Act} {e0 : Env T} {a0 : Act} {k0 : K}

def hidP (T : Tb) (bH B : Nat) : Hv → Pred
  | .adr off => IsAdr bH off
  | .box t => IsBoxS (T.D t) B
instance {bH B : Nat} : ∀ y : Hv, Mono (hidP T bH B y)
  | .adr off => inferInstanceAs (Mono (IsAdr bH off))
  | .box t => inferInstanceAs (Mono (IsBoxS (T.D t) B))
/-- What is known of the pointers into the box of which nothing else is told. -/
def Hidden (C : Cx T) (hid : Hd) (bH B : Nat) (g : Option (Nat × Bool)) (cs : List Oper) (es : List Ent) : Prop :=
  g = none → ∀ j o y, nth cs j = some o → o.guard = none → hidO C hid o = some y → ∃ nd, nth es j = some ⟨some (hidP T bH B y), nd⟩
theorem Hidden.cons {hid : Hd} {bH B : Nat} {g : Option (Nat × Bool)} {cs : List Oper} {es : List Ent} {o : Oper} {x : Ent} (h : Hidden C hid bH B g cs es)
    (h0 : ∀ y, hidO C hid o = some y → o.guard = none → ∃ nd, x = ⟨some (hidP T bH B y), nd⟩) : Hidden C hid bH B g (o :: cs) (x :: es) := by
  intro hg j o' y hj hgd ho
  cases j with
  | zero =>
    simp only [nth, Option.some.injEq] at hj
    subst hj
    obtain ⟨nd, h1⟩ := h0 y ho hgd
    exact ⟨nd, by simp [nth, h1]⟩
  | succ j => exact h hg j o' y (by simpa [nth] using hj) hgd ho
theorem Hidden.skip {hid : Hd} {bH B : Nat} {g : Option (Nat × Bool)} : ∀ {gs cs : List Oper} {es1 es : List Ent}, es1.length = gs.length → (∀ o ∈ gs, o.guard ≠ none) → Hidden C hid bH B g cs es → Hidden C hid bH B g (gs ++ cs) (es1 ++ es)
  | [], _, [], _, _, _, h => h
  | o :: gs, _, x :: es1, _, hl, hn, h => Hidden.cons (Hidden.skip (by simpa using hl) (fun o' ho' => hn o' (by simp [ho'])) h) fun _ _ hg => absurd hg (hn o (by simp))
  | [], _, _ :: _, _, hl, _, _ => by simp at hl
  | _ :: _, _, [], _, hl, _, _ => by simp at hl
end
end Go.Gb

/- General part of the proofs: operations one after the other. -/
namespace Go.Gb
variable {T : Tb} {R : Type}
section
variable {C : Cx T} {n : Nat} {F : FP} {k0 : K} {W : List Nat} {a0 : Act} {e : Env T} {a a' : Act} {k k' : K}

/-- A resource is changed in place. -/
theorem Hl.turn (h : Hl n F k0 W a0 e a k) {s : Nat} {av : AV T} {G : FP} (hs : unl (lk e s) = true) (c : Chg G k k') (hG : ∀ b, G b → (lk e s).fp (a.get s) k b) (hv : av.is a (a.get s) k') (hm : ∀ t, av.ment t = false)
    (hu : unl av = true) (hf : ∀ b, av.fp (a.get s) k' b → (lk e s).fp (a.get s) k b) : Hl n F k0 W a0 ((s, av) :: mapE (kl s) e) a k' := by
  have hn : ∀ b, G b → ¬ k.sh b := fun b hb => (h.lt s b (hG b hb)).2
  have hlt : ∀ b, G b → b < k.w.heap.size := fun b hb => (h.lt s b (hG b hb)).1
  have lks : lk ((s, av) :: mapE (kl s) e) s = av := by rw [lk_cons, if_pos rfl]
  have lkt : ∀ t, t ≠ s → lk ((s, av) :: mapE (kl s) e) t = kl s (lk e t) := fun t ht => by rw [lk_cons, if_neg (Ne.symm ht), lk_mapE rfl]
  have fpk : ∀ t, t ≠ s → (lk e t).fp (a.get t) k' = (lk e t).fp (a.get t) k := fun t ht => AV.fp_keep _ c hn (fun b hb hb' => h.ap t s ht b hb (hG b hb')) (h.sl t)
  refine ⟨h.g.step c (fun b hb => h.wr s hs b (hG b hb)), h.s, h.d, h.old, fun t => ?_, fun t u hu' => ?_, fun t ht => ?_, fun t t' hne => ?_, h.gl.le (c.le hn)⟩
  · by_cases ht : t = s
    · subst ht; rw [lks]; exact hv
    · rw [lkt t ht]
      have h1 : (kl s (lk e t)).is a (a.get t) k := by
        rcases kl_or s (lk e t) with e1 | e1
        · rw [e1]; exact h.sl t
        · rw [e1]; trivial
      refine (kl s (lk e t)).keep c hn (fun b hb hb' => ?_) (fun u hu1 u' hu2 hu3 b hb hb' => ?_) h1
      · rcases kl_or s (lk e t) with e1 | e1
        · rw [e1] at hb; exact h.ap t s ht b hb (hG b hb')
        · rw [e1] at hb; exact hb
      · obtain ⟨hu4, hu5⟩ := kl_ment2 hu1
        exact h.apm (h.inv t u (AV.ment2_ment hu4)) hu5 hu2 hu3 b hb (hG b hb')
  · have : isRes (lk e u) = true := by
      by_cases ht : t = s
      · subst ht; rw [lks, hm] at hu'; simp at hu'
      · rw [lkt t ht] at hu'
        exact h.inv t u (kl_ment hu')
    by_cases hus : u = s
    · subst hus; rw [lks]; exact unl_res hu
    · rw [lkt u hus, kl_res this]; exact this
  · by_cases ht' : t = s
    · subst ht'; rw [lks]
      exact fun b hb => h.wr t hs b (hf b hb)
    · rw [lkt t ht'] at ht ⊢
      rcases kl_or s (lk e t) with e1 | e1
      · rw [e1] at ht ⊢; rw [fpk t ht']; exact h.wr t ht
      · rw [e1] at ht; simp [unl] at ht
  · have sub : ∀ t b, (lk ((s, av) :: mapE (kl s) e) t).fp (a.get t) k' b → (lk e t).fp (a.get t) k b := by
      intro t b hb
      by_cases ht : t = s
      · subst ht; rw [lks] at hb; exact hf b hb
      · rw [lkt t ht] at hb
        rcases kl_or s (lk e t) with e1 | e1
        · rw [e1, fpk t ht] at hb; exact hb
        · rw [e1] at hb; exact hb.elim
    exact fun b hb hb' => h.ap t t' hne b (sub t b hb) (sub t' b hb')

/-- A resource is given up, or turned into something else. -/
theorem Hl.swap (h : Hl n F k0 W a0 e a k) {s : Nat} {av : AV T} {G : FP} (hg : Chg F k0 k')
    (hkeep : ∀ (x : AV T) (v : Value), Apart (x.fp v k) G → (∀ u, x.ment2 u = true → ∀ y : AV T, isOB y = true → y.is a (a.get u) k → Apart (y.fp (a.get u) k) G) → x.is a v k → x.is a v k')
    (hkf : ∀ (x : AV T) (v : Value), Apart (x.fp v k) G → x.is a v k → x.fp v k' = x.fp v k)
    (hG : ∀ b, G b → (lk e s).fp (a.get s) k b) (hv : av.is a (a.get s) k') (hm : ∀ t, av.ment t = false) (hw : unl av = true → Wr F k0 (av.fp (a.get s) k')) (hf : ∀ b, av.fp (a.get s) k' b → (lk e s).fp (a.get s) k b) :
    Hl n F k0 W a0 ((s, av) :: mapE (klA s) e) a k' := by
  have lks : lk ((s, av) :: mapE (klA s) e) s = av := by rw [lk_cons, if_pos rfl]
  have lkt : ∀ t, t ≠ s → lk ((s, av) :: mapE (klA s) e) t = klA s (lk e t) := fun t ht => by rw [lk_cons, if_neg (Ne.symm ht), lk_mapE rfl]
  have fpk : ∀ t, t ≠ s → (lk e t).fp (a.get t) k' = (lk e t).fp (a.get t) k := fun t ht => hkf _ _ (fun b hb hb' => h.ap t s ht b hb (hG b hb')) (h.sl t)
  refine ⟨hg, h.s, h.d, h.old, fun t => ?_, fun t u hu' => ?_, fun t ht => ?_, fun t t' hne => ?_, ⟨fun g t x e1 => hkeep (.ref t x) _ (fun b hb _ => hb.elim) (fun u hu => by simp [AV.ment2] at hu) (h.gl.1 g t x e1),
    fun g e1 => (h.gl.2 g e1).imp fun m r => hkeep (.ref .int m) _ (fun b hb _ => hb.elim) (fun u hu => by simp [AV.ment2] at hu) r⟩⟩
  · by_cases ht : t = s
    · subst ht; rw [lks]; exact hv
    · rw [lkt t ht]
      have h1 : (klA s (lk e t)).is a (a.get t) k := by
        rcases klA_or s (lk e t) with e1 | e1
        · rw [e1]; exact h.sl t
        · rw [e1]; trivial
      refine hkeep _ _ (fun b hb hb' => ?_) (fun u hu1 u' hu2 hu3 b hb hb' => ?_) h1
      · rcases klA_or s (lk e t) with e1 | e1
        · rw [e1] at hb; exact h.ap t s ht b hb (hG b hb')
        · rw [e1] at hb; exact hb
      · obtain ⟨hu4, hu5⟩ := klA_ment (AV.ment2_ment hu1)
        exact h.apm (h.inv t u hu4) hu5 hu2 hu3 b hb (hG b hb')
  · by_cases ht : t = s
    · subst ht; rw [lks, hm] at hu'; simp at hu'
    · rw [lkt t ht] at hu'
      obtain ⟨h1, h2⟩ := klA_ment hu'
      have := h.inv t u h1
      rw [lkt u h2, klA_res this]; exact this
  · by_cases ht' : t = s
    · subst ht'; rw [lks] at ht ⊢; exact hw ht
    · rw [lkt t ht'] at ht ⊢
      rcases klA_or s (lk e t) with e1 | e1
      · rw [e1] at ht ⊢; rw [fpk t ht']; exact h.wr t ht
      · rw [e1] at ht; simp [unl] at ht
  · have sub : ∀ t b, (lk ((s, av) :: mapE (klA s) e) t).fp (a.get t) k' b → (lk e t).fp (a.get t) k b := by
      intro t b hb
      by_cases ht : t = s
      · subst ht; rw [lks] at hb; exact hf b hb
      · rw [lkt t ht] at hb
        rcases klA_or s (lk e t) with e1 | e1
        · rw [e1, fpk t ht] at hb; exact hb
        · rw [e1] at hb; exact hb.elim
    exact fun b hb hb' => h.ap t t' hne b (sub t b hb) (sub t' b hb')
theorem Hl.hand (h : Hl n F k0 W a0 e a k) {s : Nat} {G : FP} {av : AV T} (hs : unl (lk e s) = true) (c : Handed k k' G) (hG : ∀ b, G b → (lk e s).fp (a.get s) k b) (hv : av.is a (a.get s) k') (hm : ∀ t, av.ment t = false) (hr : isRes av = false) :
    Hl n F k0 W a0 ((s, av) :: mapE (klA s) e) a k' :=
  h.swap (h.g.hand c fun b hb => h.wr s hs b (hG b hb)) (fun x v h1 h2 h3 => x.handed c h1 h2 h3) (fun x v h1 h3 => x.fp_handed c h1 h3) hG hv hm (fun hu => by rw [unl_res hu] at hr; simp at hr) (fun b hb => absurd hb (fp_nonres hr _ _ b))
/-- More is told of a slot. -/
theorem Hl.set (h : Hl n F k0 W a0 e a k) {s : Nat} {av : AV T} (hs : isRes (lk e s) = false) (hv : av.is a (a.get s) k) (hm : ∀ t, av.ment t = true → isRes (lk e t) = true) (hr : isRes av = false) : Hl n F k0 W a0 ((s, av) :: e) a k := by
  have lks : lk ((s, av) :: e) s = av := by rw [lk_cons, if_pos rfl]
  have lkt : ∀ t, t ≠ s → lk ((s, av) :: e) t = lk e t := fun t ht => by rw [lk_cons, if_neg (Ne.symm ht)]
  have ne : ∀ t, isRes (lk e t) = true → t ≠ s := fun t ht e => by rw [e, hs] at ht; simp at ht
  have fps : ∀ t b, (lk ((s, av) :: e) t).fp (a.get t) k b → (lk e t).fp (a.get t) k b := by
    intro t b hb
    by_cases ht : t = s
    · subst ht; rw [lks] at hb; exact absurd hb (fp_nonres hr _ _ b)
    · rw [lkt t ht] at hb; exact hb
  refine ⟨h.g, h.s, h.d, h.old, fun t => ?_, fun t u hu => ?_, fun t ht => ?_, fun t t' hne b hb hb' => h.ap t t' hne b (fps t b hb) (fps t' b hb'), h.gl⟩
  · by_cases ht : t = s
    · subst ht; rw [lks]; exact hv
    · rw [lkt t ht]; exact h.sl t
  · have : isRes (lk e u) = true := by
      by_cases ht : t = s
      · subst ht; rw [lks] at hu; exact hm u hu
      · rw [lkt t ht] at hu; exact h.inv t u hu
    rw [lkt u (ne u this)]; exact this
  · by_cases ht' : t = s
    · subst ht'; rw [lks] at ht; rw [unl_res ht] at hr; simp at hr
    · rw [lkt t ht'] at ht ⊢; exact h.wr t ht
end
end Go.Gb

/- General part of the proofs: operations one after the other, continued; regions. -/
namespace Go.Gb
variable {T : Tb} {R : Type}
section
variable {C : Cx T} {n : Nat} {F : FP} {k0 : K} {W : List Nat} {a0 : Act} {e : Env T} {a a' : Act} {k k' : K}

end
end Go.Gb


set_option linter.unusedVariables false
set_option linter.unusedSimpArgs false
/- General part of the proofs: regions. -/
namespace Go.Gb
variable {T : Tb} {R : Type}
section
variable {C : Cx T} {F : FP} {k0 : K} {W : List Nat} {a0 : Act} {A : Array Oper} {Q : Exit → Act → World → Prop}

theorem Hl.grow {n : Nat} {a : Act} {e : Env T} {k k' : K} (h : Hl n F k0 W a0 e a k) (hg : Grow k k') : Hl n F k0 W a0 e a k' :=
  ⟨h.g.then hg, h.s, h.d, h.old, fun t => (lk e t).mono hg (h.sl t), h.inv, fun t ht => by rw [AV.fp_grow _ hg (h.sl t)]; exact h.wr t ht, fun t t' hne => by rw [AV.fp_grow _ hg (h.sl t), AV.fp_grow _ hg (h.sl t')]; exact h.ap t t' hne, h.gl.le hg.le⟩
end
end Go.Gb

/- General part of the proofs: environments over joins. -/
namespace Go.Gb
variable {T : Tb} {R : Type}

def lockE (W : List Nat) (e : Env T) : Env T := e.map fun p => (p.1, bif W.contains p.1 then p.2 else lkA p.2)
theorem lk_lockE {W : List Nat} : ∀ (e : Env T) (t : Nat), lk (lockE W e) t = bif W.contains t then lk e t else lkA (lk e t)
  | [], t => by show AV.top = _; cases W.contains t <;> rfl
  | (s, x) :: e, t => by
    show lk ((s, _) :: lockE W e) t = _
    rw [lk_cons, lk_cons, lk_lockE e]
    split
    · rename_i h; subst h; rfl
    · rfl
theorem lkA_is {a : Act} {x : AV T} {v : Value} {k : K} (h : x.is a v k) : (lkA x).is a v k := by cases x <;> exact h
theorem lkA_fp {x : AV T} {v : Value} {k : K} : (lkA x).fp v k = x.fp v k := by cases x <;> rfl
theorem lkA_res {x : AV T} : isRes (lkA x) = isRes x := by cases x <;> rfl
theorem lkA_ment {x : AV T} {s : Nat} : (lkA x).ment s = x.ment s := by cases x <;> rfl
theorem lkA_unl {x : AV T} : unl (lkA x) = false := by cases x <;> rfl

/-- the blocks of some slots -/
def FU (e : Env T) (a : Act) (k : K) (L : List Nat) : FP := fun b => ∃ t, L.contains t = true ∧ unl (lk e t) = true ∧ (lk e t).fp (a.get t) k b

section
variable {n : Nat} {F : FP} {k0 : K} {W : List Nat} {a0 : Act} {e e' : Env T} {a a' : Act} {k k' : K}
theorem Hl.lock (h : Hl n F k0 W a0 e a k) (L Wc : List Nat) : Hl n (FU e a k L) k Wc a (lockE L e) a k := by
  have fpe : ∀ t, (lk (lockE L e) t).fp (a.get t) k = (lk e t).fp (a.get t) k := fun t => by
    rw [lk_lockE]; cases L.contains t
    · exact lkA_fp
    · rfl
  refine ⟨Chg.refl _ k, h.s, h.d, fun _ _ => rfl, fun t => ?_, fun t s hs => ?_, fun t ht => ?_, fun t t' hne => by rw [fpe, fpe]; exact h.ap t t' hne, h.gl⟩
  · rw [lk_lockE]; cases L.contains t
    · exact lkA_is (h.sl t)
    · exact h.sl t
  · have h1 : (lk e t).ment s = true := by
      rw [lk_lockE] at hs
      cases hc : L.contains t <;> rw [hc] at hs
      · rwa [cond_false, lkA_ment] at hs
      · exact hs
    rw [lk_lockE]
    cases L.contains s
    · rw [cond_false, lkA_res]; exact h.inv t s h1
    · exact h.inv t s h1
  · rw [fpe]
    rw [lk_lockE] at ht
    cases hc : L.contains t <;> rw [hc] at ht
    · rw [cond_false, lkA_unl] at ht; simp at ht
    · exact fun b hb => .inl ⟨t, hc, ht, hb⟩

end
end Go.Gb

/- General part of the proofs: the code of a function does what the evaluator says. -/
namespace Go.Gb
variable {T : Tb} {R : Type}

/-- The results of a function, and what else it leaves. -/
structure RetOq (C : Cx T) (sl : Nat) (tu ro : Rk) (cod : List Tp) (F : FP) (k0 : K) (a0 : Act) (x : tu.D T × ro.D T × HL T.S cod) (a : Act) (k : K) : Prop where
  dn : a.defers = []
  sle : isN tu = false → a.get sl = a0.get sl
  ex : ∃ k', k'.w = k.w ∧ Chg F k0 k' ∧ tu.is x.1 (a.get sl) k' ∧ Wr F k0 (tu.fp T (a.get sl) k') ∧ ∀ fn : Func, fn.results.toList = C.rs → ∃ v, (results fn a.tmps).run C.P k'.w = .ok v k'.w ∧
    (resR ro cod x.2.1 x.2.2).is ⟨#[], []⟩ v k' ∧ Wr F k0 ((resR ro cod x.2.1 x.2.2).fp v k') ∧ Apart (tu.fp T (a.get sl) k') ((resR ro cod x.2.1 x.2.2).fp v k')
abbrev RetOk (C : Cx T) (rv : Rv T) (F : FP) (k0 : K) (a0 : Act) (x : rv.D T) (a : Act) (k : K) : Prop := RetOq C rv.sl rv.tu rv.ro rv.cod F k0 a0 (rv.inj x) a k
theorem RetOk.step {C : Cx T} {rv : Rv T} {F G : FP} {k0 k1 k : K} {x : rv.D T} {a0 a1 a : Act} (h : RetOk C rv G k1 a1 x a k) (g : Chg F k0 k1) (hw : Wr F k0 G) (ho : isN rv.tu = false → a1.get rv.sl = a0.get rv.sl) : RetOk C rv F k0 a0 x a k := by
  obtain ⟨h1, h2, k', h3, h4, h5, h6, h7⟩ := h
  have wr : ∀ H, Wr G k1 H → Wr F k0 H := fun H hH b hb => by
    rcases hH b hb with h8 | h8
    · exact hw b h8
    · exact .inr (Nat.le_trans g.size h8)
  refine ⟨h1, fun hN => (h2 hN).trans (ho hN), k', h3, g.step h4 hw, h5, wr _ h6, fun fn hfn => ?_⟩
  obtain ⟨v, g1, g2, g3, g4⟩ := h7 fn hfn
  exact ⟨v, g1, g2, wr _ g3, g4⟩

section
variable {C : Cx T} {cod : Rv T} {F : FP} {k0 : K} {W : List Nat} {a0 : Act} {e : Env T} {a : Act} {k : K}

end
end Go.Gb

/- General part of the proofs: whole functions. -/
namespace Go.Gb
variable {T : Tb} {R : Type}
def body (f : Func) : Code := f.body.getD .skip
def EqsOk (P : Program) (T : Tb) : List (TypeId × Nat) → Prop
  | [] => True
  | (t, n) :: l => @EqOk P t (T.S n) (T.enc n) (T.deq n) ∧ EqsOk P T l
theorem EqsOk.at {P : Program} : ∀ {l : List (TypeId × Nat)}, EqsOk P T l → ∀ t n, l.contains (t, n) = true → @EqOk P t (T.S n) (T.enc n) (T.deq n)
  | [], _, _, _, h => by simp at h
  | (t', n') :: l, h, t, n, hc => by
    simp only [List.contains_cons, Bool.or_eq_true, beq_iff_eq, Prod.mk.injEq] at hc
    rcases hc with ⟨rfl, rfl⟩ | hc
    · exact h.1
    · exact EqsOk.at h.2 t n hc
theorem HIs.cons {a b : Tp} {l : List Tp} {x : HL T.S (a :: b :: l)} {vs : List Value} {k : K} (h : HIs (a :: b :: l) x vs k) : ∃ u us, vs = u :: us ∧ IsV x.1 u k ∧ HIs (b :: l) x.2 us k := by
  cases vs with
  | nil => exact h.elim
  | cons u us => exact ⟨u, us, rfl, h.1, h.2⟩
theorem HIs.one {a : Tp} {x : HL T.S [a]} {vs : List Value} {k : K} (h : HIs [a] x vs k) : ∃ u, vs = [u] ∧ IsV (α := T.D a) x u k := by
  cases vs with
  | nil => exact h.elim
  | cons u us => cases us with
    | nil => exact ⟨u, rfl, h⟩
    | cons _ _ => exact h.elim
theorem HIs.nil {x : HL T.S []} {vs : List Value} {k : K} (h : HIs [] x vs k) : vs = [] := by
  cases vs with
  | nil => rfl
  | cons u us => exact h.elim
theorem HIs.len {k : K} : ∀ {l : List Tp} {x : HL T.S l} {vs : List Value}, HIs l x vs k → vs.length = l.length
  | [], _, _, h => by rw [h.nil]; rfl
  | [_], _, _, h => by obtain ⟨u, rfl, _⟩ := h.one; rfl
  | _ :: _ :: _, _, _, h => by obtain ⟨u, us, rfl, _, h'⟩ := h.cons; simp [HIs.len h']

/-! functions with things of their own -/
theorem PIs.len {k : K} {u1 u2 : Value} : ∀ {l : List Pm} {x : HL T.S (valsP l)} {vs : List Value}, PIs l x u1 u2 vs k → vs.length = l.length
  | [], _, [], _ => rfl
  | [], _, _ :: _, h => h.elim
  | .v _ :: _, _, [], h => h.elim
  | .tu :: _, _, [], h => h.elim
  | .tk :: _, _, [], h => h.elim
  | .v _ :: l, _, _ :: _, h => by simp [PIs.len (l := l) h.2]
  | .tu :: l, _, _ :: _, h => by simp [PIs.len (l := l) h.2]
  | .tk :: l, _, _ :: _, h => by simp [PIs.len (l := l) h.2]
  | .fn _ :: _, _, [], h => h.elim
  | .fn _ :: l, _, _ :: _, h => by simp [PIs.len (l := l) h.2]
/-! from the other form -/
/-! package-level variables -/
theorem GOk.none {k : K} (h : ∀ g, T.gl g = .none) (h' : ∀ g, T.gi = some g → ∃ m : Int, IsRef m (.pointer (some ⟨g, 0, .none⟩)) k) : GOk T k := ⟨fun g t x e => by rw [h g] at e; simp at e, h'⟩
/-- in the world of a call -/
theorem GOk.at {k0 k k' : K} (h : GOk T k0) (g : Chg noF k0 k) (g' : Grow k k') : GOk T k' := (h.le (g.le fun _ f => f.elim)).le g'.le
/-- the same structs, and what the package-level variables hold -/
def Tb.withG (T : Tb) (gl : Nat → Option (Σ t : Tp, t.den T.S)) (gi : Option Nat) : Tb := { T with gl := gl, gi := gi }
theorem HIs.low {gl : Nat → Option (Σ t : Tp, t.den T.S)} {gi : Option Nat} {k : K} : ∀ {l : List Tp} {x : HL T.S l} {vs : List Value}, HIs (T := T.withG gl gi) l x vs k → HIs (T := T) l x vs k
  | [], _, [], _ => trivial
  | [_], _, [_], h => h
  | _ :: _ :: _, _, _ :: _, h => ⟨h.1, HIs.low h.2⟩
  | [], _, _ :: _, h => h.elim
  | [_], _, [], h => h.elim
  | [_], _, _ :: _ :: _, h => h.elim
  | _ :: _ :: _, _, [], h => h.elim
/-! from and to the other form -/
end Go.Gb
namespace Go.Gb
variable {T : Tb}
theorem PIs.v {t : Tp} {l : List Pm} {x : HL T.S (valsP (.v t :: l))} {u1 u2 : Value} {vs : List Value} {k : K} (h : PIs (.v t :: l) x u1 u2 vs k) : ∃ v ws, vs = v :: ws ∧ IsV (α := T.D t) (hdH x) v k ∧ PIs l (tlH x) u1 u2 ws k := by
  cases vs with
  | nil => exact h.elim
  | cons v ws => exact ⟨v, ws, rfl, h.1, h.2⟩
theorem PIs.tu {l : List Pm} {x : HL T.S (valsP (.tu :: l))} {u1 u2 : Value} {vs : List Value} {k : K} (h : PIs (.tu :: l) x u1 u2 vs k) : ∃ ws, vs = u1 :: ws ∧ PIs l x u1 u2 ws k := by
  cases vs with
  | nil => exact h.elim
  | cons v ws => exact ⟨ws, by rw [h.1], h.2⟩
theorem PIs.tk {l : List Pm} {x : HL T.S (valsP (.tk :: l))} {u1 u2 : Value} {vs : List Value} {k : K} (h : PIs (.tk :: l) x u1 u2 vs k) : ∃ ws, vs = u2 :: ws ∧ PIs l x u1 u2 ws k := by
  cases vs with
  | nil => exact h.elim
  | cons v ws => exact ⟨ws, by rw [h.1], h.2⟩
theorem PIs.fn {g : Nat} {l : List Pm} {x : HL T.S (valsP (.fn g :: l))} {u1 u2 : Value} {vs : List Value} {k : K} (h : PIs (.fn g :: l) x u1 u2 vs k) : ∃ ws, vs = .func (.func g) #[] #[] :: ws ∧ PIs l x u1 u2 ws k := by
  cases vs with
  | nil => exact h.elim
  | cons v ws => exact ⟨ws, by rw [h.1], h.2⟩
theorem PIs.nil {x : HL T.S (valsP [])} {u1 u2 : Value} {vs : List Value} {k : K} (h : PIs [] x u1 u2 vs k) : vs = [] := by
  cases vs with
  | nil => rfl
  | cons v ws => exact h.elim
end Go.Gb


set_option linter.unusedVariables false
set_option linter.unusedSimpArgs false
/- General part of the proofs: what a program tells of its own regions (no program in sight). -/
namespace Go.Gb

/-- as chkL; moves of the first part may be late too -/
def chkM (n m : Nat) (late ord : List Nat) (A : Array Oper) (es : List Ent) : Bool :=
  chkS n m A.toList es && Region.noSelect A && chkLate A (Array.replicate A.size false) late && late.all (fun l => decide (l < A.size)) &&
  allI (fun j _ => decide (j < m) || late.contains j || (List.range m).all fun i => late.contains i || hasBit (masks A.toList []) j i) 0 A.toList &&
  chkT A (fullL A m late) ord && ((fullL A m late).toList.filter (· = false)).length == ord.length && decide late.Nodup &&
  late.all (fun l => late.all fun l' => (mvOf A l).2 != (mvOf A l').1 && (l == l' || (mvOf A l).1 != (mvOf A l').1)) && late.all (fun l => decide ((mvOf A l).1 < n)) &&
  late.all fun l => match nth es l with | some e => e.need.all fun x => x.1 != (mvOf A l).1 | none => true
section
variable {P : Program} {a0 : Act} {k0 : K} {es : List Ent}
theorem any_mid {A : Array Oper} {n m : Nat} {late ord : List Nat} {Q : Exit → Act → World → Prop} (hn : a0.tmps.size = n) (hchk : chkM n m late ord A es = true)
    (hst : Steps P es a0 k0 (A.toList.take m) es) (hQ : LetsOut Q) (hQp : ∀ c a w, ¬ Q (.panic c) a w) (hQo : ∀ a w, ¬ Q .outgrown a w)
    (hpost : ∀ a k, Inv A.toList es a0 k0 (· < m) a k → wpOps P A Q ord a k.w) :
    ∀ (fuel : Nat) (listed : Array Bool) (a : Act) (k : K), listed.size = A.size → fuel = (listed.toList.filter (· = false)).length →
      (∀ l ∈ late, listed.getD l false = true) → (∀ j, listed.getD j false = true → j < m ∨ j ∈ late) → Inv A.toList es a0 k0 (fun j => listed.getD j false = true ∧ j < m) a k → wpAny P .any A Q fuel listed a k.w := by
  have hchk' := hchk
  simp only [chkM, Bool.and_eq_true, beq_iff_eq, decide_eq_true_eq] at hchk'
  obtain ⟨⟨⟨⟨⟨⟨⟨⟨⟨⟨hS, hnos⟩, hlate⟩, hlm⟩, htail⟩, hT⟩, hcnt⟩, hnd⟩, hsrc⟩, hdst⟩, hown⟩ := hchk'
  have hS' := hS
  simp only [chkS, Bool.and_eq_true, beq_iff_eq, decide_eq_true_eq] at hS'
  obtain ⟨⟨⟨⟨hlen, hml⟩, h2⟩, hedge⟩, hdist⟩ := hS'
  have hmA : m ≤ A.size := by simpa using hml
  have hmv : ∀ l ∈ late, ∃ o, A[l]? = some o ∧ o.after = #[] := by
    have : ∀ (r : List Nat) (b : Array Bool), chkLate A b r = true → ∀ l ∈ r, isMv A l = true := by
      intro r
      induction r with
      | nil => intro b _ l hl; simp at hl
      | cons x r ih =>
        intro b hb l hl
        simp only [chkLate, Bool.and_eq_true] at hb
        rcases List.mem_cons.1 hl with rfl | hl
        · exact hb.1.1.1
        · exact ih _ hb.2 l hl
    intro l hl
    obtain ⟨o, ho, _, ha, _⟩ := isMv_spec (P := P) (this late _ hlate l hl)
    exact ⟨o, ho, ha⟩
  intro fuel
  induction fuel with
  | zero =>
    intro listed a k hls hf hL hDm hinv
    have hall : ∀ j, j < A.size → listed.getD j false = true := by
      intro j hj
      have hz := List.eq_nil_of_length_eq_zero hf.symm
      have : listed[j]'(by omega) ∉ listed.toList.filter (· = false) := by rw [hz]; simp
      simp only [List.mem_filter, Array.mem_toList_iff, Array.getElem_mem, true_and, decide_eq_true_eq, Bool.not_eq_false] at this
      simp [Array.getD_eq_getD_getElem?, Array.getElem?_eq_getElem (show j < listed.size by omega), this]
    have hfl : listed = fullL A m late := by
      refine Array.ext (by simp [fullL, hls]) fun j h1 h2 => ?_
      have h3 := hall j (by omega)
      have h4 := hDm j h3
      have h5 : listed[j] = true := by simpa [Array.getD_eq_getD_getElem?, Array.getElem?_eq_getElem h1] using h3
      rw [h5]
      simp only [fullL, Array.getElem_map, Array.getElem_range]
      simpa using h4
    have hinv' : Inv A.toList es a0 k0 (· < m) a k := by
      have he : (fun j => listed.getD j false = true ∧ j < m) = (· < m) := funext fun j => propext ⟨fun h => h.2, fun h => ⟨hall j (by omega), h⟩⟩
      rw [he] at hinv; exact hinv
    have h0 : ord.length = 0 := by rw [← hcnt, ← hfl]; exact hf.symm
    have := tail_ord hnos hQp hQo ord listed a k.w (by rw [hfl]; exact hT) (hpost a k hinv')
    rw [h0] at this
    exact this
  | succ fuel ih =>
    intro listed a k hls hf hL hDm hinv
    by_cases hfull : ∀ j, j < m → listed.getD j false = true
    · have hfl : listed = fullL A m late := by
        refine Array.ext (by simp [fullL, hls]) fun j h1 h2 => ?_
        have hg : listed.getD j false = listed[j] := by simp [Array.getD_eq_getD_getElem?, Array.getElem?_eq_getElem h1]
        have e : (fullL A m late)[j] = (decide (j < m) || late.contains j) := by simp [fullL]
        rw [e, ← hg, Bool.eq_iff_iff]
        simp only [Bool.or_eq_true, decide_eq_true_eq, List.contains_iff_mem]
        exact ⟨hDm j, fun h => h.elim (hfull j) (hL j)⟩
      have hinv' : Inv A.toList es a0 k0 (· < m) a k := by
        have he : (fun j => listed.getD j false = true ∧ j < m) = (· < m) := funext fun j => propext ⟨fun h => h.2, fun h => ⟨hfull j h, h⟩⟩
        rw [he] at hinv; exact hinv
      have h0 : ord.length = fuel + 1 := by rw [← hcnt, ← hfl]; exact hf.symm
      have := tail_ord hnos hQp hQo ord listed a k.w (by rw [hfl]; exact hT) (hpost a k hinv')
      rw [h0] at this
      exact this
    · have hex : ∃ j, j < m ∧ listed.getD j false = false ∧ ∀ i, i < j → listed.getD i false = true := by
        obtain ⟨j, hj⟩ := Classical.not_forall.1 hfull
        have hj : j < m ∧ listed.getD j false = false := by
          by_cases h : j < m
          · exact ⟨h, by cases hb : listed.getD j false with | false => rfl | true => exact absurd (fun _ => hb) hj⟩
          · exact absurd (fun h' => absurd h' h) hj
        clear hfull
        induction j using Nat.strongRecOn with
        | _ j ihj =>
          by_cases hall : ∀ i, i < j → listed.getD i false = true
          · exact ⟨j, hj.1, hj.2, hall⟩
          · obtain ⟨i, hi⟩ := Classical.not_forall.1 hall
            obtain ⟨hij, hib⟩ : i < j ∧ ¬ listed.getD i false = true := ⟨Classical.byContradiction fun h => hi fun h' => absurd h' h, fun h => hi fun _ => h⟩
            exact ihj i hij (fun h => absurd (h (by omega)) hib) ⟨by omega, by simpa using hib⟩
      have hT2 : ∀ j, j < A.size → listed.getD j true = listed.getD j false := by
        intro j hj; simp [Array.getD_eq_getD_getElem?, Array.getElem?_eq_getElem (show j < listed.size by omega)]
      have hbind : ∀ j, j < A.size → ((A[j]?).map (·.after.all fun e => !Region.binds .any e || listed.getD e.on false)).getD false = true →
          ∀ o, nth A.toList j = some o → ∀ e ∈ binding o, listed.getD e false = true := by
        intro j hjA hj2 o ho e he
        have hA : A[j]? = some o := by rw [← nth_toList]; exact ho
        rw [hA] at hj2
        simp only [Option.map_some, Option.getD_some, Array.all_eq_true_iff_forall_mem] at hj2
        simp only [binding, List.mem_map, List.mem_filter, Array.mem_toList_iff] at he
        obtain ⟨y, ⟨hy, hyb⟩, rfl⟩ := he
        have := hj2 y hy
        simpa only [hyb, Bool.not_true, Bool.false_or] using this
      have hclosed : ∀ x o', nth A.toList x = some o' → listed.getD x false = true → ∀ e ∈ binding o', listed.getD e false = true := by
        intro x o' ho' hx e he
        rcases hDm x hx with h | h
        · exact (hinv.closed x o' ho' ⟨hx, h⟩ e he).1
        · obtain ⟨o2, h1, h2⟩ := hmv x h
          rw [nth_toList, h1, Option.some.injEq] at ho'
          subst ho'
          simp [binding, h2] at he
      refine ⟨fun hnil => ?_, fun i hi => ?_⟩
      · exfalso
        obtain ⟨j, hjm, hjb, hlow⟩ := hex
        have hjr : j ∈ Region.ready .any A listed := by
          simp only [Region.ready, List.mem_filter, List.mem_range, Bool.and_eq_true, Bool.not_eq_true']
          refine ⟨by omega, by rw [hT2 j (by omega)]; exact hjb, ?_⟩
          have hA : A[j]? = some A[j] := by simp [show j < A.size by omega]
          rw [hA]
          simp only [Option.map_some, Option.getD_some, Array.all_eq_true_iff_forall_mem]
          intro y hy
          cases hyb : Region.binds .any y with
          | false => rfl
          | true =>
            simp only [Bool.not_true, Bool.false_or]
            have ho : nth A.toList j = some A[j] := by rw [nth_toList]; exact hA
            have := allI_spec hedge j _ ho
            simp only [Nat.zero_add, List.all_eq_true, decide_eq_true_eq] at this
            exact hlow _ (this y.on (by simp only [binding, List.mem_map, List.mem_filter, Array.mem_toList_iff]; exact ⟨y, ⟨hy, hyb⟩, rfl⟩))
        rw [hnil] at hjr; simp at hjr
      · simp only [Region.ready, List.mem_filter, List.mem_range, Bool.and_eq_true, Bool.not_eq_true'] at hi
        obtain ⟨hiA, hi1, hi2⟩ := hi
        rw [hT2 i hiA] at hi1
        have ho : nth A.toList i = some A[i] := by rw [nth_toList]; simp [hiA]
        have hb := hbind i hiA hi2 _ ho
        have him : i < m := by
          rcases Nat.lt_or_ge i m with h | h
          · exact h
          · exfalso
            have hnl : i ∉ late := fun hl => by rw [hL i hl] at hi1; simp at hi1
            have hc := allI_spec htail i _ ho
            simp only [Nat.zero_add, Bool.or_eq_true, decide_eq_true_eq, List.contains_iff_mem] at hc
            have hc := (hc.resolve_left (fun h' => h'.elim (fun h'' => by omega) hnl))
            obtain ⟨j, hjm, hjb, hlow⟩ := hex
            have hbit := List.all_eq_true.1 hc j (by simp; omega)
            have hjl : late.contains j = false := by
              cases hcj : late.contains j with
              | false => rfl
              | true => rw [hL j (by simpa using hcj)] at hjb; simp at hjb
            rw [hjl, Bool.false_or] at hbit
            have := hasBit_spec (L := A.toList) (D := fun x => listed.getD x false = true) hclosed (j := i) (i := j)
              (fun o' ho' => hbind i hiA hi2 o' ho') hbit
            rw [this] at hjb; simp at hjb
        have hbm : ∀ e ∈ binding A[i], e < i := by
          have := allI_spec hedge i _ ho
          simp only [Nat.zero_add, List.all_eq_true, decide_eq_true_eq] at this
          exact this
        refine step_op hn hS hst hinv (fun j h => h.2) ho him (fun j hj => ⟨hb j hj, by have := hbm j hj; omega⟩) (fun h => by rw [h.1] at hi1; simp at hi1) hQ fun a' k' hinv' => ?_
        refine ih _ a' k' (by simp [hls]) ?_ (fun l hl => getD_set_true (hL l hl)) (fun j hj => ?_) ?_
        · have hil : i < listed.size := by omega
          have h0 : listed[i] = false := by simpa [Array.getD_eq_getD_getElem?, Array.getElem?_eq_getElem hil] using hi1
          have hsplit : listed.toList = listed.toList.take i ++ false :: listed.toList.drop (i + 1) := by
            have h1 := List.take_append_drop i listed.toList
            have h2 : listed.toList.drop i = listed.toList[i]'(by simpa using hil) :: listed.toList.drop (i + 1) := List.drop_eq_getElem_cons (by simpa using hil)
            rw [Array.getElem_toList, h0] at h2
            exact (h1.symm.trans (by rw [h2]))
          have hset : (listed.setIfInBounds i true).toList = listed.toList.take i ++ true :: listed.toList.drop (i + 1) := by
            rw [Array.toList_setIfInBounds, List.set_eq_take_append_cons_drop, if_pos (by simpa using hil)]
          rw [hset, List.filter_append, List.length_append]
          rw [hsplit, List.filter_append, List.length_append] at hf
          simp only [List.filter_cons] at hf ⊢
          simp at hf ⊢
          omega
        · by_cases hji : j = i
          · exact .inl (by omega)
          · rw [getD_set_ne _ (fun e => hji e.symm)] at hj; exact hDm j hj
        · have he : (fun j => (listed.setIfInBounds i true).getD j false = true ∧ j < m) = (fun j => (listed.getD j false = true ∧ j < m) ∨ j = i) := by
            funext j
            by_cases hji : j = i
            · subst hji; simp [Array.getD_eq_getD_getElem?, show j < listed.size by omega, him]
            · rw [getD_set_ne _ (fun e => hji e.symm)]; simp [hji]
          rw [he]; exact hinv'


/-- What is known when the operations in any order, and the moves, have run. -/
structure PostM (A : Array Oper) (es : List Ent) (m : Nat) (late : List Nat) (a0 : Act) (k0 : K) (a : Act) (k : K) : Prop where
  grow : Grow k0 k
  size : a.tmps.size = a0.tmps.size
  defers : a.defers = a0.defers
  val : ∀ i d R nd, i < m → (nth A.toList i).bind (·.dst) = some d → nth es i = some ⟨some R, nd⟩ → R (a.get d) k
  old : ∀ t, allI (fun i o => (decide (i ≥ m) && !late.contains i) || o.dst != some t) 0 A.toList = true → a.get t = a0.get t
  moved : ∀ l d s, late.contains l = true → m ≤ l → mvOf A l = (d, s) → a.get d = a0.get s

set_option maxHeartbeats 2000000 in
theorem region_mid {id : Nat} {A : Array Oper} {n m : Nat} {Q : Exit → Act → World → Prop} (es : List Ent) (late ord : List Nat) (hm : P.follows .mixedOrders = true)
    (hn : a0.tmps.size = n) (hchk : chkM n m late ord A es = true) (hst : Steps P es a0 k0 (A.toList.take m) es) (hQ : LetsOut Q)
    (hlo : ∀ l ∈ late, l < m → ∀ e, nth es l = some e → ∃ R, e.R = some R ∧ ∀ k, Grow k0 k → R (a0.get (mvOf A l).2) k)
    (hpost : ∀ a k, PostM A es m late a0 k0 a k → wpOps P A (QN Q) ord a k.w) : (Code.region id A true).wp P Q a0 k0.w := by
  have hchk' := hchk
  simp only [chkM, Bool.and_eq_true, beq_iff_eq, decide_eq_true_eq] at hchk'
  obtain ⟨⟨⟨⟨⟨⟨⟨⟨⟨⟨hS, hnos⟩, hlate⟩, hlm⟩, htail⟩, hT⟩, hcnt⟩, hnd⟩, hsrc⟩, hdst⟩, hown⟩ := hchk'
  have hS' := hS
  simp only [chkS, Bool.and_eq_true, beq_iff_eq, decide_eq_true_eq] at hS'
  obtain ⟨⟨⟨⟨hlen, hml⟩, h2⟩, hedge⟩, hdist⟩ := hS'
  have hlm' : ∀ l ∈ late, l < A.size := fun l hl => by
    have := List.all_eq_true.1 hlm l hl
    simpa using this
  have hdst' : ∀ l ∈ late, (mvOf A l).1 < n := fun l hl => by
    have := List.all_eq_true.1 hdst l hl
    simpa using this
  have hsrc' : ∀ l ∈ late, ∀ l' ∈ late, (mvOf A l).2 ≠ (mvOf A l').1 ∧ (l = l' ∨ (mvOf A l).1 ≠ (mvOf A l').1) := fun l hl l' hl' => by
    have := List.all_eq_true.1 (List.all_eq_true.1 hsrc l hl) l' hl'
    simpa using this
  have hmv : ∀ l ∈ late, ∃ o, A[l]? = some o ∧ o.after = #[] ∧ o.dst = some (mvOf A l).1 := by
    have : ∀ (r : List Nat) (b : Array Bool), chkLate A b r = true → ∀ l ∈ r, isMv A l = true := by
      intro r
      induction r with
      | nil => intro b _ l hl; simp at hl
      | cons x r ih =>
        intro b hb l hl
        simp only [chkLate, Bool.and_eq_true] at hb
        rcases List.mem_cons.1 hl with rfl | hl
        · exact hb.1.1.1
        · exact ih _ hb.2 l hl
    intro l hl
    obtain ⟨o, ho, _, ha, hd, _⟩ := isMv_spec (P := P) (this late _ hlate l hl)
    exact ⟨o, ho, ha, hd⟩
  -- what no move writes
  have hbase : ∀ t, (∀ l ∈ late, (mvOf A l).1 ≠ t) → (lateAct A late a0).get t = a0.get t := fun t ht => lateAct_old (n := n) late a0 hn hdst' ht
  have hst' : Steps P es (lateAct A late a0) k0 (A.toList.take m) es := by
    refine steps_base (fun i o e ho he t ht => hbase t fun l hl hd => ?_) hst
    have hi : i < m := by
      have := nth_lt ho
      simp only [List.length_take] at this
      omega
    obtain ⟨e', he', hc⟩ := chk2_spec h2 i o ho
    rw [he, Option.some.injEq] at he'
    subst he'
    simp only [chkOp, Bool.and_eq_true, Nat.zero_add] at hc
    have := List.all_eq_true.1 hc.2 _ ht
    simp only at this
    obtain ⟨ol, hol, hal, hdl⟩ := hmv l hl
    have hnl : nth A.toList l = some ol := by rw [nth_toList]; exact hol
    have h3 := allI_spec this l ol hnl
    simp only [Nat.zero_add, Bool.or_eq_true, bne_iff_ne, beq_iff_eq, hdl] at h3
    rcases h3 with (h3 | h3) | h3
    · exact h3 (by rw [hd])
    · subst h3
      have h5 := List.all_eq_true.1 hown l hl
      simp only [he, List.all_eq_true, bne_iff_ne] at h5
      exact h5 _ ht hd.symm
    · have hf := hasBit_spec (L := A.toList) (D := fun _ => False) (fun _ _ _ hx => hx.elim) (j := l) (i := i) (fun o' ho' e he => by
        rw [hnl, Option.some.injEq] at ho'
        subst ho'
        simp [binding, hal] at he) h3
      exact hf
  have hp : ∀ a k, Inv A.toList es (lateAct A late a0) k0 (· < m) a k → wpOps P A (QN Q) ord a k.w := by
    intro a k hinv
    refine hpost a k ⟨hinv.grow, hinv.size.trans (lateAct_size late a0), hinv.defers.trans (lateAct_defers late a0), ?_, ?_, ?_⟩
    · intro i d R nd him hd he
      cases ho : nth A.toList i with
      | none => rw [ho] at hd; simp at hd
      | some o => rw [ho] at hd; exact hinv.vals i o d _ him ho hd he
    · intro t ht
      rw [hinv.rest t ?_, hbase t ?_]
      · intro l hl hd
        obtain ⟨ol, hol, _, hdl⟩ := hmv l hl
        have := allI_spec ht l ol (by rw [nth_toList]; exact hol)
        simp only [Nat.zero_add, Bool.or_eq_true, Bool.and_eq_true, decide_eq_true_eq, Bool.not_eq_true', bne_iff_ne, ne_eq, hdl] at this
        rcases this with h | h
        · exact absurd (List.contains_iff_mem.2 hl) (by rw [h.2]; simp)
        · exact h (by rw [hd])
      · intro i o hi ho hd
        have := allI_spec ht i o ho
        simp only [Nat.zero_add, Bool.or_eq_true, Bool.and_eq_true, decide_eq_true_eq, bne_iff_ne, ne_eq] at this
        rcases this with h | h
        · omega
        · exact h hd
    · intro l d s hl hml hds
      have hlm2 := List.contains_iff_mem.1 hl
      obtain ⟨ol, hol, _, hdl⟩ := hmv l hlm2
      have hd : (mvOf A l).1 = d := by rw [hds]
      have hs : (mvOf A l).2 = s := by rw [hds]
      rw [hinv.rest d ?_, ← hd, ← hs, lateAct_new (n := n) late a0 hn hdst' hnd hsrc' l hlm2]
      intro i o hi ho hod
      have := allI_spec (allI_spec hdist i o ho) l ol (by rw [nth_toList]; exact hol)
      simp only [Nat.zero_add, Bool.or_eq_true, beq_iff_eq, bne_iff_ne, ne_eq] at this
      rcases this with (h | h) | h
      · omega
      · rw [hod] at h; simp at h
      · exact h (by rw [hod, hdl, hd])
  refine wp_mono (Q := QN Q) ?_ (fun e a w h => by cases e <;> first | exact h | exact h.elim)
  refine wp_region_any hm ?_
  let k1 : K := ⟨{ k0.w with drawn := k0.w.drawn + 1 }, k0.sh, k0.lt⟩
  have hg : Grow k0 k1 := ⟨rfl, rfl, rfl, Nat.le_refl _, fun _ _ => rfl, fun _ h => h, fun _ _ h => h, Nat.le_succ _⟩
  have hF : ∀ j, ¬ (Array.replicate A.size false).getD j false = true := by
    intro j hj; simp [Array.getD_eq_getD_getElem?, Array.getElem?_replicate] at hj; split at hj <;> simp at hj
  have hLg : ∀ j, (listL (Array.replicate A.size false) late).getD j false = true ↔ j ∈ late := by
    intro j
    rw [listL_get late _ j (fun l hl => by simpa using hlm' l hl)]
    exact ⟨fun h => h.resolve_left (hF j), .inr⟩
  obtain ⟨fuel, hfuel⟩ : ∃ f, f = ((listL (Array.replicate A.size false) late).toList.filter (· = false)).length := ⟨_, rfl⟩
  have hsum : ∀ (r : List Nat) (b : Array Bool), r.Nodup → (∀ l ∈ r, l < b.size ∧ b.getD l false = false) → ((listL b r).toList.filter (· = false)).length + r.length = (b.toList.filter (· = false)).length := by
    intro r
    induction r with
    | nil => intro b _ _; rfl
    | cons l r ih =>
      intro b hn hb
      obtain ⟨hx, hn'⟩ := List.nodup_cons.1 hn
      obtain ⟨hl, hlb⟩ := hb l List.mem_cons_self
      have ih := ih (b.setIfInBounds l true) hn' fun l' hl' => ⟨by simpa using (hb l' (List.mem_cons_of_mem _ hl')).1, by rw [getD_set_ne _ (fun e : l = l' => hx (by rw [e]; exact hl'))]; exact (hb l' (List.mem_cons_of_mem _ hl')).2⟩
      have h0 : b[l] = false := by simpa [Array.getD_eq_getD_getElem?, Array.getElem?_eq_getElem hl] using hlb
      have hsplit : b.toList = b.toList.take l ++ false :: b.toList.drop (l + 1) := by
        have h1 := List.take_append_drop l b.toList
        have h2 : b.toList.drop l = b.toList[l]'(by simpa using hl) :: b.toList.drop (l + 1) := List.drop_eq_getElem_cons (by simpa using hl)
        rw [Array.getElem_toList, h0] at h2
        exact (h1.symm.trans (by rw [h2]))
      have hset : (b.setIfInBounds l true).toList = b.toList.take l ++ true :: b.toList.drop (l + 1) := by
        rw [Array.toList_setIfInBounds, List.set_eq_take_append_cons_drop, if_pos (by simpa using hl)]
      rw [listL]
      rw [hset, List.filter_append, List.length_append] at ih
      rw [hsplit, List.filter_append, List.length_append]
      simp only [List.filter_cons] at ih ⊢
      simp at ih ⊢
      omega
  have hs := hsum late (Array.replicate A.size false) hnd fun l hl => ⟨by simpa using hlm' l hl, by simpa using hF l⟩
  have hsz : A.size = fuel + late.length := by rw [hfuel, hs]; simp
  have hbig := take_late (P := P) (A := A) (Q := QN Q) hnos (fun _ _ _ h => h) late (Array.replicate A.size false) a0 k1.w fuel hlate ?_
  · rw [← hsz] at hbig; exact hbig
  refine any_mid (by rw [lateAct_size]; exact hn) hchk hst' trivial (fun _ _ _ h => h) (fun _ _ h => h) hp fuel _ _ k1 (by rw [listL_size]; simp) hfuel (fun l hl => (hLg l).2 hl) (fun j hj => .inr ((hLg j).1 hj)) ?_
  refine ⟨hg, rfl, rfl, fun i o d e hi ho hd he => ?_, fun _ _ => rfl, fun j o ho hj x hx => ?_, fun i hi => by simpa using hlm' i ((hLg i).1 hi.1)⟩
  · have hl := (hLg i).1 hi.1
    obtain ⟨ol, hol, _, hdl⟩ := hmv i hl
    rw [nth_toList, hol, Option.some.injEq] at ho
    subst ho
    rw [hdl, Option.some.injEq] at hd
    subst hd
    obtain ⟨R, hR, hk⟩ := hlo i hl hi.2 e he
    rw [hR, lateAct_new (n := n) late a0 hn hdst' hnd hsrc' i hl]
    exact hk k1 hg
  · obtain ⟨ol, hol, hal, _⟩ := hmv j ((hLg j).1 hj.1)
    rw [nth_toList, hol, Option.some.injEq] at ho
    subst ho
    simp [binding, hal] at hx
end

section
variable {P : Program} {o : Oper} {a : Act} {k : K} {α : Type} [Enc α] {b : Nat} {all hs : List (Hole α)} {x : α} {F G : FP} {v : Value}
theorem Box.cells_eq {cs cs' : List Value} {n : Nat} (h : Box b (⟨cs⟩ : RawC n) k) (h' : Box b (⟨cs'⟩ : RawC n) k) : cs = cs' := by
  obtain ⟨_, arr, t, hh, e, _⟩ := h
  obtain ⟨_, arr', t', hh', e', _⟩ := h'
  rw [hh] at hh'
  simp only [Option.some.injEq, Obj.cells.injEq] at hh'
  obtain ⟨rfl, _⟩ := hh'
  exact (show arr.toList = cs from e).symm.trans e'
omit [Enc α] in
theorem Owns.one {cs : List Value} {y : α} : ∀ {l : List (Hole α)} {F G : FP}, Owns cs x k l F → Owns cs y k l G → F = G
  | [], _, _, h, h' => (show _ = noF from h).trans (show _ = noF from h').symm
  | _ :: _, _, _, ⟨w, H, h0, _, h2, _, e⟩, ⟨w', H', h0', _, h2', _, e'⟩ => by
    rw [h0] at h0'
    obtain rfl := Option.some.inj h0'
    rw [e, e', h2.one h2']
/-- the blocks of such a box -/
theorem BoxH.one {b b' : Nat} {y : α} (h : BoxH b all hs x F v k) (h' : BoxH b' all hs y G v k) : F = G := by
  obtain ⟨e, cs, H, hb, _, ho, _, eF⟩ := h
  obtain ⟨e', cs', H', hb', _, ho', _, eG⟩ := h'
  rw [e] at e'
  have e' : b = b' := by simpa using e'
  subst e'
  obtain rfl := hb.cells_eq hb'
  rw [eF, eG, ho.one ho']
theorem Handed.trans {k k1 k2 : K} {F G : FP} (c1 : Handed k k1 F) (c2 : Handed k1 k2 G) (h : ∀ b, G b → F b) : Handed k k2 F :=
  ⟨c2.w.trans c1.w, ⟨fun b hb => (c2.le.blk b (c1.le.up b hb)).trans (c1.le.blk b hb), fun b hb => c2.le.up b (c1.le.up b hb)⟩, fun b hb => (c2.sh b hb).elim (c1.sh b) fun hb => .inr (h b hb)⟩
/-- .. handed over as a whole -/
theorem BoxH.ref (h : BoxH b all hs x F v k) (hc : CloseOk x all) (hm : ∀ g ∈ all, g ∈ hs) : ∃ k' : K, Handed k k' F ∧ IsRef x v k' := by
  obtain ⟨k1, c1, h1⟩ := h.close hc hm
  obtain ⟨k2, c2, h2⟩ := h1.give
  exact ⟨k2, c1.trans c2 h.sub, by rw [h.ptr]; exact h2⟩
end

theorem Rsc.ex {ι : Type} {R : ι → FP → Pred} (h : ∀ i, Rsc (R i)) : Rsc (fun F v k => ∃ i, R i F v k) :=
  ⟨fun ⟨i, h1⟩ c ha hn => ⟨i, (h i).keep h1 c ha hn⟩, fun ⟨i, h1⟩ c ha => ⟨i, (h i).handed h1 c ha⟩, fun ⟨i, h1⟩ => (h i).lt h1, fun ⟨i, h1⟩ => (h i).nsh h1⟩
end Go.Gb


