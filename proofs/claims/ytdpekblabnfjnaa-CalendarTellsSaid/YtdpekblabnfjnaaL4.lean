/- The general part of the proofs (no program in sight): worlds with shared blocks, regions, operations, calls, loops, what comes in as data, part 4 -/
import Derived.Test.YtdpekblabnfjnaaL3
set_option linter.unusedVariables false
set_option linter.unusedSimpArgs false
/- General part of the proofs: the operations of a region that may run in any order, continued. -/
namespace Go.Gb
variable {T : Tb} {R : Type}
section
variable {C : Cx T} {n : Nat} {F : FP} {kk : K} {W : List Nat} {aa : Act} {e0 : Env T} {a0 : Act} {k0 : K}

def hidP (T : Tb) (bH B : Nat) : Hv → Pred
  | .adr off => IsAdr bH off
  | .box t => IsBoxS (T.D t) B
instance {bH B : Nat} : ∀ y : Hv, Mono (hidP T bH B y)
  | .adr off => inferInstanceAs (Mono (IsAdr bH off))
  | .box t => inferInstanceAs (Mono (IsBoxS (T.D t) B))
/-- What is known of the pointers into the box of which nothing else is told. -/
def Hidden (C : Cx T) (hid : Hd) (bH B : Nat) (g : Option (Nat × Bool)) (cs : List Oper) (es : List Ent) : Prop :=
  g = none → ∀ j o y, nth cs j = some o → o.guard = none → hidO C hid o = some y → ∃ nd, nth es j = some ⟨some (hidP T bH B y), nd⟩
theorem Hidden.cons {hid : Hd} {bH B : Nat} {g : Option (Nat × Bool)} {cs : List Oper} {es : List Ent} {o : Oper} {x : Ent} (h : Hidden C hid bH B g cs es)
    (h0 : ∀ y, hidO C hid o = some y → o.guard = none → ∃ nd, x = ⟨some (hidP T bH B y), nd⟩) : Hidden C hid bH B g (o :: cs) (x :: es) := by
  intro hg j o' y hj hgd ho
  cases j with
  | zero =>
    simp only [nth, Option.some.injEq] at hj
    subst hj
    obtain ⟨nd, h1⟩ := h0 y ho hgd
    exact ⟨nd, by simp [nth, h1]⟩
  | succ j => exact h hg j o' y (by simpa [nth] using hj) hgd ho
theorem Hidden.skip {hid : Hd} {bH B : Nat} {g : Option (Nat × Bool)} : ∀ {gs cs : List Oper} {es1 es : List Ent}, es1.length = gs.length → (∀ o ∈ gs, o.guard ≠ none) → Hidden C hid bH B g cs es → Hidden C hid bH B g (gs ++ cs) (es1 ++ es)
  | [], _, [], _, _, _, h => h
  | o :: gs, _, x :: es1, _, hl, hn, h => Hidden.cons (Hidden.skip (by simpa using hl) (fun o' ho' => hn o' (by simp [ho'])) h) fun _ _ hg => absurd hg (hn o (by simp))
  | [], _, _ :: _, _, hl, _, _ => by simp at hl
  | _ :: _, _, [], _, hl, _, _ => by simp at hl
end
end Go.Gb

/- General part of the proofs: operations one after the other. -/
namespace Go.Gb
variable {T : Tb} {R : Type}
section
variable {C : Cx T} {n : Nat} {F : FP} {k0 : K} {W : List Nat} {a0 : Act} {e : Env T} {a a' : Act} {k k' : K}

/-- A resource is given up, or turned into something else. -/
theorem Hl.swap (h : Hl n F k0 W a0 e a k) {s : Nat} {av : AV T} {G : FP} (hg : Chg F k0 k')
    (hkeep : ∀ (x : AV T) (v : Value), Apart (x.fp v k) G → (∀ u, x.ment2 u = true → ∀ y : AV T, isOB y = true → y.is a (a.get u) k → Apart (y.fp (a.get u) k) G) → x.is a v k → x.is a v k')
    (hkf : ∀ (x : AV T) (v : Value), Apart (x.fp v k) G → x.is a v k → x.fp v k' = x.fp v k)
    (hG : ∀ b, G b → (lk e s).fp (a.get s) k b) (hv : av.is a (a.get s) k') (hm : ∀ t, av.ment t = false) (hw : unl av = true → Wr F k0 (av.fp (a.get s) k')) (hf : ∀ b, av.fp (a.get s) k' b → (lk e s).fp (a.get s) k b) :
    Hl n F k0 W a0 ((s, av) :: mapE (klA s) e) a k' := by
  have lks : lk ((s, av) :: mapE (klA s) e) s = av := by rw [lk_cons, if_pos rfl]
  have lkt : ∀ t, t ≠ s → lk ((s, av) :: mapE (klA s) e) t = klA s (lk e t) := fun t ht => by rw [lk_cons, if_neg (Ne.symm ht), lk_mapE rfl]
  have fpk : ∀ t, t ≠ s → (lk e t).fp (a.get t) k' = (lk e t).fp (a.get t) k := fun t ht => hkf _ _ (fun b hb hb' => h.ap t s ht b hb (hG b hb')) (h.sl t)
  refine ⟨hg, h.s, h.d, h.old, fun t => ?_, fun t u hu' => ?_, fun t ht => ?_, fun t t' hne => ?_, ⟨fun g t x e1 => hkeep (.ref t x) _ (fun b hb _ => hb.elim) (fun u hu => by simp [AV.ment2] at hu) (h.gl.1 g t x e1),
    fun g e1 => (h.gl.2 g e1).imp fun m r => hkeep (.ref .int m) _ (fun b hb _ => hb.elim) (fun u hu => by simp [AV.ment2] at hu) r⟩⟩
  · by_cases ht : t = s
    · subst ht; rw [lks]; exact hv
    · rw [lkt t ht]
      have h1 : (klA s (lk e t)).is a (a.get t) k := by
        rcases klA_or s (lk e t) with e1 | e1
        · rw [e1]; exact h.sl t
        · rw [e1]; trivial
      refine hkeep _ _ (fun b hb hb' => ?_) (fun u hu1 u' hu2 hu3 b hb hb' => ?_) h1
      · rcases klA_or s (lk e t) with e1 | e1
        · rw [e1] at hb; exact h.ap t s ht b hb (hG b hb')
        · rw [e1] at hb; exact hb
      · obtain ⟨hu4, hu5⟩ := klA_ment (AV.ment2_ment hu1)
        exact h.apm (h.inv t u hu4) hu5 hu2 hu3 b hb (hG b hb')
  · by_cases ht : t = s
    · subst ht; rw [lks, hm] at hu'; simp at hu'
    · rw [lkt t ht] at hu'
      obtain ⟨h1, h2⟩ := klA_ment hu'
      have := h.inv t u h1
      rw [lkt u h2, klA_res this]; exact this
  · by_cases ht' : t = s
    · subst ht'; rw [lks] at ht ⊢; exact hw ht
    · rw [lkt t ht'] at ht ⊢
      rcases klA_or s (lk e t) with e1 | e1
      · rw [e1] at ht ⊢; rw [fpk t ht']; exact h.wr t ht
      · rw [e1] at ht; simp [unl] at ht
  · have sub : ∀ t b, (lk ((s, av) :: mapE (klA s) e) t).fp (a.get t) k' b → (lk e t).fp (a.get t) k b := by
      intro t b hb
      by_cases ht : t = s
      · subst ht; rw [lks] at hb; exact hf b hb
      · rw [lkt t ht] at hb
        rcases klA_or s (lk e t) with e1 | e1
        · rw [e1, fpk t ht] at hb; exact hb
        · rw [e1] at hb; exact hb.elim
    exact fun b hb hb' => h.ap t t' hne b (sub t b hb) (sub t' b hb')
theorem Hl.hand (h : Hl n F k0 W a0 e a k) {s : Nat} {G : FP} {av : AV T} (hs : unl (lk e s) = true) (c : Handed k k' G) (hG : ∀ b, G b → (lk e s).fp (a.get s) k b) (hv : av.is a (a.get s) k') (hm : ∀ t, av.ment t = false) (hr : isRes av = false) :
    Hl n F k0 W a0 ((s, av) :: mapE (klA s) e) a k' :=
  h.swap (h.g.hand c fun b hb => h.wr s hs b (hG b hb)) (fun x v h1 h2 h3 => x.handed c h1 h2 h3) (fun x v h1 h3 => x.fp_handed c h1 h3) hG hv hm (fun hu => by rw [unl_res hu] at hr; simp at hr) (fun b hb => absurd hb (fp_nonres hr _ _ b))
/-- More is told of a slot. -/
theorem Hl.set (h : Hl n F k0 W a0 e a k) {s : Nat} {av : AV T} (hs : isRes (lk e s) = false) (hv : av.is a (a.get s) k) (hm : ∀ t, av.ment t = true → isRes (lk e t) = true) (hr : isRes av = false) : Hl n F k0 W a0 ((s, av) :: e) a k := by
  have lks : lk ((s, av) :: e) s = av := by rw [lk_cons, if_pos rfl]
  have lkt : ∀ t, t ≠ s → lk ((s, av) :: e) t = lk e t := fun t ht => by rw [lk_cons, if_neg (Ne.symm ht)]
  have ne : ∀ t, isRes (lk e t) = true → t ≠ s := fun t ht e => by rw [e, hs] at ht; simp at ht
  have fps : ∀ t b, (lk ((s, av) :: e) t).fp (a.get t) k b → (lk e t).fp (a.get t) k b := by
    intro t b hb
    by_cases ht : t = s
    · subst ht; rw [lks] at hb; exact absurd hb (fp_nonres hr _ _ b)
    · rw [lkt t ht] at hb; exact hb
  refine ⟨h.g, h.s, h.d, h.old, fun t => ?_, fun t u hu => ?_, fun t ht => ?_, fun t t' hne b hb hb' => h.ap t t' hne b (fps t b hb) (fps t' b hb'), h.gl⟩
  · by_cases ht : t = s
    · subst ht; rw [lks]; exact hv
    · rw [lkt t ht]; exact h.sl t
  · have : isRes (lk e u) = true := by
      by_cases ht : t = s
      · subst ht; rw [lks] at hu; exact hm u hu
      · rw [lkt t ht] at hu; exact h.inv t u hu
    rw [lkt u (ne u this)]; exact this
  · by_cases ht' : t = s
    · subst ht'; rw [lks] at ht; rw [unl_res ht] at hr; simp at hr
    · rw [lkt t ht'] at ht ⊢; exact h.wr t ht
end
end Go.Gb

/- General part of the proofs: operations one after the other, continued; regions. -/
namespace Go.Gb
variable {T : Tb} {R : Type}
section
variable {C : Cx T} {n : Nat} {F : FP} {k0 : K} {W : List Nat} {a0 : Act} {e : Env T} {a a' : Act} {k k' : K}

end
end Go.Gb

/- General part of the proofs: regions. -/
namespace Go.Gb
variable {T : Tb} {R : Type}
section
variable {C : Cx T} {F : FP} {k0 : K} {W : List Nat} {a0 : Act} {A : Array Oper} {Q : Exit → Act → World → Prop}

theorem Hl.grow {n : Nat} {a : Act} {e : Env T} {k k' : K} (h : Hl n F k0 W a0 e a k) (hg : Grow k k') : Hl n F k0 W a0 e a k' :=
  ⟨h.g.then hg, h.s, h.d, h.old, fun t => (lk e t).mono hg (h.sl t), h.inv, fun t ht => by rw [AV.fp_grow _ hg (h.sl t)]; exact h.wr t ht, fun t t' hne => by rw [AV.fp_grow _ hg (h.sl t), AV.fp_grow _ hg (h.sl t')]; exact h.ap t t' hne, h.gl.le hg.le⟩
end
end Go.Gb

/- General part of the proofs: environments over joins. -/
namespace Go.Gb
variable {T : Tb} {R : Type}

def lockE (W : List Nat) (e : Env T) : Env T := e.map fun p => (p.1, bif W.contains p.1 then p.2 else lkA p.2)
theorem lk_lockE {W : List Nat} : ∀ (e : Env T) (t : Nat), lk (lockE W e) t = bif W.contains t then lk e t else lkA (lk e t)
  | [], t => by show AV.top = _; cases W.contains t <;> rfl
  | (s, x) :: e, t => by
    show lk ((s, _) :: lockE W e) t = _
    rw [lk_cons, lk_cons, lk_lockE e]
    split
    · rename_i h; subst h; rfl
    · rfl
theorem lkA_is {a : Act} {x : AV T} {v : Value} {k : K} (h : x.is a v k) : (lkA x).is a v k := by cases x <;> exact h
theorem lkA_fp {x : AV T} {v : Value} {k : K} : (lkA x).fp v k = x.fp v k := by cases x <;> rfl
theorem lkA_res {x : AV T} : isRes (lkA x) = isRes x := by cases x <;> rfl
theorem lkA_ment {x : AV T} {s : Nat} : (lkA x).ment s = x.ment s := by cases x <;> rfl
theorem lkA_unl {x : AV T} : unl (lkA x) = false := by cases x <;> rfl

/-- the blocks of some slots -/
def FU (e : Env T) (a : Act) (k : K) (L : List Nat) : FP := fun b => ∃ t, L.contains t = true ∧ unl (lk e t) = true ∧ (lk e t).fp (a.get t) k b

section
variable {n : Nat} {F : FP} {k0 : K} {W : List Nat} {a0 : Act} {e e' : Env T} {a a' : Act} {k k' : K}
theorem Hl.lock (h : Hl n F k0 W a0 e a k) (L Wc : List Nat) : Hl n (FU e a k L) k Wc a (lockE L e) a k := by
  have fpe : ∀ t, (lk (lockE L e) t).fp (a.get t) k = (lk e t).fp (a.get t) k := fun t => by
    rw [lk_lockE]; cases L.contains t
    · exact lkA_fp
    · rfl
  refine ⟨Chg.refl _ k, h.s, h.d, fun _ _ => rfl, fun t => ?_, fun t s hs => ?_, fun t ht => ?_, fun t t' hne => by rw [fpe, fpe]; exact h.ap t t' hne, h.gl⟩
  · rw [lk_lockE]; cases L.contains t
    · exact lkA_is (h.sl t)
    · exact h.sl t
  · have h1 : (lk e t).ment s = true := by
      rw [lk_lockE] at hs
      cases hc : L.contains t <;> rw [hc] at hs
      · rwa [cond_false, lkA_ment] at hs
      · exact hs
    rw [lk_lockE]
    cases L.contains s
    · rw [cond_false, lkA_res]; exact h.inv t s h1
    · exact h.inv t s h1
  · rw [fpe]
    rw [lk_lockE] at ht
    cases hc : L.contains t <;> rw [hc] at ht
    · rw [cond_false, lkA_unl] at ht; simp at ht
    · exact fun b hb => .inl ⟨t, hc, ht, hb⟩

end
end Go.Gb


set_option linter.unusedVariables false
set_option linter.unusedSimpArgs false
/- General part of the proofs: the code of a function does what the evaluator says. -/
namespace Go.Gb
variable {T : Tb} {R : Type}

/-- The results of a function, and what else it leaves. -/
structure RetOq (C : Cx T) (sl : Nat) (tu ro : Rk) (cod : List Tp) (F : FP) (k0 : K) (a0 : Act) (x : tu.D T × ro.D T × HL T.S cod) (a : Act) (k : K) : Prop where
  dn : a.defers = []
  sle : isN tu = false → a.get sl = a0.get sl
  ex : ∃ k', k'.w = k.w ∧ Chg F k0 k' ∧ tu.is x.1 (a.get sl) k' ∧ Wr F k0 (tu.fp T (a.get sl) k') ∧ ∀ fn : Func, fn.results.toList = C.rs → ∃ v, (results fn a.tmps).run C.P k'.w = .ok v k'.w ∧
    (resR ro cod x.2.1 x.2.2).is ⟨#[], []⟩ v k' ∧ Wr F k0 ((resR ro cod x.2.1 x.2.2).fp v k') ∧ Apart (tu.fp T (a.get sl) k') ((resR ro cod x.2.1 x.2.2).fp v k')
abbrev RetOk (C : Cx T) (rv : Rv T) (F : FP) (k0 : K) (a0 : Act) (x : rv.D T) (a : Act) (k : K) : Prop := RetOq C rv.sl rv.tu rv.ro rv.cod F k0 a0 (rv.inj x) a k
theorem RetOk.step {C : Cx T} {rv : Rv T} {F G : FP} {k0 k1 k : K} {x : rv.D T} {a0 a1 a : Act} (h : RetOk C rv G k1 a1 x a k) (g : Chg F k0 k1) (hw : Wr F k0 G) (ho : isN rv.tu = false → a1.get rv.sl = a0.get rv.sl) : RetOk C rv F k0 a0 x a k := by
  obtain ⟨h1, h2, k', h3, h4, h5, h6, h7⟩ := h
  have wr : ∀ H, Wr G k1 H → Wr F k0 H := fun H hH b hb => by
    rcases hH b hb with h8 | h8
    · exact hw b h8
    · exact .inr (Nat.le_trans g.size h8)
  refine ⟨h1, fun hN => (h2 hN).trans (ho hN), k', h3, g.step h4 hw, h5, wr _ h6, fun fn hfn => ?_⟩
  obtain ⟨v, g1, g2, g3, g4⟩ := h7 fn hfn
  exact ⟨v, g1, g2, wr _ g3, g4⟩

section
variable {C : Cx T} {cod : Rv T} {F : FP} {k0 : K} {W : List Nat} {a0 : Act} {e : Env T} {a : Act} {k : K}

end
end Go.Gb

/- General part of the proofs: whole functions. -/
namespace Go.Gb
variable {T : Tb} {R : Type}
def body (f : Func) : Code := f.body.getD .skip
def EqsOk (P : Program) (T : Tb) : List (TypeId × Nat) → Prop
  | [] => True
  | (t, n) :: l => @EqOk P t (T.S n) (T.enc n) (T.deq n) ∧ EqsOk P T l
theorem EqsOk.at {P : Program} : ∀ {l : List (TypeId × Nat)}, EqsOk P T l → ∀ t n, l.contains (t, n) = true → @EqOk P t (T.S n) (T.enc n) (T.deq n)
  | [], _, _, _, h => by simp at h
  | (t', n') :: l, h, t, n, hc => by
    simp only [List.contains_cons, Bool.or_eq_true, beq_iff_eq, Prod.mk.injEq] at hc
    rcases hc with ⟨rfl, rfl⟩ | hc
    · exact h.1
    · exact EqsOk.at h.2 t n hc
theorem HIs.cons {a b : Tp} {l : List Tp} {x : HL T.S (a :: b :: l)} {vs : List Value} {k : K} (h : HIs (a :: b :: l) x vs k) : ∃ u us, vs = u :: us ∧ IsV x.1 u k ∧ HIs (b :: l) x.2 us k := by
  cases vs with
  | nil => exact h.elim
  | cons u us => exact ⟨u, us, rfl, h.1, h.2⟩
theorem HIs.one {a : Tp} {x : HL T.S [a]} {vs : List Value} {k : K} (h : HIs [a] x vs k) : ∃ u, vs = [u] ∧ IsV (α := T.D a) x u k := by
  cases vs with
  | nil => exact h.elim
  | cons u us => cases us with
    | nil => exact ⟨u, rfl, h⟩
    | cons _ _ => exact h.elim
theorem HIs.nil {x : HL T.S []} {vs : List Value} {k : K} (h : HIs [] x vs k) : vs = [] := by
  cases vs with
  | nil => rfl
  | cons u us => exact h.elim
theorem HIs.len {k : K} : ∀ {l : List Tp} {x : HL T.S l} {vs : List Value}, HIs l x vs k → vs.length = l.length
  | [], _, _, h => by rw [h.nil]; rfl
  | [_], _, _, h => by obtain ⟨u, rfl, _⟩ := h.one; rfl
  | _ :: _ :: _, _, _, h => by obtain ⟨u, us, rfl, _, h'⟩ := h.cons; simp [HIs.len h']

/-! functions with things of their own -/
theorem PIs.len {k : K} {u1 u2 : Value} : ∀ {l : List Pm} {x : HL T.S (valsP l)} {vs : List Value}, PIs l x u1 u2 vs k → vs.length = l.length
  | [], _, [], _ => rfl
  | [], _, _ :: _, h => h.elim
  | .v _ :: _, _, [], h => h.elim
  | .tu :: _, _, [], h => h.elim
  | .tk :: _, _, [], h => h.elim
  | .v _ :: l, _, _ :: _, h => by simp [PIs.len (l := l) h.2]
  | .tu :: l, _, _ :: _, h => by simp [PIs.len (l := l) h.2]
  | .tk :: l, _, _ :: _, h => by simp [PIs.len (l := l) h.2]
  | .fn _ :: _, _, [], h => h.elim
  | .fn _ :: l, _, _ :: _, h => by simp [PIs.len (l := l) h.2]
/-! from the other form -/
/-! package-level variables -/
theorem GOk.none {k : K} (h : ∀ g, T.gl g = .none) (h' : ∀ g, T.gi = some g → ∃ m : Int, IsRef m (.pointer (some ⟨g, 0, .none⟩)) k) : GOk T k := ⟨fun g t x e => by rw [h g] at e; simp at e, h'⟩
/-- in the world of a call -/
theorem GOk.at {k0 k k' : K} (h : GOk T k0) (g : Chg noF k0 k) (g' : Grow k k') : GOk T k' := (h.le (g.le fun _ f => f.elim)).le g'.le
/-- the same structs, and what the package-level variables hold -/
def Tb.withG (T : Tb) (gl : Nat → Option (Σ t : Tp, t.den T.S)) (gi : Option Nat) : Tb := { T with gl := gl, gi := gi }
theorem HIs.low {gl : Nat → Option (Σ t : Tp, t.den T.S)} {gi : Option Nat} {k : K} : ∀ {l : List Tp} {x : HL T.S l} {vs : List Value}, HIs (T := T.withG gl gi) l x vs k → HIs (T := T) l x vs k
  | [], _, [], _ => trivial
  | [_], _, [_], h => h
  | _ :: _ :: _, _, _ :: _, h => ⟨h.1, HIs.low h.2⟩
  | [], _, _ :: _, h => h.elim
  | [_], _, [], h => h.elim
  | [_], _, _ :: _ :: _, h => h.elim
  | _ :: _ :: _, _, [], h => h.elim
/-! from and to the other form -/
end Go.Gb
namespace Go.Gb
variable {T : Tb}
theorem PIs.v {t : Tp} {l : List Pm} {x : HL T.S (valsP (.v t :: l))} {u1 u2 : Value} {vs : List Value} {k : K} (h : PIs (.v t :: l) x u1 u2 vs k) : ∃ v ws, vs = v :: ws ∧ IsV (α := T.D t) (hdH x) v k ∧ PIs l (tlH x) u1 u2 ws k := by
  cases vs with
  | nil => exact h.elim
  | cons v ws => exact ⟨v, ws, rfl, h.1, h.2⟩
theorem PIs.tu {l : List Pm} {x : HL T.S (valsP (.tu :: l))} {u1 u2 : Value} {vs : List Value} {k : K} (h : PIs (.tu :: l) x u1 u2 vs k) : ∃ ws, vs = u1 :: ws ∧ PIs l x u1 u2 ws k := by
  cases vs with
  | nil => exact h.elim
  | cons v ws => exact ⟨ws, by rw [h.1], h.2⟩
theorem PIs.tk {l : List Pm} {x : HL T.S (valsP (.tk :: l))} {u1 u2 : Value} {vs : List Value} {k : K} (h : PIs (.tk :: l) x u1 u2 vs k) : ∃ ws, vs = u2 :: ws ∧ PIs l x u1 u2 ws k := by
  cases vs with
  | nil => exact h.elim
  | cons v ws => exact ⟨ws, by rw [h.1], h.2⟩
theorem PIs.fn {g : Nat} {l : List Pm} {x : HL T.S (valsP (.fn g :: l))} {u1 u2 : Value} {vs : List Value} {k : K} (h : PIs (.fn g :: l) x u1 u2 vs k) : ∃ ws, vs = .func (.func g) #[] #[] :: ws ∧ PIs l x u1 u2 ws k := by
  cases vs with
  | nil => exact h.elim
  | cons v ws => exact ⟨ws, by rw [h.1], h.2⟩
theorem PIs.nil {x : HL T.S (valsP [])} {u1 u2 : Value} {vs : List Value} {k : K} (h : PIs [] x u1 u2 vs k) : vs = [] := by
  cases vs with
  | nil => rfl
  | cons v ws => exact h.elim
end Go.Gb

/- General part of the proofs: what a program tells of its own regions (no program in sight). -/
namespace Go.Gb

section
variable {P : Program} {o : Oper} {a : Act} {k : K} {α : Type} [Enc α] {b : Nat} {all hs : List (Hole α)} {x : α} {F G : FP} {v : Value}
theorem Box.cells_eq {cs cs' : List Value} {n : Nat} (h : Box b (⟨cs⟩ : RawC n) k) (h' : Box b (⟨cs'⟩ : RawC n) k) : cs = cs' := by
  obtain ⟨_, arr, t, hh, e, _⟩ := h
  obtain ⟨_, arr', t', hh', e', _⟩ := h'
  rw [hh] at hh'
  simp only [Option.some.injEq, Obj.cells.injEq] at hh'
  obtain ⟨rfl, _⟩ := hh'
  exact (show arr.toList = cs from e).symm.trans e'
omit [Enc α] in
theorem Owns.one {cs : List Value} {y : α} : ∀ {l : List (Hole α)} {F G : FP}, Owns cs x k l F → Owns cs y k l G → F = G
  | [], _, _, h, h' => (show _ = noF from h).trans (show _ = noF from h').symm
  | _ :: _, _, _, ⟨w, H, h0, _, h2, _, e⟩, ⟨w', H', h0', _, h2', _, e'⟩ => by
    rw [h0] at h0'
    obtain rfl := Option.some.inj h0'
    rw [e, e', h2.one h2']
/-- the blocks of such a box -/
theorem BoxH.one {b b' : Nat} {y : α} (h : BoxH b all hs x F v k) (h' : BoxH b' all hs y G v k) : F = G := by
  obtain ⟨e, cs, H, hb, _, ho, _, eF⟩ := h
  obtain ⟨e', cs', H', hb', _, ho', _, eG⟩ := h'
  rw [e] at e'
  have e' : b = b' := by simpa using e'
  subst e'
  obtain rfl := hb.cells_eq hb'
  rw [eF, eG, ho.one ho']
theorem BoxH.root {c : Nat} (h : BoxH b all hs x F v k) (hv : v = .pointer (some ⟨c, 0, none⟩) ∨ obF v c) : F c := by
  have e := h.ptr
  rcases hv with hv | hv
  · rw [e] at hv
    have : b = c := by simpa using hv
    exact this ▸ h.has
  · rw [e] at hv; simp [obF, ob] at hv
theorem Handed.trans {k k1 k2 : K} {F G : FP} (c1 : Handed k k1 F) (c2 : Handed k1 k2 G) (h : ∀ b, G b → F b) : Handed k k2 F :=
  ⟨c2.w.trans c1.w, ⟨fun b hb => (c2.le.blk b (c1.le.up b hb)).trans (c1.le.blk b hb), fun b hb => c2.le.up b (c1.le.up b hb)⟩, fun b hb => (c2.sh b hb).elim (c1.sh b) fun hb => .inr (h b hb)⟩
/-- .. handed over as a whole -/
theorem BoxH.ref (h : BoxH b all hs x F v k) (hc : CloseOk x all) (hm : ∀ g ∈ all, g ∈ hs) : ∃ k' : K, Handed k k' F ∧ IsRef x v k' := by
  obtain ⟨k1, c1, h1⟩ := h.close hc hm
  obtain ⟨k2, c2, h2⟩ := h1.give
  exact ⟨k2, c1.trans c2 h.sub, by rw [h.ptr]; exact h2⟩
end

theorem Rsc.ex {ι : Type} {R : ι → FP → Pred} (h : ∀ i, Rsc (R i)) : Rsc (fun F v k => ∃ i, R i F v k) :=
  ⟨fun ⟨i, h1⟩ c ha hn => ⟨i, (h i).keep h1 c ha hn⟩, fun ⟨i, h1⟩ c ha => ⟨i, (h i).handed h1 c ha⟩, fun ⟨i, h1⟩ => (h i).lt h1, fun ⟨i, h1⟩ => (h i).nsh h1⟩
end Go.Gb


