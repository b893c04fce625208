/- The general part of the proofs (no program in sight): worlds with shared blocks, regions, operations, calls, loops, what comes in as data, part 5 -/
import Derived.Test.YtekbjeagbfbbcaaL4
set_option linter.unusedVariables false
set_option linter.unusedSimpArgs false
/- General part of the proofs: environments over joins. -/
namespace Go.Gb
variable {T : Tb} {R : Type}

def lockE (W : List Nat) (e : Env T) : Env T := e.map fun p => (p.1, bif W.contains p.1 then p.2 else lkA p.2)
theorem lockK_eq (W : List Nat) : ∀ (e : Env T) (k : Env T → Option R), lockK W e k = k (lockE W e)
  | [], _ => rfl
  | (t, a) :: e, k => by rw [lockK, lockK_eq W e]; rfl
theorem lk_lockE {W : List Nat} : ∀ (e : Env T) (t : Nat), lk (lockE W e) t = bif W.contains t then lk e t else lkA (lk e t)
  | [], t => by show AV.top = _; cases W.contains t <;> rfl
  | (s, x) :: e, t => by
    show lk ((s, _) :: lockE W e) t = _
    rw [lk_cons, lk_cons, lk_lockE e]
    split
    · rename_i h; subst h; rfl
    · rfl
def keepE (lock : Bool) (W Wd : List Nat) : Env T → Env T
  | [] => []
  | (t, a) :: e => bif W.contains t then keepE lock W Wd e else (t, bif Wd.contains t then a else keepA lock (W ++ Wd) a) :: keepE lock W Wd e
theorem keepK_eq (lock : Bool) (W Wd : List Nat) : ∀ (e : Env T) (k : Env T → Option R), keepK lock W Wd e k = k (keepE lock W Wd e)
  | [], _ => rfl
  | (t, a) :: e, k => by rw [keepK, keepK_eq lock W Wd e]; rfl
theorem lk_keepE {lock : Bool} {W Wd : List Nat} : ∀ (e : Env T) (t : Nat), lk (keepE lock W Wd e) t = bif W.contains t then .top else bif Wd.contains t then lk e t else keepA lock (W ++ Wd) (lk e t)
  | [], t => by show AV.top = _; cases W.contains t <;> cases Wd.contains t <;> rfl
  | (s, x) :: e, t => by
    simp only [keepE]
    cases hs : W.contains s with
    | true =>
      simp only [cond_true]
      rw [lk_keepE e, lk_cons]
      split
      · rename_i h; subst h; rw [hs]; rfl
      · rfl
    | false =>
      simp only [cond_false]
      rw [lk_cons, lk_cons, lk_keepE e]
      split
      · rename_i h; subst h; rw [hs]; rfl
      · rfl

theorem lkA_is {a : Act} {x : AV T} {v : Value} {k : K} (h : x.is a v k) : (lkA x).is a v k := by cases x <;> exact h
theorem lkA_fp {x : AV T} {v : Value} : (lkA x).fp v = x.fp v := by cases x <;> rfl
theorem lkA_res {x : AV T} : isRes (lkA x) = isRes x := by cases x <;> rfl
theorem lkA_ment {x : AV T} {s : Nat} : (lkA x).ment s = x.ment s := by cases x <;> rfl
theorem lkA_unl {x : AV T} : unl (lkA x) = false := by cases x <;> rfl

/-- the blocks of some slots -/
def FU (e : Env T) (a : Act) (L : List Nat) : FP := fun b => ∃ t, L.contains t = true ∧ unl (lk e t) = true ∧ (lk e t).fp (a.get t) b

section
variable {n : Nat} {F : FP} {k0 : K} {W : List Nat} {a0 : Act} {e e' : Env T} {a a' : Act} {k k' : K}
theorem Hl.lock (h : Hl n F k0 W a0 e a k) (L Wc : List Nat) : Hl n (FU e a L) k Wc a (lockE L e) a k := by
  have fpe : ∀ t, (lk (lockE L e) t).fp (a.get t) = (lk e t).fp (a.get t) := fun t => by
    rw [lk_lockE]; cases L.contains t
    · exact lkA_fp
    · rfl
  refine ⟨Chg.refl _ k, h.s, h.d, fun _ _ => rfl, fun t => ?_, fun t s hs => ?_, fun t ht => ?_, fun t t' hne => by rw [fpe, fpe]; exact h.ap t t' hne⟩
  · rw [lk_lockE]; cases L.contains t
    · exact lkA_is (h.sl t)
    · exact h.sl t
  · have h1 : (lk e t).ment s = true := by
      rw [lk_lockE] at hs
      cases hc : L.contains t <;> rw [hc] at hs
      · rwa [cond_false, lkA_ment] at hs
      · exact hs
    rw [lk_lockE]
    cases L.contains s
    · rw [cond_false, lkA_res]; exact h.inv t s h1
    · exact h.inv t s h1
  · rw [fpe]
    rw [lk_lockE] at ht
    cases hc : L.contains t <;> rw [hc] at ht
    · rw [cond_false, lkA_unl] at ht; simp at ht
    · exact fun b hb => .inl ⟨t, hc, ht, hb⟩

theorem keepA_is {a : Act} {lock : Bool} {L : List Nat} {x : AV T} {v : Value} {k : K} (h : x.is a v k) : (keepA lock L x).is a v k := by
  cases x <;> first | exact h | trivial | skip
  rename_i s
  simp only [keepA]
  cases L.contains s
  · exact h
  · trivial
theorem keepA_fp {lock : Bool} {L : List Nat} {x : AV T} {v : Value} : ∀ b, (keepA lock L x).fp v b → x.fp v b := by
  intro b hb
  cases x <;> first | exact hb | skip
  rename_i s
  simp only [keepA] at hb
  cases hc : L.contains s <;> rw [hc] at hb <;> exact hb
theorem keepA_ment2 {lock : Bool} {L : List Nat} {x : AV T} {s : Nat} : (keepA lock L x).ment2 s = false := by
  cases x <;> first | rfl | skip
  rename_i s'
  simp only [keepA]
  cases L.contains s' <;> rfl
theorem keepA_ment {lock : Bool} {L : List Nat} {x : AV T} {s : Nat} (h : (keepA lock L x).ment s = true) : x = .al s ∧ L.contains s = false := by
  cases x <;> first | (simp [keepA, AV.ment] at h; done) | skip
  rename_i s'
  simp only [keepA] at h
  cases hc : L.contains s' with
  | true => rw [hc] at h; simp [AV.ment] at h
  | false =>
    rw [hc] at h
    have : s' = s := Nat.eq_of_beq_eq_true h
    subst this
    exact ⟨rfl, hc⟩
theorem keepA_res {lock : Bool} {L : List Nat} {x : AV T} (h : isRes x = true) : isRes (keepA lock L x) = true := by
  cases x <;> first | rfl | simp [isRes] at h
theorem keepA_unl {lock : Bool} {L : List Nat} {x : AV T} (h : unl (keepA lock L x) = true) : lock = false ∧ unl x = true := by
  cases x with
  | own b e t xs => cases lock <;> cases b <;> simp [keepA, unl] at h ⊢
  | box b t x => cases lock <;> cases b <;> simp [keepA, unl] at h ⊢
  | al s => simp only [keepA] at h; cases hc : L.contains s <;> rw [hc] at h <;> simp [unl] at h
  | _ => simp [keepA, unl] at h

theorem takeS_is (h : Hl n F k0 W a0 e a k) {t : Nat} {κ : Kd} {x : κ.D T} (ht : takeS e t κ = some x) : (avK κ x).is a (a.get t) k ∧ (∀ s, (avK κ x).ment s = false) ∧ ∀ b, (avK κ x).fp (a.get t) b → unl (lk e t) = true ∧ (lk e t).fp (a.get t) b := by
  have hsl := h.sl t
  cases κ with
  | v u =>
    simp only [takeS] at ht
    exact ⟨asT_is ht hsl, fun _ => rfl, fun b hb => hb.elim⟩
  | o el u =>
    simp only [takeS] at ht
    split at ht
    · rename_i el' u' xs hl
      cases hb : Nat.beq el el' with
      | false => rw [hb] at ht; simp at ht
      | true =>
        rw [hb] at ht
        obtain rfl := Nat.eq_of_beq_eq_true hb
        obtain ⟨he, hx⟩ := cast?_eq ht
        injection he with he
        subst he
        obtain rfl : x = xs := hx
        rw [hl] at hsl
        exact ⟨hsl, fun _ => rfl, fun b hb => ⟨by rw [hl]; rfl, by rw [hl]; exact hb⟩⟩
    · rename_i hl
      obtain rfl := Option.some.inj ht
      rw [hl] at hsl
      exact ⟨IsE0.own0 hsl, fun _ => rfl, fun b hb => absurd hb (IsE0.noOb (k := k) hsl b)⟩
    · simp at ht
  | b u =>
    simp only [takeS] at ht
    split at ht
    · rename_i u' y hl
      obtain ⟨rfl, hx⟩ := cast?_eq ht
      obtain rfl : x = y := hx
      rw [hl] at hsl
      exact ⟨hsl, fun _ => rfl, fun b hb => ⟨by rw [hl]; rfl, by rw [hl]; exact hb⟩⟩
    · simp at ht
theorem take_congr {ds : List Nat} {e e' : Env T} : ∀ {sp : Sp}, (∀ t, t ∈ spW sp → lk e t = lk e' t) → take ds e sp = take ds e' sp := by
  have one : ∀ p : Nat × Kd, lk e p.1 = lk e' p.1 → takeS e p.1 p.2 = takeS e' p.1 p.2 := by
    intro p hp
    obtain ⟨s, κ⟩ := p
    cases κ <;> simp only [takeS] <;> rw [show lk e s = lk e' s from hp]
  intro sp
  induction sp with
  | nil => intro _; rfl
  | cons p l ih =>
    intro h
    cases l with
    | nil => simp only [take]; rw [one p (h p.1 (by simp [spW]))]
    | cons q l => simp only [take]; rw [one p (h p.1 (by simp [spW])), ih fun t ht => h t (by simp only [spW, List.map_cons, List.mem_cons] at ht ⊢; exact .inr ht)]
theorem give_lk {ds xs : List Nat} (hds : ∀ d, ds.contains d = true → xs.contains d = true) {e base : Env T} : ∀ {sp : Sp} {s : SpD T sp}, take ds e sp = some s → ∀ t,
    ((spW sp).contains t = false ∧ lk (give xs sp s base) t = lk base t) ∨ ((spW sp).contains t = true ∧ (lk (give xs sp s base) t = .top ∨ ∃ κ x, takeS e t κ = some x ∧ lk (give xs sp s base) t = avK κ x)) := by
  have one : ∀ {p : Nat × Kd} {y : p.2.D T} {b : Env T} (t : Nat), (bif ds.contains p.1 then some p.2.dflt else takeS e p.1 p.2) = some y → p.1 = t →
      (lk ((p.1, bif xs.contains p.1 then .top else avK p.2 y) :: b) t = .top ∨ ∃ κ x, takeS e t κ = some x ∧ lk ((p.1, bif xs.contains p.1 then .top else avK p.2 y) :: b) t = avK κ x) := by
    intro p y b t hy ht
    rw [lk_cons, if_pos ht]
    cases hx : xs.contains p.1 with
    | true => exact .inl rfl
    | false =>
      have hd : ds.contains p.1 = false := by
        cases hd : ds.contains p.1 with
        | false => rfl
        | true => rw [hds _ hd] at hx; simp at hx
      rw [hd] at hy
      rw [← ht]
      exact .inr ⟨p.2, y, hy, rfl⟩
  have cont : ∀ (p : Nat × Kd) (l : Sp) (t : Nat), (spW (p :: l)).contains t = (t == p.1 || (spW l).contains t) := fun p l t => by simp [spW]
  intro sp
  induction sp with
  | nil => intro s _ t; exact .inl ⟨rfl, rfl⟩
  | cons p l ih =>
    intro s hs t
    cases l with
    | nil =>
      simp only [take] at hs
      rw [cont]
      by_cases ht : p.1 = t
      · exact .inr ⟨by simp [ht], one t hs ht⟩
      · have : (t == p.1) = false := by simpa using fun e => ht e.symm
        exact .inl ⟨by rw [this]; rfl, by simp only [give]; rw [lk_cons, if_neg ht]⟩
    | cons q l =>
      simp only [take] at hs
      split at hs
      · rename_i y ys hy hys
        obtain rfl := Option.some.inj hs
        rw [cont]
        by_cases ht : p.1 = t
        · exact .inr ⟨by simp [ht], one t hy ht⟩
        · have hne : (t == p.1) = false := by simpa using fun e => ht e.symm
          have := ih hys t
          rw [hne, Bool.false_or]
          simp only [give]
          rw [lk_cons, if_neg ht]
          exact this
      · simp at hs

theorem rejoin (h : Hl n F k0 W a0 e a k) {Wc : List Nat} {sp : Sp} {ds xs : List Nat} (hds : ∀ d, ds.contains d = true → xs.contains d = true) {s : SpD T sp}
    (i : Hl n (FU e a (Wc ++ spW sp)) k Wc a e' a' k') (ht : take ds e' sp = some s) (lock : Bool) :
    let E := give xs sp s (keepE lock Wc (spW sp) e)
    (∀ t, (lk E t).is a' (a'.get t) k') ∧ (∀ t u, (lk E t).ment u = true → isRes (lk E u) = true) ∧ (∀ t t', t ≠ t' → Apart ((lk E t).fp (a'.get t)) ((lk E t').fp (a'.get t'))) ∧
    ∀ t, unl (lk E t) = true → Wr (FU e a (Wc ++ spW sp)) k ((lk E t).fp (a'.get t)) ∨ (lock = false ∧ unl (lk e t) = true ∧ ∀ b, (lk E t).fp (a'.get t) b → (lk e t).fp (a.get t) b) := by
  intro E
  have hFn : ∀ b, FU e a (Wc ++ spW sp) b → ¬ k.sh b := fun b ⟨t, _, _, hb⟩ => (h.lt t b hb).2
  -- the three kinds of slots
  have cases3 : ∀ t, (Wc.contains t = false ∧ (spW sp).contains t = false ∧ lk E t = keepA lock (Wc ++ spW sp) (lk e t)) ∨ lk E t = .top ∨ ((spW sp).contains t = true ∧ ∃ κ x, takeS e' t κ = some x ∧ lk E t = avK κ x) := by
    intro t
    rcases give_lk hds (base := keepE lock Wc (spW sp) e) ht t with ⟨h1, h2⟩ | ⟨h1, h2 | h2⟩
    · rw [lk_keepE] at h2
      cases hw : Wc.contains t with
      | true => rw [hw] at h2; exact .inr (.inl h2)
      | false => rw [hw, h1] at h2; exact .inl ⟨rfl, h1, h2⟩
    · exact .inr (.inl h2)
    · exact .inr (.inr ⟨h1, h2⟩)
  have hold : ∀ t, Wc.contains t = false → a'.get t = a.get t := fun t ht => i.old t (by simpa using ht)
  have apK : ∀ t, Wc.contains t = false → (spW sp).contains t = false → ∀ b, (lk e t).fp (a.get t) b → ¬ FU e a (Wc ++ spW sp) b := by
    intro t h1 h2 b hb ⟨t2, h3, h4, h5⟩
    by_cases e1 : t = t2
    · subst e1
      simp at h1 h2 h3
      exact h3.elim h1 h2
    · exact h.ap t t2 e1 b hb h5
  have fpT : ∀ t κ x, takeS e' t κ = some x → ∀ b, (avK κ x).fp (a'.get t) b → (lk e' t).fp (a'.get t) b ∧ (FU e a (Wc ++ spW sp) b ∨ k.w.heap.size ≤ b) := by
    intro t κ x hx b hb
    obtain ⟨_, _, h3⟩ := takeS_is i hx
    obtain ⟨h4, h5⟩ := h3 b hb
    exact ⟨h5, i.wr t h4 b h5⟩
  refine ⟨fun t => ?_, fun t u hu => ?_, fun t t' hne b hb hb' => ?_, fun t hu => ?_⟩
  · rcases cases3 t with ⟨h1, h2, h3⟩ | h3 | ⟨_, κ, x, h2, h3⟩
    · rw [h3, hold t h1]
      have h4 : (keepA lock (Wc ++ spW sp) (lk e t)).is a (a.get t) k' := AV.keep _ i.g hFn (fun b hb hb' => apK t h1 h2 b (keepA_fp b hb) hb') (fun s hs => by rw [keepA_ment2] at hs; simp at hs) (keepA_is (h.sl t))
      refine AV.congr _ (fun s hs => ?_) h4
      have := (keepA_ment hs).2
      exact hold s (by simp at this ⊢; exact this.1)
    · rw [h3]; trivial
    · rw [h3]; exact (takeS_is i h2).1
  · rcases cases3 t with ⟨h1, h2, h3⟩ | h3 | ⟨_, κ, x, h2, h3⟩
    · rw [h3] at hu
      obtain ⟨h4, h5⟩ := keepA_ment hu
      have h6 := h.inv t u (by rw [h4]; exact Nat.beq_refl u)
      simp at h5
      rcases give_lk hds (base := keepE lock Wc (spW sp) e) ht u with ⟨h7, h8⟩ | ⟨h7, _⟩
      · show isRes (lk (give xs sp s (keepE lock Wc (spW sp) e)) u) = true
        rw [h8, lk_keepE, h7]
        have : Wc.contains u = false := by simpa using h5.1
        rw [this]
        exact keepA_res h6
      · simp at h7; exact absurd h7 h5.2
    · rw [h3] at hu; simp [AV.ment] at hu
    · rw [h3, (takeS_is i h2).2.1] at hu; simp at hu
  · rcases cases3 t with ⟨h1, h2, h3⟩ | h3 | ⟨_, κ, x, h2, h3⟩
    · rw [h3, hold t h1] at hb
      have hb := keepA_fp b hb
      rcases cases3 t' with ⟨h4, h5, h6⟩ | h6 | ⟨_, κ', x', h5, h6⟩
      · rw [h6, hold t' h4] at hb'
        exact h.ap t t' hne b hb (keepA_fp b hb')
      · rw [h6] at hb'; exact hb'
      · rw [h6] at hb'
        rcases (fpT t' κ' x' h5 b hb').2 with h7 | h7
        · exact apK t h1 h2 b hb h7
        · have := (h.lt t b hb).1; omega
    · rw [h3] at hb; exact hb
    · rw [h3] at hb
      obtain ⟨h7, h8⟩ := fpT t κ x h2 b hb
      rcases cases3 t' with ⟨h4, h5, h6⟩ | h6 | ⟨_, κ', x', h5, h6⟩
      · rw [h6, hold t' h4] at hb'
        have hb' := keepA_fp b hb'
        rcases h8 with h8 | h8
        · exact apK t' h4 h5 b hb' h8
        · have := (h.lt t' b hb').1; omega
      · rw [h6] at hb'; exact hb'
      · rw [h6] at hb'
        exact i.ap t t' hne b h7 (fpT t' κ' x' h5 b hb').1
  · rcases cases3 t with ⟨h1, h2, h3⟩ | h3 | ⟨_, κ, x, h2, h3⟩
    · rw [h3] at hu
      obtain ⟨h4, h5⟩ := keepA_unl hu
      refine .inr ⟨h4, h5, fun b hb => ?_⟩
      rw [h3, hold t h1] at hb
      exact keepA_fp b hb
    · rw [h3] at hu; simp [unl] at hu
    · refine .inl fun b hb => ?_
      rw [h3] at hb
      exact (fpT t κ x h2 b hb).2
theorem rejoinT (h : Hl n F k0 W a0 e a k) {Wc : List Nat} {sp : Sp} {ds xs : List Nat} (hds : ∀ d, ds.contains d = true → xs.contains d = true) {s : SpD T sp}
    (i : Hl n (FU e a (Wc ++ spW sp)) k Wc a e' a' k') (ht : take ds e' sp = some s) : Hl n (FU e a (Wc ++ spW sp)) k Wc a (give xs sp s (keepE true Wc (spW sp) e)) a' k' := by
  obtain ⟨h1, h2, h3, h4⟩ := rejoin h hds i ht true
  refine ⟨i.g, i.s, i.d, i.old, h1, h2, fun t hu => ?_, h3⟩
  rcases h4 t hu with h5 | ⟨h5, _⟩
  · exact h5
  · simp at h5
theorem rejoinF (h : Hl n F k0 W a0 e a k) {Wc : List Nat} {sp : Sp} {ds xs : List Nat} (hds : ∀ d, ds.contains d = true → xs.contains d = true) {s : SpD T sp} (hW : ∀ t ∈ Wc, t ∈ W)
    (i : Hl n (FU e a (Wc ++ spW sp)) k Wc a e' a' k') (ht : take ds e' sp = some s) : Hl n F k0 W a0 (give xs sp s (keepE false Wc (spW sp) e)) a' k' := by
  obtain ⟨h1, h2, h3, h4⟩ := rejoin h hds i ht false
  have hwr : Wr F k0 (FU e a (Wc ++ spW sp)) := fun b ⟨t, _, h5, h6⟩ => h.wr t h5 b h6
  refine ⟨h.g.step i.g hwr, i.s, i.d, fun t ht => ?_, h1, h2, fun t hu b hb => ?_, h3⟩
  · rw [i.old t (fun h' => ht (hW t h')), h.old t ht]
  · rcases h4 t hu with h5 | ⟨_, h5, h6⟩
    · rcases h5 b hb with h5 | h5
      · exact hwr b h5
      · exact .inr (Nat.le_trans h.g.size h5)
    · exact h.wr t h5 b (h6 b hb)
end
end Go.Gb

/- General part of the proofs: the code of a function does what the evaluator says. -/
namespace Go.Gb
variable {T : Tb} {R : Type}

/-- The results of a function, and what else it leaves. -/
def RetOk (C : Cx T) (cod : List Tp) (F : FP) (k0 : K) (x : HL T.S cod) (a : Act) (k : K) : Prop :=
  a.defers = [] ∧ ∃ k', k'.w = k.w ∧ Chg F k0 k' ∧ ∀ fn : Func, fn.results.toList = C.rs → ∃ v, (results fn a.tmps).run C.P k'.w = .ok v k'.w ∧ (resV cod x).is ⟨#[], []⟩ v k'
theorem RetOk.step {C : Cx T} {cod : List Tp} {F G : FP} {k0 k1 k : K} {x : HL T.S cod} {a : Act} (h : RetOk C cod G k1 x a k) (g : Chg F k0 k1) (hw : Wr F k0 G) : RetOk C cod F k0 x a k := by
  obtain ⟨h1, k', h2, h3, h4⟩ := h
  exact ⟨h1, k', h2, g.step h3 hw, h4⟩

section
variable {C : Cx T} {cod : List Tp} {F : FP} {k0 : K} {W : List Nat} {a0 : Act} {e : Env T} {a : Act} {k : K}

theorem resH1_ok (h : Hl C.n F k0 W a0 e a k) {t : Tp} {rv : ResultVar} {x : T.D t} (hx : resH.resH1 C e t rv = some x) : ∃ v, (resVal a.tmps rv).run C.P k.w = .ok v k.w ∧ IsV x v k := by
  cases rv with
  | tmp s =>
    simp only [resH.resH1] at hx
    exact ⟨_, rfl, asT_is hx (h.sl s)⟩
  | cell s ty =>
    simp only [resH.resH1] at hx
    have hsl := h.sl s
    split at hx
    · rename_i l u y hl
      rw [hl] at hsl
      obtain ⟨b, hb, hbx⟩ := hsl
      cases ht : tyB C.P T ty u with
      | false => rw [ht] at hx; simp at hx
      | true =>
        rw [ht] at hx
        obtain ⟨rfl, hxy⟩ := cast?_eq hx
        obtain rfl : x = y := hxy
        exact resOk_run (resCell (tyB_ok ht) hb hbx)
    · simp at hx
theorem resH_ok (h : Hl C.n F k0 W a0 e a k) : ∀ {l : List Tp} {rs : List ResultVar} {x : HL T.S l}, resH C e l rs = some x →
    ∃ vs : List Value, (rs.mapM (resVal a.tmps)).run C.P k.w = .ok vs k.w ∧ vs.length = l.length ∧ Fa2 (unH l x) vs k
  | [], [], x, _ => ⟨[], by simp, rfl, trivial⟩
  | [t], [rv], x, hx => by
    simp only [resH] at hx
    obtain ⟨v, h1, h2⟩ := resH1_ok h hx
    exact ⟨[v], by simp [h1], rfl, h2, trivial⟩
  | t :: t' :: l, rv :: rs, x, hx => by
    simp only [resH] at hx
    split at hx
    · rename_i y ys hy hys
      obtain rfl := Option.some.inj hx
      obtain ⟨v, h1, h2⟩ := resH1_ok h hy
      obtain ⟨vs, h3, h4, h5⟩ := resH_ok h hys
      exact ⟨v :: vs, by simp [List.mapM_cons, h1, h3], by simp [h4], h2, h5⟩
    · simp at hx
  | [], _ :: _, _, hx => by simp [resH] at hx
  | [_], [], _, hx => by simp [resH] at hx
  | [_], _ :: _ :: _, _, hx => by simp [resH] at hx
  | _ :: _ :: _, [], _, hx => by simp [resH] at hx
theorem ret_ok (h : Hl C.n F k0 W a0 e a k) {x : HL T.S cod} (hx : resH C e cod C.rs = some x) : RetOk C cod F k0 x a k := by
  refine ⟨h.d, k, rfl, h.g, fun fn hfn => ?_⟩
  obtain ⟨vs, h1, h2, h3⟩ := resH_ok h hx
  rw [← hfn] at h1
  have h4 : (fn.results.mapM (resVal a.tmps)).run C.P k.w = .ok vs.toArray k.w := by
    rw [Array.mapM_eq_mapM_toList]; simp [h1]
  rw [results_eq]
  match cod, x, vs, h2, h3 with
  | [], x, [], _, _ => exact ⟨.tuple #[], by simp [h4], trivial⟩
  | [t], x, [v], _, h3 => exact ⟨v, by simp [h4], h3.1⟩
  | t :: t' :: l, x, v :: v' :: vs, _, h3 => exact ⟨.tuple (v :: v' :: vs).toArray, by simp [h4], _, rfl, h3⟩

theorem takeF_ok (h : Hl C.n F k0 W a0 e a k) {ds : List Nat} {sp : Sp} {K : SpD T sp → Option R} {r : R} (hk : takeF ds e sp K = some r) : ∃ s e' k', K s = some r ∧ take ds e' sp = some s ∧ k'.w = k.w ∧ Hl C.n F k0 W a0 e' a k' := by
  unfold takeF at hk
  obtain ⟨e', k', h1, h2, h3⟩ := frz_ok h hk
  split at h1
  · rename_i s hs; exact ⟨s, e', k', h1, hs, h2, h3⟩
  · simp at h1
theorem app_r {xs : Ls} : ∀ d, xs.2.contains d = true → (xs.1 ++ xs.2).contains d = true := by
  intro d h; simp at h ⊢; exact .inr h
theorem exAt_cons {i j : Nat} {x : Ls} {l : List (Nat × Ls)} {y : Ls} (h : exAt ((i, x) :: l) j = some y) : (i = j ∧ x = y) ∨ (i ≠ j ∧ exAt l j = some y) := by
  simp only [exAt] at h
  cases hb : Nat.beq i j with
  | true => rw [hb] at h; exact .inl ⟨Nat.eq_of_beq_eq_true hb, Option.some.inj h⟩
  | false => rw [hb] at h; exact .inr ⟨fun e => by rw [e, Nat.beq_refl] at hb; simp at hb, h⟩
theorem exK_ok {ρ : Type} {sp : Sp} {base : Env T} {K : Kt T ρ R} {r : R} {s : SpD T sp} : ∀ {l : List (Nat × Ls)} {j : Nat} {x : Ls}, exAt l j = some x → exK base K l j s = some r → K.ex j (give (x.1 ++ x.2) sp s base) = some r
  | [], j, x, h, _ => by simp [exAt] at h
  | [(i, y)], j, x, h, hk => by
    rcases exAt_cons h with ⟨rfl, rfl⟩ | ⟨_, h⟩
    · exact hk
    · simp [exAt] at h
  | (i, y) :: z :: l, j, x, h, hk => by
    simp only [exK] at hk
    rcases exAt_cons h with ⟨rfl, rfl⟩ | ⟨hne, h⟩
    · rw [if_pos rfl] at hk; exact hk
    · rw [if_neg (Ne.symm hne)] at hk; exact exK_ok h hk
/-- The statement about a piece of code. -/
def CodeOk (C : Cx T) (cod : List Tp) (c : Code) : Prop :=
  ∀ (h : Hn T) (R : Type) (e : Env T) (M : Kt T (HL T.S cod) R) (r : R), ev C cod c h R e M = some r →
  ∀ (F : FP) (k0 : K) (W : List Nat) (a0 : Act) (a : Act) (k : K) (Q : Exit → Act → World → Prop), (∀ t ∈ wrs c, t ∈ W) → Hl C.n F k0 W a0 e a k →
  (∀ e' a' k', M.go e' = some r → Hl C.n F k0 W a0 e' a' k' → Q .normal a' k'.w) →
  (∀ i e' a' k', M.ex i e' = some r → Hl C.n F k0 W a0 e' a' k' → Q (.exit i) a' k'.w) →
  (∀ x a' k', M.rv x = some r → RetOk C cod F k0 x a' k' → Q .ret a' k'.w) → c.wp C.P Q a k.w

/-- what is behind a join of a code that may leave -/
theorem flow_ok {h : Hl C.n F k0 W a0 e a k} {Wc : List Nat} {sp : Sp} {xs : Ls} {exs : List (Nat × Ls)} {M : Kt T (HL T.S cod) R} {r : R} {Q : Exit → Act → World → Prop} {fl : Flow (SpD T sp) (HL T.S cod)}
    (hW : ∀ t ∈ Wc, t ∈ W)
    (hk : (match fl with | .go s => M.go (give (xs.1 ++ xs.2) sp s (keepE false Wc (spW sp) e)) | .ex i s => exK (keepE false Wc (spW sp) e) M exs i s | .ret x => M.rv x) = some r)
    (hgo : ∀ e' a' k', M.go e' = some r → Hl C.n F k0 W a0 e' a' k' → Q .normal a' k'.w)
    (hex : ∀ i e' a' k', M.ex i e' = some r → Hl C.n F k0 W a0 e' a' k' → Q (.exit i) a' k'.w)
    (hrv : ∀ x a' k', M.rv x = some r → RetOk C cod F k0 x a' k' → Q .ret a' k'.w) :
    (∀ e' a' k', (takeF xs.2 e' sp fun s => some (.go s)) = some fl → Hl C.n (FU e a (Wc ++ spW sp)) k Wc a e' a' k' → Q .normal a' k'.w) ∧
    (∀ i e' a' k', exF exs sp i e' = some fl → Hl C.n (FU e a (Wc ++ spW sp)) k Wc a e' a' k' → Q (.exit i) a' k'.w) ∧
    (∀ x a' k', some (.ret x) = some fl → RetOk C cod (FU e a (Wc ++ spW sp)) k x a' k' → Q .ret a' k'.w) := by
  refine ⟨fun e' a' k' h1 h2 => ?_, fun i e' a' k' h1 h2 => ?_, fun x a' k' h1 h2 => ?_⟩
  · obtain ⟨s, e2, k2, h3, h4, h5, h6⟩ := takeF_ok h2 h1
    obtain rfl := Option.some.inj h3
    rw [← h5]
    exact hgo _ a' k2 hk (rejoinF h app_r hW h6 h4)
  · unfold exF at h1
    split at h1
    · rename_i x hx
      obtain ⟨s, e2, k2, h3, h4, h5, h6⟩ := takeF_ok h2 h1
      obtain rfl := Option.some.inj h3
      rw [← h5]
      exact hex i _ a' k2 (exK_ok hx hk) (rejoinF h app_r hW h6 h4)
    · simp at h1
  · obtain rfl := Option.some.inj h1
    exact hrv x a' k' hk (h2.step h.g fun b ⟨t, _, h5, h6⟩ => h.wr t h5 b h6)

theorem seq_ok {x y : Code} (hx : CodeOk C cod x) (hy : CodeOk C cod y) : CodeOk C cod (.seq x y) := by
  intro h R e M r hk F k0 W a0 a k Q hW hl hgo hex hrv
  have main : ∀ hxx hyy, ev C cod x hxx R e { M with go := fun e' => ev C cod y hyy R e' M } = some r → (Code.seq x y).wp C.P Q a k.w := by
    intro hxx hyy hk
    refine wp_seq (hx hxx R e _ r hk F k0 W a0 a k _ (fun t ht => hW t (by simp [wrs, ht])) hl (fun e' a' k' h1 h2 => ?_) (fun i e' a' k' h1 h2 => hex i e' a' k' h1 h2) (fun x a' k' h1 h2 => hrv x a' k' h1 h2))
    exact hy hyy R e' M r h1 F k0 W a0 a' k' Q (fun t ht => hW t (by simp [wrs, ht])) h2 hgo hex hrv
  cases h <;> exact main _ _ hk
theorem cond_ok {c : Operand} {x y : Code} (hx : CodeOk C cod x) (hy : CodeOk C cod y) : CodeOk C cod (.cond c x y) := by
  intro h R e M r hk F k0 W a0 a k Q hW hl hgo hex hrv
  have hWx : ∀ t ∈ wrs x, t ∈ W := fun t ht => hW t (by simp [wrs, ht])
  have hWy : ∀ t ∈ wrs y, t ∈ W := fun t ht => hW t (by simp [wrs, ht])
  have cv : ∀ {F : FP} {k0 : K} {W : List Nat} {a0 : Act} {e : Env T} {k : K} {m : Bool}, Hl C.n F k0 W a0 e a k → asB (opv e c) = some m → a.eval c = .bool m := by
    intro F k0 W a0 e k m hl hm
    exact isV_bool.1 (asB_is hm (opv_is (a0 := a) (by
      cases c with
      | tmp t => exact ⟨hl.sl t, fun _ => rfl⟩
      | _ => trivial)))
  have plain : ∀ hxx hyy, (match asB (opv e c) with | some m => if m then ev C cod x hxx R e M else ev C cod y hyy R e M | none => none) = some r → (Code.cond c x y).wp C.P Q a k.w := by
    intro hxx hyy hk
    split at hk
    · rename_i m hm
      refine wp_cond_split (cv hl hm) (fun hm1 => ?_) (fun hm0 => ?_)
      · rw [if_pos hm1] at hk
        exact hx hxx R e M r hk F k0 W a0 a k Q hWx hl hgo hex hrv
      · rw [if_neg (by rw [hm0]; simp)] at hk
        exact hy hyy R e M r hk F k0 W a0 a k Q hWy hl hgo hex hrv
    · simp at hk
  have hwc : ∀ t ∈ wrs x ++ wrs y, t ∈ W := fun t ht => hW t (by simpa [wrs] using ht)
  unfold ev at hk
  split at hk
  · rename_i fz sp xs hxx hyy
    obtain ⟨e0, k1, h1, h2, h3⟩ := frz_ok hl hk
    rw [lockK_eq, keepK_eq] at h1
    rw [← h2]
    have hin := h3.lock (wrs x ++ wrs y ++ spW sp) (wrs x ++ wrs y)
    split at h1
    · rename_i m hm
      obtain ⟨s, hs, h1⟩ := bind_some h1
      have fin : ∀ e' a' k', (takeF xs.2 e' sp some) = some s → Hl C.n (FU e0 a (wrs x ++ wrs y ++ spW sp)) k1 (wrs x ++ wrs y) a e' a' k' → Q .normal a' k'.w := by
        intro e' a' k' g1 g2
        obtain ⟨s', e2, k2, g3, g4, g5, g6⟩ := takeF_ok g2 g1
        obtain rfl := Option.some.inj g3
        rw [← g5]
        exact hgo _ a' k2 h1 (rejoinF h3 app_r hwc g6 g4)
      refine wp_cond_split (cv hin hm) (fun hm1 => ?_) (fun hm0 => ?_)
      · rw [if_pos hm1] at hs
        exact hx hxx _ _ _ s hs _ _ _ _ a k1 Q (fun t ht => by simp [ht]) hin fin (fun i e' a' k' g1 _ => by simp at g1) (fun x' a' k' g1 _ => by simp at g1)
      · rw [if_neg (by rw [hm0]; simp)] at hs
        exact hy hyy _ _ _ s hs _ _ _ _ a k1 Q (fun t ht => by simp [ht]) hin fin (fun i e' a' k' g1 _ => by simp at g1) (fun x' a' k' g1 _ => by simp at g1)
    · simp at h1
  · rename_i fz sp xs exs hxx hyy
    obtain ⟨e0, k1, h1, h2, h3⟩ := frz_ok hl hk
    rw [lockK_eq, keepK_eq] at h1
    rw [← h2]
    have hin := h3.lock (wrs x ++ wrs y ++ spW sp) (wrs x ++ wrs y)
    split at h1
    · rename_i m hm
      obtain ⟨fl, hs, h1⟩ := bind_some h1
      obtain ⟨f1, f2, f3⟩ := flow_ok (h := h3) (Q := Q) (xs := xs) hwc h1 hgo hex hrv
      refine wp_cond_split (cv hin hm) (fun hm1 => ?_) (fun hm0 => ?_)
      · rw [if_pos hm1] at hs
        exact hx hxx _ _ _ fl hs _ _ _ _ a k1 Q (fun t ht => by simp [ht]) hin f1 f2 f3
      · rw [if_neg (by rw [hm0]; simp)] at hs
        exact hy hyy _ _ _ fl hs _ _ _ _ a k1 Q (fun t ht => by simp [ht]) hin f1 f2 f3
    · simp at h1
  · exact plain _ _ hk
  · exact plain _ _ hk
theorem block_ok {id : Nat} {x : Code} (hx : CodeOk C cod x) : CodeOk C cod (.block id x) := by
  intro h R e M r hk F k0 W a0 a k Q hW hl hgo hex hrv
  have hWx : ∀ t ∈ wrs x, t ∈ W := fun t ht => hW t (by simpa [wrs] using ht)
  have inb : ∀ {i : Nat} {a : Act} {w : World}, (i = id → Q .normal a w) → (i ≠ id → Q (.exit i) a w) → Exit.inBlock id Q (.exit i) a w := by
    intro i a w h1 h2
    simp only [Exit.inBlock]
    split
    · rename_i h; exact h1 (by simpa using h)
    · rename_i h; exact h2 (by simpa using h)
  have plain : ∀ hxx, ev C cod x hxx R e { M with ex := fun i e' => bif Nat.beq i id then M.go e' else M.ex i e' } = some r → (Code.block id x).wp C.P Q a k.w := by
    intro hxx hk
    refine wp_block (hx hxx R e _ r hk F k0 W a0 a k _ hWx hl hgo (fun i e' a' k' h1 h2 => inb (fun e1 => ?_) (fun e1 => ?_)) hrv)
    · subst e1; simp only [Nat.beq_refl, cond_true] at h1; exact hgo e' a' k' h1 h2
    · simp only [beq_ne e1, cond_false] at h1; exact hex i e' a' k' h1 h2
  unfold ev at hk
  split at hk
  · rename_i fz sp xs hxx
    obtain ⟨e0, k1, h1, h2, h3⟩ := frz_ok hl hk
    rw [lockK_eq, keepK_eq] at h1
    rw [← h2]
    have hin := h3.lock (wrs x ++ spW sp) (wrs x)
    obtain ⟨s, hs, h1⟩ := bind_some h1
    have fin : ∀ e' a' k', (takeF xs.2 e' sp some) = some s → Hl C.n (FU e0 a (wrs x ++ spW sp)) k1 (wrs x) a e' a' k' → Q .normal a' k'.w := by
      intro e' a' k' g1 g2
      obtain ⟨s', e2, k2, g3, g4, g5, g6⟩ := takeF_ok g2 g1
      obtain rfl := Option.some.inj g3
      rw [← g5]
      exact hgo _ a' k2 h1 (rejoinF h3 app_r hWx g6 g4)
    refine wp_block (hx hxx _ _ _ s hs _ _ _ _ a k1 _ (fun t ht => ht) hin fin (fun i e' a' k' g1 g2 => inb (fun e1 => ?_) (fun e1 => ?_)) (fun x' a' k' g1 _ => by simp at g1))
    · subst e1; simp only [Nat.beq_refl, cond_true] at g1; exact fin e' a' k' g1 g2
    · simp only [beq_ne e1, cond_false] at g1; simp at g1
  · rename_i fz sp xs exs hxx
    obtain ⟨e0, k1, h1, h2, h3⟩ := frz_ok hl hk
    rw [lockK_eq, keepK_eq] at h1
    rw [← h2]
    have hin := h3.lock (wrs x ++ spW sp) (wrs x)
    obtain ⟨fl, hs, h1⟩ := bind_some h1
    obtain ⟨f1, f2, f3⟩ := flow_ok (h := h3) (Q := Q) (xs := xs) hWx h1 hgo hex hrv
    refine wp_block (hx hxx _ _ _ fl hs _ _ _ _ a k1 _ (fun t ht => ht) hin f1 (fun i e' a' k' g1 g2 => inb (fun e1 => ?_) (fun e1 => ?_)) f3)
    · subst e1; simp only [Nat.beq_refl, cond_true] at g1; exact f1 e' a' k' g1 g2
    · simp only [beq_ne e1, cond_false] at g1; exact f2 i e' a' k' g1 g2
  · exact plain _ hk
theorem loop_ok {x : Code} (hx : CodeOk C cod x) : CodeOk C cod (.loop x) := by
  intro h R e M r hk F k0 W a0 a k Q hW hl hgo hex hrv
  have hWx : ∀ t ∈ wrs x, t ∈ W := fun t ht => hW t (by simpa [wrs] using ht)
  unfold ev at hk
  split at hk
  · rename_i fz sp exs fuel hxx
    obtain ⟨e0, k1, h1, h2, h3⟩ := frz_ok hl hk
    rw [keepK_eq, keepK_eq] at h1
    rw [← h2]
    split at h1
    · rename_i s0 hs0
      obtain ⟨fl, hs, h1⟩ := bind_some h1
      have hin := h3.lock (wrs x ++ spW sp) (wrs x)
      have hs0' : take [] (lockE (wrs x ++ spW sp) e0) sp = some s0 := by
        rw [← hs0]
        refine take_congr fun t ht => ?_
        rw [lk_lockE]
        have : (wrs x ++ spW sp).contains t = true := by simpa using Or.inr ht
        rw [this]; rfl
      have hst := rejoinT h3 (ds := []) (xs := []) (fun d hd => by simp at hd) hin hs0'
      have hsim : Sim C.P (.loop x) (fun s a' k' => Hl C.n (FU e0 a (wrs x ++ spW sp)) k1 (wrs x) a (give [] sp s (keepE true (wrs x) (spW sp) e0)) a' k')
          (iterL (fun s => ev C cod x hxx (Flow (SpD T sp) (HL T.S cod)) (give [] sp s (keepE true (wrs x) (spW sp) e0)) ⟨fun e' => takeF [] e' sp fun s => some (.go s), exF exs sp, fun r => some (.ret r)⟩) (fuel e0))
          (fun s a' k' => Hl C.n (FU e0 a (wrs x ++ spW sp)) k1 (wrs x) a (give [] sp s (keepE true (wrs x) (spW sp) e0)) a' k')
          (fun i s a' k' => ∃ y, exAt exs i = some y ∧ Hl C.n F k0 W a0 (give (y.1 ++ y.2) sp s (keepE false (wrs x) (spW sp) e0)) a' k')
          (fun x' a' k' => RetOk C cod (FU e0 a (wrs x ++ spW sp)) k1 x' a' k') := by
        refine sim_loop ?_ _
        intro s f a2 k2 hb hS Q' _ hgo' hex' hret'
        refine hx hxx _ _ _ f hb _ _ _ _ a2 k2 Q' (fun t ht => ht) hS (fun e' a' k' g1 g2 => ?_) (fun i e' a' k' g1 g2 => ?_) (fun x' a' k' g1 g2 => ?_)
        · obtain ⟨s', e2, k3, g3, g4, g5, g6⟩ := takeF_ok g2 g1
          rw [← g5]
          exact hgo' s' a' k3 (Option.some.inj g3).symm (rejoinT h3 (fun d hd => by simp at hd) g6 g4)
        · have g1 : exF exs sp i e' = some f := g1
          unfold exF at g1
          split at g1
          · rename_i y hy
            obtain ⟨s', e2, k3, g3, g4, g5, g6⟩ := takeF_ok g2 g1
            rw [← g5]
            exact hex' i s' a' k3 (Option.some.inj g3).symm ⟨y, hy, rejoinF h3 app_r hWx g6 g4⟩
          · simp at g1
        · exact hret' x' a' k' (Option.some.inj g1).symm g2
      refine hsim s0 fl a k1 hs hst Q trivial (fun s a' k' g1 _ => ?_) (fun i s a' k' g1 g2 => ?_) (fun x' a' k' g1 g2 => ?_)
      · rw [g1] at h1; simp at h1
      · rw [g1] at h1
        obtain ⟨y, hy, g3⟩ := g2
        exact hex i _ a' k' (exK_ok hy h1) g3
      · rw [g1] at h1
        exact hrv x' a' k' h1 (g2.step h3.g fun b ⟨t, _, h5, h6⟩ => h3.wr t h5 b h6)
    · simp at h1
  · simp at hk
theorem region_ok (hC : CxOk C) {id : Nat} {A : Array Oper} {draw : Bool} : CodeOk C cod (.region id A draw) := by
  intro h R e M r hk F k0 W a0 a k Q hW hl hgo hex hrv
  have hWx : ∀ o ∈ A.toList, ∀ d, o.dst = some d → d ∈ W := fun o ho d hd => hW d (List.mem_filterMap.2 ⟨o, ho, hd⟩)
  unfold ev at hk
  split at hk
  · obtain ⟨e1, k1, h1, h2, h3⟩ := frz_ok hl hk
    rw [← h2]
    exact evR_ok hC hWx h3 h1 hgo
  · exact evR_ok hC hWx hl hk hgo
theorem code_ok (hC : CxOk C) : ∀ c : Code, CodeOk C cod c
  | .skip => fun h R e M r hk F k0 W a0 a k Q hW hl hgo _ _ => wp_skip (hgo e a k hk hl)
  | .region _ _ _ => region_ok hC
  | .seq x y => seq_ok (code_ok hC x) (code_ok hC y)
  | .cond _ x y => cond_ok (code_ok hC x) (code_ok hC y)
  | .block _ x => block_ok (code_ok hC x)
  | .loop x => loop_ok (code_ok hC x)
  | .exit i => fun h R e M r hk F k0 W a0 a k Q hW hl _ hex _ => wp_exit (hex i e a k hk hl)
  | .ret => fun h R e M r hk F k0 W a0 a k Q hW hl _ _ hrv => by
    unfold ev at hk
    obtain ⟨e1, k1, h1, h2, h3⟩ := frz_ok hl hk
    split at h1
    · rename_i x hx
      rw [← h2]
      exact wp_ret (hrv x a k1 h1 (ret_ok h3 hx))
    · simp at h1
  | .rangeFunc _ _ _ _ => fun h R e M r hk => by simp [ev] at hk
  | .scope _ => fun h R e M r hk => by simp [ev] at hk
  | .label _ => fun h R e M r hk => by simp [ev] at hk
  | .goto _ => fun h R e M r hk => by simp [ev] at hk
  | .refuse _ => fun h R e M r hk => by simp [ev] at hk
end
end Go.Gb

/- General part of the proofs: whole functions. -/
namespace Go.Gb
variable {T : Tb} {R : Type}
def body (f : Func) : Code := f.body.getD .skip
def tidL : List (Nat × Tp) → Nat → Option Tp
  | [], _ => none
  | (a, t) :: l, i => bif Nat.beq a i then some t else tidL l i
def fI (s : Nat) (e : Env T) : Nat := match lk e s with | .v .int n => n.toNat + 1 | _ => 0
def lenS (e : Env T) (s : Nat) : Nat := match lk e s with | .v (.list _) xs => xs.length | .own _ _ _ xs => xs.length | _ => 0
def fLs (e : Env T) : Nat → List Nat → Nat
  | a, [] => a + 1
  | a, s :: l => fLs e (a + lenS e s) l
def fL (l : List Nat) (e : Env T) : Nat := match l with
  | [] => 1
  | s :: l => fLs e (lenS e s) l
def EqsOk (P : Program) (T : Tb) : List (TypeId × Nat) → Prop
  | [] => True
  | (t, n) :: l => @EqOk P t (T.S n) (T.enc n) (T.deq n) ∧ EqsOk P T l
theorem EqsOk.at {P : Program} : ∀ {l : List (TypeId × Nat)}, EqsOk P T l → ∀ t n, l.contains (t, n) = true → @EqOk P t (T.S n) (T.enc n) (T.deq n)
  | [], _, _, _, h => by simp at h
  | (t', n') :: l, h, t, n, hc => by
    simp only [List.contains_cons, Bool.or_eq_true, beq_iff_eq, Prod.mk.injEq] at hc
    rcases hc with ⟨rfl, rfl⟩ | hc
    · exact h.1
    · exact EqsOk.at h.2 t n hc
/-- A function, and that it computes what it is said to. -/
structure Fk (T : Tb) (P : Program) where
  f : FuncId
  d : FnE T
  ok : FnOk P f d
def depsOf {P : Program} (l : List (Fk T P)) : Deps T := l.map fun k => (k.f, k.d)
theorem depsOf_ok {P : Program} : ∀ (l : List (Fk T P)) (f : FuncId) (d : FnE T), dep (depsOf l) f = some d → FnOk P f d
  | [], _, _, h => by simp [depsOf, dep] at h
  | k :: l, f, d, h => by
    simp only [depsOf, List.map_cons, dep] at h
    cases hb : Nat.beq k.f f with
    | true =>
      rw [hb] at h
      obtain rfl := Nat.eq_of_beq_eq_true hb
      obtain rfl := Option.some.inj h
      exact k.ok
    | false => rw [hb] at h; exact depsOf_ok l f d h

theorem HIs.cons {a b : Tp} {l : List Tp} {x : HL T.S (a :: b :: l)} {vs : List Value} {k : K} (h : HIs (a :: b :: l) x vs k) : ∃ u us, vs = u :: us ∧ IsV x.1 u k ∧ HIs (b :: l) x.2 us k := by
  cases vs with
  | nil => exact h.elim
  | cons u us => exact ⟨u, us, rfl, h.1, h.2⟩
theorem HIs.one {a : Tp} {x : HL T.S [a]} {vs : List Value} {k : K} (h : HIs [a] x vs k) : ∃ u, vs = [u] ∧ IsV (α := T.D a) x u k := by
  cases vs with
  | nil => exact h.elim
  | cons u us => cases us with
    | nil => exact ⟨u, rfl, h⟩
    | cons _ _ => exact h.elim
theorem HIs.nil {x : HL T.S []} {vs : List Value} {k : K} (h : HIs [] x vs k) : vs = [] := by
  cases vs with
  | nil => rfl
  | cons u us => exact h.elim
theorem initE_lk {a : Act} {k : K} : ∀ {l : List Tp} {x : HL T.S l} {vs : List Value} {i : Nat}, HIs l x vs k → ArgsAre a i vs → ∀ t, (lk (initE i l x) t).is a (a.get t) k ∧ isRes (lk (initE i l x) t) = false ∧ ∀ s, (lk (initE i l x) t).ment s = false
  | [], _, _, _, _, _, t => ⟨trivial, rfl, fun _ => rfl⟩
  | [b], x, vs, i, h, ha, t => by
    obtain ⟨u, rfl, hu⟩ := h.one
    simp only [initE]
    rw [lk_cons]
    split
    · rename_i e; subst e
      rw [ha.1]
      exact ⟨hu, rfl, fun _ => rfl⟩
    · exact ⟨trivial, rfl, fun _ => rfl⟩
  | b :: c :: l, x, vs, i, h, ha, t => by
    obtain ⟨u, us, rfl, hu, h'⟩ := h.cons
    simp only [initE]
    rw [lk_cons]
    split
    · rename_i e; subst e
      rw [ha.1]
      exact ⟨hu, rfl, fun _ => rfl⟩
    · exact initE_lk h' ha.2 t
theorem HIs.len {k : K} : ∀ {l : List Tp} {x : HL T.S l} {vs : List Value}, HIs l x vs k → vs.length = l.length
  | [], _, _, h => by rw [h.nil]; rfl
  | [_], _, _, h => by obtain ⟨u, rfl, _⟩ := h.one; rfl
  | _ :: _ :: _, _, _, h => by obtain ⟨u, us, rfl, _, h'⟩ := h.cons; simp [HIs.len h']

theorem fnOk {P : Program} {tid : TypeId → Option Tp} {eqs : List (TypeId × Nat)} {d : FnE T} {f : FuncId} (ks : List (Fk T P)) (own : List Nat) (fn : Func) (h : Hn T) (hE : EqsOk P T eqs) (hm : P.follows .mixedOrders = true)
    (hf : P.funcs[f]? = some fn) (hc : ∀ args w, (callFunc f args).run P w = .ok (.enter f args) w) (hb : fn.body = some (body fn)) (hl : Nat.ble d.dom.length fn.ntmps = true)
    (he : ∀ x, evF ⟨P, tid, eqs, depsOf ks, own, fn.results.toList, fn.ntmps⟩ (body fn) h d.dom d.cod x = d.run x) : FnOk P f d := by
  let C : Cx T := ⟨P, tid, eqs, depsOf ks, own, fn.results.toList, fn.ntmps⟩
  have hC : CxOk C := ⟨depsOf_ok ks, hE.at, hm⟩
  refine ⟨hc, fun k0 vs x r hi hr => ?_⟩
  refine Ret.ofC ?_
  refine enterK hf hb rfl (by
    have := hi.len
    have h2 := Nat.le_of_ble_eq_true hl
    simpa [this] using h2) fun a k hk0 hs hd ha => ?_
  subst hk0
  have hev : evF C (body fn) h d.dom d.cod x = some r := (he x).trans hr
  have hin := initE_lk hi ha
  have h0 : Hl C.n noF k (wrs (body fn)) a (initE 0 d.dom x) a k := ⟨Chg.refl _ k, hs, hd, fun _ _ => rfl, fun t => (hin t).1, fun t s hms => by rw [(hin t).2.2] at hms; simp at hms,
    fun t ht => by have h1 := unl_res ht; rw [(hin t).2.1] at h1; simp at h1, fun t t' _ b hb => absurd hb (fp_nonres (hin t).2.1 _ b)⟩
  refine code_ok hC (body fn) h _ _ _ r hev noF k _ a a k _ (fun t ht => ht) h0 (fun e' a' k' g => by simp at g) (fun i e' a' k' g => by simp at g) (fun y a' k' g hret => ?_)
  obtain rfl := Option.some.inj g
  obtain ⟨h1, k2, h2, h3, h4⟩ := hret
  obtain ⟨v, h5, h6⟩ := h4 fn rfl
  rw [← h2]
  exact bodyPost_ret' h1 h5 h3 h6

/-! from and to the other form -/
section
variable {P : Program} {f : FuncId} {vs : Array Value} {w : World} {k : K}
theorem retImp {R S : Pred} (h : Calls P f vs w (Ret k R)) (hi : ∀ v k', R v k' → S v k') : Calls P f vs w (Ret k S) := by
  refine Calls.mono h fun e w' he => ?_
  cases e with
  | returned v => obtain ⟨k', h1, h2, h3⟩ := he; exact ⟨k', h1, h2, hi _ _ h3⟩
  | panicked c => exact he.elim
  | outgrown => exact he.elim
theorem ret2T {a b : Tp} {x : HL T.S [a, b]} (h : Calls P f vs w (Ret k fun u k' => (resV [a, b] x).is ⟨#[], []⟩ u k')) : Calls P f vs w (Ret k (IsTup2 (IsV (α := T.D a) x.1) (IsV (α := T.D b) x.2))) :=
  retImp h fun v k' ⟨us, e, hf⟩ => by
    match us, hf with
    | [u1, u2], hf => exact ⟨u1, u2, e, hf.1, hf.2.1⟩
theorem ret2F {a b : Tp} {x : HL T.S [a, b]} (h : Calls P f vs w (Ret k (IsTup2 (IsV (α := T.D a) x.1) (IsV (α := T.D b) x.2)))) : Calls P f vs w (Ret k fun u k' => (resV [a, b] x).is ⟨#[], []⟩ u k') :=
  retImp h fun v k' ⟨u1, u2, e, h1, h2⟩ => ⟨[u1, u2], e, h1, h2, trivial⟩
end
end Go.Gb


