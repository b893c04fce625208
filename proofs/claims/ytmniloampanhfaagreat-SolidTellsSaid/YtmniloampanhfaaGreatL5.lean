/- The general part of the proofs (no program in sight): worlds with shared blocks, regions, operations, calls, loops, what comes in as data, part 5 -/
import Derived.Test.YtmniloampanhfaaGreatL4
set_option linter.unusedVariables false
set_option linter.unusedSimpArgs false
/- General part of the proofs: the code of a function does what the evaluator says. -/
namespace Go.Gb
variable {T : Tb} {R : Type}

/-- The results of a function, and what else it leaves. -/
def RetOk (C : Cx T) (cod : List Tp) (F : FP) (k0 : K) (x : HL T.S cod) (a : Act) (k : K) : Prop :=
  a.defers = [] ∧ ∃ k', k'.w = k.w ∧ Chg F k0 k' ∧ ∀ fn : Func, fn.results.toList = C.rs → ∃ v, (results fn a.tmps).run C.P k'.w = .ok v k'.w ∧ (resV cod x).is ⟨#[], []⟩ v k'
theorem RetOk.step {C : Cx T} {cod : List Tp} {F G : FP} {k0 k1 k : K} {x : HL T.S cod} {a : Act} (h : RetOk C cod G k1 x a k) (g : Chg F k0 k1) (hw : Wr F k0 G) : RetOk C cod F k0 x a k := by
  obtain ⟨h1, k', h2, h3, h4⟩ := h
  exact ⟨h1, k', h2, g.step h3 hw, h4⟩

section
variable {C : Cx T} {cod : List Tp} {F : FP} {k0 : K} {W : List Nat} {a0 : Act} {e : Env T} {a : Act} {k : K}

theorem resH1_ok (h : Hl C.n F k0 W a0 e a k) {t : Tp} {rv : ResultVar} {x : T.D t} (hx : resH.resH1 C e t rv = some x) : ∃ v, (resVal a.tmps rv).run C.P k.w = .ok v k.w ∧ IsV x v k := by
  cases rv with
  | tmp s =>
    simp only [resH.resH1] at hx
    exact ⟨_, rfl, asT_is hx (h.sl s)⟩
  | cell s ty =>
    simp only [resH.resH1] at hx
    have hsl := h.sl s
    split at hx
    · rename_i l u y hl
      rw [hl] at hsl
      obtain ⟨b, hb, hbx⟩ := hsl
      cases ht : tyB C.P T ty u with
      | false => rw [ht] at hx; simp at hx
      | true =>
        rw [ht] at hx
        obtain ⟨rfl, hxy⟩ := cast?_eq hx
        obtain rfl : x = y := hxy
        exact resOk_run (resCell (tyB_ok ht) hb hbx)
    · simp at hx
theorem resH_ok (h : Hl C.n F k0 W a0 e a k) : ∀ {l : List Tp} {rs : List ResultVar} {x : HL T.S l}, resH C e l rs = some x →
    ∃ vs : List Value, (rs.mapM (resVal a.tmps)).run C.P k.w = .ok vs k.w ∧ vs.length = l.length ∧ Fa2 (unH l x) vs k
  | [], [], x, _ => ⟨[], by simp, rfl, trivial⟩
  | [t], [rv], x, hx => by
    simp only [resH] at hx
    obtain ⟨v, h1, h2⟩ := resH1_ok h hx
    exact ⟨[v], by simp [h1], rfl, h2, trivial⟩
  | t :: t' :: l, rv :: rs, x, hx => by
    simp only [resH] at hx
    split at hx
    · rename_i y ys hy hys
      obtain rfl := Option.some.inj hx
      obtain ⟨v, h1, h2⟩ := resH1_ok h hy
      obtain ⟨vs, h3, h4, h5⟩ := resH_ok h hys
      exact ⟨v :: vs, by simp [List.mapM_cons, h1, h3], by simp [h4], h2, h5⟩
    · simp at hx
  | [], _ :: _, _, hx => by simp [resH] at hx
  | [_], [], _, hx => by simp [resH] at hx
  | [_], _ :: _ :: _, _, hx => by simp [resH] at hx
  | _ :: _ :: _, [], _, hx => by simp [resH] at hx
theorem ret_ok (h : Hl C.n F k0 W a0 e a k) {x : HL T.S cod} (hx : resH C e cod C.rs = some x) : RetOk C cod F k0 x a k := by
  refine ⟨h.d, k, rfl, h.g, fun fn hfn => ?_⟩
  obtain ⟨vs, h1, h2, h3⟩ := resH_ok h hx
  rw [← hfn] at h1
  have h4 : (fn.results.mapM (resVal a.tmps)).run C.P k.w = .ok vs.toArray k.w := by
    rw [Array.mapM_eq_mapM_toList]; simp [h1]
  rw [results_eq]
  match cod, x, vs, h2, h3 with
  | [], x, [], _, _ => exact ⟨.tuple #[], by simp [h4], trivial⟩
  | [t], x, [v], _, h3 => exact ⟨v, by simp [h4], h3.1⟩
  | t :: t' :: l, x, v :: v' :: vs, _, h3 => exact ⟨.tuple (v :: v' :: vs).toArray, by simp [h4], _, rfl, h3⟩

theorem takeF_ok (h : Hl C.n F k0 W a0 e a k) {ds : List Nat} {sp : Sp} {K : SpD T sp → Option R} {r : R} (hk : takeF ds e sp K = some r) : ∃ s e' k', K s = some r ∧ take ds e' sp = some s ∧ k'.w = k.w ∧ Hl C.n F k0 W a0 e' a k' := by
  unfold takeF at hk
  obtain ⟨e', k', h1, h2, h3⟩ := frz_ok h hk
  split at h1
  · rename_i s hs; exact ⟨s, e', k', h1, hs, h2, h3⟩
  · simp at h1
theorem app_r {xs : Ls} : ∀ d, xs.2.contains d = true → (xs.1 ++ xs.2).contains d = true := by
  intro d h; simp at h ⊢; exact .inr h
theorem exAt_cons {i j : Nat} {x : Ls} {l : List (Nat × Ls)} {y : Ls} (h : exAt ((i, x) :: l) j = some y) : (i = j ∧ x = y) ∨ (i ≠ j ∧ exAt l j = some y) := by
  simp only [exAt] at h
  cases hb : Nat.beq i j with
  | true => rw [hb] at h; exact .inl ⟨Nat.eq_of_beq_eq_true hb, Option.some.inj h⟩
  | false => rw [hb] at h; exact .inr ⟨fun e => by rw [e, Nat.beq_refl] at hb; simp at hb, h⟩
theorem exK_ok {ρ : Type} {sp : Sp} {base : Env T} {K : Kt T ρ R} {r : R} {s : SpD T sp} : ∀ {l : List (Nat × Ls)} {j : Nat} {x : Ls}, exAt l j = some x → exK base K l j s = some r → K.ex j (give (x.1 ++ x.2) sp s base) = some r
  | [], j, x, h, _ => by simp [exAt] at h
  | [(i, y)], j, x, h, hk => by
    rcases exAt_cons h with ⟨rfl, rfl⟩ | ⟨_, h⟩
    · exact hk
    · simp [exAt] at h
  | (i, y) :: z :: l, j, x, h, hk => by
    simp only [exK] at hk
    rcases exAt_cons h with ⟨rfl, rfl⟩ | ⟨hne, h⟩
    · rw [if_pos rfl] at hk; exact hk
    · rw [if_neg (Ne.symm hne)] at hk; exact exK_ok h hk
/-- The statement about a piece of code. -/
def CodeOk (C : Cx T) (cod : List Tp) (c : Code) : Prop :=
  ∀ (h : Hn T) (R : Type) (e : Env T) (M : Kt T (HL T.S cod) R) (r : R), ev C cod c h R e M = some r →
  ∀ (F : FP) (k0 : K) (W : List Nat) (a0 : Act) (a : Act) (k : K) (Q : Exit → Act → World → Prop), (∀ t ∈ wrs c, t ∈ W) → Hl C.n F k0 W a0 e a k →
  (∀ e' a' k', M.go e' = some r → Hl C.n F k0 W a0 e' a' k' → Q .normal a' k'.w) →
  (∀ i e' a' k', M.ex i e' = some r → Hl C.n F k0 W a0 e' a' k' → Q (.exit i) a' k'.w) →
  (∀ x a' k', M.rv x = some r → RetOk C cod F k0 x a' k' → Q .ret a' k'.w) → c.wp C.P Q a k.w

/-- what is behind a join of a code that may leave -/
theorem flow_ok {h : Hl C.n F k0 W a0 e a k} {Wc : List Nat} {sp : Sp} {xs : Ls} {exs : List (Nat × Ls)} {M : Kt T (HL T.S cod) R} {r : R} {Q : Exit → Act → World → Prop} {fl : Flow (SpD T sp) (HL T.S cod)}
    (hW : ∀ t ∈ Wc, t ∈ W)
    (hk : (match fl with | .go s => M.go (give (xs.1 ++ xs.2) sp s (keepE false Wc (spW sp) e)) | .ex i s => exK (keepE false Wc (spW sp) e) M exs i s | .ret x => M.rv x) = some r)
    (hgo : ∀ e' a' k', M.go e' = some r → Hl C.n F k0 W a0 e' a' k' → Q .normal a' k'.w)
    (hex : ∀ i e' a' k', M.ex i e' = some r → Hl C.n F k0 W a0 e' a' k' → Q (.exit i) a' k'.w)
    (hrv : ∀ x a' k', M.rv x = some r → RetOk C cod F k0 x a' k' → Q .ret a' k'.w) :
    (∀ e' a' k', (takeF xs.2 e' sp fun s => some (.go s)) = some fl → Hl C.n (FU e a (Wc ++ spW sp)) k Wc a e' a' k' → Q .normal a' k'.w) ∧
    (∀ i e' a' k', exF exs sp i e' = some fl → Hl C.n (FU e a (Wc ++ spW sp)) k Wc a e' a' k' → Q (.exit i) a' k'.w) ∧
    (∀ x a' k', some (.ret x) = some fl → RetOk C cod (FU e a (Wc ++ spW sp)) k x a' k' → Q .ret a' k'.w) := by
  refine ⟨fun e' a' k' h1 h2 => ?_, fun i e' a' k' h1 h2 => ?_, fun x a' k' h1 h2 => ?_⟩
  · obtain ⟨s, e2, k2, h3, h4, h5, h6⟩ := takeF_ok h2 h1
    obtain rfl := Option.some.inj h3
    rw [← h5]
    exact hgo _ a' k2 hk (rejoinF h app_r hW h6 h4)
  · unfold exF at h1
    split at h1
    · rename_i x hx
      obtain ⟨s, e2, k2, h3, h4, h5, h6⟩ := takeF_ok h2 h1
      obtain rfl := Option.some.inj h3
      rw [← h5]
      exact hex i _ a' k2 (exK_ok hx hk) (rejoinF h app_r hW h6 h4)
    · simp at h1
  · obtain rfl := Option.some.inj h1
    exact hrv x a' k' hk (h2.step h.g fun b ⟨t, _, h5, h6⟩ => h.wr t h5 b h6)

theorem seq_ok {x y : Code} (hx : CodeOk C cod x) (hy : CodeOk C cod y) : CodeOk C cod (.seq x y) := by
  intro h R e M r hk F k0 W a0 a k Q hW hl hgo hex hrv
  have main : ∀ hxx hyy, ev C cod x hxx R e { M with go := fun e' => ev C cod y hyy R e' M } = some r → (Code.seq x y).wp C.P Q a k.w := by
    intro hxx hyy hk
    refine wp_seq (hx hxx R e _ r hk F k0 W a0 a k _ (fun t ht => hW t (by simp [wrs, ht])) hl (fun e' a' k' h1 h2 => ?_) (fun i e' a' k' h1 h2 => hex i e' a' k' h1 h2) (fun x a' k' h1 h2 => hrv x a' k' h1 h2))
    exact hy hyy R e' M r h1 F k0 W a0 a' k' Q (fun t ht => hW t (by simp [wrs, ht])) h2 hgo hex hrv
  cases h <;> exact main _ _ hk
theorem cond_ok {c : Operand} {x y : Code} (hx : CodeOk C cod x) (hy : CodeOk C cod y) : CodeOk C cod (.cond c x y) := by
  intro h R e M r hk F k0 W a0 a k Q hW hl hgo hex hrv
  have hWx : ∀ t ∈ wrs x, t ∈ W := fun t ht => hW t (by simp [wrs, ht])
  have hWy : ∀ t ∈ wrs y, t ∈ W := fun t ht => hW t (by simp [wrs, ht])
  have cv : ∀ {F : FP} {k0 : K} {W : List Nat} {a0 : Act} {e : Env T} {k : K} {m : Bool}, Hl C.n F k0 W a0 e a k → asB (opv e c) = some m → a.eval c = .bool m := by
    intro F k0 W a0 e k m hl hm
    exact isV_bool.1 (asB_is hm (opv_is (a0 := a) (by
      cases c with
      | tmp t => exact ⟨hl.sl t, fun _ => rfl⟩
      | _ => trivial)))
  have plain : ∀ hxx hyy, (match asB (opv e c) with | some m => if m then ev C cod x hxx R e M else ev C cod y hyy R e M | none => none) = some r → (Code.cond c x y).wp C.P Q a k.w := by
    intro hxx hyy hk
    split at hk
    · rename_i m hm
      refine wp_cond_split (cv hl hm) (fun hm1 => ?_) (fun hm0 => ?_)
      · rw [if_pos hm1] at hk
        exact hx hxx R e M r hk F k0 W a0 a k Q hWx hl hgo hex hrv
      · rw [if_neg (by rw [hm0]; simp)] at hk
        exact hy hyy R e M r hk F k0 W a0 a k Q hWy hl hgo hex hrv
    · simp at hk
  have hwc : ∀ t ∈ wrs x ++ wrs y, t ∈ W := fun t ht => hW t (by simpa [wrs] using ht)
  unfold ev at hk
  split at hk
  · rename_i fz sp xs hxx hyy
    obtain ⟨e0, k1, h1, h2, h3⟩ := frz_ok hl hk
    rw [lockK_eq, keepK_eq] at h1
    rw [← h2]
    have hin := h3.lock (wrs x ++ wrs y ++ spW sp) (wrs x ++ wrs y)
    split at h1
    · rename_i m hm
      obtain ⟨s, hs, h1⟩ := bind_some h1
      have fin : ∀ e' a' k', (takeF xs.2 e' sp some) = some s → Hl C.n (FU e0 a (wrs x ++ wrs y ++ spW sp)) k1 (wrs x ++ wrs y) a e' a' k' → Q .normal a' k'.w := by
        intro e' a' k' g1 g2
        obtain ⟨s', e2, k2, g3, g4, g5, g6⟩ := takeF_ok g2 g1
        obtain rfl := Option.some.inj g3
        rw [← g5]
        exact hgo _ a' k2 h1 (rejoinF h3 app_r hwc g6 g4)
      refine wp_cond_split (cv hin hm) (fun hm1 => ?_) (fun hm0 => ?_)
      · rw [if_pos hm1] at hs
        exact hx hxx _ _ _ s hs _ _ _ _ a k1 Q (fun t ht => by simp [ht]) hin fin (fun i e' a' k' g1 _ => by simp at g1) (fun x' a' k' g1 _ => by simp at g1)
      · rw [if_neg (by rw [hm0]; simp)] at hs
        exact hy hyy _ _ _ s hs _ _ _ _ a k1 Q (fun t ht => by simp [ht]) hin fin (fun i e' a' k' g1 _ => by simp at g1) (fun x' a' k' g1 _ => by simp at g1)
    · simp at h1
  · rename_i fz sp xs exs hxx hyy
    obtain ⟨e0, k1, h1, h2, h3⟩ := frz_ok hl hk
    rw [lockK_eq, keepK_eq] at h1
    rw [← h2]
    have hin := h3.lock (wrs x ++ wrs y ++ spW sp) (wrs x ++ wrs y)
    split at h1
    · rename_i m hm
      obtain ⟨fl, hs, h1⟩ := bind_some h1
      obtain ⟨f1, f2, f3⟩ := flow_ok (h := h3) (Q := Q) (xs := xs) hwc h1 hgo hex hrv
      refine wp_cond_split (cv hin hm) (fun hm1 => ?_) (fun hm0 => ?_)
      · rw [if_pos hm1] at hs
        exact hx hxx _ _ _ fl hs _ _ _ _ a k1 Q (fun t ht => by simp [ht]) hin f1 f2 f3
      · rw [if_neg (by rw [hm0]; simp)] at hs
        exact hy hyy _ _ _ fl hs _ _ _ _ a k1 Q (fun t ht => by simp [ht]) hin f1 f2 f3
    · simp at h1
  · exact plain _ _ hk
  · exact plain _ _ hk
theorem block_ok {id : Nat} {x : Code} (hx : CodeOk C cod x) : CodeOk C cod (.block id x) := by
  intro h R e M r hk F k0 W a0 a k Q hW hl hgo hex hrv
  have hWx : ∀ t ∈ wrs x, t ∈ W := fun t ht => hW t (by simpa [wrs] using ht)
  have inb : ∀ {i : Nat} {a : Act} {w : World}, (i = id → Q .normal a w) → (i ≠ id → Q (.exit i) a w) → Exit.inBlock id Q (.exit i) a w := by
    intro i a w h1 h2
    simp only [Exit.inBlock]
    split
    · rename_i h; exact h1 (by simpa using h)
    · rename_i h; exact h2 (by simpa using h)
  have plain : ∀ hxx, ev C cod x hxx R e { M with ex := fun i e' => bif Nat.beq i id then M.go e' else M.ex i e' } = some r → (Code.block id x).wp C.P Q a k.w := by
    intro hxx hk
    refine wp_block (hx hxx R e _ r hk F k0 W a0 a k _ hWx hl hgo (fun i e' a' k' h1 h2 => inb (fun e1 => ?_) (fun e1 => ?_)) hrv)
    · subst e1; simp only [Nat.beq_refl, cond_true] at h1; exact hgo e' a' k' h1 h2
    · simp only [beq_ne e1, cond_false] at h1; exact hex i e' a' k' h1 h2
  unfold ev at hk
  split at hk
  · rename_i fz sp xs hxx
    obtain ⟨e0, k1, h1, h2, h3⟩ := frz_ok hl hk
    rw [lockK_eq, keepK_eq] at h1
    rw [← h2]
    have hin := h3.lock (wrs x ++ spW sp) (wrs x)
    obtain ⟨s, hs, h1⟩ := bind_some h1
    have fin : ∀ e' a' k', (takeF xs.2 e' sp some) = some s → Hl C.n (FU e0 a (wrs x ++ spW sp)) k1 (wrs x) a e' a' k' → Q .normal a' k'.w := by
      intro e' a' k' g1 g2
      obtain ⟨s', e2, k2, g3, g4, g5, g6⟩ := takeF_ok g2 g1
      obtain rfl := Option.some.inj g3
      rw [← g5]
      exact hgo _ a' k2 h1 (rejoinF h3 app_r hWx g6 g4)
    refine wp_block (hx hxx _ _ _ s hs _ _ _ _ a k1 _ (fun t ht => ht) hin fin (fun i e' a' k' g1 g2 => inb (fun e1 => ?_) (fun e1 => ?_)) (fun x' a' k' g1 _ => by simp at g1))
    · subst e1; simp only [Nat.beq_refl, cond_true] at g1; exact fin e' a' k' g1 g2
    · simp only [beq_ne e1, cond_false] at g1; simp at g1
  · rename_i fz sp xs exs hxx
    obtain ⟨e0, k1, h1, h2, h3⟩ := frz_ok hl hk
    rw [lockK_eq, keepK_eq] at h1
    rw [← h2]
    have hin := h3.lock (wrs x ++ spW sp) (wrs x)
    obtain ⟨fl, hs, h1⟩ := bind_some h1
    obtain ⟨f1, f2, f3⟩ := flow_ok (h := h3) (Q := Q) (xs := xs) hWx h1 hgo hex hrv
    refine wp_block (hx hxx _ _ _ fl hs _ _ _ _ a k1 _ (fun t ht => ht) hin f1 (fun i e' a' k' g1 g2 => inb (fun e1 => ?_) (fun e1 => ?_)) f3)
    · subst e1; simp only [Nat.beq_refl, cond_true] at g1; exact f1 e' a' k' g1 g2
    · simp only [beq_ne e1, cond_false] at g1; exact f2 i e' a' k' g1 g2
  · exact plain _ hk
theorem loop_ok {x : Code} (hx : CodeOk C cod x) : CodeOk C cod (.loop x) := by
  intro h R e M r hk F k0 W a0 a k Q hW hl hgo hex hrv
  have hWx : ∀ t ∈ wrs x, t ∈ W := fun t ht => hW t (by simpa [wrs] using ht)
  unfold ev at hk
  split at hk
  · rename_i fz sp exs fuel hxx
    obtain ⟨e0, k1, h1, h2, h3⟩ := frz_ok hl hk
    rw [keepK_eq, keepK_eq] at h1
    rw [← h2]
    split at h1
    · rename_i s0 hs0
      obtain ⟨fl, hs, h1⟩ := bind_some h1
      have hin := h3.lock (wrs x ++ spW sp) (wrs x)
      have hs0' : take [] (lockE (wrs x ++ spW sp) e0) sp = some s0 := by
        rw [← hs0]
        refine take_congr fun t ht => ?_
        rw [lk_lockE]
        have : (wrs x ++ spW sp).contains t = true := by simpa using Or.inr ht
        rw [this]; rfl
      have hst := rejoinT h3 (ds := []) (xs := []) (fun d hd => by simp at hd) hin hs0'
      have hsim : Sim C.P (.loop x) (fun s a' k' => Hl C.n (FU e0 a (wrs x ++ spW sp)) k1 (wrs x) a (give [] sp s (keepE true (wrs x) (spW sp) e0)) a' k')
          (iterL (fun s => ev C cod x hxx (Flow (SpD T sp) (HL T.S cod)) (give [] sp s (keepE true (wrs x) (spW sp) e0)) ⟨fun e' => takeF [] e' sp fun s => some (.go s), exF exs sp, fun r => some (.ret r)⟩) (fuel e0))
          (fun s a' k' => Hl C.n (FU e0 a (wrs x ++ spW sp)) k1 (wrs x) a (give [] sp s (keepE true (wrs x) (spW sp) e0)) a' k')
          (fun i s a' k' => ∃ y, exAt exs i = some y ∧ Hl C.n F k0 W a0 (give (y.1 ++ y.2) sp s (keepE false (wrs x) (spW sp) e0)) a' k')
          (fun x' a' k' => RetOk C cod (FU e0 a (wrs x ++ spW sp)) k1 x' a' k') := by
        refine sim_loop ?_ _
        intro s f a2 k2 hb hS Q' _ hgo' hex' hret'
        refine hx hxx _ _ _ f hb _ _ _ _ a2 k2 Q' (fun t ht => ht) hS (fun e' a' k' g1 g2 => ?_) (fun i e' a' k' g1 g2 => ?_) (fun x' a' k' g1 g2 => ?_)
        · obtain ⟨s', e2, k3, g3, g4, g5, g6⟩ := takeF_ok g2 g1
          rw [← g5]
          exact hgo' s' a' k3 (Option.some.inj g3).symm (rejoinT h3 (fun d hd => by simp at hd) g6 g4)
        · have g1 : exF exs sp i e' = some f := g1
          unfold exF at g1
          split at g1
          · rename_i y hy
            obtain ⟨s', e2, k3, g3, g4, g5, g6⟩ := takeF_ok g2 g1
            rw [← g5]
            exact hex' i s' a' k3 (Option.some.inj g3).symm ⟨y, hy, rejoinF h3 app_r hWx g6 g4⟩
          · simp at g1
        · exact hret' x' a' k' (Option.some.inj g1).symm g2
      refine hsim s0 fl a k1 hs hst Q trivial (fun s a' k' g1 _ => ?_) (fun i s a' k' g1 g2 => ?_) (fun x' a' k' g1 g2 => ?_)
      · rw [g1] at h1; simp at h1
      · rw [g1] at h1
        obtain ⟨y, hy, g3⟩ := g2
        exact hex i _ a' k' (exK_ok hy h1) g3
      · rw [g1] at h1
        exact hrv x' a' k' h1 (g2.step h3.g fun b ⟨t, _, h5, h6⟩ => h3.wr t h5 b h6)
    · simp at h1
  · simp at hk
theorem region_ok (hC : CxOk C) {id : Nat} {A : Array Oper} {draw : Bool} : CodeOk C cod (.region id A draw) := by
  intro h R e M r hk F k0 W a0 a k Q hW hl hgo hex hrv
  have hWx : ∀ o ∈ A.toList, ∀ d, o.dst = some d → d ∈ W := fun o ho d hd => hW d (List.mem_filterMap.2 ⟨o, ho, hd⟩)
  unfold ev at hk
  split at hk
  · obtain ⟨e1, k1, h1, h2, h3⟩ := frz_ok hl hk
    rw [← h2]
    exact evR_ok hC hWx h3 h1 hgo
  · exact evR_ok hC hWx hl hk hgo
theorem code_ok (hC : CxOk C) : ∀ c : Code, CodeOk C cod c
  | .skip => fun h R e M r hk F k0 W a0 a k Q hW hl hgo _ _ => wp_skip (hgo e a k hk hl)
  | .region _ _ _ => region_ok hC
  | .seq x y => seq_ok (code_ok hC x) (code_ok hC y)
  | .cond _ x y => cond_ok (code_ok hC x) (code_ok hC y)
  | .block _ x => block_ok (code_ok hC x)
  | .loop x => loop_ok (code_ok hC x)
  | .exit i => fun h R e M r hk F k0 W a0 a k Q hW hl _ hex _ => wp_exit (hex i e a k hk hl)
  | .ret => fun h R e M r hk F k0 W a0 a k Q hW hl _ _ hrv => by
    unfold ev at hk
    obtain ⟨e1, k1, h1, h2, h3⟩ := frz_ok hl hk
    split at h1
    · rename_i x hx
      rw [← h2]
      exact wp_ret (hrv x a k1 h1 (ret_ok h3 hx))
    · simp at h1
  | .rangeFunc _ _ _ _ => fun h R e M r hk => by simp [ev] at hk
  | .scope _ => fun h R e M r hk => by simp [ev] at hk
  | .label _ => fun h R e M r hk => by simp [ev] at hk
  | .goto _ => fun h R e M r hk => by simp [ev] at hk
  | .refuse _ => fun h R e M r hk => by simp [ev] at hk
end
end Go.Gb

/- General part of the proofs: whole functions. -/
namespace Go.Gb
variable {T : Tb} {R : Type}
def body (f : Func) : Code := f.body.getD .skip
def tidL : List (Nat × Tp) → Nat → Option Tp
  | [], _ => none
  | (a, t) :: l, i => bif Nat.beq a i then some t else tidL l i
def fI (s : Nat) (e : Env T) : Nat := match lk e s with | .v .int n => n.toNat + 1 | _ => 0
def lenS (e : Env T) (s : Nat) : Nat := match lk e s with | .v (.list _) xs => xs.length | .own _ _ _ xs => xs.length | _ => 0
def fLs (e : Env T) : Nat → List Nat → Nat
  | a, [] => a + 1
  | a, s :: l => fLs e (a + lenS e s) l
def fL (l : List Nat) (e : Env T) : Nat := match l with
  | [] => 1
  | s :: l => fLs e (lenS e s) l
def gt (e : Env T) (s : Nat) (t : Tp) : T.D t := (asT t (lk e s)).getD (T.dflt t)

def EqsOk (P : Program) (T : Tb) : List (TypeId × Nat) → Prop
  | [] => True
  | (t, n) :: l => @EqOk P t (T.S n) (T.enc n) (T.deq n) ∧ EqsOk P T l
theorem EqsOk.at {P : Program} : ∀ {l : List (TypeId × Nat)}, EqsOk P T l → ∀ t n, l.contains (t, n) = true → @EqOk P t (T.S n) (T.enc n) (T.deq n)
  | [], _, _, _, h => by simp at h
  | (t', n') :: l, h, t, n, hc => by
    simp only [List.contains_cons, Bool.or_eq_true, beq_iff_eq, Prod.mk.injEq] at hc
    rcases hc with ⟨rfl, rfl⟩ | hc
    · exact h.1
    · exact EqsOk.at h.2 t n hc
/-- A function, and that it computes what it is said to. -/
structure Fk (T : Tb) (P : Program) where
  f : FuncId
  d : FnE T
  ok : FnOk P f d
def depsOf {P : Program} (l : List (Fk T P)) : Deps T := l.map fun k => (k.f, k.d)
theorem depsOf_ok {P : Program} : ∀ (l : List (Fk T P)) (f : FuncId) (d : FnE T), dep (depsOf l) f = some d → FnOk P f d
  | [], _, _, h => by simp [depsOf, dep] at h
  | k :: l, f, d, h => by
    simp only [depsOf, List.map_cons, dep] at h
    cases hb : Nat.beq k.f f with
    | true =>
      rw [hb] at h
      obtain rfl := Nat.eq_of_beq_eq_true hb
      obtain rfl := Option.some.inj h
      exact k.ok
    | false => rw [hb] at h; exact depsOf_ok l f d h

theorem HIs.cons {a b : Tp} {l : List Tp} {x : HL T.S (a :: b :: l)} {vs : List Value} {k : K} (h : HIs (a :: b :: l) x vs k) : ∃ u us, vs = u :: us ∧ IsV x.1 u k ∧ HIs (b :: l) x.2 us k := by
  cases vs with
  | nil => exact h.elim
  | cons u us => exact ⟨u, us, rfl, h.1, h.2⟩
theorem HIs.one {a : Tp} {x : HL T.S [a]} {vs : List Value} {k : K} (h : HIs [a] x vs k) : ∃ u, vs = [u] ∧ IsV (α := T.D a) x u k := by
  cases vs with
  | nil => exact h.elim
  | cons u us => cases us with
    | nil => exact ⟨u, rfl, h⟩
    | cons _ _ => exact h.elim
theorem HIs.nil {x : HL T.S []} {vs : List Value} {k : K} (h : HIs [] x vs k) : vs = [] := by
  cases vs with
  | nil => rfl
  | cons u us => exact h.elim
theorem initE_lk {a : Act} {k : K} : ∀ {l : List Tp} {x : HL T.S l} {vs : List Value} {i : Nat}, HIs l x vs k → ArgsAre a i vs → ∀ t, (lk (initE i l x) t).is a (a.get t) k ∧ isRes (lk (initE i l x) t) = false ∧ ∀ s, (lk (initE i l x) t).ment s = false
  | [], _, _, _, _, _, t => ⟨trivial, rfl, fun _ => rfl⟩
  | [b], x, vs, i, h, ha, t => by
    obtain ⟨u, rfl, hu⟩ := h.one
    simp only [initE]
    rw [lk_cons]
    split
    · rename_i e; subst e
      rw [ha.1]
      exact ⟨hu, rfl, fun _ => rfl⟩
    · exact ⟨trivial, rfl, fun _ => rfl⟩
  | b :: c :: l, x, vs, i, h, ha, t => by
    obtain ⟨u, us, rfl, hu, h'⟩ := h.cons
    simp only [initE]
    rw [lk_cons]
    split
    · rename_i e; subst e
      rw [ha.1]
      exact ⟨hu, rfl, fun _ => rfl⟩
    · exact initE_lk h' ha.2 t
theorem HIs.len {k : K} : ∀ {l : List Tp} {x : HL T.S l} {vs : List Value}, HIs l x vs k → vs.length = l.length
  | [], _, _, h => by rw [h.nil]; rfl
  | [_], _, _, h => by obtain ⟨u, rfl, _⟩ := h.one; rfl
  | _ :: _ :: _, _, _, h => by obtain ⟨u, us, rfl, _, h'⟩ := h.cons; simp [HIs.len h']

theorem fnOk {P : Program} {tid : TypeId → Option Tp} {eqs : List (TypeId × Nat)} {d : FnE T} {f : FuncId} (ks : List (Fk T P)) (own : List Nat) (fn : Func) (h : Hn T) (hE : EqsOk P T eqs) (hm : P.follows .mixedOrders = true)
    (hf : P.funcs[f]? = some fn) (hc : ∀ args w, (callFunc f args).run P w = .ok (.enter f args) w) (hb : fn.body = some (body fn)) (hl : Nat.ble d.dom.length fn.ntmps = true)
    (he : ∀ x, evF ⟨P, tid, eqs, depsOf ks, own, fn.results.toList, fn.ntmps⟩ (body fn) h d.dom d.cod x = d.run x) : FnOk P f d := by
  let C : Cx T := ⟨P, tid, eqs, depsOf ks, own, fn.results.toList, fn.ntmps⟩
  have hC : CxOk C := ⟨depsOf_ok ks, hE.at, hm⟩
  refine ⟨hc, fun k0 vs x r hi hr => ?_⟩
  refine Ret.ofC ?_
  refine enterK hf hb rfl (by
    have := hi.len
    have h2 := Nat.le_of_ble_eq_true hl
    simpa [this] using h2) fun a k hk0 hs hd ha => ?_
  subst hk0
  have hev : evF C (body fn) h d.dom d.cod x = some r := (he x).trans hr
  have hin := initE_lk hi ha
  have h0 : Hl C.n noF k (wrs (body fn)) a (initE 0 d.dom x) a k := ⟨Chg.refl _ k, hs, hd, fun _ _ => rfl, fun t => (hin t).1, fun t s hms => by rw [(hin t).2.2] at hms; simp at hms,
    fun t ht => by have h1 := unl_res ht; rw [(hin t).2.1] at h1; simp at h1, fun t t' _ b hb => absurd hb (fp_nonres (hin t).2.1 _ b)⟩
  refine code_ok hC (body fn) h _ _ _ r hev noF k _ a a k _ (fun t ht => ht) h0 (fun e' a' k' g => by simp at g) (fun i e' a' k' g => by simp at g) (fun y a' k' g hret => ?_)
  obtain rfl := Option.some.inj g
  obtain ⟨h1, k2, h2, h3, h4⟩ := hret
  obtain ⟨v, h5, h6⟩ := h4 fn rfl
  rw [← h2]
  exact bodyPost_ret' h1 h5 h3 h6

/-! from and to the other form -/
section
variable {P : Program} {f : FuncId} {vs : Array Value} {w : World} {k : K}
theorem retImp {R S : Pred} (h : Calls P f vs w (Ret k R)) (hi : ∀ v k', R v k' → S v k') : Calls P f vs w (Ret k S) := by
  refine Calls.mono h fun e w' he => ?_
  cases e with
  | returned v => obtain ⟨k', h1, h2, h3⟩ := he; exact ⟨k', h1, h2, hi _ _ h3⟩
  | panicked c => exact he.elim
  | outgrown => exact he.elim
theorem ret2T {a b : Tp} {x : HL T.S [a, b]} (h : Calls P f vs w (Ret k fun u k' => (resV [a, b] x).is ⟨#[], []⟩ u k')) : Calls P f vs w (Ret k (IsTup2 (IsV (α := T.D a) x.1) (IsV (α := T.D b) x.2))) :=
  retImp h fun v k' ⟨us, e, hf⟩ => by
    match us, hf with
    | [u1, u2], hf => exact ⟨u1, u2, e, hf.1, hf.2.1⟩
theorem ret2F {a b : Tp} {x : HL T.S [a, b]} (h : Calls P f vs w (Ret k (IsTup2 (IsV (α := T.D a) x.1) (IsV (α := T.D b) x.2)))) : Calls P f vs w (Ret k fun u k' => (resV [a, b] x).is ⟨#[], []⟩ u k') :=
  retImp h fun v k' ⟨u1, u2, e, h1, h2⟩ => ⟨[u1, u2], e, h1, h2, trivial⟩
end
end Go.Gb


