/- The general part of the proofs (no program in sight): worlds with shared blocks, regions, operations, calls, loops, what comes in as data, part 3 -/
import Derived.Test.YtachpkjjlebadaaGreatL2
set_option linter.unusedVariables false
set_option linter.unusedSimpArgs false
/- General part of the proofs: an own slice, one part of which is a value that is looked at as it is. -/
namespace Go.Gb

/-- A value, as it is. -/
structure RawV where
  v : Value
instance : Inhabited RawV := ⟨⟨.bool false⟩⟩
instance : Enc RawV where
  sz := 1
  agg := false
  rep _ cs x := cs = [x.v] ∧ x.v.oneCell' = true
  len h := by simp [h.1]
  mono _ h := h
  one h := by obtain ⟨rfl, h⟩ := h; simpa using h
  agg1 _ := rfl
theorem raw_val {h v : Value} {k : K} (i : IsV (RawV.mk h) v k) : v = h := by
  obtain ⟨cs, e, rfl, _⟩ := i
  exact e
theorem raw_valE {r : RawV} {h v : Value} {k : K} (e : r = ⟨h⟩) (i : IsV r v k) : v = h := by subst e; exact raw_val i
theorem getI_mk {α : Type} {xs : List α} {i : Int} {y : α} (h0 : 0 ≤ i) (h : xs[i.toNat]? = some y) : getI xs i = some y := by unfold getI; rw [if_pos h0]; exact h
theorem raw_self {v : Value} {k : K} (h : v.oneCell' = true) : IsV (RawV.mk v) v k := ⟨[v], rfl, rfl, h⟩
theorem own_one {α : Type} [Enc α] {B : Nat} {e : TypeId} {xs : List α} {v : Value} {k : K} (h : IsOwn B e xs v k) : v.oneCell' = true := by
  rcases h with ⟨rfl, _⟩ | ⟨a, rfl, _⟩ | ⟨b, off, cap, cur, cs, rfl, _⟩ <;> rfl

section
variable {α β γ : Type} [Enc α] [Enc β] [Enc γ] {g : α → γ} {f : β → RawV} {same : α → β → Prop} {k k' : K} {v : Value} {e : TypeId} {B : Nat} {F G : FP}
structure RawOf (g : α → γ) (f : β → RawV) (same : α → β → Prop) : Prop where
  sz : Enc.sz α = Enc.sz β
  split : ∀ {k : K} {cs : List Value} {x : α}, Enc.rep k cs x → ∃ y, Enc.rep k cs y ∧ same x y ∧ IsV (g x) (f y).v k
  join : ∀ {k : K} {cs : List Value} {x : α} {y : β}, Enc.rep k cs y → same x y → IsV (g x) (f y).v k → Enc.rep k cs x
def RR (g : α → γ) (f : β → RawV) (same : α → β → Prop) (i : Option Nat) (l : List α) (rs : List β) (k : K) : Prop :=
  rs.length = l.length ∧ ∀ (j : Nat) (x : α) (y : β), l[j]? = some x → rs[j]? = some y → same x y ∧ (some j ≠ i → IsV (g x) (f y).v k)
omit [Enc α] [Enc β] in
theorem RR.le {i : Option Nat} {l : List α} {rs : List β} (h : RR g f same i l rs k) (hk : Le k k') : RR g f same i l rs k' :=
  ⟨h.1, fun j x y h1 h2 => ⟨(h.2 j x y h1 h2).1, fun hn => Pers.pers hk ((h.2 j x y h1 h2).2 hn)⟩⟩
theorem repL_split (R : RawOf g f same) : ∀ {l : List α} {cs : List Value}, RepL k cs l → ∃ rs : List β, RepL k cs rs ∧ RR g f same none l rs k
  | [], cs, h => ⟨[], h, rfl, fun j x y h1 => by simp at h1⟩
  | x :: l, cs, h => by
    obtain ⟨y, hy, hs, hv⟩ := R.split h.1
    obtain ⟨rs, hrs, hl, hr⟩ := repL_split R h.2
    refine ⟨y :: rs, ⟨by rw [← R.sz]; exact hy, by rw [← R.sz]; exact hrs⟩, by simp [hl], fun j x' y' h1 h2 => ?_⟩
    cases j with
    | zero =>
      simp only [List.getElem?_cons_zero, Option.some.injEq] at h1 h2
      subst h1 h2
      exact ⟨hs, fun _ => hv⟩
    | succ j => exact ⟨(hr j x' y' (by simpa using h1) (by simpa using h2)).1, fun _ => (hr j x' y' (by simpa using h1) (by simpa using h2)).2 (by simp)⟩
theorem repL_join (R : RawOf g f same) : ∀ {l : List α} {rs : List β} {cs : List Value}, RepL k cs rs → RR g f same none l rs k → RepL k cs l
  | [], [], cs, h, _ => h
  | [], _ :: _, cs, h, hr => by have := hr.1; simp at this
  | _ :: _, [], cs, h, hr => by have := hr.1; simp at this
  | x :: l, y :: rs, cs, h, hr => by
    have h0 := hr.2 0 x y rfl rfl
    refine ⟨R.join (by rw [R.sz]; exact h.1) h0.1 (h0.2 (by simp)), repL_join R (rs := rs) (by rw [R.sz]; exact h.2) ⟨by simpa using hr.1, fun j x' y' h1 h2 => ?_⟩⟩
    have := hr.2 (j + 1) x' y' (by simpa using h1) (by simpa using h2)
    exact ⟨this.1, fun _ => this.2 (by simp)⟩
theorem own_raw (R : RawOf g f same) {l : List α} (h : IsOwn B e l v k) : ∃ rs : List β, IsOwn B e rs v k ∧ RR g f same none l rs k := by
  rcases h with ⟨rfl, rfl⟩ | ⟨a, rfl, rfl⟩ | ⟨b, off, cap, cur, cs, rfl, h1, h2, h3, h4, h5, h6, h7, h8, h9⟩
  · exact ⟨[], .inl ⟨rfl, rfl⟩, rfl, fun j x y h1 => by simp at h1⟩
  · exact ⟨[], .inr (.inl ⟨a, rfl, rfl⟩), rfl, fun j x y h1 => by simp at h1⟩
  · obtain ⟨rs, hrs, hR⟩ := repL_split R h9
    exact ⟨rs, .inr (.inr ⟨b, off, cap, cur, cs, by rw [hR.1], h1, h2, h3, by rw [hR.1]; exact h4, h5, h6, by rw [← R.sz]; exact h7, by rw [hR.1, ← R.sz]; exact h8, hrs⟩), hR⟩
theorem raw_own (R : RawOf g f same) {l : List α} {rs : List β} (h : IsOwn B e rs v k) (hR : RR g f same none l rs k) : IsOwn B e l v k := by
  rcases h with ⟨rfl, rfl⟩ | ⟨a, rfl, rfl⟩ | ⟨b, off, cap, cur, cs, rfl, h1, h2, h3, h4, h5, h6, h7, h8, h9⟩
  · obtain rfl : l = [] := List.length_eq_zero_iff.1 hR.1.symm
    exact .inl ⟨rfl, rfl⟩
  · obtain rfl : l = [] := List.length_eq_zero_iff.1 hR.1.symm
    exact .inr (.inl ⟨a, rfl, rfl⟩)
  · exact .inr (.inr ⟨b, off, cap, cur, cs, by rw [hR.1], h1, h2, h3, by rw [← hR.1]; exact h4, h5, h6, by rw [R.sz]; exact h7, by rw [← hR.1, R.sz]; exact h8, repL_join R h9 hR⟩)

/-- An own slice, element i of which has the value h in a part. -/
def HO (g : α → γ) (f : β → RawV) (same : α → β → Prop) (e : TypeId) (l : List α) (i : Nat) (h : Value) : Pred := fun v k =>
  ∃ rs : List β, IsOwn 0 e rs v k ∧ RR g f same (some i) l rs k ∧ (rs[i]?).map f = some ⟨h⟩
omit [Enc α] in
theorem HO.ltF {l : List α} {i : Nat} {h : Value} (x : HO g f same e l i h v k) : ∀ b, obF v b → b < k.w.heap.size := let ⟨_, x, _⟩ := x; x.ltF
omit [Enc α] in
theorem HO.nshF {l : List α} {i : Nat} {h : Value} (x : HO g f same e l i h v k) : ∀ b, obF v b → ¬ k.sh b := let ⟨_, x, _⟩ := x; x.nshF
omit [Enc α] in
theorem HO.keep {l : List α} {i : Nat} {h : Value} (x : HO g f same e l i h v k) (c : Chg G k k') (ha : Apart (obF v) G) (hn : ∀ b, G b → ¬ k.sh b) : HO g f same e l i h v k' :=
  let ⟨rs, x, r, q⟩ := x; ⟨rs, x.keep c ha hn, r.le (c.le hn), q⟩
omit [Enc α] in
theorem HO.handed {l : List α} {i : Nat} {h : Value} (x : HO g f same e l i h v k) (c : Handed k k' G) (ha : Apart (obF v) G) : HO g f same e l i h v k' :=
  let ⟨rs, x, r, q⟩ := x; ⟨rs, x.handed c ha, r.le c.le, q⟩
omit [Enc α] in
instance {l : List α} {i : Nat} {h : Value} : Mono (HO g f same e l i h) := ⟨fun c ⟨rs, x, r, q⟩ => ⟨rs, Mono.mono c x, r.le c.le, q⟩⟩
omit [Enc α] in
theorem HO.put {l : List α} {rs : List β} {i : Nat} {h : Value} {x : α} {y y' : β} (ho : IsOwn 0 e (rs.set i y') v k) (hR : RR g f same none l rs k) (hl : l[i]? = some x) (hi : rs[i]? = some y)
    (hs : same x y → same x y') (hf : f y' = ⟨h⟩) : HO g f same e l i h v k := by
  have hlt : i < rs.length := (List.getElem?_eq_some_iff.1 hi).1
  refine ⟨_, ho, ⟨by simp [hR.1], fun j x' z h1 h2 => ?_⟩, by simp [hlt, hf]⟩
  by_cases hj : j = i
  · subst hj
    rw [List.getElem?_set_self hlt] at h2
    obtain rfl := Option.some.inj h2
    rw [hl] at h1
    obtain rfl := Option.some.inj h1
    exact ⟨hs (hR.2 j _ _ hl hi).1, fun hn => absurd rfl hn⟩
  · rw [List.getElem?_set_ne (fun e => hj e.symm)] at h2
    have := hR.2 j x' z h1 h2
    exact ⟨this.1, fun _ => this.2 (by simp)⟩
theorem HO.fill (R : RawOf g f same) {l : List α} {i : Nat} {h : Value} {x x' : α} (o : HO g f same e l i h v k) (hl : l[i]? = some x) (hs : ∀ y, same x y → same x' y) (hv : IsV (g x') h k) : IsOwn 0 e (l.set i x') v k := by
  obtain ⟨rs, ho, hR, hq⟩ := o
  refine raw_own R ho ⟨by simp [hR.1], fun j z y h1 h2 => ?_⟩
  have hlt : i < l.length := (List.getElem?_eq_some_iff.1 hl).1
  by_cases hj : j = i
  · subst hj
    rw [List.getElem?_set_self hlt] at h1
    obtain rfl := Option.some.inj h1
    rw [h2] at hq
    have hq : f y = ⟨h⟩ := by simpa using hq
    exact ⟨hs y (hR.2 j _ y hl h2).1, fun _ => by rw [hq]; exact hv⟩
  · rw [List.getElem?_set_ne (fun e => hj e.symm)] at h1
    have := hR.2 j z y h1 h2
    exact ⟨this.1, fun _ => this.2 (by simpa using hj)⟩
omit [Enc α] in
theorem HO.at {l : List α} {i : Nat} {h : Value} (o : HO g f same e l i h v k) : ∃ (rs : List β) (y : β), IsOwn 0 e rs v k ∧ rs[i]? = some y ∧ f y = ⟨h⟩ ∧ rs.length = l.length := by
  obtain ⟨rs, ho, hR, hq⟩ := o
  obtain ⟨y, hy, hf⟩ := Option.map_eq_some_iff.1 hq
  exact ⟨rs, y, ho, hy, hf, hR.1⟩
end
end Go.Gb

/- General part of the proofs: regions in which operations that only look may come behind the first store, into a box of the call's own. -/
namespace Go.Gb
section
variable {P : Program} {a : Act} {k : K} {α β : Type} [Enc α] [Enc β]

def PersL : List Ent → Prop
  | [] => True
  | ⟨some R, _⟩ :: l => (∀ v k k', Le k k' → R v k → R v k') ∧ PersL l
  | ⟨none, _⟩ :: _ => False
theorem PersL.at : ∀ {es : List Ent} {i : Nat} {R : Option Pred} {nd : List (Nat × Option Nat)}, PersL es → nth es i = some ⟨R, nd⟩ → ∃ R', R = some R' ∧ ∀ v k k', Le k k' → R' v k → R' v k'
  | ⟨some R, _⟩ :: _, 0, _, _, h, e => by
    have e := Option.some.inj e
    injection e with e1 _
    exact ⟨R, e1.symm, h.1⟩
  | ⟨some _, _⟩ :: l, i + 1, _, _, h, e => PersL.at (es := l) (i := i) h.2 e
  | ⟨none, _⟩ :: _, _, _, _, h, _ => h.elim

theorem regionX {A : Array Oper} {m id : Nat} {Q : Exit → Act → World → Prop} {es : List Ent} {n b off : Nat} {x : α} {z : β} {set : α → β → α} {o : Oper} {t : TypeId} {pt yt jp jy : Nat} {ndp ndy : List (Nat × Option Nat)}
    (hmix : P.follows .mixedOrders = true) (hs : a.tmps.size = n) (hc : (chkS n m A.toList es && chkB m A.toList && Nat.blt m A.size) = true) (hbx : Box b x k) (hP : PersL es)
    (hob : ∀ kb, Le k kb → Steps P es a kb (A.toList.take m) es)
    (ho : nth A.toList m = some o) (hg : o.guard = none) (hop : o.op = .store t (.tmp pt) (.tmp yt)) (hd : o.dst = none)
    (hjp : (nth A.toList jp).bind (·.dst) = some pt) (hep : nth es jp = some ⟨some (IsAdr b off), ndp⟩) (hbp : hasBit (masks A.toList []) m jp = true)
    (hjy : (nth A.toList jy).bind (·.dst) = some yt) (hey : nth es jy = some ⟨some (IsV z), ndy⟩) (hby : hasBit (masks A.toList []) m jy = true)
    (hsz : (P.info? t).map (·.size) = some (Enc.sz β)) (hu : Upd off set)
    (next : ∀ k1 kb b' q, Grow k k1 → Chg (Eq b) k1 kb → Post A.toList es m a kb b' q → Box b (set x z) q → wpOps P A Q (List.range' (m + 1) (A.size - (m + 1))) b' q.w) :
    (Code.region id A true).wp P Q a k.w := by
  simp only [Bool.and_eq_true, Nat.blt_eq] at hc
  obtain ⟨⟨c2, c3⟩, hmA⟩ := hc
  refine wp_region_any hmix ?_
  let kd : Gb.K := ⟨{ k.w with drawn := k.w.drawn + 1 }, k.sh, k.lt⟩
  have hgd : Grow k kd := ⟨rfl, rfl, rfl, Nat.le_refl _, fun _ _ => rfl, fun _ h => h, fun _ _ h => h, Nat.le_succ _⟩
  have hF : ∀ j, (Array.replicate A.size false).getD j false = true → False := by
    intro j hj; simp [Array.getD_eq_getD_getElem?, Array.getElem?_replicate] at hj; split at hj <;> simp at hj
  have hle : ∀ k1 kb, Grow k k1 → Chg (Eq b) k1 kb → Le k kb := fun k1 kb g c => g.le.trans (c.le fun c' hc' => by subst hc'; exact (hbx.grow g).nshF _ rfl)
  refine any_st (B := fun kb => (∃ k1, Grow k k1 ∧ Chg (Eq b) k1 kb) ∧ Box b (set x z) kb) (k0 := k) hs c2 hmA c3 (hob k (Le.refl k)) (fun kb ⟨⟨k1, g, c⟩, _⟩ => hob kb (hle k1 kb g c)) trivial ?_ ?_ A.size _ a kd (by simp) (by simp) (fun j hj => (hF j hj).elim) (.inl ⟨?_, ?_⟩)
  · intro a' k' D hD hinv hbind C' hC'
    have hval : ∀ (j s : Nat) (R : Pred) (nd : List (Nat × Option Nat)), (nth A.toList j).bind (·.dst) = some s → nth es j = some ⟨some R, nd⟩ → hasBit (masks A.toList []) m j = true → R (a'.get s) k' := by
      intro j s R nd h1 h2 h3
      obtain ⟨oj, h4, h5⟩ := Option.bind_eq_some_iff.1 h1
      have hDj : D j := hasBit_spec (L := A.toList) (D := D) hinv.closed (j := m) (i := j) (fun o' ho' => hbind o' ho') h3
      exact hinv.vals j oj s _ hDj h4 h5 h2
    have hpv : IsAdr b off (a'.eval (.tmp pt)) k' := hval jp pt _ _ hjp hep hbp
    have hyv : IsV z (a'.eval (.tmp yt)) k' := hval jy yt _ _ hjy hey hby
    have hw : wpOps P A (fun ex a w => match ex with | .normal => C' a w | _ => False) [m] a' k'.w := by
      refine tail_storeB (set := set) (x := x) (z := z) (b := b) (off := off) ho hg hop hd hsz hu hpv (hbx.grow hinv.grow) hyv fun k1 hch hbz => ?_
      show wpOps P A _ [] a' k1.w
      simp only [wpOps]
      have hle1 : Le k' k1 := hch.le fun c' hc' => by subst hc'; exact (hbx.grow hinv.grow).nshF _ rfl
      refine hC' k1 k1 ⟨⟨k', hinv.grow, hch⟩, hbz⟩ ⟨Grow.refl k1, hinv.size, hinv.defers, fun i oi d en hDi hoi hd hen => ?_, hinv.rest, hinv.closed, hinv.mem⟩
      have hv := hinv.vals i oi d en hDi hoi hd hen
      obtain ⟨Rr, nd⟩ := en
      obtain ⟨R', rfl, hR'⟩ := hP.at hen
      exact hR' _ _ _ hle1 hv
    rw [wpOps_cons] at hw
    have hw2 : wpOp P A (fun ex a w => match ex with | .normal => C' a w | _ => False) m C' a' k'.w := wpOp_mono (fun a2 w2 h2 => by simpa [wpOps] using h2) hw
    unfold wpOp at hw2 ⊢
    have hAo : A[m]? = some o := by rw [← nth_toList]; exact ho
    rw [hAo] at hw2 ⊢
    dsimp only at hw2 ⊢
    split at hw2
    · rename_i hwant
      rw [if_pos hwant]
      rcases hw2 with hw2 | hw2
      · left
        unfold Oper.wp at *
        generalize (execOp a'.eval o).run P k'.w = res at *
        cases res with
        | ok nx w' => cases nx <;> simp only [Oper.upon] at hw2 ⊢ <;> first | exact hw2 | (refine Calls.mono hw2 fun ee w2 he => ?_; cases ee <;> first | exact he | exact he.elim | (obtain ⟨_, _, hb'⟩ := he; exact hb'.elim)) | (exact Rows.mono hw2 fun _ _ he => he)
        | halt x w' => cases x <;> simp only [Oper.upon] at hw2 ⊢ <;> first | exact hw2 | exact hw2.elim
      · obtain ⟨_, _, _, hb'⟩ := hw2; exact hb'.elim
    · rename_i hwant
      rw [if_neg hwant]; exact hw2
  · intro kb ⟨⟨k1, g, c⟩, hb⟩ a' k' hinv
    exact next k1 kb a' k' g c (Post.of hinv) (hb.grow hinv.grow)
  · cases hx : (Array.replicate A.size false).getD m false with
    | false => rfl
    | true => exact (hF _ hx).elim
  · exact ⟨hgd, rfl, rfl, fun i o d e hi => (hF i hi).elim, fun _ _ => rfl, fun j o _ hj => (hF j hj).elim, fun i hi => (hF i hi).elim⟩
end
end Go.Gb

/- General part of the proofs: regions in which operations that only look may come behind the first store, into a box that the region makes. -/
namespace Go.Gb
section
variable {P : Program} {a0 : Act} {k0 : K} {es : List Ent}
theorem step_opG {A : Array Oper} {n m : Nat} {D : Nat → Prop} {a : Act} {k : K} {i : Nat} {o : Oper} {Q : Exit → Act → World → Prop} {C : Act → World → Prop}
    (hn : a0.tmps.size = n) (hchk : chkS n m A.toList es = true) (hst : Steps P es a0 k0 (A.toList.take m) es)
    (hinv : Inv A.toList es a0 k0 D a k) (hDm : ∀ j, D j → j < m) (hi : nth A.toList i = some o) (him : i < m) (hb : ∀ j ∈ binding o, D j) (hDi : ¬ D i)
    (hQ : LetsOut Q) (hC : ∀ a' k', (∀ t, o.dst ≠ some t → a'.get t = a.get t) → Inv A.toList es a0 k0 (fun j => D j ∨ j = i) a' k' → C a' k'.w) : wpOp P A Q i C a k.w := by
  simp only [chkS, Bool.and_eq_true, beq_iff_eq, decide_eq_true_eq] at hchk
  obtain ⟨⟨⟨⟨hlen, hml⟩, h2⟩, hedge⟩, hdist⟩ := hchk
  have entry : ∀ j o', nth A.toList j = some o' → j < m → ∃ e, nth es j = some e ∧ chkOp n A.toList (masks A.toList []) j o' e = true := by
    intro j o' ho' hj
    obtain ⟨e, he, hc⟩ := chk2_spec h2 j o' (nth_take ho' hj)
    exact ⟨e, he, by simpa using hc⟩
  obtain ⟨e, he, hc⟩ := entry i o hi him
  have hob := hst.at i o e (nth_take hi him) he
  simp only [chkOp, Bool.and_eq_true] at hc
  obtain ⟨⟨hdst, hgd⟩, hneed⟩ := hc
  obtain ⟨d, hd, hdn⟩ : ∃ d, o.dst = some d ∧ d < n := by
    cases hod : o.dst with
    | none => rw [hod] at hdst; simp at hdst
    | some d => rw [hod] at hdst; exact ⟨d, rfl, by simpa using hdst⟩
  have hsz : a.tmps.size = n := hinv.size.trans hn
  have hda : d < a.tmps.size := by rw [hsz]; exact hdn
  have hAi : A[i]? = some o := by rw [← nth_toList]; exact hi
  have fin : ∀ v k', Grow k k' → (match e.R with | some R => R v k' | none => v = undef) → C (a.put o.dst v) k'.w := by
    intro v k' hg hv
    rw [hd]
    refine hC _ _ (fun t ht => by rw [get_put _ _ _ _ hda]; exact if_neg (fun e => ht (by rw [hd, e]))) ⟨hinv.grow.trans hg, by rw [put_size]; exact hinv.size, by rw [put_defers']; exact hinv.defers, ?_, ?_, ?_, ?_⟩
    · intro j o' d' e' hj ho' hd' he'
      rw [get_put _ _ _ _ hda]
      by_cases hij : j = i
      · subst hij
        rw [hi, Option.some.injEq] at ho'; subst ho'
        rw [he, Option.some.injEq] at he'; subst he'
        rw [hd, Option.some.injEq] at hd'; subst hd'
        rw [if_pos rfl]; exact hv
      · have hDj := hj.resolve_right hij
        have hne : d ≠ d' := by
          have := allI_spec (allI_spec hdist i o hi) j o' ho'
          simp only [Nat.zero_add, Bool.or_eq_true, beq_iff_eq, bne_iff_ne, hd, hd'] at this
          rcases this with (h | h) | h
          · exact absurd h.symm hij
          · simp at h
          · exact fun e => h (by rw [e])
        rw [if_neg hne]
        have := hinv.vals j o' d' e' hDj ho' hd' he'
        cases hR : e'.R with
        | none => rw [hR] at this; exact this
        | some R =>
          rw [hR] at this
          have hob' := hst.at j o' e' (nth_take ho' (hDm j hDj)) he'
          unfold Ob at hob'; rw [hR] at hob'
          exact hob'.1.mono hg this
    · intro t ht
      rw [get_put _ _ _ _ hda]
      have hdt : d ≠ t := fun e => ht i o (.inr rfl) hi (by rw [hd, e])
      rw [if_neg hdt]
      exact hinv.rest t fun j o' hj => ht j o' (.inl hj)
    · intro j o' ho' hj x hx
      rcases hj with hj | rfl
      · exact .inl (hinv.closed j o' ho' hj x hx)
      · rw [hi, Option.some.injEq] at ho'; subst ho'; exact .inl (hb x hx)
    · intro j hj
      rcases hj with hj | rfl
      · exact hinv.mem j hj
      · exact nth_lt hi
  have gval : ∀ j w', o.guard = some (j, w') → ∃ oj ej dj, nth A.toList j = some oj ∧ nth es j = some ej ∧ oj.dst = some dj ∧ dj < n ∧
      (match ej.R with | some R => R (a.get dj) k | none => a.get dj = undef) := by
    intro j w' hg
    rw [hg] at hgd
    simp only [List.contains_iff_mem] at hgd
    have hDj := hb j hgd
    have hjl := hinv.mem j hDj
    obtain ⟨oj, hoj⟩ : ∃ oj, nth A.toList j = some oj := ⟨_, by rw [nth_eq]; exact List.getElem?_eq_getElem hjl⟩
    obtain ⟨ej, hej, hcj⟩ := entry j oj hoj (hDm j hDj)
    simp only [chkOp, Bool.and_eq_true] at hcj
    obtain ⟨dj, hdj, hdjn⟩ : ∃ d, oj.dst = some d ∧ d < n := by
      have := hcj.1.1
      cases hod : oj.dst with
      | none => rw [hod] at this; simp at this
      | some d => rw [hod] at this; exact ⟨d, rfl, by simpa using this⟩
    exact ⟨oj, ej, dj, hoj, hej, hdj, hdjn, hinv.vals j oj dj ej hDj hoj hdj hej⟩
  unfold wpOp
  rw [hAi]
  simp only []
  unfold Ob at hob
  cases hR : e.R with
  | some R =>
    rw [hR] at hob fin
    obtain ⟨hmono, hob⟩ := hob
    have hknown : Known es a0 a k e.need := by
      refine known_of _ ?_ ?_
      · intro t j htj R' nd hj
        have := List.all_eq_true.1 hneed _ htj
        simp only [Bool.and_eq_true, List.contains_iff_mem, beq_iff_eq] at this
        obtain ⟨hjb, hjd⟩ := this
        have hDj := hb j hjb
        cases hoj : nth A.toList j with
        | none => rw [hoj] at hjd; simp at hjd
        | some oj =>
          rw [hoj] at hjd
          exact hinv.vals j oj t _ hDj hoj hjd hj
      · intro t ht
        have := List.all_eq_true.1 hneed _ ht
        simp only at this
        refine hinv.rest t fun j oj hDj hoj hdj => ?_
        have hj := allI_spec this j oj hoj
        simp only [Nat.zero_add, Bool.or_eq_true, bne_iff_ne, beq_iff_eq] at hj
        rcases hj with (h | h) | h
        · exact h hdj
        · exact hDi (h ▸ hDj)
        · exact hDi (hasBit_spec hinv.closed (fun o' ho' => hinv.closed j o' ho' hDj) h)
    rcases hob with ⟨hdo, hguard⟩ | ⟨j, w', Rj, ndj, hg, hj', hrun, hskip⟩
    rotate_left
    · obtain ⟨oj, ej, dj, hoj, hej, hdj, hdjn, hv⟩ := gval j w' hg
      have hy := yielded_eq hoj hdj (show dj < a.tmps.size by rw [hsz]; exact hdjn)
      rw [hej, Option.some.injEq] at hj'
      subst hj'
      simp only at hv
      by_cases hvw : a.get dj = .bool w'
      · have hw : Region.wanted o (yielded A a.tmps) = true := by
          unfold Region.wanted
          rw [hg]
          simp only [hy, hvw]
          simp
        rw [if_pos hw]
        exact .inl (hrun a k _ hinv.grow hknown hv hvw C Q hQ fun v k' hg' hv' => fin v k' hg' hv')
      · have hw : Region.wanted o (yielded A a.tmps) = false := by
          unfold Region.wanted
          rw [hg]
          simp only [hy]
          cases hvv : a.get dj with
          | bool c =>
            rw [hvv] at hvw
            simp only [Value.bool.injEq] at hvw
            cases c <;> cases w' <;> simp_all
          | _ => simp
        rw [hw]
        simp only [Bool.false_eq_true, if_false]
        exact fin undef k (Grow.refl k) (hskip k _ hinv.grow hv hvw)
    have hw : Region.wanted o (yielded A a.tmps) = true := by
      unfold Region.wanted
      cases hg : o.guard with
      | none => rfl
      | some jw =>
        obtain ⟨j, w'⟩ := jw
        obtain ⟨oj, ej, dj, hoj, hej, hdj, hdjn, hv⟩ := gval j w' hg
        unfold GuardIs at hguard
        rw [hg] at hguard
        simp only [hej] at hguard
        have hy := yielded_eq hoj hdj (show dj < a.tmps.size by rw [hsz]; exact hdjn)
        simp only [hy]
        obtain ⟨Rj, nj⟩ := ej
        cases Rj with
        | none => simp at hguard
        | some Rj => simp only [hguard _ _ hv]; simp
    rw [if_pos hw]
    exact .inl (hdo a k hinv.grow hknown C Q hQ fun v k' hg hv => fin v k' hg hv)
  | none =>
    rw [hR] at hob fin
    have hw : Region.wanted o (yielded A a.tmps) = false := by
      unfold Region.wanted
      unfold GuardIs at hob
      cases hg : o.guard with
      | none => rw [hg] at hob; simp at hob
      | some jw =>
        obtain ⟨j, w'⟩ := jw
        obtain ⟨oj, ej, dj, hoj, hej, hdj, hdjn, hv⟩ := gval j w' hg
        rw [hg] at hob
        simp only [hej] at hob
        have hy := yielded_eq hoj hdj (show dj < a.tmps.size by rw [hsz]; exact hdjn)
        simp only [hy]
        obtain ⟨Rj, nj⟩ := ej
        cases Rj with
        | none => simp only at hv; simp only [hv]; simp [undef]
        | some Rj => simp only [hob _ _ hv]; cases w' <;> simp
    rw [hw]
    simp only [Bool.false_eq_true, if_false]
    exact fin undef k (Grow.refl k) rfl

end
section
variable {P : Program} {a : Act} {k : K} {α : Type} [Enc α]
/-- A new box, whatever is in it. -/
def IsBoxS (α : Type) [Enc α] (B : Nat) : Pred := fun v k => ∃ x : α, IsBox B x v k
instance (B : Nat) : Mono (IsBoxS α B) := ⟨fun g ⟨x, h⟩ => ⟨x, Mono.mono g h⟩⟩
def PersN (ja : Nat) : Nat → List Ent → Prop
  | _, [] => True
  | i, ⟨some R, _⟩ :: l => (i = ja ∨ ∀ v k k', Le k k' → R v k → R v k') ∧ PersN ja (i + 1) l
  | _, ⟨none, _⟩ :: _ => False
theorem PersN.at {ja : Nat} : ∀ {es : List Ent} {n i : Nat} {R : Option Pred} {nd : List (Nat × Option Nat)}, PersN ja n es → nth es i = some ⟨R, nd⟩ → n + i ≠ ja → ∃ R', R = some R' ∧ ∀ v k k', Le k k' → R' v k → R' v k'
  | ⟨some R, _⟩ :: _, n, 0, _, _, h, e, hne => by
    have e := Option.some.inj e
    injection e with e1 _
    exact ⟨R, e1.symm, h.1.resolve_left hne⟩
  | ⟨some _, _⟩ :: l, n, i + 1, _, _, h, e, hne => PersN.at (es := l) (n := n + 1) (i := i) h.2 e (by omega)
  | ⟨none, _⟩ :: _, _, _, _, _, h, _, _ => h.elim

end
end Go.Gb

/- General part of the proofs: regions in which operations that only look may come behind the first store, into a box that the region makes; moves and extracts may also come behind what follows it. -/
namespace Go.Gb
section
variable {P : Program} {a0 : Act} {k0 : K} {es : List Ent}
/-- Operations in front of number m that look at no world. -/
def lateOk (m : Nat) (late : List Nat) (A : Array Oper) : Bool :=
  Region.noSelect A && late.all fun l => isPure A l && Nat.blt l m && (match A[l]? with
    | some o => (binding o).all (fun e => hasBit (masks A.toList []) m e || late.contains e) &&
      allI (fun j oj => Nat.beq j l || hasBit (masks A.toList []) l j || (binding oj).contains l || o.apart A oj) 0 A.toList
    | none => false)
def chkC (m : Nat) (late : List Nat) (ops : List Oper) : Bool := allI (fun j _ => Nat.ble j m || (List.range j).all fun i => hasBit (masks ops []) j i || late.contains i) 0 ops
theorem chkC_spec {m : Nat} {late : List Nat} {ops : List Oper} (h : chkC m late ops = true) : ∀ j o, nth ops j = some o → m < j → ∀ i, i < j → hasBit (masks ops []) j i = true ∨ i ∈ late := by
  intro j o ho hmj i hij
  have hc := allI_spec h j o ho
  simp only [Nat.zero_add, Bool.or_eq_true, Nat.ble_eq] at hc
  have hc := hc.resolve_left (by omega)
  have := List.all_eq_true.1 hc i (by simp; omega)
  simpa using this
theorem lateOk_spec {m : Nat} {late : List Nat} {A : Array Oper} (h : lateOk m late A = true) : Region.noSelect A = true ∧ ∀ l ∈ late, ∃ o, A[l]? = some o ∧
    (∀ a : Act, (∃ v, ∀ w, (execOp a.eval o).run P w = .ok (.value v) w) ∨ (∀ w, ∃ x w', (execOp a.eval o).run P w = .halt x w' ∧ ∀ c, x ≠ .panic c)) ∧ o.guard = none ∧ l < m ∧
    (∀ e ∈ binding o, hasBit (masks A.toList []) m e = true ∨ e ∈ late) ∧
    ∀ j oj, nth A.toList j = some oj → j = l ∨ hasBit (masks A.toList []) l j = true ∨ l ∈ binding oj ∨ o.apart A oj = true := by
  unfold lateOk at h
  simp only [Bool.and_eq_true] at h
  refine ⟨h.1, fun l hl => ?_⟩
  have h1 := List.all_eq_true.1 h.2 l hl
  simp only [Bool.and_eq_true, Nat.blt_eq] at h1
  obtain ⟨⟨h2, h3⟩, h4⟩ := h1
  obtain ⟨o, hA, hg, hp⟩ := isPure_spec (P := P) h2
  rw [hA] at h4
  simp only [Bool.and_eq_true] at h4
  refine ⟨o, hA, hp, hg, h3, fun e he => ?_, fun j oj hj => ?_⟩
  · have := List.all_eq_true.1 h4.1 e he
    simpa using this
  · have := allI_spec h4.2 j oj hj
    simp only [Nat.zero_add, Bool.or_eq_true, List.contains_iff_mem] at this
    rcases this with ((h5 | h5) | h5) | h5
    · exact .inl (Nat.eq_of_beq_eq_true h5)
    · exact .inr (.inl h5)
    · exact .inr (.inr (.inl h5))
    · exact .inr (.inr (.inr h5))
theorem tail_anyC {A : Array Oper} {m : Nat} {Q : Exit → Act → World → Prop} (hedge : allI (fun i o => (binding o).all (· < i)) 0 A.toList = true) (htail : ∀ j o, nth A.toList j = some o → ∀ i, m < i → i < j → hasBit (masks A.toList []) j i = true) :
    ∀ (fuel i : Nat) (listed : Array Bool) (a : Act) (w : World), m + 1 ≤ i → i + fuel = A.size → listed.size = A.size → (∀ j, listed.getD j false = true ↔ j < i) →
      wpOps P A Q (List.range' i fuel) a w → wpAny P .any A Q fuel listed a w := by
  have hready : ∀ (i : Nat) (listed : Array Bool), m + 1 ≤ i → listed.size = A.size → (∀ j, listed.getD j false = true ↔ j < i) → ∀ j, j ∈ Region.ready .any A listed ↔ (j = i ∧ i < A.size) := by
    intro i listed hmi hls hD j
    simp only [Region.ready, List.mem_filter, List.mem_range, Bool.and_eq_true, Bool.not_eq_true']
    have hT : ∀ j, j < A.size → listed.getD j true = listed.getD j false := by
      intro j hj; simp [Array.getD_eq_getD_getElem?, Array.getElem?_eq_getElem (show j < listed.size by omega)]
    constructor
    · rintro ⟨hjA, hj1, hj2⟩
      rw [hT j hjA] at hj1
      have hji : ¬ j < i := fun h => by rw [(hD j).2 h] at hj1; simp at hj1
      rcases Nat.lt_or_ge i j with hlt | hge
      · exfalso
        have ho : nth A.toList j = some A[j] := by rw [nth_toList]; simp [hjA]
        have hbit := htail j _ ho i (by omega) hlt
        have hdown : ∀ x o', nth A.toList x = some o' → x < i → ∀ e ∈ binding o', e < i := by
          intro x o' hx hxi e he
          have := allI_spec hedge x o' hx
          simp only [Nat.zero_add, List.all_eq_true, decide_eq_true_eq] at this
          have := this e he
          omega
        have := hasBit_spec (L := A.toList) (D := (· < i)) hdown (j := j) (i := i) ?_ hbit
        · omega
        · intro o' ho' e he
          rw [ho, Option.some.injEq] at ho'
          subst ho'
          have hA : A[j]? = some A[j] := by simp [hjA]
          rw [hA] at hj2
          simp only [Option.map_some, Option.getD_some, Array.all_eq_true_iff_forall_mem] at hj2
          simp only [binding, List.mem_map, List.mem_filter, Array.mem_toList_iff] at he
          obtain ⟨y, ⟨hy, hyb⟩, rfl⟩ := he
          have := hj2 y hy
          simp only [hyb, Bool.not_true, Bool.false_or] at this
          exact (hD _).1 this
      · exact ⟨by omega, by omega⟩
    · rintro ⟨rfl, hlt⟩
      refine ⟨hlt, ?_, ?_⟩
      · rw [hT j hlt]
        cases hb : listed.getD j false with
        | false => rfl
        | true => have := (hD j).1 hb; omega
      · have hA : A[j]? = some A[j] := by simp [hlt]
        rw [hA]
        simp only [Option.map_some, Option.getD_some, Array.all_eq_true_iff_forall_mem]
        intro y hy
        cases hyb : Region.binds .any y with
        | false => rfl
        | true =>
          simp only [Bool.not_true, Bool.false_or]
          have ho : nth A.toList j = some A[j] := by rw [nth_toList]; simp [hlt]
          have := allI_spec hedge j _ ho
          simp only [Nat.zero_add, List.all_eq_true, decide_eq_true_eq] at this
          exact (hD _).2 (this y.on (by simp only [binding, List.mem_map, List.mem_filter, Array.mem_toList_iff]; exact ⟨y, ⟨hy, hyb⟩, rfl⟩))
  intro fuel
  induction fuel with
  | zero =>
    intro i listed a w hmi hi hls hD h
    refine ⟨?_, by simpa [wpOps] using h⟩
    refine List.eq_nil_iff_forall_not_mem.2 fun j hj => ?_
    have := (hready i listed hmi hls hD j).1 hj
    omega
  | succ fuel ih =>
    intro i listed a w hmi hi hls hD h
    refine ⟨fun hnil => ?_, fun j hj => ?_⟩
    · have := (hready i listed hmi hls hD i).2 ⟨rfl, by omega⟩
      rw [hnil] at this; simp at this
    · obtain ⟨rfl, hlt⟩ := (hready i listed hmi hls hD j).1 hj
      rw [List.range'_succ, wpOps_cons] at h
      refine wpOp_mono (fun a' w' h' => ih (j + 1) _ a' w' (by omega) (by omega) (by simp [hls]) (fun x => ?_) h') h
      by_cases hx : x = j
      · subst hx; simp [Array.getD_eq_getD_getElem?, hls, hlt]
      · rw [getD_set_ne _ (fun e => hx e.symm), hD]; omega

theorem any_stP {A : Array Oper} {n m : Nat} {Q : Exit → Act → World → Prop} {B : K → Value → Prop} {pt ja : Nat} {late : List Nat} (hpt : ∀ i o, i ≠ ja → nth A.toList i = some o → o.dst ≠ some pt) (hjb : hasBit (masks A.toList []) m ja = true) (hn : a0.tmps.size = n) (hS : chkS n m A.toList es = true) (hmA : m < A.size) (htail : chkC m late A.toList = true) (hlate : lateOk m late A = true) (hQp : ∀ c a w, ¬ Q (.panic c) a w)
    (hst : Steps P es a0 k0 (A.toList.take m) es) (hB : ∀ kb u, B kb u → Steps P es a0 kb (A.toList.take m) es) (hQ : LetsOut Q)
    (hT : ∀ a k (D : Nat → Prop), (∀ j, D j → j < m) → Inv A.toList es a0 k0 D a k → (∀ o, nth A.toList m = some o → ∀ e ∈ binding o, D e) →
      ∀ C : Act → World → Prop, (∀ kb k1, B kb (a.get pt) → Inv A.toList es a0 kb D a k1 → C a k1.w) → wpOp P A Q m C a k.w)
    (hpost : ∀ kb a k, B kb (a.get pt) → Inv A.toList es a0 kb (· < m) a k → wpOps P A Q (List.range' (m + 1) (A.size - (m + 1))) a k.w) :
    ∀ (fuel : Nat) (listed : Array Bool) (a : Act) (k : K), listed.size = A.size → fuel = (listed.toList.filter (· = false)).length →
      (∀ j, listed.getD j false = true → j ≤ m) →
      ((listed.getD m false = false ∧ Inv A.toList es a0 k0 (fun j => listed.getD j false = true) a k) ∨
       (listed.getD m false = true ∧ (∀ o, nth A.toList m = some o → ∀ e ∈ binding o, listed.getD e false = true) ∧ ∃ kb, B kb (a.get pt) ∧ Inv A.toList es a0 kb (fun j => listed.getD j false = true ∧ j < m) a k ∧ ∀ l ∈ late, listed.getD l false = true)) →
      wpAny P .any A Q fuel listed a k.w := by
  have hS' := hS
  simp only [chkS, Bool.and_eq_true, beq_iff_eq, decide_eq_true_eq] at hS'
  obtain ⟨⟨⟨⟨hlen, hml⟩, h2⟩, hedge⟩, hdist⟩ := hS'
  obtain ⟨hnos, hlsp⟩ := lateOk_spec hlate
  have htail2 : ∀ j o, nth A.toList j = some o → ∀ i, m < i → i < j → hasBit (masks A.toList []) j i = true := fun j o ho i hmi hij => by
    rcases chkC_spec htail j o ho (by omega) i hij with h | h
    · exact h
    · obtain ⟨_, _, _, _, h1, _⟩ := hlsp i h
      omega
  intro fuel
  induction fuel with
  | zero =>
    intro listed a k hls hf hDm hinv
    have hall : ∀ j, j < A.size → listed.getD j false = true := by
      intro j hj
      have hz := List.eq_nil_of_length_eq_zero hf.symm
      have : listed[j]'(by omega) ∉ listed.toList.filter (· = false) := by rw [hz]; simp
      simp only [List.mem_filter, Array.mem_toList_iff, Array.getElem_mem, true_and, decide_eq_true_eq, Bool.not_eq_false] at this
      simp [Array.getD_eq_getD_getElem?, Array.getElem?_eq_getElem (show j < listed.size by omega), this]
    have hm : A.size = m + 1 := by
      rcases Nat.lt_or_ge (m + 1) A.size with h | h
      · have := hDm (m + 1) (hall _ h); omega
      · omega
    rcases hinv with ⟨h, _⟩ | ⟨_, _, kb, hb, hinv, _⟩
    · rw [hall m hmA] at h; simp at h
    · have he : (fun j => listed.getD j false = true ∧ j < m) = (· < m) := funext fun j => propext ⟨fun h => h.2, fun h => ⟨hall j (by omega), h⟩⟩
      rw [he] at hinv
      refine tail_anyC (m := m) hedge htail2 0 (m + 1) listed a k.w (Nat.le_refl _) (by omega) hls (fun j => ⟨fun h => by have := hDm j h; omega, fun h => hall j (by omega)⟩) ?_
      have := hpost kb a k hb hinv
      rwa [show A.size - (m + 1) = 0 by omega] at this
  | succ fuel ih =>
    intro listed a k hls hf hDm hinv
    have hT2 : ∀ j, j < A.size → listed.getD j true = listed.getD j false := by
      intro j hj; simp [Array.getD_eq_getD_getElem?, Array.getElem?_eq_getElem (show j < listed.size by omega)]
    have hbind : ∀ j, j < A.size → ((A[j]?).map (·.after.all fun e => !Region.binds .any e || listed.getD e.on false)).getD false = true →
        ∀ o, nth A.toList j = some o → ∀ e ∈ binding o, listed.getD e false = true := by
      intro j hjA hj2 o ho e he
      have hA : A[j]? = some o := by rw [← nth_toList]; exact ho
      rw [hA] at hj2
      simp only [Option.map_some, Option.getD_some, Array.all_eq_true_iff_forall_mem] at hj2
      simp only [binding, List.mem_map, List.mem_filter, Array.mem_toList_iff] at he
      obtain ⟨y, ⟨hy, hyb⟩, rfl⟩ := he
      have := hj2 y hy
      simpa only [hyb, Bool.not_true, Bool.false_or] using this
    by_cases hfull : ∀ j, j < m + 1 → listed.getD j false = true
    · rcases hinv with ⟨h, _⟩ | ⟨_, _, kb, hb, hinv, _⟩
      · rw [hfull m (by omega)] at h; simp at h
      · have hD : ∀ j, listed.getD j false = true ↔ j < m + 1 := fun j => ⟨fun h => by have := hDm j h; omega, hfull j⟩
        have he : (fun j => listed.getD j false = true ∧ j < m) = (· < m) := funext fun j => propext ⟨fun h => h.2, fun h => ⟨hfull j (by omega), h⟩⟩
        rw [he] at hinv
        have hcount := full_count hmA hls hD
        rw [← hf] at hcount
        refine tail_anyC (m := m) hedge htail2 (fuel + 1) (m + 1) listed a k.w (Nat.le_refl _) (by omega) hls hD ?_
        rw [hcount]; exact hpost kb a k hb hinv
    · have hex : ∃ j, j < m + 1 ∧ listed.getD j false = false ∧ ∀ i, i < j → listed.getD i false = true := by
        obtain ⟨j, hj⟩ := Classical.not_forall.1 hfull
        have hj : j < m + 1 ∧ listed.getD j false = false := by
          by_cases h : j < m + 1
          · exact ⟨h, by cases hb : listed.getD j false with | false => rfl | true => exact absurd (fun _ => hb) hj⟩
          · exact absurd (fun h' => absurd h' h) hj
        clear hfull
        induction j using Nat.strongRecOn with
        | _ j ihj =>
          by_cases hall : ∀ i, i < j → listed.getD i false = true
          · exact ⟨j, hj.1, hj.2, hall⟩
          · obtain ⟨i, hi⟩ := Classical.not_forall.1 hall
            obtain ⟨hij, hib⟩ : i < j ∧ ¬ listed.getD i false = true := ⟨Classical.byContradiction fun h => hi fun h' => absurd h' h, fun h => hi fun _ => h⟩
            exact ihj i hij (fun h => absurd (h (by omega)) hib) ⟨by omega, by simpa using hib⟩
      have hclosed : ∀ x o', nth A.toList x = some o' → listed.getD x false = true → ∀ e ∈ binding o', listed.getD e false = true := by
        intro x o' ho' hx e he
        rcases hinv with ⟨_, hinv⟩ | ⟨_, hmc, kb, _, hinv, _⟩
        · exact hinv.closed x o' ho' hx e he
        · by_cases hxm : x = m
          · subst hxm; exact hmc o' ho' e he
          · exact (hinv.closed x o' ho' ⟨hx, by have := hDm x hx; omega⟩ e he).1
      by_cases hpl : ∃ l ∈ late, listed.getD l false = false ∧ l ∈ Region.ready .any A listed
      · obtain ⟨l, hl, hll, hlr⟩ := hpl
        rcases hinv with ⟨hm0, hinv⟩ | ⟨_, _, _, _, _, hall⟩
        rotate_left
        · rw [hall l hl] at hll; simp at hll
        obtain ⟨o, hA, hp, hgd, hlm, hbnd, hap⟩ := hlsp l hl
        have ho : nth A.toList l = some o := by rw [nth_toList]; exact hA
        have hlA : l < A.size := by omega
        have hDlt : ∀ j, listed.getD j false = true → j < m := fun j hj => by
          have h1 := hDm j hj
          rcases Nat.lt_or_ge j m with h | h
          · exact h
          · obtain rfl : j = m := by omega
            rw [hj] at hm0; simp at hm0
        have hb : ∀ e ∈ binding o, listed.getD e false = true := by
          have hlr' := hlr
          simp only [Region.ready, List.mem_filter, List.mem_range, Bool.and_eq_true] at hlr'
          exact hbind l hlA hlr'.2.2 o ho
        have hs1 := step_opG (Q := fun _ _ _ => False) (C := fun a' w' => ∃ k', w' = k'.w ∧ Inv A.toList es a0 k0 (fun j => listed.getD j false = true ∨ j = l) a' k') hn hS hst hinv hDlt ho hlm hb (by simp [hll]) trivial fun a' k' _ hinv' => ⟨k', rfl, hinv'⟩
        have hw : ∀ a : Act, Region.wanted o (yielded A a.tmps) = true := fun a => by unfold Region.wanted; rw [hgd]
        unfold wpOp at hs1
        rw [hA] at hs1
        simp only [hw, if_true] at hs1
        have hs1 := hs1.resolve_right fun hx => by obtain ⟨_, b, w', hb⟩ := hx; exact hb
        unfold Oper.wp at hs1
        obtain ⟨v, hv⟩ : ∃ v, ∀ w, (execOp a.eval o).run P w = .ok (.value v) w := by
          rcases hp a with h | hx
          · exact h
          · obtain ⟨x, w', hr', hnp⟩ := hx k.w
            rw [hr'] at hs1
            cases x <;> simp only [Oper.upon] at hs1
        rw [hv k.w] at hs1
        obtain ⟨k', hkw, hinv'⟩ := hs1
        refine wpAny_first hA (Region.noSelect_spec hnos) (fun c a w hq => absurd hq (hQp c _ w)) fuel listed a k.w (fun j oj hj hji hjl hjn => ?_) hlr (.inl ⟨hw a, hv⟩) ?_
        · have hjA : j < A.size := (Array.getElem?_eq_some_iff.1 hj).1
          rw [hT2 j hjA] at hjl
          rcases hap j oj (by rw [nth_toList]; exact hj) with h | h | h | h
          · exact absurd h hji
          · have := hasBit_spec (L := A.toList) (D := fun x => listed.getD x false = true) hclosed (j := l) (i := j) (fun o' ho' => by
              rw [ho, Option.some.injEq] at ho'; subst ho'; exact hb) h
            rw [this] at hjl; simp at hjl
          · simp only [binding, List.mem_map, List.mem_filter, Array.mem_toList_iff] at h
            obtain ⟨y, ⟨hy, hyb⟩, rfl⟩ := h
            exact absurd rfl (hjn y hy hyb)
          · exact h
        · rw [hkw]
          have hil : l < listed.size := by omega
          have hcnt := count_set hil hll
          rw [← hf] at hcnt
          refine ih _ _ k' (by simp [hls]) (by omega) (fun j hj => by
            by_cases hji : j = l
            · omega
            · rw [getD_set_ne _ (fun e => hji e.symm)] at hj; exact hDm j hj) (.inl ⟨by rw [getD_set_ne _ (by omega)]; exact hm0, ?_⟩)
          have he : (fun j => (listed.setIfInBounds l true).getD j false = true) = (fun j => listed.getD j false = true ∨ j = l) := by
            funext j
            by_cases hji : j = l
            · subst hji; simp [Array.getD_eq_getD_getElem?, hil]
            · rw [getD_set_ne _ (fun e => hji e.symm)]; simp [hji]
          rw [he]; exact hinv'
      refine ⟨fun hnil => ?_, fun i hi => ?_⟩
      · exfalso
        obtain ⟨j, hjm, hjb, hlow⟩ := hex
        have hjr : j ∈ Region.ready .any A listed := by
          simp only [Region.ready, List.mem_filter, List.mem_range, Bool.and_eq_true, Bool.not_eq_true']
          refine ⟨by omega, by rw [hT2 j (by omega)]; exact hjb, ?_⟩
          have hA : A[j]? = some A[j] := by simp [show j < A.size by omega]
          rw [hA]
          simp only [Option.map_some, Option.getD_some, Array.all_eq_true_iff_forall_mem]
          intro y hy
          cases hyb : Region.binds .any y with
          | false => rfl
          | true =>
            simp only [Bool.not_true, Bool.false_or]
            have ho : nth A.toList j = some A[j] := by rw [nth_toList]; exact hA
            have := allI_spec hedge j _ ho
            simp only [Nat.zero_add, List.all_eq_true, decide_eq_true_eq] at this
            exact hlow _ (this y.on (by simp only [binding, List.mem_map, List.mem_filter, Array.mem_toList_iff]; exact ⟨y, ⟨hy, hyb⟩, rfl⟩))
        rw [hnil] at hjr; simp at hjr
      · simp only [Region.ready, List.mem_filter, List.mem_range, Bool.and_eq_true, Bool.not_eq_true'] at hi
        obtain ⟨hiA, hi1, hi2⟩ := hi
        rw [hT2 i hiA] at hi1
        have ho : nth A.toList i = some A[i] := by rw [nth_toList]; simp [hiA]
        have hb := hbind i hiA hi2 _ ho
        have hbm : ∀ e ∈ binding A[i], e < i := by
          have := allI_spec hedge i _ ho
          simp only [Nat.zero_add, List.all_eq_true, decide_eq_true_eq] at this
          exact this
        have him : i ≤ m := by
          rcases Nat.lt_or_ge m i with h | h
          · exfalso
            have hc := chkC_spec htail i _ ho h
            obtain ⟨j, hjm, hjb, hlow⟩ := hex
            have hml : listed.getD m false = true := by
              rcases hc m h with hbit | hbit
              · exact hasBit_spec (L := A.toList) (D := fun x => listed.getD x false = true) hclosed (j := i) (i := m) (fun o' ho' => hbind i hiA hi2 o' ho') hbit
              · obtain ⟨_, _, _, _, h1, _⟩ := hlsp m hbit
                omega
            have hall : ∀ l ∈ late, listed.getD l false = true := by
              rcases hinv with ⟨h0, _⟩ | ⟨_, _, _, _, _, h0⟩
              · rw [h0] at hml; simp at hml
              · exact h0
            rcases hc j (by omega) with hbit | hbit
            · have := hasBit_spec (L := A.toList) (D := fun x => listed.getD x false = true) hclosed (j := i) (i := j)
                (fun o' ho' => hbind i hiA hi2 o' ho') hbit
              rw [this] at hjb; simp at hjb
            · rw [hall j hbit] at hjb; simp at hjb
          · exact h
        have hil : i < listed.size := by omega
        have hcnt := count_set hil hi1
        rw [← hf] at hcnt
        have hDm' : ∀ j, (listed.setIfInBounds i true).getD j false = true → j ≤ m := fun j hj => by
          by_cases hji : j = i
          · omega
          · rw [getD_set_ne _ (fun e => hji e.symm)] at hj; exact hDm j hj
        have hset : ∀ j, (listed.setIfInBounds i true).getD j false = true ↔ (listed.getD j false = true ∨ j = i) := by
          intro j
          by_cases hji : j = i
          · subst hji; simp [Array.getD_eq_getD_getElem?, show j < listed.size by omega]
          · rw [getD_set_ne _ (fun e => hji e.symm)]; simp [hji]
        by_cases hie : i = m
        · -- the store
          subst hie
          rcases hinv with ⟨_, hinv⟩ | ⟨h, _⟩
          · have hDlt : ∀ j, listed.getD j false = true → j < i := fun j hj => by
              have h1 := hDm j hj
              rcases Nat.lt_or_ge j i with h | h
              · exact h
              · obtain rfl : j = i := by omega
                rw [hj] at hi1; simp at hi1
            have hall : ∀ l, l ∈ late → listed.getD l false = true := by
              intro l
              induction l using Nat.strongRecOn with
              | _ l ihl =>
                intro hl
                cases hb' : listed.getD l false with
                | true => rfl
                | false =>
                  exfalso
                  obtain ⟨ol, hAl, _, _, hlm, hbnd, _⟩ := hlsp l hl
                  refine hpl ⟨l, hl, hb', mem_ready.2 ⟨by rw [hT2 l (by omega)]; exact hb', ol, hAl, fun e he hbe => ?_⟩⟩
                  have hmem : e.on ∈ binding ol := by simp only [binding, List.mem_map, List.mem_filter, Array.mem_toList_iff]; exact ⟨e, ⟨he, hbe⟩, rfl⟩
                  have hlt := allI_spec hedge l ol (by rw [nth_toList]; exact hAl)
                  simp only [Nat.zero_add, List.all_eq_true, decide_eq_true_eq] at hlt
                  rcases hbnd _ hmem with h | h
                  · exact hasBit_spec (L := A.toList) (D := fun x => listed.getD x false = true) hclosed (j := i) (i := e.on) (fun o' ho' => hbind i hiA hi2 o' ho') h
                  · exact ihl _ (hlt _ hmem) h
            refine hT a k (fun j => listed.getD j false = true) hDlt hinv (fun o' ho' => by
              rw [ho, Option.some.injEq] at ho'; subst ho'; exact hb) _ fun kb k1 h1 h3 => ?_
            refine (ih _ a k1 (by simp [hls]) (by omega) hDm' (.inr ⟨(hset i).2 (.inr rfl), fun o' ho' e he => ?_, kb, h1, ?_, fun l hl => (hset l).2 (.inl (hall l hl))⟩))
            · rw [ho, Option.some.injEq] at ho'; subst ho'
              exact (hset e).2 (.inl (hb e he))
            · have he : (fun j => (listed.setIfInBounds i true).getD j false = true ∧ j < i) = (fun j => listed.getD j false = true) := by
                funext j
                refine propext ⟨fun h => ?_, fun h => ⟨(hset j).2 (.inl h), hDlt j h⟩⟩
                rcases (hset j).1 h.1 with h5 | h5
                · exact h5
                · have := h.2; omega
              rw [he]; exact h3
          · rw [h] at hi1; simp at hi1
        · have hilt : i < m := by omega
          rcases hinv with ⟨hm0, hinv⟩ | ⟨hm1, hmc, kb, hbB, hinv, hall⟩
          · have hDlt : ∀ j, listed.getD j false = true → j < m := fun j hj => by
              have h1 := hDm j hj
              rcases Nat.lt_or_ge j m with h | h
              · exact h
              · obtain rfl : j = m := by omega
                rw [hj] at hm0; simp at hm0
            refine step_opG hn hS hst hinv hDlt ho hilt hb (by simp [hi1]) hQ fun a' k' _ hinv' => ?_
            refine ih _ a' k' (by simp [hls]) (by omega) hDm' (.inl ⟨by rw [getD_set_ne _ hie]; exact hm0, ?_⟩)
            have he : (fun j => (listed.setIfInBounds i true).getD j false = true) = (fun j => listed.getD j false = true ∨ j = i) := funext fun j => propext (hset j)
            rw [he]; exact hinv'
          · have hjl := hasBit_spec (L := A.toList) (D := fun x => listed.getD x false = true) hclosed (j := m) (i := ja) hmc hjb
            have hne : i ≠ ja := fun e => by subst e; rw [hjl] at hi1; simp at hi1
            refine step_opG hn hS (hB kb _ hbB) hinv (fun j h => h.2) ho hilt (fun e he => ⟨hb e he, by have := hbm e he; omega⟩) (fun h => by rw [h.1] at hi1; simp at hi1) hQ fun a' k' hsame hinv' => ?_
            refine ih _ a' k' (by simp [hls]) (by omega) hDm' (.inr ⟨by rw [getD_set_ne _ hie]; exact hm1, fun o' ho' e he => (hset e).2 (.inl (hmc o' ho' e he)), kb, (by rw [hsame pt (hpt i _ hne ho)]; exact hbB), ?_, fun l hl => (hset l).2 (.inl (hall l hl))⟩)
            have he : (fun j => (listed.setIfInBounds i true).getD j false = true ∧ j < m) = (fun j => (listed.getD j false = true ∧ j < m) ∨ j = i) := by
              funext j
              rw [hset j]
              refine propext ⟨fun h => ?_, fun h => ?_⟩
              · rcases h.1 with h5 | h5
                · exact .inl ⟨h5, h.2⟩
                · exact .inr h5
              · rcases h with h | h
                · exact ⟨.inl h.1, h.2⟩
                · exact ⟨.inr h, by omega⟩
            rw [he]; exact hinv'
end
end Go.Gb

/- General part of the proofs: slices that are made with their zero elements. -/
namespace Go.Gb
section
variable {P : Program} {o : Oper} {a : Act} {k : K} {α : Type} [Enc α]
/-- as many zeros -/
def makeI {γ : Type} (n : Int) (z : γ) : Option (List γ) := if 0 ≤ n ∧ n ≤ 1073741824 then some (List.replicate n.toNat z) else none
theorem madeCells_succ {z : Array Value} {s : Nat} (hz : z.size = s) (h0 : 0 < s) (n : Nat) : (madeCells z ((n + 1) * s)).toList = (madeCells z (n * s)).toList ++ z.toList := by
  apply List.ext_getElem?
  intro j
  have e : (n + 1) * s = n * s + s := Nat.succ_mul n s
  rcases Nat.lt_or_ge j (n * s) with hj | hj
  · rw [List.getElem?_append_left (by simpa [madeCells] using hj)]
    simp [madeCells, hj, show j < (n + 1) * s by omega]
  · rw [List.getElem?_append_right (by simpa [madeCells] using hj)]
    rcases Nat.lt_or_ge j ((n + 1) * s) with hj2 | hj2
    · have hm : j % z.size = j - n * s := by
        rw [hz, ← Nat.mod_eq_of_lt (show j - n * s < s by omega)]
        conv => lhs; rw [show j = (j - n * s) + n * s by omega]
        rw [Nat.add_mul_mod_self_right]
      have hl : j - n * s < z.size := by omega
      have hlen : (madeCells z (n * s)).toList.length = n * s := by simp [madeCells]
      simp only [hlen]
      simp [madeCells, hj2, hm, hl]
    · simp [madeCells, hj2]
      omega
theorem repL_made {z : Array Value} {x : α} (hz : z.size = Enc.sz α) (h0 : 0 < Enc.sz α) (h : Enc.rep k z.toList x) : ∀ n, RepL k (madeCells z (n * Enc.sz α)).toList (List.replicate n x)
  | 0 => by simp [madeCells, RepL]
  | n + 1 => by
    rw [madeCells_succ hz h0, List.replicate_succ']
    exact RepL.append (repL_made hz h0 h n) (by simpa using RepL.cons h (show RepL k [] ([] : List α) from rfl))
theorem ok_makeSliceO {t e : TypeId} {B : Nat} {lx cx : Operand} {n : Int} {x : α} {r : List α} {i : TypeInfo} {z : Value} (ho : o.op = .makeSlice t lx cx) (hu : P.underlying t = some (.slice e)) (he : ElemOk P e α)
    (hi : P.info? e = some i) (hiz : i.zero = some z) (hx : Enc.rep k z.cells.toList x)
    (hB : B ≤ k.w.heap.size) (hl : a.eval lx = .int .i64 n) (hc : a.eval cx = .int .i64 n) (h : makeI n x = some r) : Does P o a k (IsOwn B e r) := by
  obtain ⟨i', z', hi', hiz', hsz, hzs, hpos, hby⟩ := he
  rw [hi, Option.some.injEq] at hi'
  subst hi'
  rw [hiz, Option.some.injEq] at hiz'
  subst hiz'
  unfold makeI at h
  split at h
  · rename_i hn
    obtain rfl := Option.some.inj h
    obtain ⟨m, rfl⟩ : ∃ m : Nat, n = (m : Int) := ⟨n.toNat, by omega⟩
    have hm : m ≤ 1073741824 := by omega
    have hmax : (maxLen : Nat) = 9223372036854775807 := rfl
    have hb' : (i.bytes : Int) * (m : Int) ≤ 281474976710656 := by
      have h1 : i.bytes * m ≤ 65536 * 1073741824 := Nat.mul_le_mul hby hm
      have h2 : ((i.bytes * m : Nat) : Int) ≤ 281474976710656 := by omega
      rwa [Int.natCast_mul] at h2
    have hr := run_make (P := P) k.w t e i z hu hi hiz .i64 .i64 (m : Int) m (by omega) (Int.le_refl _) hb' (by omega)
    simp only [Int.toNat_natCast] at hr
    refine does_run (v := .slice (some ⟨k.w.heap.size, 0, none⟩) m m) (k' := k.alloc (.cells (madeCells z.cells (m * i.size)) e)) ?_ (K.alloc_grow k _) ?_
    · simp only [execOp, ho, hl, hc]
      simp [hr, K.alloc]
    · simp only [Int.toNat_natCast]
      rcases Nat.eq_zero_or_pos m with h0 | h0
      · subst h0
        exact .inr (.inl ⟨_, rfl, rfl⟩)
      · have hrep := (repL_made (k := k) hzs hpos hx m).mono (K.alloc_grow k (.cells (madeCells z.cells (m * i.size)) e)).le
        have hsize : (madeCells z.cells (m * i.size)).size = m * Enc.sz α := by rw [size_madeCells, hsz]
        refine .inr (.inr ⟨k.w.heap.size, 0, m, madeCells z.cells (m * i.size), (madeCells z.cells (m * i.size)).toList, by simp, hB, fun hs => Nat.lt_irrefl _ (k.lt _ hs), heap_alloc_new k.w _, by simp, h0, by omega, by simp [hsize], ?_, by rw [hsz] at hrep ⊢; exact hrep⟩)
        rw [List.length_replicate, List.drop_zero, List.take_of_length_le (by rw [Array.length_toList, hsize]; exact Nat.le_refl _)]
  · simp at h
end
end Go.Gb

/- General part of the proofs: an evaluator of the code of functions over typed values (no program in sight). -/
namespace Go.Gb

/-- The types of the values that the evaluator knows. -/
inductive Tp where
  | int | bool | str
  | ik (κ : IntKind)
  | list (t : Tp)
  | st (n : Nat)
  | op

@[reducible] def Tp.den (S : Nat → Type) : Tp → Type
  | int => Int | bool => Bool | str => ByteArray | ik κ => IK κ | list t => List (t.den S) | st n => S n | op => Opq

def IntKind.same : (a b : IntKind) → Option (PLift (a = b))
  | .i8, .i8 => some ⟨rfl⟩ | .i16, .i16 => some ⟨rfl⟩ | .i32, .i32 => some ⟨rfl⟩ | .i64, .i64 => some ⟨rfl⟩
  | .u8, .u8 => some ⟨rfl⟩ | .u16, .u16 => some ⟨rfl⟩ | .u32, .u32 => some ⟨rfl⟩ | .u64, .u64 => some ⟨rfl⟩
  | _, _ => none

def natSame (a b : Nat) : Option (PLift (a = b)) := if h : a = b then some ⟨h⟩ else none

def Tp.same : (a b : Tp) → Option (PLift (a = b))
  | int, int => some ⟨rfl⟩
  | bool, bool => some ⟨rfl⟩
  | str, str => some ⟨rfl⟩
  | ik a, ik b => (IntKind.same a b).map fun h => ⟨congrArg ik h.down⟩
  | list a, list b => (Tp.same a b).map fun h => ⟨congrArg list h.down⟩
  | st a, st b => (natSame a b).map fun h => ⟨congrArg st h.down⟩
  | op, op => some ⟨rfl⟩
  | _, _ => none

/-- Some values, one after the other. -/
@[reducible] def HL (S : Nat → Type) : List Tp → Type
  | [] => Unit
  | [a] => a.den S
  | a :: b :: l => a.den S × HL S (b :: l)

section
variable {S : Nat → Type}
@[reducible] def encT (E : ∀ n, Enc (S n)) : (t : Tp) → Enc (t.den S)
  | .int => inferInstanceAs (Enc Int)
  | .bool => inferInstanceAs (Enc Bool)
  | .str => inferInstanceAs (Enc ByteArray)
  | .ik κ => inferInstanceAs (Enc (IK κ))
  | .list t => letI := encT E t; inferInstanceAs (Enc (List (t.den S)))
  | .st n => E n
  | .op => inferInstanceAs (Enc Opq)
instance : Enc Unit where
  sz := 0
  agg := true
  rep _ cs _ := cs = []
  len h := by simp [h]
  mono _ h := h
  one h := by subst h; simp
  agg1 h := by simp at h
@[reducible] def encH (E : ∀ n, Enc (S n)) : (l : List Tp) → Enc (HL S l)
  | [] => inferInstanceAs (Enc Unit)
  | [a] => encT E a
  | a :: b :: l => letI := encT E a; letI := encH E (b :: l); inferInstanceAs (Enc (a.den S × HL S (b :: l)))
end

def dfltT {S : Nat → Type} (z : ∀ n, S n) : (t : Tp) → t.den S
  | .int => (0 : Int) | .bool => false | .str => (⟨#[]⟩ : ByteArray) | .ik _ => ⟨0⟩ | .list _ => [] | .st n => z n | .op => (⟨⟩ : Opq)
def dfltH {S : Nat → Type} (z : ∀ n, S n) : (l : List Tp) → HL S l
  | [] => ()
  | [a] => dfltT z a
  | a :: b :: l => (dfltT z a, dfltH z (b :: l))
/-- The structs of a program. -/
structure Tb where
  S : Nat → Type
  fs : Nat → List Tp
  to : ∀ n, S n → HL S (fs n)
  of : ∀ n, HL S (fs n) → S n
  zero : ∀ n, S n
  deq : ∀ n, DecidableEq (S n)
  enc : ∀ n, Enc (S n)
  to_of : ∀ n y, to n (of n y) = y
  zero_eq : ∀ n, to n (zero n) = dfltH zero (fs n)
  enc_eq : ∀ n, enc n = (letI := encH enc (fs n); Enc.ofMap (to n))
  /-- what the package-level variables hold -/
  gl : Nat → Option (Σ t : Tp, t.den S) := fun _ => none
  /-- a variable of the library that holds some int -/
  gi : Option Nat := none

variable {T : Tb}
abbrev Tb.D (T : Tb) (t : Tp) : Type := t.den T.S
@[reducible] def Tb.e (T : Tb) (t : Tp) : Enc (T.D t) := encT T.enc t
attribute [instance] Tb.e
@[reducible] def Tb.ei (T : Tb) (n : Nat) : Enc (T.S n) := T.enc n
attribute [instance] Tb.ei
@[reducible] def Tb.h (T : Tb) (l : List Tp) : Enc (HL T.S l) := encH T.enc l
attribute [instance] Tb.h

def Tb.dflt (T : Tb) (t : Tp) : T.D t := dfltT T.zero t

/-- A part of a value. -/
structure Lens (T : Tb) (t u : Tp) where
  off : Nat
  get : T.D t → T.D u
  set : T.D t → T.D u → T.D t

/-- What is known of a slot. -/
inductive AV (T : Tb) where
  | top | any | nil
  | v (t : Tp) (x : T.D t)
  | fl (t : Tp) (xs : List (T.D t))
  | e0
  | tup (l : List (Σ t, T.D t))
  | ref (t : Tp) (x : T.D t)
  | own (lk : Bool) (e : TypeId) (t : Tp) (xs : List (T.D t))
  | box (lk : Bool) (t : Tp) (x : T.D t)
  | al (s : Nat)
  | ab (s : Nat) (t : Tp) (x : T.D t) (u : Tp) (L : Lens T t u)
  | ao (s : Nat) (e : TypeId) (t : Tp) (xs : List (T.D t)) (i : Nat) (x : T.D t) (u : Tp) (L : Lens T t u)

abbrev Env (T : Tb) := List (Nat × AV T)

def lk : Env T → Nat → AV T
  | [], _ => .top
  | (s, a) :: e, t => bif Nat.beq s t then a else lk e t

def cast? {S : Nat → Type} (a b : Tp) (x : a.den S) : Option (b.den S) :=
  match Tp.same a b with
  | some h => some (h.down ▸ x)
  | none => none

/-- a slice without room to spare, as a value -/
def nrm : AV T → AV T
  | .fl t xs => .v (.list t) xs
  | a => a
/-- the value of an operand -/
def opv (e : Env T) : Operand → AV T
  | .tmp t => nrm (lk e t)
  | .const (.int .i64 n) => .v .int n
  | .const (.int κ n) => .v (.ik κ) (⟨n⟩ : IK κ)
  | .const (.bool b) => .v .bool b
  | .const (.string s) => .v .str s
  | .const (.slice none 0 0) => .e0
  | .const (.pointer none) => .nil
  | .global g => match T.gl g with | some ⟨t, x⟩ => .ref t x | none => .top
  | _ => .top
def res (e : Env T) : AV T → AV T
  | .al s => lk e s
  | a => a
def slotOf (e : Env T) (s : Nat) : Nat := match lk e s with | .al s' => s' | _ => s
/-- .. for a move: a resource stays where it is -/
def mvv (e : Env T) (x : Operand) : AV T :=
  match x with
  | .tmp t => match lk e t with
    | .own _ _ _ _ => .al t
    | .box _ _ _ => .al t
    | a => a
  | x => opv e x
def asT (t : Tp) : AV T → Option (T.D t)
  | .v u x => cast? u t x
  | .e0 => match t with | .list _ => some [] | _ => none
  | _ => none
/-- a slice without room to spare -/
def asF (e : Env T) : Operand → Option (Σ t, List (T.D t))
  | .tmp t => match lk e t with
    | .fl t xs => some ⟨t, xs⟩
    | _ => none
  | _ => none
def asI : AV T → Option Int
  | .v .int n => some n
  | _ => none
def asB : AV T → Option Bool
  | .v .bool n => some n
  | _ => none
/-- a list that can be read -/
def asL (e : Env T) (a : AV T) : Option (Σ t, List (T.D t)) :=
  match res e a with
  | .v (.list t) xs => some ⟨t, xs⟩
  | .own _ _ t xs => some ⟨t, xs⟩
  | _ => none

def szT (T : Tb) (t : Tp) : Nat := (T.e t).sz
def Lens.id (t : Tp) : Lens T t t := ⟨0, fun x => x, fun _ y => y⟩
/-- a part of a list of parts -/
structure HLens (T : Tb) (l : List Tp) (u : Tp) where
  off : Nat
  get : HL T.S l → T.D u
  set : HL T.S l → T.D u → HL T.S l
def hlens : (l : List Tp) → Nat → Option (Σ u, HLens T l u)
  | [], _ => none
  | [a], 0 => some ⟨a, 0, fun x => x, fun _ y => y⟩
  | [_], _ + 1 => none
  | a :: _ :: _, 0 => some ⟨a, 0, fun x => x.1, fun x y => (y, x.2)⟩
  | a :: b :: l, i + 1 => match hlens (b :: l) i with
    | some ⟨u, L⟩ => some ⟨u, szT T a + L.off, fun x => L.get x.2, fun x y => (x.1, L.set x.2 y)⟩
    | none => none
def flens (n i : Nat) : Option (Σ u, Lens T (.st n) u) :=
  match hlens (T := T) (T.fs n) i with
  | some ⟨u, L⟩ => some ⟨u, L.off, fun x => L.get (T.to n x), fun x y => T.of n (L.set (T.to n x) y)⟩
  | none => none
def Lens.comp {t u w : Tp} (L : Lens T t u) (M : Lens T u w) : Lens T t w :=
  ⟨L.off + M.off, fun x => M.get (L.get x), fun x y => L.set x (M.set (L.get x) y)⟩

/-- the offset of a field, if the program has it so -/
def fldOff (P : Program) (s f : Nat) : Option Nat :=
  match P.underlying s with
  | some (.struct fs) => match fs[f]? with
    | some d => match P.info? d.type with
      | some i => match i.size with
        | 0 => none
        | _ + 1 => some d.offset
      | none => none
    | none => none
  | _ => none
def tyB (P : Program) (T : Tb) (t : TypeId) (u : Tp) : Bool :=
  (match P.underlying t with | some d => aggOf d == (T.e u).agg | none => false) &&
  (match P.info? t with | some i => i.size == (T.e u).sz | none => false)
def elB (P : Program) (T : Tb) (e : TypeId) (u : Tp) : Bool :=
  match P.info? e with
  | some i => (match i.zero with | some z => z.cells.size == szT T u | none => false) && i.size == szT T u && Nat.ble 1 (szT T u) && Nat.ble i.bytes 65536
  | none => false
def slOf (P : Program) (t : TypeId) : Option TypeId :=
  match P.underlying t with | some (.slice e) => some e | _ => none

def joinO : List (Option (List Value)) → Option (List Value)
  | [] => some []
  | a :: l => match a, joinO l with
    | some x, some y => some (x ++ y)
    | _, _ => none
def zc (T : Tb) : Nat → Tp → Option (List Value)
  | 0, _ => none
  | _ + 1, .int => some [.int .i64 0]
  | _ + 1, .bool => some [.bool false]
  | _ + 1, .str => some [.string ⟨#[]⟩]
  | _ + 1, .ik κ => some [.int κ 0]
  | _ + 1, .list _ => some [.slice none 0 0]
  | _ + 1, .op => some [.slice none 0 0]
  | f + 1, .st n => joinO ((T.fs n).map (zc T f))
def vEq : Value → Value → Bool
  | .int κ n, .int κ' n' => κ == κ' && n == n'
  | .bool a, .bool b => a == b
  | .string a, .string b => a.data.size == 0 && b.data.size == 0
  | .slice none 0 0, .slice none 0 0 => true
  | _, _ => false
def vsEq : List Value → List Value → Bool
  | [], [] => true
  | a :: l, b :: m => vEq a b && vsEq l m
  | _, _ => false
def zeroB (P : Program) (T : Tb) (ty : TypeId) (t : Tp) : Bool :=
  match P.info? ty with
  | some i => match i.zero, zc T 9 t with
    | some z, some cs => (match z with | .agg a => (T.e t).agg && vsEq a.toList cs | z => !(T.e t).agg && vsEq [z] cs)
    | _, _ => false
  | none => false
/-- A function, as it is known to those that call it. -/
structure FnE (T : Tb) where
  dom : List Tp
  cod : List Tp
  run : HL T.S dom → Option (HL T.S cod)
def args : (l : List Tp) → List (AV T) → Option (HL T.S l)
  | [], [] => some ()
  | [a], [x] => asT a x
  | a :: b :: l, x :: xs => match asT a x, args (b :: l) xs with
    | some y, some ys => some (y, ys)
    | _, _ => none
  | _, _ => none
def unH : (l : List Tp) → HL T.S l → List (Σ t, T.D t)
  | [], _ => []
  | [a], x => [⟨a, x⟩]
  | a :: b :: l, x => ⟨a, x.1⟩ :: unH (b :: l) x.2
def resV (l : List Tp) (x : HL T.S l) : AV T :=
  match l, x with
  | [], _ => .any
  | [a], x => .v a x
  | a :: b :: l, x => .tup (unH (a :: b :: l) x)
abbrev Deps (T : Tb) := List (FuncId × FnE T)
def dep : Deps T → FuncId → Option (FnE T)
  | [], _ => none
  | (g, d) :: l, f => bif Nat.beq g f then some d else dep l f

section
variable {R : Type}
def binII (op : BinOp) (n m : Int) (k : AV T → Option R) : Option R :=
  match op with
  | .add => (addI n m).bind fun r => k (.v .int r)
  | .sub => (subI n m).bind fun r => k (.v .int r)
  | .mul => (mulI n m).bind fun r => k (.v .int r)
  | .quo => (quoI n m).bind fun r => k (.v .int r)
  | .rem => (remI n m).bind fun r => k (.v .int r)
  | .lss => k (.v .bool (decide (n < m)))
  | .leq => k (.v .bool (decide (n ≤ m)))
  | .gtr => k (.v .bool (decide (m < n)))
  | .geq => k (.v .bool (decide (m ≤ n)))
  | .eql => k (.v .bool (n == m))
  | .neq => k (.v .bool (n != m))
  | .and => k (.v .int (andI n m))
  | .andNot => k (.v .int (andnI n m))
  | .or => k (.v .int (orI n m))
  | _ => none
def isSh (op : BinOp) : Bool := match op with | .shl => true | .shr => true | _ => false
def shAmt : AV T → Option Int
  | .v .int n => some n
  | .v (.ik _) q => some q.n
  | _ => none
def shiftV (op : BinOp) (x : AV T) (m : Int) (k : AV T → Option R) : Option R :=
  match x with
  | .v .int n => match op with
    | .shl => (shlI n m).bind fun r => k (.v .int r)
    | .shr => (shrI n m).bind fun r => k (.v .int r)
    | _ => none
  | .v (.ik a) p => bif decide (0 ≤ m) && Nat.ble m.toNat a.bits then (match op with
    | .shr => k (.v (.ik a) (p.shr m))
    | .shl => k (.v (.ik a) (p.shl m))
    | _ => none) else none
  | _ => none
def binV (op : BinOp) (isB : Bool) (eqn : Nat → Bool) (x y : AV T) (k : AV T → Option R) : Option R :=
  match x, y with
  | .v .int n, .v .int m => binII op n m k
  | .v .bool n, .v .bool m => bif isB then (match op with
    | .eql => k (.v .bool (n == m))
    | .neq => k (.v .bool (n != m))
    | _ => none) else none
  | .v .str n, .v .str m => match op with
    | .eql => k (.v .bool (n.toList == m.toList))
    | .neq => k (.v .bool (!(n.toList == m.toList)))
    | _ => none
  | .v (.st n) p, .v (.st m) q => match natSame m n with
    | some h => letI := T.deq n; bif eqn n then (match op with
      | .eql => k (.v .bool (decide (p = h.down ▸ q)))
      | .neq => k (.v .bool (!decide (p = h.down ▸ q)))
      | _ => none) else none
    | none => none
  | .v (.ik a) p, .v (.ik b) q => match IntKind.same b a with
    | some h => match op with
      | .add => k (.v (.ik a) (p.add (h.down ▸ q)))
      | .sub => k (.v (.ik a) (p.sub (h.down ▸ q)))
      | .mul => k (.v (.ik a) (p.mul (h.down ▸ q)))
      | .and => k (.v (.ik a) (p.and (h.down ▸ q)))
      | _ => none
    | none => none
  | _, _ => none
def wrI (κ : IntKind) (n : Int) : AV T := match κ with
  | .i64 => .v .int (IntKind.i64.wrap n)
  | κ => .v (.ik κ) ⟨κ.wrap n⟩
def extF (f off : Nat) (u : Tp) (g : (w : Tp) → Lens T u w → AV T) : Option (AV T) :=
  match u, g with
  | .st n, g => match flens (T := T) n f with
    | some ⟨w, L⟩ => bif Nat.beq L.off off then some (g w L) else none
    | none => none
  | _, _ => none
def fieldO (f off : Nat) (a : AV T) (own : Nat → AV T) : Option (AV T) :=
  match a with
  | .ref t x => extF f off t fun w L => .ref w (L.get x)
  | .al s => match own s with
    | .box _ t x => extF f off t fun w L => .ab s t x w L
    | _ => none
  | .ab s t x u M => extF f off u fun w L => .ab s t x w (M.comp L)
  | .ao s e t xs i x u M => extF f off u fun w L => .ao s e t xs i x w (M.comp L)
  | _ => none
def fieldV (P : Program) (s f : Nat) (a : AV T) (own : Nat → AV T) (k : AV T → Option R) : Option R :=
  match fldOff P s f with
  | none => none
  | some off => match fieldO f off a own with
    | some r => k r
    | none => none
def loadV (P : Program) (T : Tb) (ty : TypeId) (a : AV T) (own : Nat → AV T) : Option (AV T) :=
  let g := fun (u : Tp) (x : T.D u) => bif tyB P T ty u then some (AV.v u x) else none
  match a with
  | .ref t x => g t x
  | .al s => match own s with | .box _ t x => g t x | _ => none
  | .ab _ _ x u L => g u (L.get x)
  | .ao _ _ _ _ _ x u L => g u (L.get x)
  | _ => none
/-- the values of the parts of a slice -/
def partsL (t : Tp) (e : Env T) : Nat → List (Nat × Operand) → Option (List (T.D t))
  | _, [] => some []
  | i, (j, x) :: l => bif Nat.beq i j then (match asT t (opv e x), partsL t e (i + 1) l with
    | some y, some ys => some (y :: ys)
    | _, _ => none) else none
/-- offset and size of a field -/
def fldPl (P : Program) (s f : Nat) : Option (Nat × Nat) :=
  match P.underlying s with
  | some (.struct fs) => match fs[f]? with
    | some d => match P.info? d.type with
      | some i => some (d.offset, i.size)
      | none => none
    | none => none
  | _ => none
def allFld (P : Program) (s : Nat) : Bool :=
  match P.underlying s with
  | some (.struct fs) => fs.toList.all fun f => (P.info? f.type).isSome
  | _ => false
def buildF (P : Program) (ty n : Nat) (e : Env T) : List (Nat × Operand) → T.S n → Option (T.S n)
  | [], x => some x
  | (j, y) :: l, x => match flens (T := T) n j, fldPl P ty j with
    | some ⟨u, L⟩, some (off, sz) => match asT u (opv e y) with
      | some z => bif Nat.beq off L.off && Nat.beq sz (szT T u) then buildF P ty n e l (L.set x z) else none
      | none => none
    | _, _ => none

/-- What the evaluator is told of the program: the types of the numbers of types, and which boxes are written to. -/
structure Cx (T : Tb) where
  P : Program
  tid : TypeId → Option Tp
  eqs : List (TypeId × Nat)
  deps : Deps T
  own : List Nat
  rs : List ResultVar
  n : Nat

def bslice (C : Cx T) (e : Env T) (ty : TypeId) (n : Nat) (ps : Array (Nat × Operand)) : Option (Σ t, TypeId × List (T.D t)) :=
  match slOf C.P ty with
  | some el => match C.tid el with
    | some t => match partsL t e 0 ps.toList with
      | some xs => bif Nat.beq xs.length n && elB C.P T el t && Nat.ble (n * szT T t) 16777216 then some ⟨t, (el, xs)⟩ else none
      | none => none
    | none => none
  | none => none
/-- the parts of an array of ints -/
def intsH {S : Nat → Type} : (l : List Tp) → HL S l → Option (List Int)
  | [], _ => some []
  | [.int], x => some [x]
  | .int :: b :: l, x => match intsH (b :: l) x.2 with
    | some r => some (x.1 :: r)
    | none => none
  | _, _ => none
/-- One operation that writes to nothing that was there. -/
def step1 (C : Cx T) (e : Env T) (o : Oper) (k : AV T → Option R) : Option R :=
  match o.op with
  | .move x => k (mvv e x)
  | .assign x => k (mvv e x)
  | .binOp op ty x y _ => bif isSh op then (match shAmt (opv e y) with | some m => shiftV op (opv e x) m k | none => none) else binV op (match C.P.underlying ty with | some .bool => true | _ => false) (fun n => C.eqs.contains (ty, n)) (opv e x) (opv e y) k
  | .unOp .not _ x => match asB (opv e x) with
    | some b => k (.v .bool (!b))
    | none => none
  | .unOp .neg _ x => match asI (opv e x) with
    | some n => (subI 0 n).bind fun r => k (.v .int r)
    | none => none
  | .convert s d x => match C.P.underlying s, C.P.underlying d, opv e x with
    | some _, some (.int κ), .v .int n => k (wrI κ n)
    | some _, some (.int κ), .v (.ik _) n => k (wrI κ n.n)
    | _, _, _ => none
  | .load ty x => match loadV C.P T ty (mvv e x) (lk e) with
    | some a => k a
    | none => none
  | .fieldAddr s x f => fieldV C.P s f (mvv e x) (lk e) k
  | .indexAddr ty x y => match asI (opv e y), slOf C.P ty with
    | some i, some el => match x with
      | .tmp s => match res e (nrm (lk e s)) with
        | .v (.list t) xs => bif tyB C.P T el t then (getI xs i).bind fun z => k (.ref t z) else none
        | .own _ e' t xs => bif tyB C.P T el t && Nat.beq el e' then (getI xs i).bind fun z => k (.ao (slotOf e s) e' t xs i.toNat z t (Lens.id t)) else none
        | _ => none
      | _ => none
    | _, _ => none
  | .index ty x y => match opv e x, asI (opv e y), C.P.underlying ty with
    | .v (.st n) z, some i, some (.array m el) => match intsH (T.fs n) (T.to n z) with
      | some xs => bif Nat.beq m xs.length && tyB C.P T el .int then (getI xs i).bind fun r => k (.v .int r) else none
      | none => none
    | _, _, _ => none
  | .extract x i => match opv e x with
    | .tup l => match l[i]? with
      | some ⟨t, y⟩ => k (.v t y)
      | none => none
    | _ => none
  | .box ty x => match opv e x with
    | .v t y => bif tyB C.P T ty t then k (.ref t y) else none
    | _ => none
  | .slice ty x lo hi mx => match slOf C.P ty with
    | none => none
    | some el => match mx with
      | some (.const (.int .i64 0)) => match hi, (match lo with | none => true | some (.const (.int .i64 0)) => true | _ => false), asL e (opv e x) with
        | some (.const (.int .i64 0)), true, some ⟨t, _⟩ => bif tyB C.P T el t then k .e0 else none
        | _, _, _ => none
      | none => match opv e x with
        | .v (.list t) xs => bif tyB C.P T el t then
            (match lo, hi with
            | some l, some h => match asI (opv e l), asI (opv e h) with
              | some l, some h => (sliceI xs l h).bind fun r => k (.v (.list t) r)
              | _, _ => none
            | some l, none => match asI (opv e l) with
              | some l => (sliceI xs l (xs.length : Int)).bind fun r => k (.v (.list t) r)
              | none => none
            | none, some h => match asI (opv e h) with
              | some h => (sliceI xs 0 h).bind fun r => k (.v (.list t) r)
              | none => none
            | none, none => none) else none
        | _ => none
      | _ => none
  | .build ty ps => match C.tid ty with
    | some (.st n) => bif zeroB C.P T ty (.st n) && allFld C.P ty then (match buildF C.P ty n e ps.toList (T.zero n) with
      | some x => k (.v (.st n) x)
      | none => none) else none
    | _ => none
  | .buildSlice ty n ps => match n with
    | 0 => match ps.toList, slOf C.P ty with
      | [], some el => match C.tid el with
        | some t => bif elB C.P T el t then k .e0 else none
        | none => none
      | _, _ => none
    | _ => match bslice C e ty n ps with
      | some ⟨t, (_, xs)⟩ => k (.fl t xs)
      | none => none
  | .call c => match c.callee with
    | .builtin .len => match c.args.toList, c.argTypes[0]? with
      | [x], some ty => match slOf C.P ty with
        | some _ => match res e (opv e x) with
          | .v (.list _) xs => k (.v .int (xs.length : Int))
          | .own _ _ _ xs => k (.v .int (xs.length : Int))
          | .e0 => k (.v .int ((0 : Nat) : Int))
          | _ => none
        | none => none
      | _, _ => none
    | .builtin .max => match c.args.toList with
      | [x, y] => match asI (opv e x), asI (opv e y) with
        | some a, some b => k (.v .int (max a b))
        | _, _ => none
      | [x, y, z] => match asI (opv e x), asI (opv e y), asI (opv e z) with
        | some a, some b, some c => k (.v .int (max (max a b) c))
        | _, _, _ => none
      | _ => none
    | .builtin .min => match c.args.toList with
      | [x, y] => match asI (opv e x), asI (opv e y) with
        | some a, some b => k (.v .int (min a b))
        | _, _ => none
      | [x, y, z] => match asI (opv e x), asI (opv e y), asI (opv e z) with
        | some a, some b, some c => k (.v .int (min (min a b) c))
        | _, _, _ => none
      | _ => none
    | .builtin .append => match c.args.toList, c.argTypes.toList with
      | [x, y], [ty, ty'] => match slOf C.P ty with
        | some el => match asF e x with
          | some ⟨t, xs⟩ => match asL e (opv e y) with
            | some ⟨u, ys⟩ => match cast? (.list u) (.list t) ys with
              | some ys => bif Nat.beq ty ty' && elB C.P T el t then (appI xs ys).bind fun r => k (.v (.list t) r) else none
              | none => none
            | none => none
          | none => match res e (opv e x), asL e (opv e y) with
            | .e0, some ⟨t, ys⟩ => bif Nat.beq ty ty' && elB C.P T el t then (appI [] ys).bind fun r => k (.v (.list t) r) else none
            | _, _ => none
        | none => none
      | _, _ => none
    | .value (.func f) => match dep C.deps f with
      | some d => match args d.dom (c.args.toList.map (opv e)) with
        | some a => (d.run a).bind fun r => k (resV d.cod r)
        | none => none
      | none => none
    | _ => none
  | _ => none
end
end Go.Gb

/- General part of the proofs: the evaluator: regions and control. -/
namespace Go.Gb
variable {T : Tb} {R : Type}

abbrev OpL := List (Nat × Oper)
/-- the operations up to the next one with this guard -/
def spanG (g : Option (Nat × Bool)) : OpL → OpL × OpL
  | [] => ([], [])
  | x :: l => if x.2.guard = g then ([], x :: l) else ((x :: (spanG g l).1), (spanG g l).2)
/-- never without a value -/
def isTot (o : Oper) : Bool := match o.op with
  | .move _ | .assign _ | .load _ _ | .fieldAddr _ _ _ | .pick _ _ _ | .extract _ _ | .unOp .not _ _ | .convert _ _ _ | .build _ _ | .buildSlice _ _ _ => true
  | .binOp .lss _ _ _ _ | .binOp .leq _ _ _ _ | .binOp .gtr _ _ _ _ | .binOp .geq _ _ _ _ | .binOp .eql _ _ _ _ | .binOp .neq _ _ _ _ | .binOp .and _ _ _ _ => true
  | .call c => match c.callee with
    | .builtin .len | .builtin .max | .builtin .min => true
    | _ => false
  | _ => false
def isRes : AV T → Bool
  | .own _ _ _ _ => true
  | .box _ _ _ => true
  | _ => false
/-- an operation that writes, or makes what is written to -/
def isMut (C : Cx T) (e : Env T) (o : Oper) : Bool :=
  match o.dst with
  | none => true
  | some d => isRes (lk e d) || match o.op with
    | .store _ _ _ => true
    | .alloc _ => true
    | .makeSlice _ _ _ => true
    | .box _ _ => C.own.contains d
    | .assign x => C.own.contains d && (match x with | .tmp t => (match lk e t with | .al _ => true | a => isRes a) | _ => false)
    | .buildSlice _ _ _ => C.own.contains d
    | .call c => match c.callee with
      | .builtin .append => C.own.contains d || (match c.args.toList with | x :: _ => isRes (res e (opv e x)) | _ => false)
      | _ => false
    | _ => false
def dstOf (ops : List Oper) (j : Nat) : Option Nat := (nth ops j).bind (·.dst)
def lastIdx (t : Nat) : List Oper → Nat → Option Nat → Option Nat
  | [], _, r => r
  | o :: l, i, r => lastIdx t l (i + 1) (bif (match o.dst with | some d => Nat.beq d t | none => false) then some i else r)
def lastIs (t : Nat) (l : List Oper) (j : Nat) : Bool := match lastIdx t l 0 none with | some j' => Nat.beq j' j | none => false
def tmpsOf (o : Oper) : List Nat := o.op.operands.toList.filterMap fun | .tmp t => some t | _ => none
def needOf (pre : List Oper) (o : Oper) : List (Nat × Option Nat) := (tmpsOf o).map fun t => (t, lastIdx t pre 0 none)
def needs (pre : List Oper) : List Oper → List (List (Nat × Option Nat))
  | [] => []
  | o :: l => needOf pre o :: needs (pre ++ [o]) l
def esOf (ops : List Oper) : List Ent := (needs [] ops).map fun nd => ⟨none, nd⟩
def ixs : Nat → List Oper → OpL
  | _, [] => []
  | i, o :: l => (i, o) :: ixs (i + 1) l

def grpOk (e : Env T) (c j : Nat) (w : Bool) (gr : OpL) : Bool :=
  gr.all fun x => (match x.2.guard with
    | some (j', w') => (Nat.beq j' j && w' == w) || gr.any fun y => Nat.beq y.1 j'
    | none => false) && match x.2.dst with
    | some d => !(isRes (lk e d)) && !(Nat.beq d c)
    | none => false
def tops : OpL → Env T → Env T
  | [], e => e
  | (_, o) :: l, e => match o.dst with
    | some d => (d, .top) :: tops l e
    | none => tops l e
/-- a value that is picked: a part of it may be without a value only where it is asked for -/
def pickC (tot w m : Bool) (run oth : Option Bool) (k : Bool → Option R) : Option R :=
  bif tot then match run, oth with
    | some b, some true => bif w then none else k (m || b)
    | some b, some false => bif w then k (m && b) else none
    | _, _ => none
  else match w with
    | true => (if m then run else oth).bind k
    | false => (if m then oth else run).bind k
/-- A box of which nothing is told while operations run in any order: one that was there, or one that they make. -/
inductive Hd where
  | no
  | old (s : Nat)
  | new (s : Nat) (t : Tp)
inductive Hv where
  | adr (off : Nat)
  | box (t : Tp)
/-- a pointer into such a box -/
def hidO (C : Cx T) (hid : Hd) (o : Oper) : Option Hv :=
  match hid, o.op with
  | .old s, .fieldAddr st (.tmp s') f => bif Nat.beq s s' then (match fldOff C.P st f with | some off => some (.adr off) | none => none) else none
  | .new s t, .alloc ty => match o.dst with
    | some d => bif Nat.beq s d && zeroB C.P T ty t then some (.box t) else none
    | none => none
  | _, _ => none
/-- The operations of a region that may run in any order. -/
def ev1 (C : Cx T) (hid : Hd) (ops : List Oper) : Nat → (R : Type) → Option (Nat × Bool) → OpL → Env T → (OpL → Env T → Option R) → Option R
  | 0, _, _, _, _, _ => none
  | _ + 1, _, _, [], e, k => k [] e
  | f + 1, R, g, (i, o) :: l, e, k =>
    if o.guard = g then
      match hidO C hid o, o.dst with
      | some _, some d => bif isRes (lk e d) then none else ev1 C hid ops f R g l ((d, .top) :: e) k
      | _, _ =>
        bif isMut C e o then (match g with | none => k ((i, o) :: l) e | some _ => none) else
        match o.dst with
        | some d => step1 C e o fun a => ev1 C hid ops f R g l ((d, a) :: e) k
        | none => none
    else match o.guard with
      | none => none
      | some (j, w) => match spanG g ((i, o) :: l) with
        | (gr, (_, p) :: l') => match p.op, p.dst, dstOf ops j with
          | .pick (.tmp c) x y, some d, some tj => match asB (lk e c) with
            | some m =>
              bif Nat.beq tj c && lastIs c (ops.take i) j && grpOk e c j w gr && !(isRes (lk e d)) then
                pickC (gr.all fun x => isTot x.2) w m (ev1 C hid ops f Bool (some (j, w)) gr e fun _ e' => asB (opv e' (if w then x else y))) (asB (opv (tops gr e) (if w then y else x)))
                  fun b => ev1 C hid ops f R g l' ((d, .v .bool b) :: tops gr e) k
              else none
            | none => none
          | _, _, _ => none
        | _ => none

/-- what mentions a slot -/
def kl (s : Nat) : AV T → AV T
  | .ab s' t x u L => bif Nat.beq s' s then .top else .ab s' t x u L
  | .ao s' e t xs i x u L => bif Nat.beq s' s then .top else .ao s' e t xs i x u L
  | a => a
def klA (s : Nat) : AV T → AV T
  | .al s' => bif Nat.beq s' s then .top else .al s'
  | a => kl s a
def mapK (f : AV T → AV T) : Env T → (Env T → Option R) → Option R
  | [], k => k []
  | (t, a) :: e, k => mapK f e fun e' => k ((t, f a) :: e')
def AV.ment : AV T → Nat → Bool
  | .al s, t => Nat.beq s t
  | .ab s _ _ _ _, t => Nat.beq s t
  | .ao s _ _ _ _ _ _ _, t => Nat.beq s t
  | _, _ => false
def put (e : Env T) (d : Nat) (a : AV T) (k : Env T → Option R) : Option R :=
  bif a.ment d then none else bif isRes (lk e d) then mapK (klA d) e fun e' => k ((d, a) :: e') else k ((d, a) :: e)
/-- the slot of a resource -/
def resSlot (e : Env T) : Operand → Option Nat
  | .tmp t => match lk e t with
    | .al s => some s
    | .own _ _ _ _ => some t
    | .box _ _ _ => some t
    | _ => none
  | _ => none
def frz1 (e : Env T) (x : Operand) (k : Env T → Option R) : Option R :=
  match x with
  | .tmp t => match lk e t with
    | .own false _ u xs => mapK (klA t) e fun e' => k ((t, .v (.list u) xs) :: e')
    | .al s => match lk e s with
      | .own false _ u xs => mapK (klA s) e fun e' => bif isRes (lk e' t) then none else k ((t, .v (.list u) xs) :: (s, .v (.list u) xs) :: e')
      | _ => k e
    | _ => k e
  | _ => k e
def frz (e : Env T) : List Operand → (Env T → Option R) → Option R
  | [], k => k e
  | x :: l, k => frz1 e x fun e' => frz e' l k
def frzOps (o : Oper) : List Operand := match o.op with
  | .build _ ps => ps.toList.map (·.2)
  | .buildSlice _ _ ps => ps.toList.map (·.2)
  | .box _ x => [x]
  | .slice _ x _ _ _ => [x]
  | .store _ _ y => [y]
  | .call c => match c.callee with
    | .value _ => c.args.toList
    | _ => []
  | _ => []
def sameTmp : Operand → Operand → Bool
  | .tmp a, .tmp b => Nat.beq a b
  | _, _ => false
/-- .. one after the other -/
def step2 (C : Cx T) (e : Env T) (o : Oper) (k : Env T → Option R) : Option R :=
  match o.op, o.dst with
  | .store ty p y, none => match p with
    | .tmp pt => match (match lk e pt with
        | .al s => match lk e s with | .box _ t x => AV.ab s t x t (Lens.id t) | _ => .top
        | .box _ t x => AV.ab pt t x t (Lens.id t)
        | a => a) with
      | .ab s t x u L => match lk e s with
        | .box false _ _ => match asT u (opv e y) with
          | some z => bif tyB C.P T ty u then mapK (kl s) e fun e' => k ((s, .box false t (L.set x z)) :: e') else none
          | none => none
        | _ => none
      | .ao s el t xs i x u L => match lk e s with
        | .own false _ _ _ => match asT u (opv e y) with
          | some z => bif tyB C.P T ty u then mapK (kl s) e fun e' => k ((s, .own false el t (xs.set i (L.set x z))) :: e') else none
          | none => none
        | _ => none
      | _ => none
    | _ => none
  | .alloc ty, some d => match C.tid ty with
    | some t => bif zeroB C.P T ty t then put e d (.box false t (T.dflt t)) k else none
    | none => none
  | .box ty x, some d => match opv e x with
    | .v t y => bif tyB C.P T ty t then put e d (.box false t y) k else none
    | _ => none
  | .assign x, some d => match resSlot e x with
    | some s => match lk e s with
      | .own false el t xs => mapK (klA s) e fun e' => put ((s, .top) :: e') d (.own false el t xs) fun e'' => bif isRes (lk e'' s) then none else k ((s, .al d) :: e'')
      | _ => none
    | none => step1 C e o fun a => put e d a k
  | .buildSlice ty m ps, some d => match m with
    | 0 => step1 C e o fun a => put e d a k
    | _ => match bslice C e ty m ps with
      | some ⟨t, (el, xs)⟩ => put e d (.own false el t xs) k
      | none => none
  | .makeSlice ty lx cx, some d => match asI (opv e lx), slOf C.P ty with
    | some n, some el => match C.tid el with
      | some t => bif sameTmp lx cx && elB C.P T el t && zeroB C.P T el t then (makeI n (T.dflt t)).bind fun r => put e d (.own false el t r) k else none
      | none => none
    | _, _ => none
  | .call c, some d => match c.callee with
    | .builtin .append => match c.args.toList, c.argTypes.toList with
      | [x, y], [ty, ty'] => bif Nat.beq ty ty' then match slOf C.P ty, asL e (opv e y) with
        | some el, some ⟨t, ys⟩ => bif elB C.P T el t then (match resSlot e x with
          | some s => match lk e s with
            | .own false el' t' xs => match cast? (.list t') (.list t) xs with
              | some xs => bif Nat.beq el el' then (appI xs ys).bind fun r => mapK (klA s) e fun e' => put ((s, .top) :: e') d (.own false el t r) k else none
              | none => none
            | _ => none
          | none => match res e (opv e x) with
            | .e0 => (appI [] ys).bind fun r => put e d (.own false el t r) k
            | _ => none) else none
        | _, _ => none
        else none
      | _, _ => none
    | _ => step1 C e o fun a => put e d a k
  | _, some d => step1 C e o fun a => put e d a k
  | _, none => none

def ev2 (C : Cx T) : OpL → Env T → (Env T → Option R) → Option R
  | [], e, k => k e
  | (_, o) :: l, e, k => match o.guard, (match o.dst with | some d => Nat.blt d C.n | none => true) with
    | none, true => frz e (frzOps o) fun e' => step2 C e' o fun e'' => ev2 C l e'' k
    | _, _ => none

/-- the boxes that a region has made and that nothing writes to behind it -/
def shareK (C : Cx T) : List Oper → Env T → (Env T → Option R) → Option R
  | [], e, k => k e
  | o :: l, e, k => match o.op, o.dst with
    | .alloc _, some d => bif C.own.contains d then shareK C l e k else match lk e d with
      | .box false t x => mapK (klA d) e fun e' => shareK C l ((d, .ref t x) :: e') k
      | _ => shareK C l e k
    | _, _ => shareK C l e k

/-- the first store -/
def stAt : List Oper → Nat → Option (Nat × Oper)
  | [], _ => none
  | o :: l, i => match o.op with
    | .store _ _ _ => some (i, o)
    | _ => stAt l (i + 1)
/-- operations that only look may come behind the first store -/
def lateSt (ops : List Oper) : Bool := match stAt ops 0 with
  | some (m, _) => !(allI (fun j _ => Nat.blt j m || (List.range j).all fun i => hasBit (masks ops []) j i) 0 ops)
  | none => false
def notDst (s : Nat) (ops : List Oper) : Bool := ops.all fun o => match o.dst with | some d => !(Nat.beq d s) | none => true
/-- what is stored is there -/
def needSt (m : Nat) (ops : List Oper) : Operand → Bool
  | .tmp t => match lastIdx t (ops.take m) 0 none with
    | some j => hasBit (masks ops []) m j
    | none => notDst t ops
  | .const _ => true
  | _ => false
/-- the slot of the box that is stored to -/
def stSlot (ops : List Oper) (m pt : Nat) : Nat := match lastIdx pt (ops.take m) 0 none with
  | some j => match nth ops j with
    | some o => match o.op with | .fieldAddr _ (.tmp s) _ => s | _ => pt
    | none => pt
  | none => pt
/-- .. and where -/
def fldL (P : Program) (st f : Nat) : (t : Tp) → Option (Σ u, Lens T t u)
  | .st n => match fldOff P st f, flens (T := T) n f with
    | some off, some ⟨w, L⟩ => bif Nat.beq L.off off then some ⟨w, L⟩ else none
    | _, _ => none
  | _ => none
def stPtr (C : Cx T) (ops : List Oper) (m s pt : Nat) (t : Tp) : Option (Σ u, Lens T t u) :=
  bif Nat.beq pt s then (bif notDst pt ops then some ⟨t, Lens.id t⟩ else none) else match lastIdx pt (ops.take m) 0 none with
    | some j => match nth ops j with
      | some o => match o.op, o.guard with
        | .fieldAddr st (.tmp s') f, none => bif Nat.beq s s' && hasBit (masks ops []) m j then fldL C.P st f t else none
        | _, _ => none
      | none => none
    | none => none
def evX (C : Cx T) (ops : List Oper) (e : Env T) (k : Env T → Option R) : Option R :=
  match stAt ops 0 with
  | some (m, o) => match o.op, o.dst, o.guard with
    | .store ty (.tmp pt) y, none, none => match lk e (stSlot ops m pt) with
      | .box false t x0 => match stPtr C ops m (stSlot ops m pt) pt t with
        | some ⟨u, L⟩ => bif !(notDst (stSlot ops m pt) ops) then none else mapK (klA (stSlot ops m pt)) e fun e0 => ev1 C (.old (stSlot ops m pt)) ops (ops.length + 1) R none (ixs 0 ops) ((stSlot ops m pt, .top) :: e0) fun l e1 =>
          match l with
          | [] => none
          | _ :: l' => bif Nat.beq (ops.length - l.length) m && chkS C.n m ops (esOf (ops.take m)) && chkB m ops && needSt m ops y && tyB C.P T ty u then
              match asT u (opv e1 y) with
              | some z => ev2 C l' ((stSlot ops m pt, .box false t (L.set x0 z)) :: e1) fun e'' => shareK C ops e'' k
              | none => none
            else none
        | none => none
      | _ => none
    | _, _, _ => none
  | none => none
/-- nothing else is put into a slot -/
def onlyDst (s j : Nat) (ops : List Oper) : Bool := allI (fun i o => Nat.beq i j || (match o.dst with | some d => !(Nat.beq d s) | none => true)) 0 ops
def isTop : AV T → Bool
  | .top => true
  | _ => false
/-- the moves and extracts that may come behind the store -/
def lateL (m : Nat) (ops : List Oper) : List Nat := (List.range m).filter fun l => !(hasBit (masks ops []) m l) && isPure ops.toArray l
/-- .. where the first store goes into a box that the region makes -/
def evN (C : Cx T) (ops : List Oper) (e : Env T) (k : Env T → Option R) : Option R :=
  match stAt ops 0 with
  | some (m, o) => match o.op, o.dst, o.guard with
    | .store ty (.tmp pt) y, none, none => match lastIdx pt (ops.take m) 0 none with
      | some ja => match nth ops ja with
        | some oa => match oa.op, oa.guard with
          | .alloc tya, none => match C.tid tya with
            | some t => ev1 C (.new pt t) ops (ops.length + 1) R none (ixs 0 ops) e fun l e1 =>
              match l with
              | [] => none
              | _ :: l' => bif Nat.beq (ops.length - l.length) m && chkS C.n m ops (esOf (ops.take m)) && chkC m (lateL m ops) ops && lateOk m (lateL m ops) ops.toArray && hasBit (masks ops []) m ja && onlyDst pt ja ops && needSt m ops y && tyB C.P T ty t && zeroB C.P T tya t && isTop (lk e1 pt) && !(isRes (lk e pt)) then
                  match asT t (opv e1 y) with
                  | some z => ev2 C l' ((pt, .box false t z) :: e1) fun e'' => shareK C ops e'' k
                  | none => none
                else none
            | none => none
          | _, _ => none
        | none => none
      | none => none
    | _, _, _ => none
  | none => none
def newSt (ops : List Oper) : Bool := match stAt ops 0 with
  | some (m, o) => match o.op with
    | .store _ (.tmp pt) _ => match lastIdx pt (ops.take m) 0 none with
      | some ja => match nth ops ja with
        | some oa => match oa.op with
          | .alloc _ => true
          | _ => false
        | none => false
      | none => false
    | _ => false
  | none => false
def evR (C : Cx T) (ops : List Oper) (draw : Bool) (e : Env T) (k : Env T → Option R) : Option R :=
  bif draw && lateSt ops then (bif newSt ops then evN C ops e k else evX C ops e k) else
  ev1 C .no ops (ops.length + 1) R none (ixs 0 ops) e fun l e' =>
    bif (bif draw then chk else chkS) C.n (ops.length - l.length) ops (esOf (ops.take (ops.length - l.length))) then
      ev2 C l e' fun e'' => shareK C ops e'' k
    else none

/-! Control -/
inductive Kd where
  | v (t : Tp) | o (e : TypeId) (t : Tp) | b (t : Tp)
@[reducible] def Kd.D (T : Tb) : Kd → Type
  | v t => T.D t | o _ t => List (T.D t) | b t => T.D t
abbrev Sp := List (Nat × Kd)
@[reducible] def SpD (T : Tb) : Sp → Type
  | [] => Unit
  | [a] => a.2.D T
  | a :: b :: l => a.2.D T × SpD T (b :: l)
def Kd.dflt : (κ : Kd) → κ.D T
  | .v t => T.dflt t | .o _ _ => [] | .b t => T.dflt t
def takeS (e : Env T) (s : Nat) : (κ : Kd) → Option (κ.D T)
  | .v t => asT t (nrm (lk e s))
  | .o el t => match lk e s with
    | .own false el' u xs => bif Nat.beq el el' then cast? (.list u) (.list t) xs else none
    | .e0 => some []
    | _ => none
  | .b t => match lk e s with
    | .box false u x => cast? u t x
    | _ => none
/-- the values of the slots of a state; those in ds are not known -/
def take (ds : List Nat) (e : Env T) : (sp : Sp) → Option (SpD T sp)
  | [] => some ()
  | [a] => bif ds.contains a.1 then some a.2.dflt else takeS e a.1 a.2
  | a :: b :: l => match (bif ds.contains a.1 then some a.2.dflt else takeS e a.1 a.2), take ds e (b :: l) with
    | some x, some y => some (x, y)
    | _, _ => none
def vSlots (ds : List Nat) : Sp → List Operand
  | [] => []
  | (s, .v _) :: l => bif ds.contains s then vSlots ds l else .tmp s :: vSlots ds l
  | _ :: l => vSlots ds l
/-- .. and what need not be written to any more is handed over first -/
def takeF (ds : List Nat) (e : Env T) (sp : Sp) (k : SpD T sp → Option R) : Option R :=
  frz e (vSlots ds sp) fun e' => match take ds e' sp with
    | some s => k s
    | none => none
def avK : (κ : Kd) → κ.D T → AV T
  | .v t, x => .v t x
  | .o e t, x => .own false e t x
  | .b t, x => .box false t x
def give (xs : List Nat) : (sp : Sp) → SpD T sp → Env T → Env T
  | [], _, e => e
  | [a], x, e => (a.1, bif xs.contains a.1 then .top else avK a.2 x) :: e
  | a :: b :: l, x, e => (a.1, bif xs.contains a.1 then .top else avK a.2 x.1) :: give xs (b :: l) x.2 e

def wrs : Code → List Nat
  | .region _ A _ => A.toList.filterMap (·.dst)
  | .seq a b => wrs a ++ wrs b
  | .cond _ a b => wrs a ++ wrs b
  | .block _ a => wrs a
  | .loop a => wrs a
  | _ => []
/-- what stays of an environment over a piece of code -/
def keepA (lock : Bool) (W : List Nat) : AV T → AV T
  | .v t x => .v t x
  | .fl t xs => .fl t xs
  | .ref t x => .ref t x
  | .e0 => .e0
  | .nil => .nil
  | .own b e t xs => .own (lock || b) e t xs
  | .box b t x => .box (lock || b) t x
  | .al s => bif W.contains s then .top else .al s
  | _ => .top
def keepK (lock : Bool) (W : List Nat) (Wd : List Nat) : Env T → (Env T → Option R) → Option R
  | [], k => k []
  | (t, a) :: e, k => keepK lock W Wd e fun e' => k (bif W.contains t then e' else (t, bif Wd.contains t then a else keepA lock (W ++ Wd) a) :: e')

def lkA : AV T → AV T
  | .own _ el t xs => .own true el t xs
  | .box _ t x => .box true t x
  | a => a
def lockK (W : List Nat) : Env T → (Env T → Option R) → Option R
  | [], k => k []
  | (t, a) :: e, k => lockK W e fun e' => k ((t, bif W.contains t then a else lkA a) :: e')

/-- Of a state: the slots that nothing reads any more, and those of them that are not known. -/
abbrev Ls := List Nat × List Nat
/-- How a function's code is to be taken. -/
inductive Hn (T : Tb) where
  | n
  | s (a b : Hn T)
  | f (l : List Nat) (a : Hn T)
  | j (fz : List Nat) (sp : Sp) (xs : Ls) (a : Hn T)
  | jf (fz : List Nat) (sp : Sp) (xs : Ls) (exs : List (Nat × Ls)) (a : Hn T)
  | l (fz : List Nat) (sp : Sp) (exs : List (Nat × Ls)) (fuel : Env T → Nat) (a : Hn T)
structure Kt (T : Tb) (ρ R : Type) where
  go : Env T → Option R
  ex : Nat → Env T → Option R
  rv : ρ → Option R
def exAt : List (Nat × Ls) → Nat → Option Ls
  | [], _ => none
  | (i, x) :: l, j => bif Nat.beq i j then some x else exAt l j
def exF {ρ : Type} (exs : List (Nat × Ls)) (sp : Sp) (i : Nat) (e : Env T) : Option (Flow (SpD T sp) ρ) :=
  match exAt exs i with
  | some x => takeF x.2 e sp fun s => some (.ex i s)
  | none => none
def exK {ρ : Type} {sp : Sp} (base : Env T) (K : Kt T ρ R) : List (Nat × Ls) → Nat → SpD T sp → Option R
  | [], _, _ => none
  | [(i, x)], _, s => K.ex i (give (x.1 ++ x.2) sp s base)
  | (i, x) :: y :: l, j, s => if j = i then K.ex i (give (x.1 ++ x.2) sp s base) else exK base K (y :: l) j s
def resH (C : Cx T) (e : Env T) : (l : List Tp) → List ResultVar → Option (HL T.S l)
  | [], [] => some ()
  | [a], [r] => resH1 e a r
  | a :: b :: l, r :: rs => match resH1 e a r, resH C e (b :: l) rs with
    | some x, some y => some (x, y)
    | _, _ => none
  | _, _ => none
where resH1 (e : Env T) (t : Tp) : ResultVar → Option (T.D t)
  | .tmp s => asT t (nrm (lk e s))
  | .cell s ty => match lk e s with
    | .box _ u x => bif tyB C.P T ty u then cast? u t x else none
    | _ => none
def spW (sp : Sp) : List Nat := sp.map (·.1)

def ev (C : Cx T) (cod : List Tp) : Code → Hn T → (R : Type) → Env T → Kt T (HL T.S cod) R → Option R
  | .skip, _, _, e, K => K.go e
  | .region _ A d, h, _, e, K => match h with
    | .f l _ => frz e (l.map .tmp) fun e' => evR C A.toList d e' K.go
    | _ => evR C A.toList d e K.go
  | .seq a b, h, R, e, K => match h with
    | .s x y => ev C cod a x R e { K with go := fun e' => ev C cod b y R e' K }
    | _ => ev C cod a .n R e { K with go := fun e' => ev C cod b .n R e' K }
  | .cond c a b, h, R, e, K => match h with
    | .j fz sp xs (.s x y) => frz e (fz.map .tmp) fun e0 => lockK (wrs a ++ wrs b ++ spW sp) e0 fun e => keepK false (wrs a ++ wrs b) (spW sp) e0 fun e1 => match asB (opv e c) with
      | some m => (if m then ev C cod a x (SpD T sp) e ⟨fun e' => takeF xs.2 e' sp some, fun _ _ => none, fun _ => none⟩
          else ev C cod b y (SpD T sp) e ⟨fun e' => takeF xs.2 e' sp some, fun _ _ => none, fun _ => none⟩).bind fun s => K.go (give (xs.1 ++ xs.2) sp s e1)
      | none => none
    | .jf fz sp xs exs (.s x y) => frz e (fz.map .tmp) fun e0 => lockK (wrs a ++ wrs b ++ spW sp) e0 fun e => keepK false (wrs a ++ wrs b) (spW sp) e0 fun e1 => match asB (opv e c) with
      | some m =>
        let K' : Kt T (HL T.S cod) (Flow (SpD T sp) (HL T.S cod)) := ⟨fun e' => takeF xs.2 e' sp fun s => some (.go s), exF exs sp, fun r => some (.ret r)⟩
        (if m then ev C cod a x _ e K' else ev C cod b y _ e K').bind fun f => match f with
          | .go s => K.go (give (xs.1 ++ xs.2) sp s e1)
          | .ex i s => exK e1 K exs i s
          | .ret r => K.rv r
      | none => none
    | .s x y => match asB (opv e c) with
      | some m => if m then ev C cod a x R e K else ev C cod b y R e K
      | none => none
    | _ => match asB (opv e c) with
      | some m => if m then ev C cod a .n R e K else ev C cod b .n R e K
      | none => none
  | .block id a, h, R, e, K => match h with
    | .j fz sp xs x => frz e (fz.map .tmp) fun e0 => lockK (wrs a ++ spW sp) e0 fun e => keepK false (wrs a) (spW sp) e0 fun e1 =>
      (ev C cod a x (SpD T sp) e ⟨fun e' => takeF xs.2 e' sp some, fun i e' => bif Nat.beq i id then takeF xs.2 e' sp some else none, fun _ => none⟩).bind fun s => K.go (give (xs.1 ++ xs.2) sp s e1)
    | .jf fz sp xs exs x => frz e (fz.map .tmp) fun e0 => lockK (wrs a ++ spW sp) e0 fun e => keepK false (wrs a) (spW sp) e0 fun e1 =>
      (ev C cod a x (Flow (SpD T sp) (HL T.S cod)) e ⟨fun e' => takeF xs.2 e' sp fun s => some (.go s), fun i e' => bif Nat.beq i id then takeF xs.2 e' sp fun s => some (.go s) else exF exs sp i e', fun r => some (.ret r)⟩).bind fun f => match f with
          | .go s => K.go (give (xs.1 ++ xs.2) sp s e1)
          | .ex i s => exK e1 K exs i s
          | .ret r => K.rv r
    | x => ev C cod a x R e { K with ex := fun i e' => bif Nat.beq i id then K.go e' else K.ex i e' }
  | .loop a, h, _, e, K => match h with
    | .l fz sp exs fuel x => frz e (fz.map .tmp) fun e => keepK true (wrs a) (spW sp) e fun ei => keepK false (wrs a) (spW sp) e fun e1 => match take [] e sp with
      | some s0 => (iterL (fun s => ev C cod a x (Flow (SpD T sp) (HL T.S cod)) (give [] sp s ei) ⟨fun e' => takeF [] e' sp fun s => some (.go s), exF exs sp, fun r => some (.ret r)⟩) (fuel e) s0).bind fun f => match f with
          | .go _ => none
          | .ex i s => exK e1 K exs i s
          | .ret r => K.rv r
      | none => none
    | _ => none
  | .exit i, _, _, e, K => K.ex i e
  | .ret, _, _, e, K => frz e (C.rs.filterMap fun | .tmp s => some (.tmp s) | _ => none) fun e' => match resH C e' cod C.rs with
    | some r => K.rv r
    | none => none
  | _, _, _, _, _ => none

def initE : (i : Nat) → (l : List Tp) → HL T.S l → Env T
  | _, [], _ => []
  | i, [a], x => [(i, .v a x)]
  | i, a :: b :: l, x => (i, .v a x.1) :: initE (i + 1) (b :: l) x.2
/-- What a function gives. -/
def evF (C : Cx T) (c : Code) (h : Hn T) (dom cod : List Tp) (x : HL T.S dom) : Option (HL T.S cod) :=
  ev C cod c h (HL T.S cod) (initE 0 dom x) ⟨fun _ => none, fun _ _ => none, some⟩
end Go.Gb

/- General part of the proofs: what the evaluator's environments say of slots. -/
namespace Go.Gb
variable {T : Tb} {R : Type}

def Lens.ok {t u : Tp} (L : Lens T t u) : Prop :=
  (∀ (x : T.D t) (ad : Addr) (k : K), At x ad k → At (L.get x) (ad.add L.off) k) ∧ Upd L.off L.set ∧ L.off + (T.e u).sz ≤ (T.e t).sz

def Fa2 : List (Σ t, T.D t) → List Value → K → Prop
  | [], [], _ => True
  | p :: l, v :: vs, k => IsV p.2 v k ∧ Fa2 l vs k
  | _, _, _ => False
theorem Fa2.le {k k' : K} (h : Le k k') : ∀ {l : List (Σ t, T.D t)} {vs : List Value}, Fa2 l vs k → Fa2 l vs k'
  | [], [], _ => trivial
  | _ :: _, _ :: _, g => ⟨Pers.pers h g.1, Fa2.le h g.2⟩
theorem Fa2.get {k : K} : ∀ {l : List (Σ t, T.D t)} {vs : List Value} {i : Nat} {p : Σ t, T.D t}, Fa2 l vs k → l[i]? = some p → ∃ v, vs[i]? = some v ∧ IsV p.2 v k
  | p :: l, v :: vs, 0, q, g, h => by simp at h; subst h; exact ⟨v, rfl, g.1⟩
  | p :: l, v :: vs, i + 1, q, g, h => by
    obtain ⟨u, hu, hv⟩ := Fa2.get g.2 (by simpa using h)
    exact ⟨u, by simpa using hu, hv⟩

/-- What is said of a slot's value. -/
def AV.is (a : Act) : AV T → Value → K → Prop
  | .top, _, _ => True
  | .any, _, _ => True
  | .nil, y, _ => y = .pointer none
  | .v _ x, y, k => IsV x y k
  | .e0, y, k => IsE0 y k
  | .tup l, y, k => ∃ vs : List Value, y = .tuple vs.toArray ∧ Fa2 l vs k
  | .ref _ x, y, k => IsRef x y k
  | .fl _ xs, y, k => IsFull xs y k
  | .own _ e _ xs, y, k => IsOwn 0 e xs y k
  | .box _ _ x, y, k => ∃ b, y = .pointer (some ⟨b, 0, none⟩) ∧ Box b x k
  | .al s, y, _ => y = a.get s
  | .ab s _ x _ L, y, k => L.ok ∧ ∃ b, a.get s = .pointer (some ⟨b, 0, none⟩) ∧ y = .pointer (some ⟨b, L.off, none⟩) ∧ Box b x k
  | .ao s e t xs i x _ L, y, k => L.ok ∧ IsAdrO (a.get s) (i * (T.e t).sz + L.off) y k ∧ IsOwn 0 e xs (a.get s) k ∧ xs[i]? = some x
/-- mentions the blocks behind a slot -/
def AV.ment2 : AV T → Nat → Bool
  | .ab s _ _ _ _, t => Nat.beq s t
  | .ao s _ _ _ _ _ _ _, t => Nat.beq s t
  | _, _ => false
theorem AV.ment2_ment {av : AV T} {s : Nat} (h : av.ment2 s = true) : av.ment s = true := by
  cases av <;> first | exact h | simp [AV.ment2] at h
/-- the blocks that are a slot's own -/
def AV.fp : AV T → Value → FP
  | .own _ _ _ _, y => obF y
  | .box _ _ _, y => fun b => y = .pointer (some ⟨b, 0, none⟩)
  | _, _ => noF
def unl : AV T → Bool
  | .own false _ _ _ => true
  | .box false _ _ => true
  | _ => false

theorem AV.mono {a : Act} (av : AV T) {v : Value} {k k' : K} (g : Grow k k') (h : av.is a v k) : av.is a v k' := by
  cases av with
  | top => trivial
  | any => trivial
  | nil => exact h
  | v t x => exact Mono.mono (R := IsV x) g h
  | fl t xs => exact Mono.mono (R := IsFull xs) g h
  | e0 => exact h
  | tup l => obtain ⟨vs, e, h⟩ := h; exact ⟨vs, e, h.le g.le⟩
  | ref t x => exact Mono.mono (R := IsRef x) g h
  | own b e t xs => exact Mono.mono (R := IsOwn 0 e xs) g h
  | box b t x => obtain ⟨b, e, h⟩ := h; exact ⟨b, e, h.grow g⟩
  | al s => exact h
  | ab s t x u L => obtain ⟨h0, b, e1, e2, h⟩ := h; exact ⟨h0, b, e1, e2, h.grow g⟩
  | ao s e t xs i x u L => exact ⟨h.1, h.2.1, Mono.mono (R := IsOwn 0 e xs) g h.2.2.1, h.2.2.2⟩
instance {a : Act} {av : AV T} : Mono (av.is a) := ⟨fun g h => av.mono g h⟩

theorem AV.congr {a a' : Act} (av : AV T) {v : Value} {k : K} (e : ∀ s, av.ment s = true → a'.get s = a.get s) (h : av.is a v k) : av.is a' v k := by
  cases av with
  | al s => exact (show v = a.get s from h).trans (e s (Nat.beq_refl s)).symm
  | ab s t x u L => obtain ⟨h0, b, e1, r⟩ := h; exact ⟨h0, b, (e s (Nat.beq_refl s)).trans e1, r⟩
  | ao s el t xs i x u L =>
    have e := e s (Nat.beq_refl s)
    obtain ⟨h0, h1, h2, h3⟩ := h
    exact ⟨h0, by rw [e]; exact h1, by rw [e]; exact h2, h3⟩
  | _ => exact h

theorem AV.lt {a : Act} (av : AV T) {v : Value} {k : K} (h : av.is a v k) : ∀ b, av.fp v b → b < k.w.heap.size ∧ ¬ k.sh b := by
  intro b hb
  cases av with
  | own l e t xs => exact ⟨(IsOwn.lt h b hb).2.1, (IsOwn.lt h b hb).2.2⟩
  | box l t x =>
    obtain ⟨c, e, h⟩ := h
    rw [show v = _ from hb] at e
    simp only [Value.pointer.injEq, Option.some.injEq, Addr.mk.injEq, and_true] at e
    subst e
    exact ⟨h.lt, h.own⟩
  | _ => exact hb.elim
theorem fp_nonres {av : AV T} (h : isRes av = false) (v : Value) (b : Nat) : ¬ av.fp v b := by
  intro hb
  cases av with
  | own l e t xs => simp [isRes] at h
  | box l t x => simp [isRes] at h
  | _ => exact hb.elim
theorem unl_res {av : AV T} (h : unl av = true) : isRes av = true := by
  cases av with
  | own l e t xs => rfl
  | box l t x => rfl
  | _ => simp [unl] at h

/-- under a change of blocks that are not its own -/
theorem AV.keep {a : Act} (av : AV T) {v : Value} {k k' : K} {G : FP} (c : Chg G k k') (hn : ∀ b, G b → ¬ k.sh b) (hf : Apart (av.fp v) G)
    (hm : ∀ s, av.ment2 s = true → ∀ u : AV T, isRes u = true → u.is a (a.get s) k → Apart (u.fp (a.get s)) G) (h : av.is a v k) : av.is a v k' := by
  have hle := c.le hn
  cases av with
  | top => trivial
  | any => trivial
  | nil => exact h
  | v t x => exact Pers.pers (R := IsV x) hle h
  | fl t xs => exact Pers.pers (R := IsFull xs) hle h
  | e0 => exact h
  | tup l => obtain ⟨vs, e, h⟩ := h; exact ⟨vs, e, h.le hle⟩
  | ref t x => exact Pers.pers (R := IsRef x) hle h
  | own b e t xs => exact IsOwn.keep h c hf hn
  | box b t x => obtain ⟨b, e, h⟩ := h; exact ⟨b, e, h.keep c (hf b e) hn⟩
  | al s => exact h
  | ab s t x u L =>
    obtain ⟨h0, b, e1, e2, h⟩ := h
    exact ⟨h0, b, e1, e2, h.keep c (hm s (Nat.beq_refl s) (.box false t x) rfl ⟨b, e1, h⟩ b e1) hn⟩
  | ao s e t xs i x u L =>
    exact ⟨h.1, h.2.1, IsOwn.keep h.2.2.1 c (hm s (Nat.beq_refl s) (.own false e t xs) rfl h.2.2.1) hn, h.2.2.2⟩
/-- under a handing over of blocks that are not its own -/
theorem AV.handed {a : Act} (av : AV T) {v : Value} {k k' : K} {G : FP} (c : Handed k k' G) (hf : Apart (av.fp v) G)
    (hm : ∀ s, av.ment2 s = true → ∀ u : AV T, isRes u = true → u.is a (a.get s) k → Apart (u.fp (a.get s)) G) (h : av.is a v k) : av.is a v k' := by
  have hle := c.le
  cases av with
  | top => trivial
  | any => trivial
  | nil => exact h
  | v t x => exact Pers.pers (R := IsV x) hle h
  | fl t xs => exact Pers.pers (R := IsFull xs) hle h
  | e0 => exact h
  | tup l => obtain ⟨vs, e, h⟩ := h; exact ⟨vs, e, h.le hle⟩
  | ref t x => exact Pers.pers (R := IsRef x) hle h
  | own b e t xs => exact IsOwn.handed h c hf
  | box b t x => obtain ⟨b, e, h⟩ := h; exact ⟨b, e, h.handed c (hf b e)⟩
  | al s => exact h
  | ab s t x u L =>
    obtain ⟨h0, b, e1, e2, h⟩ := h
    exact ⟨h0, b, e1, e2, h.handed c (hm s (Nat.beq_refl s) (.box false t x) rfl ⟨b, e1, h⟩ b e1)⟩
  | ao s e t xs i x u L =>
    exact ⟨h.1, h.2.1, IsOwn.handed h.2.2.1 c (hm s (Nat.beq_refl s) (.own false e t xs) rfl h.2.2.1), h.2.2.2⟩

theorem beq_ne {s t : Nat} (h : s ≠ t) : Nat.beq s t = false := by
  cases hb : Nat.beq s t with
  | true => exact absurd (Nat.eq_of_beq_eq_true hb) h
  | false => rfl
theorem kl_or (d : Nat) (x : AV T) : kl d x = x ∨ kl d x = .top := by
  unfold kl
  split
  · cases Nat.beq _ d <;> simp
  · cases Nat.beq _ d <;> simp
  · exact .inl rfl
theorem klA_or (d : Nat) (x : AV T) : klA d x = x ∨ klA d x = .top := by
  unfold klA
  split
  · cases Nat.beq _ d <;> simp
  · exact kl_or d _
theorem klA_ment {d s : Nat} {x : AV T} (h : (klA d x).ment s = true) : x.ment s = true ∧ s ≠ d := by
  have ne : ∀ s' : Nat, Nat.beq s' d = false → Nat.beq s' s = true → s ≠ d := fun s' h1 h2 e => by
    rw [← e, h2] at h1; simp at h1
  cases x with
  | al s' =>
    simp only [klA] at h
    cases hb : Nat.beq s' d with
    | true => rw [hb] at h; simp [AV.ment] at h
    | false => rw [hb] at h; exact ⟨h, ne _ hb h⟩
  | ab s' t x u L =>
    simp only [klA, kl] at h
    cases hb : Nat.beq s' d with
    | true => rw [hb] at h; simp [AV.ment] at h
    | false => rw [hb] at h; exact ⟨h, ne _ hb h⟩
  | ao s' e t xs i x u L =>
    simp only [klA, kl] at h
    cases hb : Nat.beq s' d with
    | true => rw [hb] at h; simp [AV.ment] at h
    | false => rw [hb] at h; exact ⟨h, ne _ hb h⟩
  | _ => simp [klA, kl, AV.ment] at h
theorem kl_ment {d s : Nat} {x : AV T} (h : (kl d x).ment s = true) : x.ment s = true := by
  rcases kl_or d x with e | e
  · rwa [e] at h
  · rw [e] at h; simp [AV.ment] at h
theorem kl_ment2 {d s : Nat} {x : AV T} (h : (kl d x).ment2 s = true) : x.ment2 s = true ∧ s ≠ d := by
  have ne : ∀ s' : Nat, Nat.beq s' d = false → Nat.beq s' s = true → s ≠ d := fun s' h1 h2 e => by
    rw [← e, h2] at h1; simp at h1
  cases x with
  | ab s' t x u L =>
    simp only [kl] at h
    cases hb : Nat.beq s' d with
    | true => rw [hb] at h; simp [AV.ment2] at h
    | false => rw [hb] at h; exact ⟨h, ne _ hb h⟩
  | ao s' e t xs i x u L =>
    simp only [kl] at h
    cases hb : Nat.beq s' d with
    | true => rw [hb] at h; simp [AV.ment2] at h
    | false => rw [hb] at h; exact ⟨h, ne _ hb h⟩
  | _ => simp [kl, AV.ment2] at h
theorem klA_res {d : Nat} {x : AV T} (h : isRes x = true) : klA d x = x := by
  cases x <;> first | rfl | simp [isRes] at h
theorem kl_res {d : Nat} {x : AV T} (h : isRes x = true) : kl d x = x := by
  cases x <;> first | rfl | simp [isRes] at h
theorem lk_cons (s : Nat) (x : AV T) (e : Env T) (t : Nat) : lk ((s, x) :: e) t = if s = t then x else lk e t := by
  simp only [lk]
  by_cases h : s = t
  · subst h; simp [Nat.beq_refl]
  · rw [beq_ne h]; simp [h]
def mapE (f : AV T → AV T) (e : Env T) : Env T := e.map fun p => (p.1, f p.2)
theorem mapK_eq (f : AV T → AV T) : ∀ (e : Env T) (k : Env T → Option R), mapK f e k = k (mapE f e)
  | [], _ => rfl
  | (t, a) :: e, k => by rw [mapK, mapK_eq f e]; rfl
theorem lk_mapE {f : AV T → AV T} (hf : f .top = .top) : ∀ (e : Env T) (t : Nat), lk (mapE f e) t = f (lk e t)
  | [], t => hf.symm
  | (s, x) :: e, t => by
    show lk ((s, f x) :: mapE f e) t = _
    rw [lk_cons, lk_cons, lk_mapE hf e]
    split <;> rfl

/-- The package-level variables hold what the table says. -/
def GOk (T : Tb) (k : K) : Prop := (∀ g t x, T.gl g = some ⟨t, x⟩ → IsRef (α := T.D t) x (.pointer (some ⟨g, 0, none⟩)) k) ∧ ∀ g, T.gi = some g → ∃ m : Int, IsRef m (.pointer (some ⟨g, 0, none⟩)) k
theorem GOk.le {k k' : K} (h : Le k k') (g : GOk T k) : GOk T k' := ⟨fun i t x e => Pers.pers h (g.1 i t x e), fun i e => (g.2 i e).imp fun _ r => Pers.pers h r⟩
/-- What an environment says. -/
structure Hl (n : Nat) (F : FP) (k0 : K) (W : List Nat) (a0 : Act) (e : Env T) (a : Act) (k : K) : Prop where
  g : Chg F k0 k
  s : a.tmps.size = n
  d : a.defers = []
  old : ∀ t, t ∉ W → a.get t = a0.get t
  sl : ∀ t, (lk e t).is a (a.get t) k
  inv : ∀ t s, (lk e t).ment s = true → isRes (lk e s) = true
  wr : ∀ t, unl (lk e t) = true → Wr F k0 ((lk e t).fp (a.get t))
  ap : ∀ t t', t ≠ t' → Apart ((lk e t).fp (a.get t)) ((lk e t').fp (a.get t'))
  gl : GOk T k

section
variable {n : Nat} {F : FP} {k0 : K} {W : List Nat} {a0 : Act} {e : Env T} {a a' : Act} {k k' : K}

theorem Hl.lt (h : Hl n F k0 W a0 e a k) (t : Nat) : ∀ b, (lk e t).fp (a.get t) b → b < k.w.heap.size ∧ ¬ k.sh b := (lk e t).lt (h.sl t)

/-- what a slot that is mentioned is like -/
theorem Hl.apm (h : Hl n F k0 W a0 e a k) {s s0 : Nat} (hs : isRes (lk e s) = true) (hne : s ≠ s0) {u : AV T} (hu : isRes u = true) (hi : u.is a (a.get s) k) :
    Apart (u.fp (a.get s)) ((lk e s0).fp (a.get s0)) := by
  have hap := h.ap s s0 hne
  have hsl := h.sl s
  have key : ∀ b, u.fp (a.get s) b → (lk e s).fp (a.get s) b := by
    intro b hb
    generalize lk e s = x at hs hsl
    generalize a.get s = v at *
    cases u with
    | own l e' t xs => cases x with
      | own l' e'' t' xs' => exact hb
      | box l' t' x' => obtain ⟨c, rfl, _⟩ := hsl; simp [AV.fp, obF, ob] at hb
      | _ => simp [isRes] at hs
    | box l t y => cases x with
      | own l' e'' t' xs' =>
        obtain ⟨c, rfl, _⟩ := hi
        rcases (show IsOwn 0 e'' xs' _ k from hsl) with ⟨e1, _⟩ | ⟨_, e1, _⟩ | ⟨_, _, _, _, _, e1, _⟩ <;> simp at e1
      | box l' t' x' => exact hb
      | _ => simp [isRes] at hs
    | _ => simp [isRes] at hu
  exact fun b hb => hap b (key b hb)

/-- A new value in a slot. -/
theorem Hl.put (h : Hl n F k0 W a0 e a k) {d : Nat} {av : AV T} (hd : d ∈ W) (hg : Grow k k') (hs : a'.tmps.size = a.tmps.size) (hdf : a'.defers = a.defers)
    (ho : ∀ t, t ≠ d → a'.get t = a.get t) (hv : av.is a' (a'.get d) k') (hm : ∀ s, av.ment s = true → isRes (lk e s) = true)
    (hw : unl av = true → Wr F k0 (av.fp (a'.get d))) (ha : ∀ t, t ≠ d → Apart (av.fp (a'.get d)) ((lk e t).fp (a.get t))) {r : R} {K : Env T → Option R} (hk : Gb.put e d av K = some r) :
    ∃ e', K e' = some r ∧ Hl n F k0 W a0 e' a' k' ∧ lk e' d = av ∧ ∀ t, t ≠ d → lk e' t = lk e t ∨ lk e' t = .top := by
  have fin : (av.ment d = false) → ∀ e1 : Env T, (∀ t, t ≠ d → lk e1 t = lk e t ∨ lk e1 t = .top) → (∀ t s, t ≠ d → (lk e1 t).ment s = true → s ≠ d) → (∀ s, isRes (lk e s) = true → s ≠ d → lk e1 s = lk e s) → Hl n F k0 W a0 ((d, av) :: e1) a' k' ∧ lk ((d, av) :: e1) d = av ∧ ∀ t, t ≠ d → lk ((d, av) :: e1) t = lk e t ∨ lk ((d, av) :: e1) t = .top := by
    intro hmd e1 h1 h2 h3
    have lkt : ∀ t, t ≠ d → lk ((d, av) :: e1) t = lk e1 t := fun t ht => by rw [lk_cons, if_neg (Ne.symm ht)]
    have lkd : lk ((d, av) :: e1) d = av := by rw [lk_cons, if_pos rfl]
    refine ⟨?_, lkd, fun t ht => by rw [lkt t ht]; exact h1 t ht⟩
    refine ⟨h.g.then hg, hs.trans h.s, hdf.trans h.d, fun t ht => ?_, fun t => ?_, fun t s hms => ?_, fun t hu => ?_, fun t t' hne => ?_, h.gl.le hg.le⟩
    · rw [ho t (fun e => ht (e ▸ hd))]; exact h.old t ht
    · by_cases ht : t = d
      · subst ht; rw [lkd]; exact hv
      · rw [lkt t ht, ho t ht]
        rcases h1 t ht with e1' | e1'
        · rw [e1']
          refine (lk e t).congr (fun s hs' => ho s (h2 t s ht (by rw [e1']; exact hs'))) ((lk e t).mono hg (h.sl t))
        · rw [e1']; trivial
    · by_cases ht : t = d
      · subst ht; rw [lkd] at hms
        have h5 := hm s hms
        have h4 : s ≠ t := fun e => by rw [e, hmd] at hms; simp at hms
        rw [lkt s h4, h3 s h5 h4]; exact h5
      · rw [lkt t ht] at hms
        have h4 := h2 t s ht hms
        rcases h1 t ht with e1' | e1'
        · rw [e1'] at hms
          have h5 := h.inv t s hms
          rw [lkt s h4, h3 s h5 h4]; exact h5
        · rw [e1'] at hms; simp [AV.ment] at hms
    · by_cases ht : t = d
      · subst ht; rw [lkd] at hu ⊢; exact hw hu
      · rw [lkt t ht] at hu ⊢
        rw [ho t ht]
        rcases h1 t ht with e1' | e1'
        · rw [e1'] at hu ⊢; exact h.wr t hu
        · rw [e1'] at hu; simp [unl] at hu
    · have sub : ∀ t, t ≠ d → ∀ b, (lk ((d, av) :: e1) t).fp (a'.get t) b → (lk e t).fp (a.get t) b := by
        intro t ht b hb
        rw [lkt t ht, ho t ht] at hb
        rcases h1 t ht with e1' | e1'
        · rw [e1'] at hb; exact hb
        · rw [e1'] at hb; exact hb.elim
      by_cases ht : t = d
      · subst ht
        rw [lkd]
        exact fun b hb hb' => ha t' (Ne.symm hne) b hb (sub t' (Ne.symm hne) b hb')
      · by_cases ht' : t' = d
        · subst ht'
          rw [lkd]
          exact fun b hb hb' => ha t ht b hb' (sub t ht b hb)
        · exact fun b hb hb' => h.ap t t' hne b (sub t ht b hb) (sub t' ht' b hb')
  unfold Gb.put at hk
  cases hmd : av.ment d with
  | true => rw [hmd] at hk; simp at hk
  | false =>
  rw [hmd] at hk
  simp only [cond_false] at hk
  cases hr : isRes (lk e d) with
  | true =>
    rw [hr] at hk
    simp only [cond_true] at hk
    rw [mapK_eq] at hk
    have hl : ∀ t, lk (mapE (klA d) e) t = klA d (lk e t) := fun t => lk_mapE rfl e t
    refine ⟨_, hk, fin hmd _ (fun t _ => ?_) (fun t s _ hms => ?_) (fun s hsr _ => ?_)⟩
    · rw [hl]; exact klA_or d _
    · rw [hl] at hms
      exact (klA_ment hms).2
    · rw [hl]; exact klA_res hsr
  | false =>
    rw [hr] at hk
    simp only [cond_false] at hk
    refine ⟨_, hk, fin hmd e (fun t _ => .inl rfl) (fun t s _ hms => ?_) (fun s _ _ => rfl)⟩
    intro e'; subst e'
    have := h.inv t s hms
    rw [hr] at this; simp at this
end
end Go.Gb

/- General part of the proofs: each operation that writes to nothing does what the evaluator says. -/
namespace Go.Gb
variable {T : Tb} {R : Type}

/-! types and parts -/
theorem tyB_sz {P : Program} {t : TypeId} {u : Tp} (h : tyB P T t u = true) : (P.info? t).map (·.size) = some (T.e u).sz := by
  unfold tyB at h
  rw [Bool.and_eq_true] at h
  have h := h.2
  cases hi : P.info? t with
  | none => rw [hi] at h; simp at h
  | some i => rw [hi] at h; simpa using h
theorem tyB_ok {P : Program} {t : TypeId} {u : Tp} (h : tyB P T t u = true) : Ty P t (T.D u) := by
  refine ⟨?_, tyB_sz h⟩
  unfold tyB at h
  rw [Bool.and_eq_true] at h
  have h := h.1
  cases hi : P.underlying t with
  | none => rw [hi] at h; simp at h
  | some d => rw [hi] at h; exact ⟨d, rfl, by simpa using h⟩
theorem slOf_ok {P : Program} {t e : TypeId} (h : slOf P t = some e) : P.underlying t = some (.slice e) := by
  unfold slOf at h
  split at h
  · rename_i h'; rw [h', Option.some.inj h]
  · simp at h
theorem elB_ok {P : Program} {e : TypeId} {u : Tp} (h : elB P T e u = true) : ElemOk P e (T.D u) := by
  unfold elB at h
  cases hi : P.info? e with
  | none => rw [hi] at h; simp at h
  | some i =>
    rw [hi] at h
    simp only [Bool.and_eq_true] at h
    obtain ⟨⟨⟨h1, h2⟩, h3⟩, h4⟩ := h
    cases hz : i.zero with
    | none => rw [hz] at h1; simp at h1
    | some z =>
      rw [hz] at h1
      exact ⟨i, z, hi, hz, by simpa [szT] using h2, by simpa [szT] using h1, Nat.lt_of_lt_of_le Nat.zero_lt_one (by simpa [szT] using Nat.le_of_ble_eq_true h3), Nat.le_of_ble_eq_true h4⟩
theorem fldOff_ok {P : Program} {s f off : Nat} (h : fldOff P s f = some off) : FieldOk P s f off := by
  unfold fldOff at h
  split at h
  · rename_i fs hu
    split at h
    · rename_i d hd
      split at h
      · rename_i i hi
        split at h
        · simp at h
        · rename_i m hm
          exact ⟨fs, d, m, hu, hd, Option.some.inj h, by rw [hi]; simp [hm]⟩
      · simp at h
    · simp at h
  · simp at h

theorem hlens_ok : ∀ {l : List Tp} {i : Nat} {u : Tp} {L : HLens T l u}, hlens l i = some ⟨u, L⟩ →
    (∀ (x : HL T.S l) (ad : Addr) (k : K), At x ad k → At (L.get x) (ad.add L.off) k) ∧ Upd L.off L.set ∧ L.off + (T.e u).sz ≤ (T.h l).sz
  | [], _, _, _, h => by simp [hlens] at h
  | [a], 0, u, L, h => by
    simp only [hlens, Option.some.injEq, Sigma.mk.injEq] at h
    obtain ⟨rfl, h⟩ := h
    have h := eq_of_heq h
    subst h
    exact ⟨fun x ad k hx => At.zero hx, Upd.self, Nat.le_of_eq (Nat.zero_add _)⟩
  | [a], _ + 1, _, _, h => by simp [hlens] at h
  | a :: b :: l, 0, u, L, h => by
    simp only [hlens, Option.some.injEq, Sigma.mk.injEq] at h
    obtain ⟨rfl, h⟩ := h
    have h := eq_of_heq h
    subst h
    exact ⟨fun x ad k hx => At.zero (At.fst hx), Upd.fst Upd.self, by show 0 + (T.e a).sz ≤ (T.e a).sz + (T.h (b :: l)).sz; omega⟩
  | a :: b :: l, i + 1, u, L, h => by
    simp only [hlens] at h
    split at h
    · rename_i u' L' hl
      obtain ⟨h1, h2, h3⟩ := hlens_ok hl
      simp only [Option.some.injEq, Sigma.mk.injEq] at h
      obtain ⟨rfl, h⟩ := h
      have h := eq_of_heq h
      subst h
      refine ⟨fun x ad k hx => ?_, Upd.snd h2, by show (T.e a).sz + L'.off + (T.e u').sz ≤ (T.e a).sz + (T.h (b :: l)).sz; omega⟩
      have := h1 _ _ _ (At.snd hx)
      rw [add_add] at this
      exact this
    · simp at h
theorem at_st {n : Nat} {x : T.S n} {ad : Addr} {k : K} : @At (T.D (.st n)) (T.e (.st n)) x ad k ↔ At (T.to n x) ad k := by
  show @At (T.S n) (T.enc n) x ad k ↔ _
  rw [T.enc_eq n]; exact Iff.rfl
theorem rep_st {n : Nat} {x : T.S n} {k : K} {cs : List Value} : @Enc.rep (T.D (.st n)) (T.e (.st n)) k cs x ↔ Enc.rep k cs (T.to n x) := by
  show @Enc.rep (T.S n) (T.enc n) k cs x ↔ _
  rw [T.enc_eq n]; exact Iff.rfl
theorem sz_st {n : Nat} : (T.e (.st n)).sz = (T.h (T.fs n)).sz := by
  show (T.enc n).sz = _
  rw [T.enc_eq n]; rfl
theorem agg_st {n : Nat} : (T.e (.st n)).agg = true := by
  show (T.enc n).agg = _
  rw [T.enc_eq n]; rfl
theorem intsH_rep {k : K} : ∀ {l : List Tp} {x : HL T.S l} {xs : List Int} {cs : List Value}, intsH l x = some xs → Enc.rep k cs x → cs = xs.map (Value.int .i64)
  | [], x, xs, cs, h, hr => by
    simp only [intsH, Option.some.injEq] at h
    subst h; exact hr
  | [.int], x, xs, cs, h, hr => by
    simp only [intsH, Option.some.injEq] at h
    subst h; exact hr
  | .int :: b :: l, x, xs, cs, h, hr => by
    simp only [intsH] at h
    split at h
    · rename_i r h1
      obtain rfl := Option.some.inj h
      obtain ⟨_, h2, h3⟩ := hr
      have e1 : cs.take 1 = [Value.int .i64 x.1] := h2
      have e2 : cs.drop 1 = r.map (Value.int .i64) := intsH_rep h1 h3
      rw [List.map_cons, ← e2, ← List.singleton_append, ← e1, List.take_append_drop]
    · simp at h
  | [.bool], _, _, _, h, _ => by simp [intsH] at h
  | [.str], _, _, _, h, _ => by simp [intsH] at h
  | [.ik _], _, _, _, h, _ => by simp [intsH] at h
  | [.list _], _, _, _, h, _ => by simp [intsH] at h
  | [.st _], _, _, _, h, _ => by simp [intsH] at h
  | [.op], _, _, _, h, _ => by simp [intsH] at h
  | .bool :: _ :: _, _, _, _, h, _ => by simp [intsH] at h
  | .str :: _ :: _, _, _, _, h, _ => by simp [intsH] at h
  | .ik _ :: _ :: _, _, _, _, h, _ => by simp [intsH] at h
  | .list _ :: _ :: _, _, _, _, h, _ => by simp [intsH] at h
  | .st _ :: _ :: _, _, _, _, h, _ => by simp [intsH] at h
  | .op :: _ :: _, _, _, _, h, _ => by simp [intsH] at h
theorem flens_ok {n i : Nat} {u : Tp} {L : Lens T (.st n) u} (h : flens n i = some ⟨u, L⟩) : L.ok := by
  unfold flens at h
  split at h
  · rename_i u' L' hl
    obtain ⟨h1, h2, h5⟩ := hlens_ok hl
    simp only [Option.some.injEq, Sigma.mk.injEq] at h
    obtain ⟨rfl, h⟩ := h
    have h := eq_of_heq h
    subst h
    refine ⟨fun x ad k hx => h1 _ _ _ (at_st.1 hx), fun k cs cy x y hx hy => ?_, by rw [sz_st]; exact h5⟩
    obtain ⟨h3, h4⟩ := h2 k cs cy _ y (rep_st.1 hx) hy
    refine ⟨by rw [sz_st]; exact h3, rep_st.2 ?_⟩
    rw [T.to_of]; exact h4
  · simp at h
theorem Lens.id_ok {t : Tp} : (Lens.id (T := T) t).ok := ⟨fun x ad k hx => At.zero hx, Upd.self, Nat.le_of_eq (Nat.zero_add _)⟩
theorem Upd.comp {α β γ : Type} [Enc α] [Enc β] [Enc γ] {o p : Nat} {g : α → β} {s : α → β → α} {r : β → γ → β} (h : Upd o s) (hg : ∀ (k : K) (cs : List Value) (x : α), Enc.rep k cs x → Enc.rep k ((cs.drop o).take (Enc.sz β)) (g x))
    (h' : Upd p r) : Upd (α := α) (β := γ) (o + p) (fun x y => s x (r (g x) y)) := by
  intro k cs cy x y hx hy
  have hg := hg k cs x hx
  obtain ⟨h1, h2⟩ := h' k _ cy _ y hg hy
  obtain ⟨h3, h4⟩ := h k cs _ x _ hx h2
  have l1 := Enc.len hx
  have l2 := Enc.len hy
  have l3 := Enc.len h2
  refine ⟨by omega, ?_⟩
  have e : cs.take (o + p) ++ cy ++ cs.drop (o + p + cy.length) = cs.take o ++ (((cs.drop o).take (Enc.sz β)).take p ++ cy ++ ((cs.drop o).take (Enc.sz β)).drop (p + cy.length)) ++ cs.drop (o + (((cs.drop o).take (Enc.sz β)).take p ++ cy ++ ((cs.drop o).take (Enc.sz β)).drop (p + cy.length)).length) := by
    rw [l3, List.take_take, Nat.min_eq_left (by omega), List.take_add]
    simp only [List.append_assoc]
    congr 3
    rw [List.drop_take, List.drop_drop]
    have e2 : cs.drop (o + Enc.sz β) = (cs.drop (o + p + cy.length)).drop (Enc.sz β - (p + cy.length)) := by
      rw [List.drop_drop]; congr 1; omega
    rw [e2, show o + (p + cy.length) = o + p + cy.length by omega, List.take_append_drop]
  rw [e]; exact h4
theorem lens_rep {α β : Type} [Enc α] [Enc β] {o : Nat} {g : α → β} (hsz : ∀ (k : K) (cs : List Value) (x : α), Enc.rep k cs x → o + Enc.sz β ≤ Enc.sz α) (h : ∀ (x : α) (ad : Addr) (k : K), At x ad k → At (g x) (ad.add o) k)
    (k : K) (cs : List Value) (x : α) (hx : Enc.rep k cs x) : Enc.rep k ((cs.drop o).take (Enc.sz β)) (g x) := by
  let w' : World := { k.w with heap := k.w.heap.push (.cells cs.toArray 0 (0, 0)) }
  have hlt : ∀ b, k.sh b → b < w'.heap.size := fun b hb => by have := k.lt b hb; simp [w']; omega
  let k' : K := ⟨w', k.sh, hlt⟩
  have hle : Le k k' := ⟨fun b hb => by simp [k', w', Array.getElem?_push, Nat.ne_of_lt (k.lt b hb)], fun _ h => h⟩
  have hat : At x ⟨k.w.heap.size, 0, none⟩ k' := ⟨cs, Enc.mono hle hx, rfl, cs.toArray, 0, (0, 0), by simp [k', w'], by simp, fun j hj => by simp⟩
  obtain ⟨ds, hr, hc⟩ := h _ _ _ hat
  obtain ⟨_, arr, t, fr, hh, hsz', hj⟩ := hc
  have l := Enc.len hr
  have lx := Enc.len hx
  have hs := hsz k cs x hx
  have ea : (Addr.add ⟨k.w.heap.size, 0, none⟩ o).block = k.w.heap.size ∧ (Addr.add ⟨k.w.heap.size, 0, none⟩ o).off = o := by
    unfold Addr.add; split <;> simp_all
  rw [ea.1] at hh
  simp only [k', w', Array.getElem?_push, if_true, Option.some.injEq, Obj.cells.injEq] at hh
  obtain ⟨rfl, _⟩ := hh
  have ed : ds = (cs.drop o).take (Enc.sz β) := by
    refine List.ext_getElem? fun j => ?_
    by_cases hjl : j < ds.length
    · have := hj j hjl
      rw [ea.2] at this
      rw [List.getElem?_take, if_pos (by omega), List.getElem?_drop, ← this]
      simp
    · rw [List.getElem?_eq_none (by omega), List.getElem?_eq_none (by simp; omega)]
  rw [← ed]
  refine Enc.mono (k := k') (k' := k) ⟨fun b hb => ?_, fun _ h => h⟩ hr
  have := k.lt b hb
  simp [k', w', Array.getElem?_push, Nat.ne_of_lt this]
theorem Lens.comp_ok {t u w : Tp} {L : Lens T t u} {M : Lens T u w} (h : L.ok) (g : M.ok) : (L.comp M).ok := by
  have hs := h.2.2; have hs' := g.2.2
  refine ⟨fun x ad k hx => ?_, Upd.comp h.2.1 (fun k cs x hx => lens_rep (fun _ _ _ _ => hs) h.1 k cs x hx) g.2.1, by show L.off + M.off + _ ≤ _; omega⟩
  have := g.1 _ _ _ (h.1 _ _ _ hx)
  rw [add_add] at this; exact this
end Go.Gb


