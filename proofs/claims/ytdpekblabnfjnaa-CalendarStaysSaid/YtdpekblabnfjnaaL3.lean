/- The general part of the proofs (no program in sight), part 3: worlds with shared blocks, regions, operations, calls, loops, what comes in as data. -/
import Derived.Test.YtdpekblabnfjnaaL2
/- General part of the proofs: regions in which moves stand behind operations that write: they may run first. -/
namespace Go.Gb

/-- Only the way out at the end. -/
def QN (Q : Exit → Act → World → Prop) : Exit → Act → World → Prop := fun e a w => match e with
  | .normal => Q .normal a w
  | _ => False

def isMv (A : Array Oper) (l : Nat) : Bool := match A[l]? with
  | some o => (match o.op with | .move (.tmp _) => true | .assign (.tmp _) => true | _ => false) && o.guard.isNone && o.after.isEmpty && o.dst.isSome
  | none => false
/-- Where a move goes, and where it comes from. -/
def mvOf (A : Array Oper) (l : Nat) : Nat × Nat := match A[l]? with
  | some o => (o.dst.getD 0, match o.op with | .move (.tmp s) => s | .assign (.tmp s) => s | _ => 0)
  | none => (0, 0)
def lateAct (A : Array Oper) : List Nat → Act → Act
  | [], a => a
  | l :: r, a => lateAct A r (a.put (some (mvOf A l).1) (a.get (mvOf A l).2))
def listL : Array Bool → List Nat → Array Bool
  | b, [] => b
  | b, l :: r => listL (b.setIfInBounds l true) r
def chkLate (A : Array Oper) : Array Bool → List Nat → Bool
  | _, [] => true
  | b, l :: r => isMv A l && Region.free .any A b l && (Region.ready .any A b).contains l && chkLate A (b.setIfInBounds l true) r
/-- An operation that looks at no world. -/
def isPure (A : Array Oper) (l : Nat) : Bool := match A[l]? with
  | some o => (match o.op with | .move (.tmp _) => true | .assign (.tmp _) => true | .extract (.tmp _) _ => true | _ => false) && o.guard.isNone
  | none => false
def chkT (A : Array Oper) : Array Bool → List Nat → Bool
  | b, [] => Region.ready .any A b == []
  | b, i :: r => (Region.ready .any A b == [i] || (isPure A i && Region.free .any A b i && (Region.ready .any A b).contains i)) && chkT A (b.setIfInBounds i true) r
def fullL (A : Array Oper) (m : Nat) (late : List Nat) : Array Bool := (Array.range A.size).map fun j => decide (j < m) || late.contains j

def chkL (n m : Nat) (late ord : List Nat) (A : Array Oper) (es : List Ent) : Bool :=
  chkS n m A.toList es && Region.noSelect A && chkLate A (Array.replicate A.size false) late && late.all (fun l => decide (m ≤ l) && decide (l < A.size)) &&
  allI (fun j _ => decide (j < m) || late.contains j || (List.range m).all fun i => hasBit (masks A.toList []) j i) 0 A.toList &&
  chkT A (fullL A m late) ord && ((fullL A m late).toList.filter (· = false)).length == ord.length && decide late.Nodup &&
  late.all (fun l => late.all fun l' => (mvOf A l).2 != (mvOf A l').1 && (l == l' || (mvOf A l).1 != (mvOf A l').1)) && late.all fun l => decide ((mvOf A l).1 < n)

section
variable {P : Program} {A : Array Oper} {Q : Exit → Act → World → Prop}
theorem isMv_spec {l : Nat} (h : isMv A l = true) : ∃ o, A[l]? = some o ∧ o.guard = none ∧ o.after = #[] ∧ o.dst = some (mvOf A l).1 ∧ ∀ a : Act, ∀ w, (execOp a.eval o).run P w = .ok (.value (a.get (mvOf A l).2)) w := by
  unfold isMv at h
  cases hA : A[l]? with
  | none => rw [hA] at h; simp at h
  | some o =>
    rw [hA] at h
    simp only [Bool.and_eq_true, Option.isNone_iff_eq_none, Array.isEmpty_iff] at h
    obtain ⟨⟨⟨h1, h2⟩, h3⟩, h4⟩ := h
    obtain ⟨d, hd⟩ := Option.isSome_iff_exists.1 h4
    refine ⟨o, rfl, h2, h3, by simp [mvOf, hA, hd], fun a w => ?_⟩
    cases hop : o.op with
    | move x =>
      cases x with
      | tmp s => simp [execOp, hop, mvOf, hA, Act.eval, Act.get]
      | _ => rw [hop] at h1; simp at h1
    | assign x =>
      cases x with
      | tmp s => simp [execOp, hop, mvOf, hA, Act.eval, Act.get]
      | _ => rw [hop] at h1; simp at h1
    | _ => rw [hop] at h1; simp at h1

theorem take_late (hs : Region.noSelect A = true) (hQ : ∀ c a w, ¬ Q (.panic c) a w) : ∀ (late : List Nat) (listed : Array Bool) (a : Act) (w : World) (fuel : Nat), chkLate A listed late = true →
    wpAny P .any A Q fuel (listL listed late) (lateAct A late a) w → wpAny P .any A Q (fuel + late.length) listed a w
  | [], _, _, _, _, _, h => h
  | l :: r, listed, a, w, fuel, hc, h => by
    simp only [chkLate, Bool.and_eq_true] at hc
    obtain ⟨⟨⟨h1, h2⟩, h3⟩, h4⟩ := hc
    obtain ⟨o, ho, hg, _, hd, hv⟩ := isMv_spec (P := P) h1
    have ih := take_late hs hQ r (listed.setIfInBounds l true) (a.put (some (mvOf A l).1) (a.get (mvOf A l).2)) w fuel h4 h
    rw [← hd] at ih
    exact wpAny_take ho hs h2 h3 (fun c a w hq => absurd hq (hQ c _ w)) (.inl ⟨by unfold Region.wanted; rw [hg], hv a⟩) ih

theorem isPure_spec {l : Nat} (h : isPure A l = true) : ∃ o, A[l]? = some o ∧ o.guard = none ∧ ∀ a : Act, (∃ v, ∀ w, (execOp a.eval o).run P w = .ok (.value v) w) ∨ (∀ w, ∃ x w', (execOp a.eval o).run P w = .halt x w' ∧ ∀ c, x ≠ .panic c) := by
  unfold isPure at h
  cases hA : A[l]? with
  | none => rw [hA] at h; simp at h
  | some o =>
    rw [hA] at h
    simp only [Bool.and_eq_true, Option.isNone_iff_eq_none] at h
    obtain ⟨h1, h2⟩ := h
    refine ⟨o, rfl, h2, fun a => ?_⟩
    cases hop : o.op with
    | move x => exact .inl ⟨a.eval x, fun w => by simp [execOp, hop]⟩
    | assign x => exact .inl ⟨a.eval x, fun w => by simp [execOp, hop]⟩
    | extract x ix =>
      cases hv : a.eval x with
      | tuple vs =>
        cases hx : vs[ix]? with
        | some y => exact .inl ⟨y, fun w => by simp [execOp, hop, hv, Instr.extract, hx]⟩
        | none => exact .inr fun w => by simp [execOp, hop, hv, Instr.extract, hx]
      | _ => exact .inr fun w => by simp [execOp, hop, hv, Instr.extract]
    | _ => rw [hop] at h1; simp at h1

theorem tail_ord (hs : Region.noSelect A = true) (hQ : ∀ c a w, ¬ Q (.panic c) a w) (hO : ∀ a w, ¬ Q .outgrown a w) : ∀ (ord : List Nat) (listed : Array Bool) (a : Act) (w : World), chkT A listed ord = true → wpOps P A Q ord a w → wpAny P .any A Q ord.length listed a w
  | [], listed, a, w, hc, h => by
    simp only [chkT, beq_iff_eq] at hc
    exact ⟨hc, by simpa [wpOps] using h⟩
  | i :: r, listed, a, w, hc, h => by
    simp only [chkT, Bool.and_eq_true, Bool.or_eq_true, beq_iff_eq] at hc
    obtain ⟨hc | hc, hr⟩ := hc
    · refine ⟨fun hn => (by rw [hc] at hn; simp at hn), fun j hj => ?_⟩
      rw [hc, List.mem_singleton] at hj
      subst hj
      rw [wpOps_cons] at h
      exact wpOp_mono (fun a' w' h' => tail_ord hs hQ hO r _ a' w' hr h') h
    · obtain ⟨⟨h1, h2⟩, h3⟩ := hc
      obtain ⟨o, ho, hg, hp⟩ := isPure_spec (P := P) h1
      have hw : ∀ a : Act, Region.wanted o (yielded A a.tmps) = true := fun a => by unfold Region.wanted; rw [hg]
      rw [wpOps_cons] at h
      unfold wpOp at h
      rw [ho] at h
      simp only [hw, if_true] at h
      have h := h.resolve_right fun hx => by obtain ⟨_, b, w', hb⟩ := hx; exact hO b w' hb
      unfold Oper.wp at h
      rcases hp a with ⟨v, hv⟩ | hx
      · rw [hv w] at h
        exact wpAny_take ho hs h2 h3 (fun c a w hq => absurd hq (hQ c _ w)) (.inl ⟨hw a, hv⟩) (tail_ord hs hQ hO r _ _ w hr h)
      · obtain ⟨x, w', hr', hnp⟩ := hx w
        rw [hr'] at h
        cases x <;> simp only [Oper.upon] at h
        · exact absurd rfl (hnp _)
theorem lateAct_size : ∀ (late : List Nat) (a : Act), (lateAct A late a).tmps.size = a.tmps.size
  | [], _ => rfl
  | l :: r, a => by rw [lateAct, lateAct_size r, put_size]
theorem lateAct_defers : ∀ (late : List Nat) (a : Act), (lateAct A late a).defers = a.defers
  | [], _ => rfl
  | l :: r, a => by rw [lateAct, lateAct_defers r, put_defers']
theorem lateAct_old {t n : Nat} : ∀ (late : List Nat) (a : Act), a.tmps.size = n → (∀ l ∈ late, (mvOf A l).1 < n) → (∀ l ∈ late, (mvOf A l).1 ≠ t) → (lateAct A late a).get t = a.get t
  | [], _, _, _, _ => rfl
  | l :: r, a, hn, h1, h2 => by
    rw [lateAct, lateAct_old (n := n) r _ (by rw [put_size]; exact hn) (fun l' hl => h1 l' (List.mem_cons_of_mem _ hl)) (fun l' hl => h2 l' (List.mem_cons_of_mem _ hl)), get_put _ _ _ _ (by rw [hn]; exact h1 l List.mem_cons_self), if_neg (h2 l List.mem_cons_self)]
theorem lateAct_new {n : Nat} : ∀ (late : List Nat) (a : Act), a.tmps.size = n → (∀ l ∈ late, (mvOf A l).1 < n) → late.Nodup →
    (∀ l ∈ late, ∀ l' ∈ late, (mvOf A l).2 ≠ (mvOf A l').1 ∧ (l = l' ∨ (mvOf A l).1 ≠ (mvOf A l').1)) → ∀ l ∈ late, (lateAct A late a).get (mvOf A l).1 = a.get (mvOf A l).2
  | [], _, _, _, _, _, l, hl => nomatch hl
  | x :: r, a, hn, h1, hnd, h2, l, hl => by
    obtain ⟨hx, hnd'⟩ := List.nodup_cons.1 hnd
    have hxn := h1 x List.mem_cons_self
    rw [lateAct]
    rcases List.mem_cons.1 hl with rfl | hlr
    · rw [lateAct_old (n := n) r _ (by rw [put_size]; exact hn) (fun l' hl => h1 l' (List.mem_cons_of_mem _ hl)) (fun l' hl' => ?_), get_put _ _ _ _ (by rw [hn]; exact hxn), if_pos rfl]
      rcases (h2 l List.mem_cons_self l' (List.mem_cons_of_mem _ hl')).2 with e | e
      · subst e; exact absurd hl' hx
      · exact fun e' => e e'.symm
    · rw [lateAct_new (n := n) r _ (by rw [put_size]; exact hn) (fun l' hl => h1 l' (List.mem_cons_of_mem _ hl)) hnd' (fun l1 hl1 l2 hl2 => h2 l1 (List.mem_cons_of_mem _ hl1) l2 (List.mem_cons_of_mem _ hl2)) l hlr,
        get_put _ _ _ _ (by rw [hn]; exact hxn), if_neg fun e => (h2 l hl x List.mem_cons_self).1 e.symm]
theorem listL_size : ∀ (late : List Nat) (b : Array Bool), (listL b late).size = b.size
  | [], _ => rfl
  | l :: r, b => by rw [listL, listL_size r]; simp
theorem listL_get : ∀ (late : List Nat) (b : Array Bool) (j : Nat), (∀ l ∈ late, l < b.size) → ((listL b late).getD j false = true ↔ b.getD j false = true ∨ j ∈ late)
  | [], b, j, _ => by simp [listL]
  | l :: r, b, j, h => by
    rw [listL, listL_get r _ j (fun x hx => by simpa using h x (List.mem_cons_of_mem _ hx))]
    have hl := h l List.mem_cons_self
    by_cases e : j = l
    · subst e; simp [Array.getD_eq_getD_getElem?, hl]
    · rw [getD_set_ne _ (fun e' => e e'.symm)]; simp [e]
end

section
variable {P : Program} {a0 : Act} {k0 : K} {es : List Ent}
theorem known_base {a0' a : Act} {k : K} : ∀ (need : List (Nat × Option Nat)), (∀ t, (t, none) ∈ need → a0'.get t = a0.get t) → Known es a0' a k need → Known es a0 a k need
  | [], _, _ => trivial
  | (t, some j) :: xs, h, hk => ⟨hk.1, known_base xs (fun t ht => h t (List.mem_cons_of_mem _ ht)) hk.2⟩
  | (t, none) :: xs, h, hk => ⟨hk.1.trans (h t List.mem_cons_self), known_base xs (fun t ht => h t (List.mem_cons_of_mem _ ht)) hk.2⟩
theorem ob_base {a0' : Act} {o : Oper} {e : Ent} (h : ∀ t, (t, none) ∈ e.need → a0'.get t = a0.get t) (ho : Ob P es a0 k0 o e) : Ob P es a0' k0 o e := by
  unfold Ob at *
  cases hR : e.R with
  | none => rw [hR] at ho; exact ho
  | some R =>
    rw [hR] at ho
    refine ⟨ho.1, ho.2.imp (fun g => ⟨fun a k hg hk => g.1 a k hg (known_base _ h hk), g.2⟩) ?_⟩
    rintro ⟨j, w, Rj, nd, h1, h2, h3, h4⟩
    exact ⟨j, w, Rj, nd, h1, h2, fun a k v hg hk => h3 a k v hg (known_base _ h hk), h4⟩
theorem steps_base {a0' : Act} : ∀ {os : List Oper} {es' : List Ent}, (∀ i o e, nth os i = some o → nth es' i = some e → ∀ t, (t, none) ∈ e.need → a0'.get t = a0.get t) → Steps P es a0 k0 os es' → Steps P es a0' k0 os es'
  | [], _, _, _ => trivial
  | _ :: _, [], _, _ => trivial
  | o :: os, e :: es', h, hs => ⟨ob_base (h 0 o e rfl rfl) hs.1, steps_base (fun i o e ho he => h (i + 1) o e ho he) hs.2⟩

theorem any_late {A : Array Oper} {n m : Nat} {late ord : List Nat} {Q : Exit → Act → World → Prop} (hn : a0.tmps.size = n) (hchk : chkL n m late ord A es = true)
    (hst : Steps P es a0 k0 (A.toList.take m) es) (hQ : LetsOut Q) (hQp : ∀ c a w, ¬ Q (.panic c) a w) (hQo : ∀ a w, ¬ Q .outgrown a w)
    (hpost : ∀ a k, Inv A.toList es a0 k0 (· < m) a k → wpOps P A Q ord a k.w) :
    ∀ (fuel : Nat) (listed : Array Bool) (a : Act) (k : K), listed.size = A.size → fuel = (listed.toList.filter (· = false)).length →
      (∀ l ∈ late, listed.getD l false = true) → (∀ j, listed.getD j false = true → j < m ∨ j ∈ late) → Inv A.toList es a0 k0 (fun j => listed.getD j false = true ∧ j < m) a k → wpAny P .any A Q fuel listed a k.w := by
  have hchk' := hchk
  simp only [chkL, Bool.and_eq_true, beq_iff_eq, decide_eq_true_eq] at hchk'
  obtain ⟨⟨⟨⟨⟨⟨⟨⟨⟨hS, hnos⟩, hlate⟩, hlm⟩, htail⟩, hT⟩, hcnt⟩, hnd⟩, hsrc⟩, hdst⟩ := hchk'
  have hS' := hS
  simp only [chkS, Bool.and_eq_true, beq_iff_eq, decide_eq_true_eq] at hS'
  obtain ⟨⟨⟨⟨hlen, hml⟩, h2⟩, hedge⟩, hdist⟩ := hS'
  have hmA : m ≤ A.size := by simpa using hml
  have hlm' : ∀ l ∈ late, m ≤ l ∧ l < A.size := fun l hl => by
    have := List.all_eq_true.1 hlm l hl
    simpa using this
  have hmv : ∀ l ∈ late, ∃ o, A[l]? = some o ∧ o.after = #[] := by
    have : ∀ (r : List Nat) (b : Array Bool), chkLate A b r = true → ∀ l ∈ r, isMv A l = true := by
      intro r
      induction r with
      | nil => intro b _ l hl; simp at hl
      | cons x r ih =>
        intro b hb l hl
        simp only [chkLate, Bool.and_eq_true] at hb
        rcases List.mem_cons.1 hl with rfl | hl
        · exact hb.1.1.1
        · exact ih _ hb.2 l hl
    intro l hl
    obtain ⟨o, ho, _, ha, _⟩ := isMv_spec (P := P) (this late _ hlate l hl)
    exact ⟨o, ho, ha⟩
  intro fuel
  induction fuel with
  | zero =>
    intro listed a k hls hf hL hDm hinv
    have hall : ∀ j, j < A.size → listed.getD j false = true := by
      intro j hj
      have hz := List.eq_nil_of_length_eq_zero hf.symm
      have : listed[j]'(by omega) ∉ listed.toList.filter (· = false) := by rw [hz]; simp
      simp only [List.mem_filter, Array.mem_toList_iff, Array.getElem_mem, true_and, decide_eq_true_eq, Bool.not_eq_false] at this
      simp [Array.getD_eq_getD_getElem?, Array.getElem?_eq_getElem (show j < listed.size by omega), this]
    have hfl : listed = fullL A m late := by
      refine Array.ext (by simp [fullL, hls]) fun j h1 h2 => ?_
      have h3 := hall j (by omega)
      have h4 := hDm j h3
      have h5 : listed[j] = true := by simpa [Array.getD_eq_getD_getElem?, Array.getElem?_eq_getElem h1] using h3
      rw [h5]
      simp only [fullL, Array.getElem_map, Array.getElem_range]
      simpa using h4
    have hinv' : Inv A.toList es a0 k0 (· < m) a k := by
      have he : (fun j => listed.getD j false = true ∧ j < m) = (· < m) := funext fun j => propext ⟨fun h => h.2, fun h => ⟨hall j (by omega), h⟩⟩
      rw [he] at hinv; exact hinv
    have h0 : ord.length = 0 := by rw [← hcnt, ← hfl]; exact hf.symm
    have := tail_ord hnos hQp hQo ord listed a k.w (by rw [hfl]; exact hT) (hpost a k hinv')
    rw [h0] at this
    exact this
  | succ fuel ih =>
    intro listed a k hls hf hL hDm hinv
    by_cases hfull : ∀ j, j < m → listed.getD j false = true
    · have hfl : listed = fullL A m late := by
        refine Array.ext (by simp [fullL, hls]) fun j h1 h2 => ?_
        have hg : listed.getD j false = listed[j] := by simp [Array.getD_eq_getD_getElem?, Array.getElem?_eq_getElem h1]
        have e : (fullL A m late)[j] = (decide (j < m) || late.contains j) := by simp [fullL]
        rw [e, ← hg, Bool.eq_iff_iff]
        simp only [Bool.or_eq_true, decide_eq_true_eq, List.contains_iff_mem]
        exact ⟨hDm j, fun h => h.elim (hfull j) (hL j)⟩
      have hinv' : Inv A.toList es a0 k0 (· < m) a k := by
        have he : (fun j => listed.getD j false = true ∧ j < m) = (· < m) := funext fun j => propext ⟨fun h => h.2, fun h => ⟨hfull j h, h⟩⟩
        rw [he] at hinv; exact hinv
      have h0 : ord.length = fuel + 1 := by rw [← hcnt, ← hfl]; exact hf.symm
      have := tail_ord hnos hQp hQo ord listed a k.w (by rw [hfl]; exact hT) (hpost a k hinv')
      rw [h0] at this
      exact this
    · have hex : ∃ j, j < m ∧ listed.getD j false = false ∧ ∀ i, i < j → listed.getD i false = true := by
        obtain ⟨j, hj⟩ := Classical.not_forall.1 hfull
        have hj : j < m ∧ listed.getD j false = false := by
          by_cases h : j < m
          · exact ⟨h, by cases hb : listed.getD j false with | false => rfl | true => exact absurd (fun _ => hb) hj⟩
          · exact absurd (fun h' => absurd h' h) hj
        clear hfull
        induction j using Nat.strongRecOn with
        | _ j ihj =>
          by_cases hall : ∀ i, i < j → listed.getD i false = true
          · exact ⟨j, hj.1, hj.2, hall⟩
          · obtain ⟨i, hi⟩ := Classical.not_forall.1 hall
            obtain ⟨hij, hib⟩ : i < j ∧ ¬ listed.getD i false = true := ⟨Classical.byContradiction fun h => hi fun h' => absurd h' h, fun h => hi fun _ => h⟩
            exact ihj i hij (fun h => absurd (h (by omega)) hib) ⟨by omega, by simpa using hib⟩
      have hT2 : ∀ j, j < A.size → listed.getD j true = listed.getD j false := by
        intro j hj; simp [Array.getD_eq_getD_getElem?, Array.getElem?_eq_getElem (show j < listed.size by omega)]
      have hbind : ∀ j, j < A.size → ((A[j]?).map (·.after.all fun e => !Region.binds .any e || listed.getD e.on false)).getD false = true →
          ∀ o, nth A.toList j = some o → ∀ e ∈ binding o, listed.getD e false = true := by
        intro j hjA hj2 o ho e he
        have hA : A[j]? = some o := by rw [← nth_toList]; exact ho
        rw [hA] at hj2
        simp only [Option.map_some, Option.getD_some, Array.all_eq_true_iff_forall_mem] at hj2
        simp only [binding, List.mem_map, List.mem_filter, Array.mem_toList_iff] at he
        obtain ⟨y, ⟨hy, hyb⟩, rfl⟩ := he
        have := hj2 y hy
        simpa only [hyb, Bool.not_true, Bool.false_or] using this
      have hclosed : ∀ x o', nth A.toList x = some o' → listed.getD x false = true → ∀ e ∈ binding o', listed.getD e false = true := by
        intro x o' ho' hx e he
        rcases hDm x hx with h | h
        · exact (hinv.closed x o' ho' ⟨hx, h⟩ e he).1
        · obtain ⟨o2, h1, h2⟩ := hmv x h
          rw [nth_toList, h1, Option.some.injEq] at ho'
          subst ho'
          simp [binding, h2] at he
      refine ⟨fun hnil => ?_, fun i hi => ?_⟩
      · exfalso
        obtain ⟨j, hjm, hjb, hlow⟩ := hex
        have hjr : j ∈ Region.ready .any A listed := by
          simp only [Region.ready, List.mem_filter, List.mem_range, Bool.and_eq_true, Bool.not_eq_true']
          refine ⟨by omega, by rw [hT2 j (by omega)]; exact hjb, ?_⟩
          have hA : A[j]? = some A[j] := by simp [show j < A.size by omega]
          rw [hA]
          simp only [Option.map_some, Option.getD_some, Array.all_eq_true_iff_forall_mem]
          intro y hy
          cases hyb : Region.binds .any y with
          | false => rfl
          | true =>
            simp only [Bool.not_true, Bool.false_or]
            have ho : nth A.toList j = some A[j] := by rw [nth_toList]; exact hA
            have := allI_spec hedge j _ ho
            simp only [Nat.zero_add, List.all_eq_true, decide_eq_true_eq] at this
            exact hlow _ (this y.on (by simp only [binding, List.mem_map, List.mem_filter, Array.mem_toList_iff]; exact ⟨y, ⟨hy, hyb⟩, rfl⟩))
        rw [hnil] at hjr; simp at hjr
      · simp only [Region.ready, List.mem_filter, List.mem_range, Bool.and_eq_true, Bool.not_eq_true'] at hi
        obtain ⟨hiA, hi1, hi2⟩ := hi
        rw [hT2 i hiA] at hi1
        have ho : nth A.toList i = some A[i] := by rw [nth_toList]; simp [hiA]
        have hb := hbind i hiA hi2 _ ho
        have him : i < m := by
          rcases Nat.lt_or_ge i m with h | h
          · exact h
          · exfalso
            have hnl : i ∉ late := fun hl => by rw [hL i hl] at hi1; simp at hi1
            have hc := allI_spec htail i _ ho
            simp only [Nat.zero_add, Bool.or_eq_true, decide_eq_true_eq, List.contains_iff_mem] at hc
            have hc := (hc.resolve_left (fun h' => h'.elim (fun h'' => by omega) hnl))
            obtain ⟨j, hjm, hjb, hlow⟩ := hex
            have hbit := List.all_eq_true.1 hc j (by simp; omega)
            have := hasBit_spec (L := A.toList) (D := fun x => listed.getD x false = true) hclosed (j := i) (i := j)
              (fun o' ho' => hbind i hiA hi2 o' ho') hbit
            rw [this] at hjb; simp at hjb
        have hbm : ∀ e ∈ binding A[i], e < i := by
          have := allI_spec hedge i _ ho
          simp only [Nat.zero_add, List.all_eq_true, decide_eq_true_eq] at this
          exact this
        refine step_op hn hS hst hinv (fun j h => h.2) ho him (fun j hj => ⟨hb j hj, by have := hbm j hj; omega⟩) (fun h => by rw [h.1] at hi1; simp at hi1) hQ fun a' k' hinv' => ?_
        refine ih _ a' k' (by simp [hls]) ?_ (fun l hl => getD_set_true (hL l hl)) (fun j hj => ?_) ?_
        · have hil : i < listed.size := by omega
          have h0 : listed[i] = false := by simpa [Array.getD_eq_getD_getElem?, Array.getElem?_eq_getElem hil] using hi1
          have hsplit : listed.toList = listed.toList.take i ++ false :: listed.toList.drop (i + 1) := by
            have h1 := List.take_append_drop i listed.toList
            have h2 : listed.toList.drop i = listed.toList[i]'(by simpa using hil) :: listed.toList.drop (i + 1) := List.drop_eq_getElem_cons (by simpa using hil)
            rw [Array.getElem_toList, h0] at h2
            exact (h1.symm.trans (by rw [h2]))
          have hset : (listed.setIfInBounds i true).toList = listed.toList.take i ++ true :: listed.toList.drop (i + 1) := by
            rw [Array.toList_setIfInBounds, List.set_eq_take_append_cons_drop, if_pos (by simpa using hil)]
          rw [hset, List.filter_append, List.length_append]
          rw [hsplit, List.filter_append, List.length_append] at hf
          simp only [List.filter_cons] at hf ⊢
          simp at hf ⊢
          omega
        · by_cases hji : j = i
          · exact .inl (by omega)
          · rw [getD_set_ne _ (fun e => hji e.symm)] at hj; exact hDm j hj
        · have he : (fun j => (listed.setIfInBounds i true).getD j false = true ∧ j < m) = (fun j => (listed.getD j false = true ∧ j < m) ∨ j = i) := by
            funext j
            by_cases hji : j = i
            · subst hji; simp [Array.getD_eq_getD_getElem?, show j < listed.size by omega, him]
            · rw [getD_set_ne _ (fun e => hji e.symm)]; simp [hji]
          rw [he]; exact hinv'

/-- What is known when the operations in any order, and the moves, have run. -/
structure PostL (A : Array Oper) (es : List Ent) (m : Nat) (late : List Nat) (a0 : Act) (k0 : K) (a : Act) (k : K) : Prop where
  grow : Grow k0 k
  size : a.tmps.size = a0.tmps.size
  defers : a.defers = a0.defers
  val : ∀ i d R nd, i < m → (nth A.toList i).bind (·.dst) = some d → nth es i = some ⟨some R, nd⟩ → R (a.get d) k
  old : ∀ t, allI (fun i o => (decide (i ≥ m) && !late.contains i) || o.dst != some t) 0 A.toList = true → a.get t = a0.get t
  moved : ∀ l d s, late.contains l = true → mvOf A l = (d, s) → a.get d = a0.get s

theorem region_late {id : Nat} {A : Array Oper} {n m : Nat} {Q : Exit → Act → World → Prop} (es : List Ent) (late ord : List Nat) (hm : P.follows .mixedOrders = true)
    (hn : a0.tmps.size = n) (hchk : chkL n m late ord A es = true) (hst : Steps P es a0 k0 (A.toList.take m) es) (hQ : LetsOut Q)
    (hpost : ∀ a k, PostL A es m late a0 k0 a k → wpOps P A (QN Q) ord a k.w) : (Code.region id A true).wp P Q a0 k0.w := by
  have hchk' := hchk
  simp only [chkL, Bool.and_eq_true, beq_iff_eq, decide_eq_true_eq] at hchk'
  obtain ⟨⟨⟨⟨⟨⟨⟨⟨⟨hS, hnos⟩, hlate⟩, hlm⟩, htail⟩, hT⟩, hcnt⟩, hnd⟩, hsrc⟩, hdst⟩ := hchk'
  have hS' := hS
  simp only [chkS, Bool.and_eq_true, beq_iff_eq, decide_eq_true_eq] at hS'
  obtain ⟨⟨⟨⟨hlen, hml⟩, h2⟩, hedge⟩, hdist⟩ := hS'
  have hlm' : ∀ l ∈ late, m ≤ l ∧ l < A.size := fun l hl => by
    have := List.all_eq_true.1 hlm l hl
    simpa using this
  have hdst' : ∀ l ∈ late, (mvOf A l).1 < n := fun l hl => by
    have := List.all_eq_true.1 hdst l hl
    simpa using this
  have hsrc' : ∀ l ∈ late, ∀ l' ∈ late, (mvOf A l).2 ≠ (mvOf A l').1 ∧ (l = l' ∨ (mvOf A l).1 ≠ (mvOf A l').1) := fun l hl l' hl' => by
    have := List.all_eq_true.1 (List.all_eq_true.1 hsrc l hl) l' hl'
    simpa using this
  have hmv : ∀ l ∈ late, ∃ o, A[l]? = some o ∧ o.after = #[] ∧ o.dst = some (mvOf A l).1 := by
    have : ∀ (r : List Nat) (b : Array Bool), chkLate A b r = true → ∀ l ∈ r, isMv A l = true := by
      intro r
      induction r with
      | nil => intro b _ l hl; simp at hl
      | cons x r ih =>
        intro b hb l hl
        simp only [chkLate, Bool.and_eq_true] at hb
        rcases List.mem_cons.1 hl with rfl | hl
        · exact hb.1.1.1
        · exact ih _ hb.2 l hl
    intro l hl
    obtain ⟨o, ho, _, ha, hd, _⟩ := isMv_spec (P := P) (this late _ hlate l hl)
    exact ⟨o, ho, ha, hd⟩
  -- what no move writes
  have hbase : ∀ t, (∀ l ∈ late, (mvOf A l).1 ≠ t) → (lateAct A late a0).get t = a0.get t := fun t ht => lateAct_old (n := n) late a0 hn hdst' ht
  have hst' : Steps P es (lateAct A late a0) k0 (A.toList.take m) es := by
    refine steps_base (fun i o e ho he t ht => hbase t fun l hl hd => ?_) hst
    have hi : i < m := by
      have := nth_lt ho
      simp only [List.length_take] at this
      omega
    obtain ⟨e', he', hc⟩ := chk2_spec h2 i o ho
    rw [he, Option.some.injEq] at he'
    subst he'
    simp only [chkOp, Bool.and_eq_true, Nat.zero_add] at hc
    have := List.all_eq_true.1 hc.2 _ ht
    simp only at this
    obtain ⟨ol, hol, hal, hdl⟩ := hmv l hl
    have hnl : nth A.toList l = some ol := by rw [nth_toList]; exact hol
    have h3 := allI_spec this l ol hnl
    simp only [Nat.zero_add, Bool.or_eq_true, bne_iff_ne, beq_iff_eq, hdl] at h3
    rcases h3 with (h3 | h3) | h3
    · exact h3 (by rw [hd])
    · have := (hlm' l hl).1; omega
    · have hf := hasBit_spec (L := A.toList) (D := fun _ => False) (fun _ _ _ hx => hx.elim) (j := l) (i := i) (fun o' ho' e he => by
        rw [hnl, Option.some.injEq] at ho'
        subst ho'
        simp [binding, hal] at he) h3
      exact hf
  have hp : ∀ a k, Inv A.toList es (lateAct A late a0) k0 (· < m) a k → wpOps P A (QN Q) ord a k.w := by
    intro a k hinv
    refine hpost a k ⟨hinv.grow, hinv.size.trans (lateAct_size late a0), hinv.defers.trans (lateAct_defers late a0), ?_, ?_, ?_⟩
    · intro i d R nd him hd he
      cases ho : nth A.toList i with
      | none => rw [ho] at hd; simp at hd
      | some o => rw [ho] at hd; exact hinv.vals i o d _ him ho hd he
    · intro t ht
      rw [hinv.rest t ?_, hbase t ?_]
      · intro l hl hd
        obtain ⟨ol, hol, _, hdl⟩ := hmv l hl
        have := allI_spec ht l ol (by rw [nth_toList]; exact hol)
        simp only [Nat.zero_add, Bool.or_eq_true, Bool.and_eq_true, decide_eq_true_eq, Bool.not_eq_true', bne_iff_ne, ne_eq, hdl] at this
        rcases this with h | h
        · exact absurd (List.contains_iff_mem.2 hl) (by rw [h.2]; simp)
        · exact h (by rw [hd])
      · intro i o hi ho hd
        have := allI_spec ht i o ho
        simp only [Nat.zero_add, Bool.or_eq_true, Bool.and_eq_true, decide_eq_true_eq, bne_iff_ne, ne_eq] at this
        rcases this with h | h
        · omega
        · exact h hd
    · intro l d s hl hds
      have hlm2 := List.contains_iff_mem.1 hl
      obtain ⟨ol, hol, _, hdl⟩ := hmv l hlm2
      have hd : (mvOf A l).1 = d := by rw [hds]
      have hs : (mvOf A l).2 = s := by rw [hds]
      rw [hinv.rest d ?_, ← hd, ← hs, lateAct_new (n := n) late a0 hn hdst' hnd hsrc' l hlm2]
      intro i o hi ho hod
      have := allI_spec (allI_spec hdist i o ho) l ol (by rw [nth_toList]; exact hol)
      simp only [Nat.zero_add, Bool.or_eq_true, beq_iff_eq, bne_iff_ne, ne_eq] at this
      have hml := (hlm' l hlm2).1
      rcases this with (h | h) | h
      · omega
      · rw [hod] at h; simp at h
      · exact h (by rw [hod, hdl, hd])
  refine wp_mono (Q := QN Q) ?_ (fun e a w h => by cases e <;> first | exact h | exact h.elim)
  refine wp_region_any hm ?_
  let k1 : K := ⟨{ k0.w with drawn := k0.w.drawn + 1 }, k0.sh, k0.lt⟩
  have hg : Grow k0 k1 := ⟨rfl, rfl, rfl, Nat.le_refl _, fun _ _ => rfl, fun _ h => h, fun _ _ h => h, Nat.le_succ _⟩
  have hF : ∀ j, ¬ (Array.replicate A.size false).getD j false = true := by
    intro j hj; simp [Array.getD_eq_getD_getElem?, Array.getElem?_replicate] at hj; split at hj <;> simp at hj
  have hLg : ∀ j, (listL (Array.replicate A.size false) late).getD j false = true ↔ j ∈ late := by
    intro j
    rw [listL_get late _ j (fun l hl => by simpa using (hlm' l hl).2)]
    exact ⟨fun h => h.resolve_left (hF j), .inr⟩
  obtain ⟨fuel, hfuel⟩ : ∃ f, f = ((listL (Array.replicate A.size false) late).toList.filter (· = false)).length := ⟨_, rfl⟩
  have hsum : ∀ (r : List Nat) (b : Array Bool), r.Nodup → (∀ l ∈ r, l < b.size ∧ b.getD l false = false) → ((listL b r).toList.filter (· = false)).length + r.length = (b.toList.filter (· = false)).length := by
    intro r
    induction r with
    | nil => intro b _ _; rfl
    | cons l r ih =>
      intro b hn hb
      obtain ⟨hx, hn'⟩ := List.nodup_cons.1 hn
      obtain ⟨hl, hlb⟩ := hb l List.mem_cons_self
      have ih := ih (b.setIfInBounds l true) hn' fun l' hl' => ⟨by simpa using (hb l' (List.mem_cons_of_mem _ hl')).1, by rw [getD_set_ne _ (fun e : l = l' => hx (by rw [e]; exact hl'))]; exact (hb l' (List.mem_cons_of_mem _ hl')).2⟩
      have h0 : b[l] = false := by simpa [Array.getD_eq_getD_getElem?, Array.getElem?_eq_getElem hl] using hlb
      have hsplit : b.toList = b.toList.take l ++ false :: b.toList.drop (l + 1) := by
        have h1 := List.take_append_drop l b.toList
        have h2 : b.toList.drop l = b.toList[l]'(by simpa using hl) :: b.toList.drop (l + 1) := List.drop_eq_getElem_cons (by simpa using hl)
        rw [Array.getElem_toList, h0] at h2
        exact (h1.symm.trans (by rw [h2]))
      have hset : (b.setIfInBounds l true).toList = b.toList.take l ++ true :: b.toList.drop (l + 1) := by
        rw [Array.toList_setIfInBounds, List.set_eq_take_append_cons_drop, if_pos (by simpa using hl)]
      rw [listL]
      rw [hset, List.filter_append, List.length_append] at ih
      rw [hsplit, List.filter_append, List.length_append]
      simp only [List.filter_cons] at ih ⊢
      simp at ih ⊢
      omega
  have hs := hsum late (Array.replicate A.size false) hnd fun l hl => ⟨by simpa using (hlm' l hl).2, by simpa using hF l⟩
  have hsz : A.size = fuel + late.length := by rw [hfuel, hs]; simp
  have hbig := take_late (P := P) (A := A) (Q := QN Q) hnos (fun _ _ _ h => h) late (Array.replicate A.size false) a0 k1.w fuel hlate ?_
  · rw [← hsz] at hbig; exact hbig
  refine any_late (by rw [lateAct_size]; exact hn) hchk hst' trivial (fun _ _ _ h => h) (fun _ _ h => h) hp fuel _ _ k1 (by rw [listL_size]; simp) hfuel (fun l hl => (hLg l).2 hl) (fun j hj => .inr ((hLg j).1 hj)) ?_
  exact ⟨hg, rfl, rfl, fun i o d e hi => absurd ((hLg i).1 hi.1) (fun hl => by have := (hlm' i hl).1; omega), fun _ _ => rfl, fun j o _ hj => absurd ((hLg j).1 hj.1) (fun hl => by have := (hlm' j hl).1; omega),
    fun i hi => absurd ((hLg i).1 hi.1) (fun hl => by have := (hlm' i hl).1; omega)⟩
theorem keepL {R : Pred} {A : Array Oper} {late : List Nat} {m : Nat} {a : Act} {k : K} [Mono R] (p : PostL A es m late a0 k0 a k) (t : Nat) (ht : allI (fun i o => (decide (i ≥ m) && !late.contains i) || o.dst != some t) 0 A.toList = true)
    (h : R (a0.get t) k0) : R (a.get t) k := up h p.grow (p.old t ht)
theorem outL {R : Pred} {A : Array Oper} {late : List Nat} {m : Nat} {a : Act} {k : K} (p : PostL A es m late a0 k0 a k) (i d : Nat) (nd : List (Nat × Option Nat)) (him : Nat.blt i m = true) (hd : (nth A.toList i).bind (·.dst) = some d)
    (he : nth es i = some ⟨some R, nd⟩) : R (a.get d) k := p.val i d R nd (by simpa using him) hd he
end
end Go.Gb

