/- CreditSplits, as a law of what the functions compute. -/
import Derived.Test.YtbanncpkgbiklaaP6
namespace Go.Proofs.Ytbanncpkgbiklaa
open Go.Gb
set_option linter.unusedVariables false
set_option linter.unusedSimpArgs false

theorem rSameTrace_spec {a b : List (Int × Int)} (hl : a.length ≤ 1073741824) : rSameTrace a b = some (decide (a = b)) := by
  unfold rSameTrace
  by_cases hlen : a.length = b.length
  · rw [if_neg (by simp; omega)]
    refine Exists.elim (loop_up (body := rSameTrace_L0 a b) (fun i s => s = (i : Int) ∧ ∀ j (hj : j < a.length), j < i → a[j] = b[j]'(by omega)) a.length
      (fun f => match f with | .go _ => False | .ex _ _ => a = b | .ret r => r = false ∧ a ≠ b) ?_ ?_ 0 ⟨rfl, fun j _ h => absurd h (Nat.not_lt_zero j)⟩ (a.length + b.length + 1) (by omega)) ?_
    · rintro i s hi ⟨rfl, hG⟩
      unfold rSameTrace_L0
      rw [if_pos (by simpa using hi), getI_nat hi, Option.bind_some, getI_nat (show i < b.length by omega), Option.bind_some]
      by_cases hok : a[i] = b[i]'(by omega)
      · left
        refine ⟨((i + 1 : Nat) : Int), ?_, rfl, fun j hj hji => ?_⟩
        · rw [if_neg (by simp [hok]), addI_one (show i < 4611686018427387904 by omega), Option.bind_some]
        · rcases Nat.lt_or_ge j i with h | h
          · exact hG j hj h
          · obtain rfl : j = i := by omega
            exact hok
      · right
        refine ⟨.ret false, by rw [if_pos (by simp [hok])], trivial, rfl, fun h => hok ?_⟩
        subst h; rfl
    · rintro s ⟨rfl, hG⟩
      refine ⟨.ex 0 (a.length : Int), ?_, trivial, List.ext_getElem hlen fun j h1 h2 => hG j h1 h1⟩
      unfold rSameTrace_L0
      rw [if_neg (by simp)]
    · rintro f ⟨hf, he, hp⟩
      rw [hf, Option.bind_some]
      cases f with
      | go s => exact he.elim
      | ex id s => simp only at hp; simp [hp]
      | ret r => obtain ⟨rfl, hp⟩ := hp; simp [hp]
  · rw [if_pos (by simp; omega)]
    have : a ≠ b := fun h => hlen (by rw [h])
    simp [this]

theorem runGo_add {ms : List Move} : ∀ (a b i : Nat) (l now : List Account), i + a ≤ ms.length → runGo ms a l i = (now, ((i + a : Nat) : Int), 0) → runGo ms (a + b) l i = runGo ms b now (i + a)
  | 0, b, i, l, now, _, h => by
    simp only [runGo, Prod.mk.injEq] at h
    obtain ⟨rfl, _⟩ := h
    simp
  | a + 1, b, i, l, now, hi, h => by
    have hlt : i < ms.length := by omega
    rw [show a + 1 + b = (a + b) + 1 by omega]
    rw [runGo] at h ⊢
    simp only [List.getElem?_eq_getElem hlt] at h ⊢
    by_cases he : (doS l ms[i]).2 ≠ 0
    · rw [if_pos he] at h
      simp only [Prod.mk.injEq] at h
      omega
    · rw [if_neg he] at h ⊢
      have e : i + 1 + a = i + (a + 1) := by omega
      rw [runGo_add (ms := ms) a b (i + 1) _ now (by omega) (by rw [h, e]), e]
theorem runGo_left {ms x : List Move} : ∀ (n i : Nat) (l : List Account), i + n ≤ ms.length → runGo (ms ++ x) n l i = runGo ms n l i
  | 0, _, _, _ => rfl
  | n + 1, i, l, h => by
    simp only [runGo]
    rw [List.getElem?_append_left (by omega)]
    cases ms[i]? with
    | none => rfl
    | some m => simp only; rw [runGo_left n (i + 1) _ (by omega)]
theorem runGo_end {ms : List Move} : ∀ (n i : Nat) (l now : List Account) (q : Int), i + n = ms.length → runGo ms n l i = (now, q, 0) → q = ms.length
  | 0, i, l, now, q, h, hr => by simp only [runGo, Prod.mk.injEq] at hr; omega
  | n + 1, i, l, now, q, h, hr => by
    have hlt : i < ms.length := by omega
    rw [runGo] at hr
    simp only [List.getElem?_eq_getElem hlt] at hr
    by_cases he : (doS l ms[i]).2 ≠ 0
    · rw [if_pos he] at hr
      simp only [Prod.mk.injEq] at hr
      exact absurd hr.2.2 he
    · rw [if_neg he] at hr
      exact runGo_end (ms := ms) n (i + 1) _ now q (by omega) hr
theorem runS_append {l now : List Account} {ms x : List Move} {q : Int} (h : runS l ms = (now, q, 0)) : RightP l ∧ runS l (ms ++ x) = runGo (ms ++ x) x.length now ms.length := by
  unfold runS at h ⊢
  by_cases hR : RightP l
  · rw [if_pos hR] at h ⊢
    have hq := runGo_end ms.length 0 l now q (by omega) h
    subst hq
    refine ⟨hR, ?_⟩
    have h1 : runGo (ms ++ x) ms.length l 0 = (now, ((0 + ms.length : Nat) : Int), 0) := by rw [runGo_left _ _ _ (by omega), h]; simp
    have h2 := runGo_add (ms := ms ++ x) ms.length x.length 0 l now (by simp) h1
    rw [List.length_append, h2]
    simp
  · rw [if_neg hR] at h; simp at h

theorem doS_move {l : List Account} {f t n : Int} {i j : Nat} (hR : RightP l) (hne : f ≠ t) (h1 : 1 ≤ n) (h2 : n ≤ 1073741824) (hi : i < l.length) (hj : j < l.length) (hf : l[i].Lot = f) (ht : l[j].Lot = t)
    (hr : l[j].Receives = true) (hu : n ≤ l[i].Units) (hm : l[j].Units + n ≤ 1073741824) :
    doS l ⟨1, f, t, n⟩ = ((l.modify i fun a => { a with Units := a.Units - n }).modify j fun a => { a with Units := a.Units + n }, 0) := by
  have hV : ValidP ⟨1, f, t, n⟩ := .inr (.inl ⟨rfl, hne, h1, h2⟩)
  have hxi : idx l f = some i := idx_unique hi hf fun k hk hki e => by have := lot_inj hR hk hi (e.trans hf.symm); omega
  have hxj : idx l t = some j := idx_unique hj ht fun k hk hkj e => by have := lot_inj hR hk hj (e.trans ht.symm); omega
  unfold doS
  rw [if_neg (by simp [hR, hV]), if_neg (show ¬ ((1:Int) = 0) by decide)]
  simp only [hxi, hxj, if_true, List.getElem?_eq_getElem hi, List.getElem?_eq_getElem hj, Option.getD_some, hr, Bool.not_true, Bool.false_eq_true, if_false]
  rw [if_neg (by omega), if_neg (by omega)]

theorem splits_do {l : List Account} {f t a b : Int} (ha : 1 ≤ a) (hb : 1 ≤ b) (hab : a + b ≤ 1073741824) :
    ((∃ x y, doS l ⟨1, f, t, a⟩ = (x, 0) ∧ doS x ⟨1, f, t, b⟩ = (y, 0)) ↔ ∃ y, doS l ⟨1, f, t, a + b⟩ = (y, 0)) ∧
    ∀ x y z, doS l ⟨1, f, t, a⟩ = (x, 0) → doS x ⟨1, f, t, b⟩ = (y, 0) → doS l ⟨1, f, t, a + b⟩ = (z, 0) → y = z := by
  have fwd : ∀ x y, doS l ⟨1, f, t, a⟩ = (x, 0) → doS x ⟨1, f, t, b⟩ = (y, 0) → doS l ⟨1, f, t, a + b⟩ = (y, 0) := by
    intro x y hx hy
    have hR := (doS_ok hx).right
    have hRx := (doS_ok hy).right
    rcases doS_cases hx with ⟨h, _⟩ | ⟨_, hne, h1, h2, i, j, hi, hj, hij, hf, ht, hr, hu, hm, rfl⟩ | ⟨h, _⟩
    · simp at h
    · rcases doS_cases hy with ⟨h, _⟩ | ⟨_, _, g1, g2, i', j', hi', hj', hij', hf', ht', hr', hu', hm', rfl⟩ | ⟨h, _⟩
      · simp at h
      · simp only at hne h1 h2 hf ht hu hm g1 g2 hf' ht' hu' hm'
        have li : ((l.modify i fun a_1 => { a_1 with Units := a_1.Units - a }).modify j fun a_1 => { a_1 with Units := a_1.Units + a })[i]'(by simpa using hi) = { l[i] with Units := l[i].Units - a } := by
          rw [List.getElem_modify, if_neg (fun e => hij e.symm), List.getElem_modify, if_pos rfl]
        have lj : ((l.modify i fun a_1 => { a_1 with Units := a_1.Units - a }).modify j fun a_1 => { a_1 with Units := a_1.Units + a })[j]'(by simpa using hj) = { l[j] with Units := l[j].Units + a } := by
          rw [List.getElem_modify, if_pos rfl, List.getElem_modify, if_neg hij]
        obtain rfl : i' = i := lot_inj hRx hi' (by simpa using hi) (by rw [hf', li]; exact hf.symm)
        obtain rfl : j' = j := lot_inj hRx hj' (by simpa using hj) (by rw [ht', lj]; exact ht.symm)
        rw [li] at hu'
        rw [lj] at hm'
        simp only at hu' hm'
        rw [doS_move hR hne (by omega) hab hi hj hf ht hr (by omega) (by omega)]
        congr 1
        refine List.ext_getElem (by simp) fun k h1 h2 => ?_
        simp only [List.getElem_modify]
        by_cases e1 : j' = k
        · subst e1
          rw [if_pos rfl, if_neg hij, if_pos rfl, if_neg hij, if_pos rfl, if_neg hij]
          simp only [Account.mk.injEq, and_true, true_and]
          omega
        · rw [if_neg e1, if_neg e1, if_neg e1]
          by_cases e2 : i' = k
          · subst e2
            rw [if_pos rfl, if_pos rfl, if_pos rfl]
            simp only [Account.mk.injEq, and_true, true_and]
            omega
          · rw [if_neg e2, if_neg e2, if_neg e2]
      · simp at h
    · simp at h
  refine ⟨⟨fun ⟨x, y, h1, h2⟩ => ⟨y, fwd x y h1 h2⟩, fun ⟨z, hz⟩ => ?_⟩, fun x y z h1 h2 h3 => ?_⟩
  · have hR := (doS_ok hz).right
    rcases doS_cases hz with ⟨h, _⟩ | ⟨_, hne, h1, h2, i, j, hi, hj, hij, hf, ht, hr, hu, hm, rfl⟩ | ⟨h, _⟩
    · simp at h
    · simp only at hne h1 h2 hf ht hu hm
      have hx := doS_move (n := a) hR hne ha (by omega) hi hj hf ht hr (by have := hR.1 _ (List.getElem_mem hi); unfold okA at this; omega) (by omega)
      have hRx := (doS_ok hx).right'
      refine ⟨_, _, hx, doS_move (n := b) (i := i) (j := j) hRx hne hb (by omega) (by simpa using hi) (by simpa using hj) ?_ ?_ ?_ ?_ ?_⟩
      · simp only [List.getElem_modify]
        rw [if_neg (fun e => hij e.symm)]
        simpa using hf
      · simp only [List.getElem_modify]
        simpa [hij] using ht
      · simp only [List.getElem_modify]
        simpa [hij] using hr
      · simp only [List.getElem_modify]
        rw [if_neg (fun e => hij e.symm)]
        simp
        omega
      · simp only [List.getElem_modify]
        simp [hij]
        omega
    · simp at h
  · have := fwd x y h1 h2
    rw [this] at h3
    simpa using h3

theorem evs_left {ms x : List Move} {E : Int → List Int} : ∀ n, n ≤ ms.length → evs (ms ++ x) E n = evs ms E n
  | 0, _ => rfl
  | n + 1, h => by
    simp only [evs]
    rw [List.getElem?_append_left (by omega), evs_left n (by omega)]
theorem mvE_add {E : Int → List Int} {f t a b : Int} (hne : f ≠ t) (ha : 0 ≤ a) (hb : 0 ≤ b) : mvE (mvE E f t a) f t b = mvE E f t (a + b) := by
  have e : (a + b).toNat = a.toNat + b.toNat := by omega
  funext k
  unfold mvE
  by_cases h1 : k = f
  · subst h1; simp [e]
  · by_cases h2 : k = t
    · subst h2
      have : ¬ f = k := fun e => h1 e.symm
      simp [h1, e, List.take_add]
    · simp [h1, h2]

theorem law_splits (l : List Account) (m : List Move) (f t a b : Int) : lawSplits l m f t a b = some true := by
  unfold lawSplits
  rw [small_true, Option.bind_some]
  unfold few
  rw [Option.bind_some]
  by_cases hf : (l.length : Int) ≤ 10 ∧ (m.length : Int) ≤ 20
  · rw [if_neg (by simp [hf]), cRun_spec (by omega), Option.bind_some]
    generalize hr : runS l m = d
    obtain ⟨now, q, e⟩ := d
    dsimp only
    by_cases hc : (((((e != 0) || (decide (a < 1))) || (decide (b < 1))) || (decide (536870912 < a))) || (decide (536870912 < b))) = true
    · rw [if_pos hc]
    · rw [if_neg hc]
      simp only [Bool.or_eq_true, bne_iff_ne, decide_eq_true_eq, not_or, ne_eq, Decidable.not_not] at hc
      obtain ⟨⟨⟨⟨rfl, ha⟩, hb⟩, ha2⟩, hb2⟩ := hc
      rw [appI_some (by simp; omega), Option.bind_some, List.nil_append, appI_some (by simp; omega), Option.bind_some, Option.bind_some, addI_some (by unfold inI; omega), Option.bind_some, appI_some (by simp; omega), Option.bind_some]
      obtain ⟨hR, h2⟩ := runS_append (x := [⟨1, f, t, a⟩, ⟨1, f, t, b⟩]) hr
      obtain ⟨_, h1⟩ := runS_append (x := [⟨1, f, t, a + b⟩]) hr
      have g0 : (m ++ [(⟨1, f, t, a⟩ : Move), ⟨1, f, t, b⟩])[m.length]? = some ⟨1, f, t, a⟩ := by simp
      have g1 : (m ++ [(⟨1, f, t, a⟩ : Move), ⟨1, f, t, b⟩])[m.length + 1]? = some ⟨1, f, t, b⟩ := by simp
      have g2 : (m ++ [(⟨1, f, t, a + b⟩ : Move)])[m.length]? = some ⟨1, f, t, a + b⟩ := by simp
      simp only [List.length_cons, List.length_nil, runGo, g0, g1, Nat.zero_add] at h2
      simp only [List.length_cons, List.length_nil, runGo, g2, Nat.zero_add] at h1
      rw [cRun_spec (by simp; omega), Option.bind_some, cRun_spec (by simp; omega), Option.bind_some]
      obtain ⟨hiff, heq⟩ := splits_do (l := now) (f := f) (t := t) (a := a) (b := b) (by omega) (by omega) (by omega)
      by_cases hz : ∃ y, doS now ⟨1, f, t, a + b⟩ = (y, 0)
      · obtain ⟨x, y, hx, hy⟩ := hiff.2 hz
        obtain ⟨z, hz⟩ := hz
        have hyz := heq x y z hx hy hz
        subst hyz
        rw [hx] at h2
        simp only [ne_eq, not_true_eq_false, if_false, hy] at h2
        rw [hz] at h1
        simp only [ne_eq, not_true_eq_false, if_false] at h1
        rw [h2, h1]
        dsimp only
        rw [if_neg (by simp), if_neg (by simp)]
        have hne : f ≠ t := by
          rcases doS_cases hz with ⟨h, _⟩ | ⟨_, h, _⟩ | ⟨h, _⟩
          · simp at h
          · exact h
          · simp at h
        have hev : ∀ k, evs (m ++ [(⟨1, f, t, a⟩ : Move), ⟨1, f, t, b⟩]) (stE l l.length) (m ++ [(⟨1, f, t, a⟩ : Move), ⟨1, f, t, b⟩]).length k = evs (m ++ [(⟨1, f, t, a + b⟩ : Move)]) (stE l l.length) (m ++ [(⟨1, f, t, a + b⟩ : Move)]).length k := by
          intro k
          simp only [List.length_append, List.length_cons, List.length_nil, Nat.zero_add, evs, g0, g1, g2]
          rw [evs_left _ (Nat.le_refl _), evs_left _ (Nat.le_refl _)]
          unfold evE
          simp only [show ¬ ((1 : Int) = 0) by decide, if_false, if_true]
          rw [mvE_add hne (by omega) (by omega)]
        obtain ⟨t1, c1, k1, x1, _, n1⟩ := cTrace_spec t (by omega) (by simp; omega) h2
        obtain ⟨t2, c2, k2, x2, _, n2⟩ := cTrace_spec t (by omega) (by simp; omega) h1
        obtain ⟨t3, c3, k3, x3, _, n3⟩ := cTrace_spec f (by omega) (by simp; omega) h2
        obtain ⟨t4, c4, k4, x4, _, n4⟩ := cTrace_spec f (by omega) (by simp; omega) h1
        have e12 : t1 = t2 := exp_inj k1 k2 (by rw [x1, x2, hev])
        have e34 : t3 = t4 := exp_inj k3 k4 (by rw [x3, x4, hev])
        subst e12; subst e34
        have hlt : ∀ {t : List (Int × Int)}, t.length ≤ 1073741824 → rSameTrace t t = some true := fun h => by rw [rSameTrace_spec h]; simp
        have hlen1 : t1.length ≤ 1073741824 := n1
        have hlen3 : t3.length ≤ 1073741824 := n3
        have hly : y.length ≤ 1073741824 := by have := (doS_ok hz).right'.2.2; omega
        rw [c1, Option.bind_some, c2, Option.bind_some, c3, Option.bind_some, c4, Option.bind_some, if_pos rfl, rSame_spec hly, Option.bind_some, Option.bind_some]
        dsimp only
        rw [if_pos (by simp), hlt hlen1, Option.bind_some, Option.bind_some, if_pos rfl, hlt hlen3, Option.bind_some, Option.bind_some]
      · have h1' : ∃ r e', runS l (m ++ [⟨1, f, t, a + b⟩]) = (r, (m.length : Int), e') ∧ e' ≠ 0 := by
          have : (doS now ⟨1, f, t, a + b⟩).2 ≠ 0 := fun e => hz ⟨_, by rw [← e]⟩
          rw [if_pos this] at h1
          exact ⟨_, _, h1, this⟩
        have h2' : ∃ r q e', runS l (m ++ [⟨1, f, t, a⟩, ⟨1, f, t, b⟩]) = (r, q, e') ∧ e' ≠ 0 := by
          by_cases ea : (doS now ⟨1, f, t, a⟩).2 ≠ 0
          · rw [if_pos ea] at h2
            exact ⟨_, _, _, h2, ea⟩
          · rw [if_neg ea] at h2
            have : (doS (doS now ⟨1, f, t, a⟩).1 ⟨1, f, t, b⟩).2 ≠ 0 := fun e => hz (hiff.1 ⟨_, _, by rw [← Decidable.not_not.1 ea], by rw [← e]⟩)
            rw [if_pos this] at h2
            exact ⟨_, _, _, h2, this⟩
        obtain ⟨r1, e1, h1, hn1⟩ := h1'
        obtain ⟨r2, q2, e2, h2, hn2⟩ := h2'
        rw [h1, h2]
        dsimp only
        have a1 : (e1 == 0) = false := by simpa using hn1
        have a2 : (e2 == 0) = false := by simpa using hn2
        rw [a1, a2, if_neg (by decide), if_pos (by simpa using hn2)]
  · rw [if_pos (by simp; omega)]
end Go.Proofs.Ytbanncpkgbiklaa
