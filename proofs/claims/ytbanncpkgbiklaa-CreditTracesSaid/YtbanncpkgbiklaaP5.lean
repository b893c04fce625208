/- Credit: traces as lists of units; what put and take compute. -/
import Derived.Test.YtbanncpkgbiklaaP3
namespace Go.Proofs.Ytbanncpkgbiklaa
open Go.Gb
set_option linter.unusedVariables false
set_option linter.unusedSimpArgs false

/-- The units of a trace, one by one. -/
def expT : List (Int × Int) → List Int
  | [] => []
  | p :: t => List.replicate p.2.toNat p.1 ++ expT t
/-- Neighbours have other origins, and no number is 0. -/
def Can : List (Int × Int) → Prop
  | [] => True
  | p :: t => 1 ≤ p.2 ∧ (∀ q, t.head? = some q → p.1 ≠ q.1) ∧ Can t

theorem expT_append : ∀ (s t : List (Int × Int)), expT (s ++ t) = expT s ++ expT t
  | [], t => rfl
  | p :: s, t => by simp only [List.cons_append, expT, expT_append s t, List.append_assoc]
theorem can_append : ∀ {s : List (Int × Int)} {p : Int × Int}, Can (s ++ [p]) ↔ Can s ∧ 1 ≤ p.2 ∧ ∀ q, s.getLast? = some q → q.1 ≠ p.1
  | [], p => by simp [Can]
  | [a], p => by simp [Can]; intro _; exact And.comm
  | a :: b :: s, p => by
    have ih := can_append (s := b :: s) (p := p)
    have e : (a :: b :: s) ++ [p] = a :: ((b :: s) ++ [p]) := rfl
    rw [e, Can, Can, ih]
    have h1 : ((b :: s) ++ [p]).head? = (b :: s).head? := rfl
    rw [h1]
    have h2 : (a :: b :: s).getLast? = (b :: s).getLast? := by simp [List.getLast?_cons_cons]
    rw [h2]
    constructor
    · rintro ⟨h1, h2, h3, h4, h5⟩; exact ⟨⟨h1, h2, h3⟩, h4, h5⟩
    · rintro ⟨⟨h1, h2, h3⟩, h4, h5⟩; exact ⟨h1, h2, h3, h4, h5⟩
theorem can_head {p : Int × Int} {t : List (Int × Int)} (h : Can (p :: t)) : (expT t).head? ≠ some p.1 := by
  cases t with
  | nil => simp [expT]
  | cons q t =>
    have h1 := h.2.1 q rfl
    have h2 : 1 ≤ q.2 := h.2.2.1
    obtain ⟨k, hk⟩ : ∃ k, q.2.toNat = k + 1 := ⟨q.2.toNat - 1, by omega⟩
    simp only [expT, hk, List.replicate_succ, List.cons_append, List.head?_cons, ne_eq, Option.some.injEq]
    exact fun e => h1 e.symm
theorem rep_inj {x : Int} {s t : List Int} : ∀ {a b : Nat}, List.replicate a x ++ s = List.replicate b x ++ t → s.head? ≠ some x → t.head? ≠ some x → a = b ∧ s = t
  | 0, 0, h, _, _ => by simpa using h
  | 0, b + 1, h, hs, _ => by simp [List.replicate_succ] at h; rw [h] at hs; simp at hs
  | a + 1, 0, h, _, ht => by simp [List.replicate_succ] at h; rw [← h] at ht; simp at ht
  | a + 1, b + 1, h, hs, ht => by
    simp only [List.replicate_succ, List.cons_append, List.cons.injEq, true_and] at h
    obtain ⟨h1, h2⟩ := rep_inj h hs ht
    exact ⟨by rw [h1], h2⟩
theorem exp_inj : ∀ {t u : List (Int × Int)}, Can t → Can u → expT t = expT u → t = u
  | [], [], _, _, _ => rfl
  | [], q :: u, _, hu, h => by
    obtain ⟨k, hk⟩ : ∃ k, q.2.toNat = k + 1 := ⟨q.2.toNat - 1, by have := hu.1; omega⟩
    simp [expT, hk, List.replicate_succ] at h
  | p :: t, [], ht, _, h => by
    obtain ⟨k, hk⟩ : ∃ k, p.2.toNat = k + 1 := ⟨p.2.toNat - 1, by have := ht.1; omega⟩
    simp [expT, hk, List.replicate_succ] at h
  | p :: t, q :: u, ht, hu, h => by
    have hp := ht.1
    have hq := hu.1
    have h1 : p.1 = q.1 := by
      obtain ⟨k, hk⟩ : ∃ k, p.2.toNat = k + 1 := ⟨p.2.toNat - 1, by omega⟩
      obtain ⟨k', hk'⟩ : ∃ k, q.2.toNat = k + 1 := ⟨q.2.toNat - 1, by omega⟩
      simp only [expT, hk, hk', List.replicate_succ, List.cons_append, List.cons.injEq] at h
      exact h.1
    simp only [expT] at h
    rw [← h1] at h
    obtain ⟨h2, h3⟩ := rep_inj h (can_head ht) (by rw [h1]; exact can_head hu)
    rw [exp_inj ht.2.2 hu.2.2 h3]
    have : p = q := Prod.ext h1 (by omega)
    rw [this]

theorem getK_setK {γ : Type} : ∀ (l : List (Int × γ)) (n k : Int) (v : γ), getK (setK l n v) k = if k = n then some v else getK l k
  | [], n, k, v => by simp only [setK, getK]
  | (a, u) :: l, n, k, v => by
    simp only [setK]
    by_cases h : n = a
    · subst h
      simp only [if_true, getK]
      by_cases hk : k = n
      · simp [hk]
      · simp [hk]
    · simp only [if_neg h, getK, getK_setK l n k v]
      by_cases hk : k = a
      · subst hk
        have : ¬ k = n := fun e => h e.symm
        simp [this]
      · simp [hk]
theorem at_setK (m : PM) (lot k : Int) (t : List (Int × Int)) : PM.at ⟨setK m.l lot t⟩ k = if k = lot then t else m.at k := by
  unfold PM.at
  rw [getK_setK]
  split <;> rfl
theorem at_backK (m : PM) (lot k : Int) (t : List (Int × Int)) (h : m.at lot ≠ []) : PM.at ⟨backK m.l lot t⟩ k = if k = lot then t else m.at k := by
  have : (getK m.l lot).isNone = false := by
    unfold PM.at at h
    cases hg : getK m.l lot with
    | none => rw [hg] at h; simp at h
    | some t => rfl
  unfold backK
  rw [this]
  exact at_setK m lot k t

/-- A pile, as a list of units; at most c parts, and at most u units. -/
structure Pile (t : List (Int × Int)) (E : List Int) (c u : Nat) : Prop where
  can : Can t
  exp : expT t = E
  len : t.length ≤ c
  units : E.length ≤ u

theorem expT_last {s : List (Int × Int)} {p : Int × Int} : (expT (s ++ [p])).length = (expT s).length + p.2.toNat := by
  rw [expT_append]; simp [expT]

theorem cPut_spec {m : PM} {lot o n : Int} {E : List Int} {c u : Nat} (h : Pile (m.at lot) E c u) (h0 : 0 ≤ n) (hn : n ≤ 1073741824) (hc : c < 1073741824) (hu : u < 1099511627776) :
    ∃ m', cPut m lot o n = some m' ∧ (∀ k, k ≠ lot → m'.at k = m.at k) ∧ Pile (m'.at lot) (E ++ List.replicate n.toNat o) (c + 1) (u + n.toNat) := by
  unfold cPut
  by_cases hz : n = 0
  · subst hz
    refine ⟨m, by simp, fun _ _ => rfl, h.can, by simpa using h.exp, by have := h.len; omega, by simpa using Nat.le_trans h.units (Nat.le_refl _)⟩
  · rw [if_neg (by simpa using hz)]
    have push : (∀ q, (m.at lot).getLast? = some q → q.1 ≠ o) → ∃ m' : PM, ((appI (m.at lot) [(o, n)]).bind fun x8 => some (⟨setK m.l lot x8⟩ : PM)) = some m' ∧ (∀ k, k ≠ lot → m'.at k = m.at k) ∧ Pile (m'.at lot) (E ++ List.replicate n.toNat o) (c + 1) (u + n.toNat) := by
      intro hq
      rw [appI_some (by have := h.len; simp; omega), Option.bind_some]
      refine ⟨_, rfl, fun k hk => by rw [at_setK, if_neg hk], ?_⟩
      rw [at_setK, if_pos rfl]
      refine ⟨can_append.2 ⟨h.can, by simp only; omega, hq⟩, by rw [expT_append, h.exp]; simp [expT], by have := h.len; simp; omega, by have := h.units; simp; omega⟩
    rcases List.eq_nil_or_concat (m.at lot) with hnil | ⟨s, p, hsp⟩
    · have hnl : ¬ (0 : Int) < ((m.at lot).length : Int) := by rw [hnil]; simp
      rw [if_neg (by simpa using hnl), Option.bind_some, if_neg (by decide)]
      exact push (by rw [hnil]; simp)
    · have hsp : m.at lot = s ++ [p] := by simpa using hsp
      have hlen : (m.at lot).length = s.length + 1 := by rw [hsp]; simp
      have hget : getI (m.at lot) (s.length : Int) = some p := by
        rw [getI_nat (by omega)]
        simp only [hsp, List.getElem_concat_length]
      have hcl := h.len
      rw [if_pos (by simp [hlen]), hlen, subI_some (by unfold inI; omega), Option.bind_some]
      rw [show (((s.length + 1 : Nat) : Int) - 1) = (s.length : Int) by omega, hget, Option.bind_some, Option.bind_some]
      by_cases ho : p.1 = o
      · rw [if_pos (by simp [ho]), Option.bind_some, hget, Option.bind_some]
        have hpu : p.2.toNat ≤ u := by have h1 := h.units; rw [← h.exp, hsp, expT_last] at h1; omega
        have hp1 : 1 ≤ p.2 := by have h1 := h.can; rw [hsp] at h1; exact (can_append.1 h1).2.1
        rw [addI_some (by unfold inI; omega), Option.bind_some, Option.bind_some]
        refine ⟨_, rfl, fun k hk => by rw [at_backK _ _ _ _ (by rw [hsp]; simp), if_neg hk], ?_⟩
        rw [at_backK _ _ _ _ (by rw [hsp]; simp), if_pos rfl, Int.toNat_natCast]
        have hset : (m.at lot).set s.length (p.1, p.2 + n) = s ++ [(p.1, p.2 + n)] := by rw [hsp]; simp
        rw [hset]
        have hcan := h.can
        rw [hsp] at hcan
        have hca := can_append.1 hcan
        refine ⟨can_append.2 ⟨hca.1, by simp only; omega, hca.2.2⟩, ?_, by simp; omega, by have := h.units; simp; omega⟩
        have e1 : (p.2 + n).toNat = p.2.toNat + n.toNat := by omega
        have hexp := h.exp
        rw [hsp, expT_append] at hexp
        rw [expT_append, ← hexp]
        simp only [expT, List.append_nil]
        rw [e1, ← List.replicate_append_replicate, ho, List.append_assoc]
      · rw [if_neg (by simp [ho])]
        refine push fun q hq => ?_
        rw [hsp] at hq
        simp at hq
        rw [← hq]; exact ho

theorem can_dropFirst {p : Int × Int} {t : List (Int × Int)} {q : Int} (h : Can (p :: t)) (hq : 1 ≤ q) : Can ((p.1, q) :: t) := ⟨hq, h.2.1, h.2.2⟩

theorem cTake_spec {m : PM} {frm to n : Int} {E T : List Int} {c u : Nat} (hne : frm ≠ to) (hE : Pile (m.at frm) E c u) (hT : Pile (m.at to) T c u) (h1 : 0 ≤ n) (hn : n.toNat ≤ E.length) (hnb : n ≤ 1073741824) (hc : 2 * c < 1073741823) (hu : u + n.toNat < 1099511627776) :
    ∃ m', cTake m frm to n = some m' ∧ (∀ k, k ≠ frm → k ≠ to → m'.at k = m.at k) ∧ Pile (m'.at frm) (E.drop n.toNat) c u ∧ Pile (m'.at to) (T ++ E.take n.toNat) (2 * c + 1) (u + n.toNat) := by
  unfold cTake
  refine Exists.elim (loop_down (body := cTake_L frm to)
    (fun s => 0 ≤ s.1 ∧ s.1 ≤ n ∧ (∀ k, k ≠ frm → k ≠ to → s.2.at k = m.at k) ∧ Pile (s.2.at frm) (E.drop (n - s.1).toNat) c u ∧
      ∃ d, d + (s.2.at frm).length ≤ c + (if s.1 = 0 then 1 else 0) ∧ Pile (s.2.at to) (T ++ E.take (n - s.1).toNat) (c + d) (u + (n - s.1).toNat))
    (fun s => if s.1 = 0 then 0 else (s.2.at frm).length + 1)
    (fun f => ∃ s, f = .ex 0 s ∧ (∀ k, k ≠ frm → k ≠ to → s.2.at k = m.at k) ∧ Pile (s.2.at frm) (E.drop n.toNat) c u ∧ Pile (s.2.at to) (T ++ E.take n.toNat) (2 * c + 1) (u + n.toNat)) ?_ (n, m)
    ⟨h1, Int.le_refl _, fun _ _ _ => rfl, by simpa using hE, 0, by have := hE.len; simp only; omega, by simpa using hT⟩ ((m.at frm).length + 2) (by simp only; split <;> omega)) ?_
  · rintro ⟨r, cur⟩ ⟨hr0, hrn, hoth, hF, d, hd, hTo⟩
    simp only at hr0 hrn hoth hF hd hTo
    unfold cTake_L
    dsimp only
    by_cases hz : r = 0
    · right
      subst hz
      refine ⟨.ex 0 (0, cur), by simp, trivial, _, rfl, hoth, by simpa using hF, ?_⟩
      simp only [if_true] at hd
      have e : (n - 0).toNat = n.toNat := by simp
      rw [e] at hTo
      exact ⟨hTo.can, hTo.exp, Nat.le_trans hTo.len (by omega), hTo.units⟩
    · left
      rw [if_pos (by simp; omega)]
      simp only [hz, if_false] at hd ⊢
      cases hlst : cur.at frm with
      | nil =>
        exfalso
        have := hF.exp
        rw [hlst] at this
        simp only [expT] at this
        have := congrArg List.length this
        simp only [List.length_nil, List.length_drop] at this
        omega
      | cons p t =>
        rw [hlst] at hF
        have hp1 : 1 ≤ p.2 := hF.can.1
        have hexp := hF.exp
        simp only [expT] at hexp
        have hget : getI (p :: t) 0 = some p := by simp [getI]
        have hlc := hF.len
        simp only [List.length_cons] at hlc
        rw [hget, Option.bind_some]
        by_cases hle : p.2 ≤ r
        · -- the whole part goes
          have hmin : min r p.2 = p.2 := by omega
          rw [hmin, if_pos (by simp), sliceI_some (by omega) (by simp; omega) (by simp), Option.bind_some, Option.bind_some]
          have e1 : List.drop (1 : Int).toNat (List.take (((p :: t).length : Nat) : Int).toNat (p :: t)) = t := by simp
          rw [e1]
          have hto : PM.at ⟨setK cur.l frm t⟩ to = cur.at to := by rw [at_setK, if_neg (fun e => hne e.symm)]
          have hTo' : Pile (PM.at ⟨setK cur.l frm t⟩ to) (T ++ E.take (n - r).toNat) (c + d) (u + (n - r).toNat) := by rw [hto]; exact hTo
          rw [hlst] at hd
          simp only [List.length_cons] at hd
          obtain ⟨m2, hm2, ho2, hP2⟩ := cPut_spec (o := p.1) (n := p.2) hTo' (by omega) (by omega) (by omega) (by omega)
          rw [hm2, Option.bind_some, subI_some (by unfold inI; omega), Option.bind_some]
          have hfrm : m2.at frm = t := by rw [ho2 _ hne, at_setK, if_pos rfl]
          have e2 : (n - (r - p.2)).toNat = (n - r).toNat + p.2.toNat := by omega
          have hdrop : E.drop ((n - r).toNat + p.2.toNat) = expT t := by
            rw [← List.drop_drop, ← hexp]
            simp
          have htk : E.take ((n - r).toNat + p.2.toNat) = E.take (n - r).toNat ++ List.replicate p.2.toNat p.1 := by
            rw [List.take_add, ← hexp]
            simp
          refine ⟨_, rfl, ⟨by simp only; omega, by simp only; omega, fun k h1 h2 => ?_, ?_, d + 1, ?_, ?_⟩, ?_⟩
          · simp only; rw [ho2 _ h2, at_setK, if_neg h1]; exact hoth k h1 h2
          · simp only
            rw [hfrm, e2, hdrop]
            have hFu := hF.units
            rw [← hexp] at hFu
            simp only [List.length_append, List.length_replicate] at hFu
            exact ⟨hF.can.2.2, rfl, by omega, by omega⟩
          · simp only
            rw [hfrm]
            split <;> omega
          · simp only
            rw [e2, htk, ← List.append_assoc]
            exact ⟨hP2.can, hP2.exp, hP2.len, by have := hP2.units; omega⟩
          · simp only
            rw [hfrm]
            split <;> simp
        · -- a part of it goes
          have hmin : min r p.2 = r := by omega
          rw [hmin, if_neg (by simp; omega), Option.bind_some, subI_some (by unfold inI; have := hF.units; rw [← hexp] at this; simp at this; omega), Option.bind_some, Option.bind_some]
          have hne0 : cur.at frm ≠ [] := by rw [hlst]; simp
          have e1 : (p :: t).set (0 : Int).toNat (p.1, p.2 - r) = (p.1, p.2 - r) :: t := rfl
          rw [e1]
          have hto : PM.at ⟨backK cur.l frm ((p.1, p.2 - r) :: t)⟩ to = cur.at to := by rw [at_backK _ _ _ _ hne0, if_neg (fun e => hne e.symm)]
          have hTo' : Pile (PM.at ⟨backK cur.l frm ((p.1, p.2 - r) :: t)⟩ to) (T ++ E.take (n - r).toNat) (c + d) (u + (n - r).toNat) := by rw [hto]; exact hTo
          rw [hlst] at hd
          simp only [List.length_cons] at hd
          obtain ⟨m2, hm2, ho2, hP2⟩ := cPut_spec (o := p.1) (n := r) hTo' (by omega) (by omega) (by omega) (by omega)
          rw [hm2, Option.bind_some, subI_some (by unfold inI; omega), Option.bind_some]
          have hfrm : m2.at frm = (p.1, p.2 - r) :: t := by rw [ho2 _ hne, at_backK _ _ _ _ hne0, if_pos rfl]
          have e2 : (n - (r - r)).toNat = (n - r).toNat + r.toNat := by omega
          have erep : List.replicate p.2.toNat p.1 = List.replicate r.toNat p.1 ++ List.replicate (p.2 - r).toNat p.1 := by
            rw [List.replicate_append_replicate]; congr 1; omega
          have hdrop : E.drop ((n - r).toNat + r.toNat) = expT ((p.1, p.2 - r) :: t) := by
            rw [← List.drop_drop, ← hexp, erep, List.append_assoc]
            simp [expT]
          have htk : E.take ((n - r).toNat + r.toNat) = E.take (n - r).toNat ++ List.replicate r.toNat p.1 := by
            rw [List.take_add, ← hexp, erep, List.append_assoc]
            simp
          refine ⟨_, rfl, ⟨by simp only; omega, by simp only; omega, fun k h1 h2 => ?_, ?_, d + 1, ?_, ?_⟩, ?_⟩
          · simp only; rw [ho2 _ h2, at_backK _ _ _ _ hne0, if_neg h1]; exact hoth k h1 h2
          · simp only
            rw [hfrm, e2, hdrop]
            refine ⟨can_dropFirst hF.can (by omega), rfl, by simpa using hlc, ?_⟩
            rw [← hdrop]
            have := hF.units
            simp only [List.length_drop] at this ⊢
            omega
          · simp only
            rw [hfrm]
            simp
            omega
          · simp only
            rw [e2, htk, ← List.append_assoc]
            exact ⟨hP2.can, hP2.exp, hP2.len, by have := hP2.units; omega⟩
          · simp
  · rintro f ⟨hf, he, s, rfl, hs⟩
    rw [hf, Option.bind_some]
    exact ⟨s.2, rfl, hs⟩
end Go.Proofs.Ytbanncpkgbiklaa
