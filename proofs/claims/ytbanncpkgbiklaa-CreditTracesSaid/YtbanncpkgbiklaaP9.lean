/- CreditTraces, as a law of what the functions compute: the law itself. -/
import Derived.Test.YtbanncpkgbiklaaP8
namespace Go.Proofs.Ytbanncpkgbiklaa
open Go.Gb
set_option linter.unusedVariables false
set_option linter.unusedSimpArgs false

/-- The first loop of the law: the accounts that there ever were, and what was spent and voided. -/
theorem first_loop {l now : List Account} {ms : List Move} {q : Int} {n : Nat} (hl : l.length ≤ 10) (hm : ms.length ≤ 20) (hrun : runS l ms = (now, q, 0)) (hn : ms.length < n) :
    ∃ first sp vo i, iterL (lawTraces_L0 ms) n (l, 0, 0, 0) = some (.ex 0 (first, sp, vo, i)) ∧ Inv now first (evs ms (stE l l.length) ms.length) sp vo ∧ first.length ≤ 30 := by
  have hR : RightP l := by
    unfold runS at hrun
    by_cases hR : RightP l
    · exact hR
    · rw [if_neg hR] at hrun; simp at hrun
  have h0 := inv_start hR
  generalize stE l l.length = E0 at h0 ⊢
  unfold runS at hrun
  rw [if_pos hR] at hrun
  refine Exists.elim (loop_up (body := lawTraces_L0 ms) (fun i s => s.2.2.2 = (i : Int) ∧ i ≤ ms.length ∧ s.1.length ≤ 10 + i ∧ 0 ≤ s.2.1 ∧ s.2.1 ≤ i * 1073741824 ∧ 0 ≤ s.2.2.1 ∧ s.2.2.1 ≤ i * 1073741824 ∧ ∃ nw, Inv nw s.1 (evs ms E0 i) s.2.1 s.2.2.1 ∧ runGo ms (ms.length - i) nw i = (now, q, 0)) ms.length
    (fun f => ∃ s, f = .ex 0 s ∧ Inv now s.1 (evs ms E0 ms.length) s.2.1 s.2.2.1 ∧ s.1.length ≤ 30) ?_ ?_ (l, 0, 0, 0)
    ⟨rfl, by omega, (show l.length ≤ 10 + 0 by omega), Int.le_refl _, Int.le_refl _, Int.le_refl _, Int.le_refl _, l, h0, by simpa using hrun⟩ n hn) ?_
  · rintro i ⟨first, sp, vo, j⟩ hi ⟨rfl, _, hfl, s0, s1, v0, v1, nw, hinv, hr⟩
    left
    dsimp only at hfl s0 s1 v0 v1 hinv
    have hdo : doS nw ms[i] = ((doS nw ms[i]).1, 0) := by
      obtain ⟨k, hk⟩ : ∃ k, ms.length - i = k + 1 := ⟨ms.length - i - 1, by omega⟩
      rw [hk, runGo] at hr
      simp only [List.getElem?_eq_getElem hi] at hr
      by_cases he : (doS nw ms[i]).2 = 0
      · rw [← he]
      · rw [if_pos he] at hr
        simp only [Prod.mk.injEq] at hr
        exact absurd hr.2.2 he
    have hnext : runGo ms (ms.length - (i + 1)) (doS nw ms[i]).1 (i + 1) = (now, q, 0) := by
      obtain ⟨k, hk⟩ : ∃ k, ms.length - i = k + 1 := ⟨ms.length - i - 1, by omega⟩
      rw [hk, runGo] at hr
      simp only [List.getElem?_eq_getElem hi] at hr
      rw [if_neg (by rw [hdo]; simp)] at hr
      rw [show ms.length - (i + 1) = k by omega]
      exact hr
    obtain ⟨hstep, hb⟩ := inv_step hinv hdo
    have hev : evs ms E0 (i + 1) = evE (evs ms E0 i) ms[i] := by simp only [evs, List.getElem?_eq_getElem hi]
    rw [← hev] at hstep
    unfold lawTraces_L0
    dsimp only
    rw [if_pos (by simpa using hi), getI_nat hi, Option.bind_some]
    by_cases k0 : ms[i].Kind = 0
    · rw [if_pos k0, if_neg (by omega), if_neg (by omega)] at hstep
      rw [if_pos (by simpa using k0), Option.bind_some, Option.bind_some, appI_some (by simp; omega), Option.bind_some, Option.bind_some, addI_one (show i < 4611686018427387904 by omega), Option.bind_some]
      exact ⟨_, rfl, rfl, by omega, (show (first ++ [_]).length ≤ 10 + (i + 1) by simp; omega), s0, (show sp ≤ ((i + 1 : Nat) : Int) * 1073741824 by omega), v0, (show vo ≤ ((i + 1 : Nat) : Int) * 1073741824 by omega), _, hstep, hnext⟩
    · rw [if_neg k0] at hstep
      rw [if_neg (by simpa using k0)]
      by_cases k2 : ms[i].Kind = 2
      · obtain ⟨b1, b2⟩ := hb (.inl k2)
        rw [if_pos k2, if_neg (by omega)] at hstep
        rw [if_pos (by simpa using k2), Option.bind_some, addI_some (by unfold inI; omega), Option.bind_some, Option.bind_some, Option.bind_some, addI_one (show i < 4611686018427387904 by omega), Option.bind_some]
        exact ⟨_, rfl, rfl, by omega, (show first.length ≤ 10 + (i + 1) by omega), (show 0 ≤ sp + ms[i].N by omega), (show sp + ms[i].N ≤ ((i + 1 : Nat) : Int) * 1073741824 by omega), v0, (show vo ≤ ((i + 1 : Nat) : Int) * 1073741824 by omega), _, hstep, hnext⟩
      · rw [if_neg k2] at hstep
        rw [if_neg (by simpa using k2)]
        by_cases k3 : ms[i].Kind = 3
        · obtain ⟨b1, b2⟩ := hb (.inr k3)
          rw [if_pos k3] at hstep
          rw [if_pos (by simpa using k3), Option.bind_some, addI_some (by unfold inI; omega), Option.bind_some, Option.bind_some, Option.bind_some, Option.bind_some, addI_one (show i < 4611686018427387904 by omega), Option.bind_some]
          exact ⟨_, rfl, rfl, by omega, (show first.length ≤ 10 + (i + 1) by omega), s0, (show sp ≤ ((i + 1 : Nat) : Int) * 1073741824 by omega), (show 0 ≤ vo + ms[i].N by omega), (show vo + ms[i].N ≤ ((i + 1 : Nat) : Int) * 1073741824 by omega), _, hstep, hnext⟩
        · rw [if_neg k3] at hstep
          rw [if_neg (by simpa using k3), Option.bind_some, Option.bind_some, Option.bind_some, addI_one (show i < 4611686018427387904 by omega), Option.bind_some]
          exact ⟨_, rfl, rfl, by omega, (show first.length ≤ 10 + (i + 1) by omega), s0, (show sp ≤ ((i + 1 : Nat) : Int) * 1073741824 by omega), v0, (show vo ≤ ((i + 1 : Nat) : Int) * 1073741824 by omega), _, hstep, hnext⟩
  · rintro ⟨first, sp, vo, j⟩ ⟨rfl, _, hfl, s0, s1, v0, v1, nw, hinv, hr⟩
    dsimp only at hfl hinv
    rw [Nat.sub_self] at hr
    simp only [runGo, Prod.mk.injEq] at hr
    obtain ⟨rfl, _⟩ := hr
    refine ⟨.ex 0 (first, sp, vo, (ms.length : Int)), ?_, trivial, _, rfl, hinv, (show first.length ≤ 30 by omega)⟩
    unfold lawTraces_L0
    rw [if_neg (by simp)]
  · rintro f ⟨hf, he, ⟨first, sp, vo, j⟩, rfl, h1, h2⟩
    exact ⟨first, sp, vo, j, hf, h1, h2⟩

/-- The trace of each lot, and what add says of it. -/
theorem lot_trace {l fin : List Account} {ms : List Move} {q : Int} (lot : Int) (hl : l.length ≤ 10) (hm : ms.length ≤ 20) (hrun : runS l ms = (fin, q, 0)) :
    ∃ t, cTrace l ms lot = some (t, 0) ∧ Can t ∧ t.length ≤ 1073741824 ∧ (∀ o, lAdd t o = some (wt o (evs ms (stE l l.length) ms.length lot) : Int)) ∧ (evs ms (stE l l.length) ms.length lot).length ≤ 42949672960 := by
  obtain ⟨t, h1, h2, h3, _, h5, h6⟩ := cTrace_spec lot hl (by omega) hrun
  refine ⟨t, h1, h2, h5, fun o => ?_, h3 ▸ h6⟩
  rw [lAdd_spec o h2 h5 h6, h3]

/-- The second loop: the traces of all accounts. -/
theorem second_loop {l fin : List Account} {ms : List Move} {q : Int} {e f : List (Int × Int) × Int} {x : List Account × Int × Int × Int} {k : Nat} {n : Nat} (base : Nat) (hl : l.length ≤ 10) (hm : ms.length ≤ 20)
    (hrun : runS l ms = (fin, q, 0)) (hinv : Cons fin (evs ms (stE l l.length) ms.length)) (hR : RightP fin) (hfl : fin.length ≤ 30) (hk : k < x.1.length) (hko : x.1[k].Lot ≠ 0) (hb : base ≤ 100000000000) (hn : fin.length < n) :
    ∃ i, iterL (lawTraces_L2 l ms (fin, q, 0) x e f (k : Int)) n (((base : Nat) : Int), 0) = some (.ex 5 (((base + ((fin.map (·.Lot)).map fun y => (evs ms (stE l l.length) ms.length y).count x.1[k].Lot).sum : Nat) : Int), i)) := by
  refine Exists.elim (loop_up (body := lawTraces_L2 l ms (fin, q, 0) x e f (k : Int)) (fun i s => s.2 = (i : Int) ∧ i ≤ fin.length ∧ s.1 = ((base + (((fin.take i).map (·.Lot)).map fun y => (evs ms (stE l l.length) ms.length y).count x.1[k].Lot).sum : Nat) : Int) ∧ s.1 ≤ 100000000000 + i * 42949672960) fin.length
    (fun g => ∃ i, g = .ex 5 (((base + ((fin.map (·.Lot)).map fun y => (evs ms (stE l l.length) ms.length y).count x.1[k].Lot).sum : Nat) : Int), i)) ?_ ?_ (((base : Nat) : Int), 0) ⟨rfl, Nat.zero_le _, by simp, (show ((base : Nat) : Int) ≤ _ by omega)⟩ n hn) ?_
  · rintro i ⟨s, j⟩ hi ⟨rfl, _, hs, hsb⟩
    left
    dsimp only at hs hsb
    obtain ⟨t, c1, hc, hlen, hadd, hu⟩ := lot_trace fin[i].Lot hl hm hrun
    have hun := hinv.len _ (List.getElem_mem hi)
    have hok := hR.1 _ (List.getElem_mem hi)
    have hw0 : wt 0 (evs ms (stE l l.length) ms.length fin[i].Lot) = (evs ms (stE l l.length) ms.length fin[i].Lot).length := by unfold wt; rw [if_pos rfl]
    have hwo : wt x.1[k].Lot (evs ms (stE l l.length) ms.length fin[i].Lot) = (evs ms (stE l l.length) ms.length fin[i].Lot).count x.1[k].Lot := by unfold wt; rw [if_neg hko]
    have hcl : (evs ms (stE l l.length) ms.length fin[i].Lot).count x.1[k].Lot ≤ (evs ms (stE l l.length) ms.length fin[i].Lot).length := List.count_le_length
    have hstep : (((fin.take (i + 1)).map (·.Lot)).map fun y => (evs ms (stE l l.length) ms.length y).count x.1[k].Lot).sum = (((fin.take i).map (·.Lot)).map fun y => (evs ms (stE l l.length) ms.length y).count x.1[k].Lot).sum + (evs ms (stE l l.length) ms.length fin[i].Lot).count x.1[k].Lot := by
      rw [List.take_succ_eq_append_getElem hi, List.map_append, List.map_append, List.sum_append_nat]; rfl
    unfold lawTraces_L2
    dsimp only
    rw [if_pos (by simpa using hi), getI_nat hi, Option.bind_some, c1, Option.bind_some, if_neg (by simp), hadd, Option.bind_some, hw0, hun, Option.bind_some, Option.bind_some,
      if_neg (by unfold okA at hok; simp; omega)]
    obtain ⟨s7, h7⟩ := lCan_spec (e := 0) (n := l.length + ms.length + fin.length + x.1.length + e.1.length + f.1.length + t.length + 1) hc hlen (by omega)
    rw [h7, Option.bind_some]
    dsimp only
    rw [getI_nat hk, Option.bind_some, hadd, hwo, Option.bind_some, addI_some (by unfold inI; omega), Option.bind_some, addI_one (show i < 4611686018427387904 by omega), Option.bind_some]
    refine ⟨_, rfl, rfl, by omega, ?_, ?_⟩
    · dsimp only
      rw [hstep, hs]
      omega
    · dsimp only
      omega
  · rintro ⟨s, j⟩ ⟨rfl, _, hs, _⟩
    dsimp only at hs
    subst hs
    refine ⟨.ex 5 (_, (fin.length : Int)), ?_, trivial, _, rfl⟩
    unfold lawTraces_L2
    dsimp only
    rw [if_neg (by simp), List.take_length]
  · rintro g ⟨hg, he, i, rfl⟩
    exact ⟨i, hg⟩

theorem law_traces (l : List Account) (m : List Move) : lawTraces l m = some true := by
  unfold lawTraces
  rw [small_true, Option.bind_some]
  unfold few
  rw [Option.bind_some]
  by_cases hf : (l.length : Int) ≤ 10 ∧ (m.length : Int) ≤ 20
  · rw [if_neg (by simp [hf]), cRun_spec (by omega), Option.bind_some]
    generalize hr : runS l m = d
    obtain ⟨fin, q, e⟩ := d
    dsimp only
    by_cases he : e = 0
    · subst he
      rw [if_neg (by simp), appI_some (by simp; omega), Option.bind_some, List.nil_append]
      obtain ⟨first, sp, vo, i, h1, hinv, hfl⟩ := first_loop (n := l.length + m.length + fin.length + l.length + 1) (by omega) (by omega) hr (by omega)
      rw [h1, Option.bind_some]
      dsimp only
      obtain ⟨t0, c0, k0, n0, a0, u0⟩ := lot_trace 0 (by omega) (by omega) hr
      obtain ⟨t1, c1, k1, n1, a1, u1⟩ := lot_trace (-1) (by omega) (by omega) hr
      have w0 : wt 0 (evs m (stE l l.length) m.length 0) = (evs m (stE l l.length) m.length 0).length := by unfold wt; rw [if_pos rfl]
      have w1 : wt 0 (evs m (stE l l.length) m.length (-1)) = (evs m (stE l l.length) m.length (-1)).length := by unfold wt; rw [if_pos rfl]
      rw [if_neg (by simp [hinv.len]), c0, Option.bind_some, c1, Option.bind_some, a0, Option.bind_some, w0, hinv.spent, if_neg (by simp), a1, Option.bind_some, w1, hinv.voided, Option.bind_some, if_neg (by simp)]
      refine Exists.elim (loop_up (body := lawTraces_L1 l m (fin, q, 0) (first, sp, vo, i) (t0, 0) (t1, 0)) (fun i s => s = (i : Int)) first.length (fun f => ∃ s, f = .ex 3 s) ?_ ?_ 0 rfl (l.length + m.length + fin.length + first.length + t0.length + t1.length + 1) (by omega)) ?_
      · rintro k s hk rfl
        left
        have hsub := hinv.sub _ (List.getElem_mem hk)
        have hko : first[k].Lot ≠ 0 := by
          obtain ⟨a, ha, e⟩ := hsub.1
          have := (hinv.right.1 a ha).1
          omega
        have wo : ∀ y, wt first[k].Lot (evs m (stE l l.length) m.length y) = (evs m (stE l l.length) m.length y).count first[k].Lot := fun y => by unfold wt; rw [if_neg hko]
        have b0 : (evs m (stE l l.length) m.length 0).count first[k].Lot ≤ (evs m (stE l l.length) m.length 0).length := List.count_le_length
        have b1 : (evs m (stE l l.length) m.length (-1)).count first[k].Lot ≤ (evs m (stE l l.length) m.length (-1)).length := List.count_le_length
        have htot := hinv.tot _ (List.getElem_mem hk)
        unfold tot lotsOf at htot
        simp only [List.map_cons, List.sum_cons] at htot
        unfold lawTraces_L1
        dsimp only
        obtain ⟨i5, h5⟩ := second_loop (x := (first, sp, vo, i)) (e := (t0, 0)) (f := (t1, 0)) (k := k) (n := l.length + m.length + fin.length + first.length + t0.length + t1.length + 1) ((evs m (stE l l.length) m.length 0).count first[k].Lot + (evs m (stE l l.length) m.length (-1)).count first[k].Lot)
          (by omega) (by omega) hr hinv.cons hinv.right (by have := hinv.len; omega) hk hko (by omega) (by omega)
        rw [if_pos (by simpa using hk), getI_nat hk, Option.bind_some, a0, Option.bind_some, Option.bind_some, a1, Option.bind_some, wo, wo, addI_some (by unfold inI; omega), Option.bind_some, ← Int.natCast_add, h5, Option.bind_some]
        dsimp only
        rw [Option.bind_some, if_neg (by rw [bne_iff_ne, ne_eq, Decidable.not_not]; omega), addI_one (show k < 4611686018427387904 by omega), Option.bind_some]
        exact ⟨_, rfl, rfl⟩
      · rintro s rfl
        refine ⟨.ex 3 (first.length : Int), ?_, trivial, _, rfl⟩
        unfold lawTraces_L1
        rw [if_neg (by simp)]
      · rintro f ⟨hf, he, s, rfl⟩
        rw [hf, Option.bind_some]
    · rw [if_pos (by simpa using he), cTrace_fail 0 (by omega) hr he, Option.bind_some]
      simp
  · rw [if_pos (by simp; omega)]
end Go.Proofs.Ytbanncpkgbiklaa
