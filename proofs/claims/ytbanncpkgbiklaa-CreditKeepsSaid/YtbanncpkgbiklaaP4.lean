/- CreditKeeps: the law. -/
import Derived.Test.YtbanncpkgbiklaaP3
namespace Go.Proofs.Ytbanncpkgbiklaa
open Go.Gb

theorem keeps_L1 {m : List Move} {i : Nat} {now r : List Account} (hi : i < m.length) (hm : m.length ≤ 1073741824) (hR : RightP r) (hn : now.length ≤ 20000) (hk : ∀ a ∈ now, a.Lot ≠ m[i].From → a.Lot ≠ m[i].To → a ∈ r) (fuel : Nat) (hf : now.length < fuel) :
    ∃ j, iterL (lawKeeps_L1 m (now, (i : Int)) (r, (0 : Int))) fuel 0 = some (.ex 2 j) := by
  refine Exists.elim (loop_up (body := lawKeeps_L1 m (now, (i : Int)) (r, (0 : Int))) (fun k s => s = (k : Int)) now.length (fun f => ∃ j, f = .ex 2 j) ?_ ?_ 0 rfl fuel hf) ?_
  · rintro k s hk' rfl
    left
    refine ⟨((k + 1 : Nat) : Int), ?_, rfl⟩
    unfold lawKeeps_L1
    rw [if_pos (by simpa using hk')]
    dsimp only
    rw [getI_nat hk', Option.bind_some, getI_nat hi, Option.bind_some]
    have hlen := hR.2.2
    by_cases h1 : now[k].Lot = m[i].From
    · rw [if_neg (by simp [h1]), Option.bind_some, if_neg (by decide), Option.bind_some, if_neg (by decide), addI_one (show k < 4611686018427387904 by omega), Option.bind_some]
    · rw [if_pos (by simp [h1]), Option.bind_some, Option.bind_some]
      by_cases h2 : now[k].Lot = m[i].To
      · rw [if_neg (by simp [h2]), Option.bind_some, if_neg (by decide), addI_one (show k < 4611686018427387904 by omega), Option.bind_some]
      · rw [if_pos (by simp [h2]), cUnits_spec _ (by omega), Option.bind_some, units_of hR (hk _ (List.getElem_mem hk') h1 h2), Option.bind_some, if_neg (by simp), addI_one (show k < 4611686018427387904 by omega), Option.bind_some]
  · rintro s rfl
    refine ⟨.ex 2 (now.length : Int), ?_, trivial, _, rfl⟩
    unfold lawKeeps_L1
    rw [if_neg (by simp)]
  · rintro f ⟨hf, he, j, rfl⟩
    exact ⟨j, hf⟩

theorem keeps_round {l : List Account} {m : List Move} {now : List Account} {i : Nat} (hi : i < m.length) (hm : m.length ≤ 20) (hl : l.length ≤ 10) (hR : RightP l) (hRn : RightP now) (hn : now.length ≤ 10 + i) (hrun : runGo m i l 0 = (now, (i : Int), 0)) :
    lawKeeps_L0 l m true (now, (i : Int)) = some (if (doS now m[i]).2 ≠ 0 then .ret true else .go ((doS now m[i]).1, ((i + 1 : Nat) : Int))) := by
  have hnext := runGo_next (ms := m) i 0 l now (by omega) (by rw [hrun]; simp)
  simp only [Nat.zero_add] at hnext
  have hrunS : runS l (m.take (i + 1)) = runGo m (i + 1) l 0 := by
    unfold runS
    rw [if_pos hR, List.length_take, Nat.min_eq_left (by omega), runGo_take _ _ _ (by omega)]
  unfold lawKeeps_L0
  rw [if_pos (by simpa using hi)]
  dsimp only
  rw [getI_nat hi, Option.bind_some, cDo_spec m[i] (show now.length ≤ 536870912 by omega), Option.bind_some, addI_one (show i < 4611686018427387904 by omega), Option.bind_some,
    sliceI_some (by omega) (by omega) (by omega), Option.bind_some]
  have e1 : List.drop (0 : Int).toNat (List.take ((i + 1 : Nat) : Int).toNat m) = m.take (i + 1) := by simp
  rw [e1, cRun_spec (by simp; omega), Option.bind_some, hrunS, hnext]
  generalize hd : doS now m[i] = d
  obtain ⟨r, e⟩ := d
  dsimp only
  by_cases he : e = 0
  · subst he
    have hst := doS_ok hd
    obtain ⟨hs, hk⟩ := doS_keeps hd
    have hRr := hst.right'
    have hlr := hRr.2.2
    have hne : ¬ ((0 : Int) ≠ 0) := by simp
    rw [if_neg hne, if_neg hne, if_neg (by simp), cTotal_spec hRn, Option.bind_some, Option.bind_some]
    have hNb : 0 ≤ m[i].N ∧ m[i].N ≤ 1073741824 := by rcases hst.valid with h | h | h <;> omega
    have hsum : ∀ {x : List Account}, RightP x → 0 ≤ sumU x ∧ sumU x ≤ 21474836480000 := by
      intro x hx
      have key : ∀ y : List Account, (∀ a ∈ y, okA a) → 0 ≤ sumU y ∧ sumU y ≤ (y.length : Int) * 1073741824 := by
        intro y
        induction y with
        | nil => intro _; simp [sumU]
        | cons a y ih =>
          intro h
          have h1 := ih fun b hb => h b (by simp [hb])
          have h2 := h a (by simp)
          unfold okA at h2
          rw [sumU_cons]
          have : (((a :: y).length : Nat) : Int) * 1073741824 = (y.length : Int) * 1073741824 + 1073741824 := by simp only [List.length_cons]; push_cast; omega
          omega
      have h1 := key x hx.1
      have h2 := hx.2.2
      omega
    have hb1 := hsum hRn
    have hb2 := hsum hRr
    have htot : ((if (m[i].Kind == 0) = true then (some m[i]).bind fun x => (addI (sumU now) x.N).bind fun y => some y else some (sumU now)).bind fun s =>
        (some m[i]).bind fun x => (if (x.Kind == 2) = true then some true else (some m[i]).bind fun x => some (x.Kind == 3)).bind fun c =>
        (if c = true then (some m[i]).bind fun x => (subI s x.N).bind fun y => some y else some s)) = some (sumU r) := by
      rw [hs]
      unfold addsTo
      by_cases h0 : m[i].Kind = 0
      · have : addI (sumU now) m[i].N = some (sumU now + m[i].N) := addI_some (by unfold inI; omega)
        simp [h0, this]
      · by_cases h23 : m[i].Kind = 2 ∨ m[i].Kind = 3
        · have : subI (sumU now) m[i].N = some (sumU now - m[i].N) := subI_some (by unfold inI; omega)
          have e2 : sumU now + -m[i].N = sumU now - m[i].N := by omega
          rcases h23 with h | h <;> simp [h, this, e2]
        · have h2 : m[i].Kind ≠ 2 := fun h => h23 (.inl h)
          have h3 : m[i].Kind ≠ 3 := fun h => h23 (.inr h)
          simp [h0, h2, h3]
    obtain ⟨s1, hs1, htot⟩ := bind_some htot
    rw [Option.bind_some] at htot
    obtain ⟨c1, hc1, htot⟩ := bind_some htot
    rw [hs1, Option.bind_some, Option.bind_some, hc1, Option.bind_some, htot, Option.bind_some, cRight_spec (by omega), Option.bind_some, if_neg (by simp [hRr]), cTotal_spec hRr, Option.bind_some, Option.bind_some]
    rw [if_neg (by simp), Option.bind_some, Option.bind_some, if_neg (by simp), rSame_spec (show r.length ≤ 1073741824 by omega), Option.bind_some, Option.bind_some, if_neg (by simp)]
    obtain ⟨j, hj⟩ := keeps_L1 hi (by omega) hRr (show now.length ≤ 20000 by omega) hk (l.length + m.length + now.length + r.length + 1) (by omega)
    rw [hj, Option.bind_some]
    dsimp only
    rw [Option.bind_some]
  · have hrn := doS_fail hd he
    subst hrn
    rw [if_pos (show e ≠ 0 from he), if_pos (show e ≠ 0 from he), if_pos (by simpa using he), if_pos (by simp), rSame_spec (show now.length ≤ 1073741824 by omega), Option.bind_some, Option.bind_some]
    simp

theorem law_keeps (l : List Account) (m : List Move) : lawKeeps l m = some true := by
  unfold lawKeeps
  rw [small_true, Option.bind_some]
  unfold few
  rw [Option.bind_some]
  by_cases hf : (l.length : Int) ≤ 10 ∧ (m.length : Int) ≤ 20
  · rw [if_neg (by simp [hf]), cRight_spec (by omega), Option.bind_some, Option.bind_some]
    by_cases hR : RightP l
    · rw [if_neg (by simp [hR])]
      refine Exists.elim (loop_up (body := lawKeeps_L0 l m true) (fun i st => st.2 = (i : Int) ∧ RightP st.1 ∧ st.1.length ≤ 10 + i ∧ runGo m i l 0 = (st.1, (i : Int), 0)) m.length
        (fun f => f = .ret true ∨ ∃ j st, f = .ex j st) ?_ ?_ (l, 0) ⟨rfl, hR, by simp only; omega, rfl⟩ (l.length + m.length + l.length + 1) (by omega)) ?_
      · rintro i ⟨now, j⟩ hi ⟨rfl, h1, h2, h3⟩
        simp only at h1 h2 h3
        have hr := keeps_round hi (by omega) (by omega) hR h1 h2 h3
        by_cases he : (doS now m[i]).2 = 0
        · left
          rw [if_neg (by simp [he])] at hr
          generalize hd : doS now m[i] = d at hr he
          obtain ⟨r, e⟩ := d
          simp only at he
          subst he
          have hst := doS_ok hd
          refine ⟨_, hr, rfl, hst.right', Nat.le_trans hst.len (by omega), ?_⟩
          have := runGo_next (ms := m) i 0 l now (by omega) (by rw [h3]; simp)
          simp only [Nat.zero_add] at this
          rw [this, hd]
          simp
        · right
          rw [if_pos he] at hr
          exact ⟨_, hr, trivial, .inl rfl⟩
      · rintro ⟨now, j⟩ ⟨rfl, _⟩
        refine ⟨.ex 0 (now, (m.length : Int)), ?_, trivial, .inr ⟨_, _, rfl⟩⟩
        unfold lawKeeps_L0
        rw [if_neg (by simp)]
      · rintro f ⟨hf, he, rfl | ⟨j, st, rfl⟩⟩
        · rw [hf]; rfl
        · rw [hf]; rfl
    · rw [if_pos (by simp [hR])]
  · rw [if_pos (by simp; omega), Option.bind_some, if_pos rfl]
end Go.Proofs.Ytbanncpkgbiklaa
