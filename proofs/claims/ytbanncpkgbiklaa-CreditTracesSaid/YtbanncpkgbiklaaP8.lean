/- CreditTraces, as a law of what the functions compute. -/
import Derived.Test.YtbanncpkgbiklaaP6
namespace Go.Proofs.Ytbanncpkgbiklaa
open Go.Gb
set_option linter.unusedVariables false
set_option linter.unusedSimpArgs false

theorem can_mem : ∀ {t : List (Int × Int)}, Can t → ∀ p ∈ t, 1 ≤ p.2
  | [], _, _, h => nomatch h
  | q :: t, h, p, hp => by
    rcases List.mem_cons.1 hp with rfl | hp
    · exact h.1
    · exact can_mem h.2.2 p hp
theorem can_next : ∀ {t : List (Int × Int)}, Can t → ∀ i (h : i + 1 < t.length), (t[i]'(by omega)).1 ≠ t[i + 1].1
  | [], _, i, h => absurd h (Nat.not_lt_zero _)
  | [q], _, i, h => by simp at h
  | q :: r :: t, hc, 0, h => hc.2.1 r rfl
  | q :: r :: t, hc, i + 1, h => can_next hc.2.2 i (by simpa using h)

/-- The units of a trace that came from a lot; of all lots, if it is 0. -/
def wt (o : Int) (E : List Int) : Nat := if o = 0 then E.length else E.count o
theorem wt_append (o : Int) (E F : List Int) : wt o (E ++ F) = wt o E + wt o F := by
  unfold wt; split <;> simp [List.count_append]
theorem wt_le (o : Int) (E : List Int) : wt o E ≤ E.length := by
  unfold wt; split
  · exact Nat.le_refl _
  · exact List.count_le_length
theorem wt_rep (o q : Int) (n : Nat) : wt o (List.replicate n q) = if q = o ∨ o = 0 then n else 0 := by
  unfold wt
  by_cases h : o = 0
  · simp [h]
  · simp [h, List.count_replicate]

theorem lAdd_spec {t : List (Int × Int)} (o : Int) (hc : Can t) (hl : t.length ≤ 1073741824) (hu : (expT t).length ≤ 42949672960) : lAdd t o = some (wt o (expT t) : Int) := by
  unfold lAdd
  refine Exists.elim (loop_up (body := lAdd_L0 t o) (fun i s => s.2 = (i : Int) ∧ i ≤ t.length ∧ s.1 = (wt o (expT (t.take i)) : Int)) t.length
    (fun f => ∃ s, f = .ex 0 s ∧ s.1 = (wt o (expT t) : Int)) ?_ ?_ (0, 0) ⟨rfl, Nat.zero_le _, by simp [expT, wt]⟩ (t.length + 1) (by omega)) ?_
  · rintro i ⟨s, j⟩ hi ⟨rfl, _, rfl⟩
    left
    have hp := can_mem hc _ (List.getElem_mem hi)
    have hstep : expT (t.take (i + 1)) = expT (t.take i) ++ List.replicate t[i].2.toNat t[i].1 := by
      rw [List.take_succ_eq_append_getElem hi, expT_append]; simp [expT]
    have htot : (expT (t.take (i + 1))).length ≤ 42949672960 := by
      have : expT t = expT (t.take (i + 1)) ++ expT (t.drop (i + 1)) := by rw [← expT_append, List.take_append_drop]
      rw [this, List.length_append] at hu
      omega
    have h1 := wt_le o (expT (t.take i))
    rw [hstep, List.length_append, List.length_replicate] at htot
    unfold lAdd_L0
    dsimp only
    rw [if_pos (by simpa using hi), getI_nat hi, Option.bind_some]
    by_cases hq : t[i].1 = o ∨ o = 0
    · rw [if_pos (by simpa using hq), Option.bind_some, addI_some (by unfold inI; omega), Option.bind_some, Option.bind_some, addI_one (show i < 4611686018427387904 by omega), Option.bind_some]
      refine ⟨_, rfl, rfl, by omega, ?_⟩
      dsimp only
      rw [hstep, wt_append, wt_rep, if_pos hq]
      omega
    · rw [if_neg (by simpa using hq), Option.bind_some, addI_one (show i < 4611686018427387904 by omega), Option.bind_some]
      refine ⟨_, rfl, rfl, by omega, ?_⟩
      dsimp only
      rw [hstep, wt_append, wt_rep, if_neg hq]
      rfl
  · rintro ⟨s, j⟩ ⟨rfl, _, rfl⟩
    refine ⟨.ex 0 ((wt o (expT t) : Int), (t.length : Int)), ?_, trivial, _, rfl, rfl⟩
    unfold lAdd_L0
    rw [if_neg (by simp), List.take_length]
  · rintro f ⟨hf, he, s, rfl, hs⟩
    rw [hf, Option.bind_some]
    dsimp only
    rw [hs]

/-- The last loop: no part of a trace is empty, and neighbours have other origins. -/
theorem lCan_spec {t : List (Int × Int)} {e : Int} {n : Nat} (hc : Can t) (hl : t.length ≤ 1073741824) (hn : t.length < n) : ∃ s, iterL (lawTraces_L3 (t, e)) n 0 = some (.ex 7 s) := by
  refine Exists.elim (loop_up (body := lawTraces_L3 (t, e)) (fun i s => s = (i : Int)) t.length (fun f => ∃ s, f = .ex 7 s) ?_ ?_ 0 rfl n hn) ?_
  · rintro i s hi rfl
    left
    have hp := can_mem hc _ (List.getElem_mem hi)
    unfold lawTraces_L3
    dsimp only
    rw [if_pos (by simpa using hi), getI_nat hi, Option.bind_some, if_neg (by simp; omega)]
    by_cases h0 : 0 < i
    · have hq := can_next hc (i - 1) (by omega)
      have e1 : i - 1 + 1 = i := by omega
      simp only [e1] at hq
      rw [if_pos (by simpa using h0), subI_some (by unfold inI; omega), Option.bind_some, show (i : Int) - 1 = ((i - 1 : Nat) : Int) by omega, getI_nat (show i - 1 < t.length by omega), Option.bind_some, Option.bind_some, Option.bind_some, Option.bind_some,
        if_neg (by simpa using hq), addI_one (show i < 4611686018427387904 by omega), Option.bind_some]
      exact ⟨_, rfl, rfl⟩
    · rw [if_neg (by simpa using h0), Option.bind_some, Option.bind_some, if_neg (by decide), addI_one (show i < 4611686018427387904 by omega), Option.bind_some]
      exact ⟨_, rfl, rfl⟩
  · rintro s rfl
    refine ⟨.ex 7 (t.length : Int), ?_, trivial, _, rfl⟩
    unfold lawTraces_L3
    rw [if_neg (by simp)]
  · rintro f ⟨hf, he, s, rfl⟩
    exact ⟨s, hf⟩

/- Sums over lots. -/
theorem sum_same {g h : Int → Nat} : ∀ {L : List Int}, (∀ k ∈ L, g k = h k) → (L.map g).sum = (L.map h).sum
  | [], _ => rfl
  | a :: L, hs => by
    simp only [List.map_cons, List.sum_cons, hs a (List.mem_cons_self), sum_same fun k hk => hs k (List.mem_cons_of_mem _ hk)]
theorem sum_one {g h : Int → Nat} {f : Int} : ∀ {L : List Int}, L.Nodup → f ∈ L → (∀ k ∈ L, k ≠ f → g k = h k) → (L.map g).sum + h f = (L.map h).sum + g f
  | [], _, hf, _ => nomatch hf
  | a :: L, hn, hf, hs => by
    simp only [List.map_cons, List.sum_cons]
    obtain ⟨h1, h2⟩ := List.nodup_cons.1 hn
    by_cases e : a = f
    · subst e
      rw [sum_same (g := g) (h := h) fun k hk => hs k (List.mem_cons_of_mem _ hk) fun e => h1 (e ▸ hk)]
      omega
    · have hf' : f ∈ L := by
        rcases List.mem_cons.1 hf with h | h
        · exact absurd h.symm e
        · exact h
      have ih := sum_one (g := g) (h := h) h2 hf' fun k hk => hs k (List.mem_cons_of_mem _ hk)
      have := hs a (List.mem_cons_self) e
      omega

def lotsOf (now : List Account) : List Int := (-1) :: 0 :: now.map (·.Lot)
def tot (now : List Account) (E : Int → List Int) (o : Int) : Nat := ((lotsOf now).map fun k => (E k).count o).sum
theorem nodup_lots {now : List Account} (hR : RightP now) : (lotsOf now).Nodup := by
  have hpos : ∀ k ∈ now.map (·.Lot), 1 ≤ k := by
    intro k hk
    obtain ⟨a, ha, rfl⟩ := List.mem_map.1 hk
    exact (hR.1 a ha).1
  unfold lotsOf
  refine List.nodup_cons.2 ⟨fun h => ?_, List.nodup_cons.2 ⟨fun h => ?_, ?_⟩⟩
  · rcases List.mem_cons.1 h with h | h
    · omega
    · have := hpos _ h; omega
  · have := hpos _ h; omega
  · unfold List.Nodup
    rw [List.pairwise_map]
    exact hR.2.1.imp fun h => by omega
theorem lots_modify {l : List Account} {i : Nat} {f : Account → Account} (hf : ∀ a, (f a).Lot = a.Lot) : (l.modify i f).map (·.Lot) = l.map (·.Lot) := by
  refine List.ext_getElem (by simp) fun k h1 h2 => ?_
  simp only [List.getElem_map, List.getElem_modify]
  split
  · exact hf _
  · rfl
theorem lots_insS (x : Account) : ∀ l : List Account, ((insS l x).map (·.Lot)).Perm (x.Lot :: l.map (·.Lot))
  | [] => .refl _
  | a :: l => by
    unfold insS
    split
    · exact ((lots_insS x l).cons a.Lot).trans (.swap _ _ _)
    · exact .refl _

theorem mem_lots {now : List Account} {i : Nat} (h : i < now.length) : now[i].Lot ∈ lotsOf now :=
  List.mem_cons_of_mem _ (List.mem_cons_of_mem _ (List.mem_map.2 ⟨_, List.getElem_mem h, rfl⟩))

/-- Moving units from a lot to another one keeps their origins. -/
theorem tot_mv {L : List Int} {E : Int → List Int} {f t n o : Int} (hn : L.Nodup) (hf : f ∈ L) (ht : t ∈ L) (hne : f ≠ t) :
    (L.map fun k => (mvE E f t n k).count o).sum = (L.map fun k => (E k).count o).sum := by
  have h1 := sum_one (L := L) (f := f) (g := fun k => (if k = f then (E f).drop n.toNat else E k).count o) (h := fun k => (E k).count o) hn hf fun k _ hk => by simp [hk]
  have h2 := sum_one (L := L) (f := t) (g := fun k => (mvE E f t n k).count o) (h := fun k => (if k = f then (E f).drop n.toNat else E k).count o) hn ht fun k _ hk => by unfold mvE; simp [hk]
  have e1 : (E f).count o = ((E f).take n.toNat).count o + ((E f).drop n.toNat).count o := by rw [← List.count_append, List.take_append_drop]
  simp only [if_true, mvE, if_neg (fun e : t = f => hne e.symm), List.count_append] at h1 h2
  simp only [mvE]
  omega

structure Inv (now first : List Account) (E : Int → List Int) (sp vo : Int) : Prop where
  right : RightP now
  cons : Cons now E
  len : first.length = now.length
  sub : ∀ x ∈ first, (∃ a ∈ now, a.Lot = x.Lot) ∧ 0 ≤ x.Units
  tot : ∀ x ∈ first, tot now E x.Lot = x.Units.toNat
  non : ∀ o, 1 ≤ o → (∀ x ∈ first, x.Lot ≠ o) → Go.Proofs.Ytbanncpkgbiklaa.tot now E o = 0
  spent : ((E 0).length : Int) = sp
  voided : ((E (-1)).length : Int) = vo

theorem inv_start {l : List Account} (hR : RightP l) : Inv l l (stE l l.length) 0 0 := by
  obtain ⟨h1, h2⟩ := stE_spec hR l.length (Nat.le_refl _)
  have hz : ∀ k, k ≤ 0 → stE l l.length k = [] := fun k hk => h2 k fun j hj _ => by have := (hR.1 _ (List.getElem_mem hj)).1; omega
  have hne : ∀ o k, k ∈ lotsOf l → k ≠ o → (stE l l.length k).count o = 0 := by
    intro o k hk hko
    rcases List.mem_cons.1 hk with rfl | hk
    · rw [hz _ (by omega)]; rfl
    · rcases List.mem_cons.1 hk with rfl | hk
      · rw [hz _ (by omega)]; rfl
      · obtain ⟨a, ha, rfl⟩ := List.mem_map.1 hk
        obtain ⟨j, hj, rfl⟩ := List.getElem_of_mem ha
        rw [h1 j hj hj, List.count_replicate, if_neg (by simpa using hko)]
  have h0 : ∀ L : List Int, (L.map fun _ => 0).sum = 0 := by
    intro L
    induction L with
    | nil => rfl
    | cons a L ih => simp only [List.map_cons, List.sum_cons, ih]
  refine ⟨hR, stE_cons hR, rfl, fun x hx => ⟨⟨x, hx, rfl⟩, (hR.1 x hx).2.2.1⟩, fun x hx => ?_, fun o ho hx => ?_, by rw [hz _ (by omega)]; rfl, by rw [hz _ (by omega)]; rfl⟩
  · obtain ⟨j, hj, rfl⟩ := List.getElem_of_mem hx
    have := sum_one (L := lotsOf l) (f := l[j].Lot) (g := fun k => (stE l l.length k).count l[j].Lot) (h := fun _ => 0) (nodup_lots hR) (mem_lots hj) fun k hk hko => hne _ _ hk hko
    rw [h0, h1 j hj hj, List.count_replicate] at this
    unfold tot
    simpa using this
  · unfold tot
    rw [sum_same (h := fun _ => 0) fun k hk => ?_, h0]
    by_cases e : k = o
    · subst e
      rw [h2 k fun j hj _ => hx _ (List.getElem_mem hj)]
      rfl
    · exact hne _ _ hk e

/-- What stays when units are moved to one of the lots. -/
theorem inv_mv {now r first : List Account} {E : Int → List Int} {sp vo sp' vo' : Int} {f t n : Int} (h : Inv now first E sp vo) (hR : RightP r) (hcn : Cons r (mvE E f t n)) (hlots : r.map (·.Lot) = now.map (·.Lot))
    (hf : f ∈ lotsOf now) (ht : t ∈ lotsOf now) (hne : f ≠ t) (hs : ((mvE E f t n 0).length : Int) = sp') (hv : ((mvE E f t n (-1)).length : Int) = vo') : Inv r first (mvE E f t n) sp' vo' := by
  have hl : lotsOf r = lotsOf now := by unfold lotsOf; rw [hlots]
  have ht' : ∀ o, tot r (mvE E f t n) o = tot now E o := by
    intro o
    unfold tot
    rw [hl]
    exact tot_mv (nodup_lots h.right) hf ht hne
  refine ⟨hR, hcn, ?_, fun x hx => ⟨?_, (h.sub x hx).2⟩, fun x hx => by rw [ht']; exact h.tot x hx, fun o ho hx => by rw [ht']; exact h.non o ho hx, hs, hv⟩
  · rw [h.len]
    have := congrArg List.length hlots
    simpa using this.symm
  · obtain ⟨a, ha, e⟩ := (h.sub x hx).1
    have hm : x.Lot ∈ r.map (·.Lot) := by rw [hlots]; exact List.mem_map.2 ⟨a, ha, e⟩
    obtain ⟨b, hb, e⟩ := List.mem_map.1 hm
    exact ⟨b, hb, e⟩

theorem inv_step {now r first : List Account} {E : Int → List Int} {sp vo : Int} {mv : Move} (h : Inv now first E sp vo) (hd : doS now mv = (r, 0)) :
    Inv r (if mv.Kind = 0 then first ++ [⟨mv.To, mv.N, false⟩] else first) (evE E mv) (if mv.Kind = 2 then sp + mv.N else sp) (if mv.Kind = 3 then vo + mv.N else vo) ∧ (mv.Kind = 2 ∨ mv.Kind = 3 → mv.N ≤ 1073741824 ∧ 0 ≤ mv.N) := by
  have hst := doS_ok hd
  have hRr := hst.right'
  have hcn := doS_cons hd h.cons
  have hpos : ∀ k (hk : k < now.length), 1 ≤ now[k].Lot := fun k hk => (h.right.1 _ (List.getElem_mem hk)).1
  have m0 : (0 : Int) ∈ lotsOf now := by simp [lotsOf]
  have m1 : (-1 : Int) ∈ lotsOf now := by simp [lotsOf]
  rcases doS_cases hd with ⟨h0, h1, h2, h3, h4, rfl⟩ | ⟨h0, h1, h2, h3, i, j, hi, hj, hij, hf, ht, _, hu', hm, rfl⟩ | ⟨h0, h2, h3, i, hi, hf, hu', rfl⟩
  · rw [if_pos h0, if_neg (by omega), if_neg (by omega)]
    have hE : evE E mv = opE E mv.To mv.N := by unfold evE; rw [if_pos h0]
    rw [hE] at hcn ⊢
    have hemp : E mv.To = [] := h.cons.rest _ h2 h1
    have htn : ∀ o, tot (insS now ⟨mv.To, mv.N, mv.From == 1⟩) (opE E mv.To mv.N) o = tot now E o + (List.replicate mv.N.toNat mv.To).count o := by
      intro o
      have hp : (lotsOf (insS now ⟨mv.To, mv.N, mv.From == 1⟩)).Perm (mv.To :: lotsOf now) := by
        unfold lotsOf
        exact (((lots_insS _ now).cons 0).cons (-1)).trans ((((List.Perm.swap _ _ _)).cons (-1)).trans (.swap _ _ _))
      unfold tot
      rw [(hp.map _).sum_nat, List.map_cons, List.sum_cons]
      have hnin : ∀ k ∈ lotsOf now, k ≠ mv.To := by
        intro k hk e
        subst e
        rcases List.mem_cons.1 hk with hk | hk
        · omega
        · rcases List.mem_cons.1 hk with hk | hk
          · omega
          · obtain ⟨a, ha, e⟩ := List.mem_map.1 hk
            exact h1 a ha e
      rw [sum_same (g := fun k => (opE E mv.To mv.N k).count o) (h := fun k => (E k).count o) fun k hk => by unfold opE; rw [if_neg (hnin k hk)]]
      unfold opE
      rw [if_pos rfl, hemp, List.nil_append]
      omega
    have hfn : ∀ x ∈ first, x.Lot ≠ mv.To := by
      intro x hx e
      obtain ⟨a, ha, e'⟩ := (h.sub x hx).1
      exact h1 a ha (e'.trans e)
    refine ⟨⟨hRr, hcn, ?_, ?_, ?_, ?_, ?_, ?_⟩, fun hk => by omega⟩
    · rw [List.length_append, insS_len, h.len]; rfl
    · intro x hx
      rcases List.mem_append.1 hx with hx | hx
      · obtain ⟨a, ha, e⟩ := (h.sub x hx).1
        exact ⟨⟨a, insS_mem.2 (.inr ha), e⟩, (h.sub x hx).2⟩
      · obtain rfl := List.mem_singleton.1 hx
        exact ⟨⟨_, insS_mem.2 (.inl rfl), rfl⟩, h3⟩
    · intro x hx
      rw [htn]
      rcases List.mem_append.1 hx with hx | hx
      · rw [h.tot x hx, List.count_replicate, if_neg (by simpa using (hfn x hx).symm)]
        rfl
      · obtain rfl := List.mem_singleton.1 hx
        rw [h.non _ h2 hfn, List.count_replicate]
        simp
    · intro o ho hx
      rw [htn, h.non o ho fun x hx' => hx x (List.mem_append_left _ hx'), List.count_replicate, if_neg (by simpa using hx ⟨mv.To, mv.N, false⟩ (by simp))]
    · unfold opE
      rw [if_neg (by omega)]
      exact h.spent
    · unfold opE
      rw [if_neg (by omega)]
      exact h.voided
  · rw [if_neg (by omega), if_neg (by omega), if_neg (by omega)]
    have hE : evE E mv = mvE E mv.From mv.To mv.N := by unfold evE; rw [if_neg (by omega), if_pos h0]
    rw [hE] at hcn ⊢
    have hfp := hpos i hi
    have htp := hpos j hj
    refine ⟨inv_mv h hRr hcn ?_ (hf ▸ mem_lots hi) (ht ▸ mem_lots hj) h1 ?_ ?_, fun hk => by omega⟩
    · rw [lots_modify (by intro; rfl), lots_modify (by intro; rfl)]
    · unfold mvE
      rw [if_neg (by omega), if_neg (by omega)]
      exact h.spent
    · unfold mvE
      rw [if_neg (by omega), if_neg (by omega)]
      exact h.voided
  · have hfp := hpos i hi
    have hlen := h.cons.len _ (List.getElem_mem hi)
    rw [hf] at hlen hfp
    have hk0 : ¬ mv.Kind = 0 := by omega
    rw [if_neg hk0]
    have htk : ((E mv.From).take mv.N.toNat).length = mv.N.toNat := by rw [List.length_take]; omega
    rcases h0 with h0 | h0
    · have hE : evE E mv = mvE E mv.From 0 mv.N := by unfold evE; rw [if_neg (by omega), if_neg (by omega), if_pos h0]
      rw [hE] at hcn ⊢
      rw [if_pos h0, if_neg (by omega)]
      refine ⟨inv_mv h hRr hcn (lots_modify (by intro; rfl)) (hf ▸ mem_lots hi) m0 (by omega) ?_ ?_, fun _ => ⟨h3, by omega⟩⟩
      · unfold mvE
        rw [if_neg (by omega), if_pos rfl, List.length_append, htk, ← h.spent]
        omega
      · unfold mvE
        rw [if_neg (by omega), if_neg (by omega)]
        exact h.voided
    · have hE : evE E mv = mvE E mv.From (-1) mv.N := by unfold evE; rw [if_neg (by omega), if_neg (by omega), if_neg (by omega), if_pos h0]
      rw [hE] at hcn ⊢
      rw [if_neg (by omega), if_pos h0]
      refine ⟨inv_mv h hRr hcn (lots_modify (by intro; rfl)) (hf ▸ mem_lots hi) m1 (by omega) ?_ ?_, fun _ => ⟨h3, by omega⟩⟩
      · unfold mvE
        rw [if_neg (by omega), if_neg (by omega)]
        exact h.spent
      · unfold mvE
        rw [if_neg (by omega), if_pos rfl, List.length_append, htk, ← h.voided]
        omega
end Go.Proofs.Ytbanncpkgbiklaa
