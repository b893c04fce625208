/- The plain part of the proof (no program in sight), part 2 -/
import Derived.Test.YtegglcdhfnjhcaaGreatP1
namespace Go.Proofs.YtegglcdhfnjhcaaGreat
open Go.Gb
set_option linter.unusedVariables false
set_option linter.unusedSimpArgs false
set_option linter.unusedSectionVars false
set_option linter.unusedVariables false
set_option linter.unusedSimpArgs false

theorem walk_eq : ∀ (rs:List Right) (n:Nat) (t:Town) (out:List Town),rs.length < n → (∀ r ∈ rs,RtS r) → t.Built.length + 8 * rs.length ≤ 900 → t.Base.length + 12 * rs.length ≤ 900 → out.length + cntR rs ≤ 100000 →
    vested_States_1_n n t rs out = some (out ++ sts rs t)
  | _,0,_,_,h,_,_,_,_=>by omega
  | [], n + 1, t, out, _, _, _, _, ho => by
    show vested_States_1 (vested_States_1_n n) t [] out = _
    unfold vested_States_1
    rw [if_pos (by simp),appI_some (by simp [cntR] at ho ⊢; omega),Option.bind_some]
    rfl
  | r :: rs, n + 1, t, out, hn, hr, hb, hs, ho => by
    show vested_States_1 (vested_States_1_n n) t (r::rs) out = _
    have hq:=hr r List.mem_cons_self
    have hrs : ∀ q ∈ rs,RtS q:=fun q h=>hr q (List.mem_cons_of_mem _ h)
    have h4:=lft_len hq
    have hcp:=cntR_pos rs
    rw [List.length_cons] at hb hs hn
    have hsl:sliceI (r::rs) 1 ((r::rs).length:Int) = some rs:=by
      rw [sliceI_some (by omega) (by simp; omega) (by omega)]; simp
    have hcnt:cntR (r::rs) = ((lft r).length + 1) * cntR rs:=rfl
    have hmul : ∀ i,i ≤ (lft r).length + 1 → i * cntR rs ≤ cntR (r::rs):=fun i hi=>by rw [hcnt]; exact Nat.mul_le_mul_right _ hi
    unfold vested_States_1
    rw [if_neg (by simp; omega),hsl,Option.bind_some,walk_eq rs n t out (by omega) hrs (by omega) (by omega) (by have:=hmul 1 (by omega); omega),Option.bind_some,show (0:Int) = ((0:Nat):Int) from rfl,getI_nat (by simp),Option.bind_some,List.getElem_cons_zero,left_eq hq,Option.bind_some]
    have hlen : ∀ m,m ≤ (lft r).length + 1 → ((List.range m).flatMap fun k=>sts rs (fA r.Drawing.Lot ((lft r).take k) t)).length = m * cntR rs:=by
      intro m
      induction m with
      | zero=>intro _; simp
      | succ m ih=>intro h; rw [List.range_succ,List.flatMap_append,List.length_append,ih (by omega),List.flatMap_singleton,sts_len rs,Nat.succ_mul]
    obtain ⟨f,h1,h2,h3⟩:=loop_up (body:=vested_States_1_L0 (vested_States_1_n n) (r::rs) (lft r)) (fun i s=>s.2.1 = ((i:Nat):Int)∧s.2.2 = fA r.Drawing.Lot ((lft r).take i) t∧s.1 = out ++ (List.range (i + 1)).flatMap fun k=>sts rs (fA r.Drawing.Lot ((lft r).take k) t)) (lft r).length
      (fun f => match f with | .ex _ s => s.1 = out ++ sts (r :: rs) t | _ => False) (fun i s hi ⟨hs', hT, hO⟩ => by
        obtain ⟨s1,s2,s3⟩:=s
        dsimp only at hs' hT hO
        subst hs'
        have hph:=hq.2 _ (lft_sub (List.getElem_mem hi))
        have hph1:=hph.1; have hph2:=hph.2
        have hl:=foldA_len (lot:=r.Drawing.Lot) (l:=(lft r).take i) (t:=t) fun ph hp=>hq.2 ph (lft_sub (List.mem_of_mem_take hp))
        have hlt:((lft r).take i).length = i:=by simp; omega
        rw [hlt] at hl
        have hl2:=foldA_len (lot:=r.Drawing.Lot) (l:=(lft r).take (i + 1)) (t:=t) fun ph hp=>hq.2 ph (lft_sub (List.mem_of_mem_take hp))
        have hlt2:((lft r).take (i + 1)).length = i + 1:=by simp; omega
        rw [hlt2] at hl2
        have hfa:after (fA r.Drawing.Lot ((lft r).take i) t) r.Drawing.Lot (lft r)[i] = fA r.Drawing.Lot ((lft r).take (i + 1)) t:=by
          rw [List.take_succ_eq_append_getElem hi,fA_snoc]
        have hol:=hlen (i + 1) (by omega)
        have hm2:=hmul (i + 1 + 1) (by omega)
        have hm1:(i + 1 + 1) * cntR rs = (i + 1) * cntR rs + cntR rs:=Nat.succ_mul _ _
        unfold vested_States_1_L0
        dsimp only
        rw [if_pos (by simpa using hi),getI_nat hi,Option.bind_some,show (0:Int) = ((0:Nat):Int) from rfl,getI_nat (by simp),Option.bind_some,List.getElem_cons_zero,hT,after_eq (by unfold fA; omega) (by unfold fA; omega),Option.bind_some,hfa,hsl,Option.bind_some,
          walk_eq rs n _ s1 (by omega) hrs (by unfold fA; omega) (by unfold fA; omega) (by rw [hO,List.length_append,hol]; omega),Option.bind_some,addI_one (by omega)]
        refine .inl ⟨_,rfl,rfl,rfl,?_⟩
        dsimp only
        rw [hO, List.range_succ (n := i + 1), List.flatMap_append, List.flatMap_singleton, List.append_assoc]) (fun s ⟨hs', hT, hO⟩ => by
        unfold vested_States_1_L0
        rw [hs', if_neg (by simp)]
        exact ⟨_,rfl,trivial,hO⟩) (out ++ sts rs t,0,t) ⟨rfl,rfl,by simp [fA]⟩ ((lft r).length + 1) (by omega)
    have h1' : iterL (vested_States_1_L0 (vested_States_1_n n) (r::rs) (lft r)) ((lft r).length + 1) (out ++ sts rs t,((0:Nat):Int),t) = some f:=h1
    rw [h1', Option.bind_some]
    cases f with
    | go _=>exact h2.elim
    | ret _=>exact h3.elim
    | ex _ s=>dsimp only at h3 ⊢; rw [h3]
theorem states_eq {t:Town} {rights:List Right} (hr:rights.length ≤ 3) (h : ∀ r ∈ rights,RtS r) (hb:t.Built.length ≤ 100) (hs:t.Base.length ≤ 100):vested_States t rights = some (sts rights t,0):=by
  unfold vested_States
  obtain ⟨f,h1,h2,h3⟩:=loop_up (body:=vested_States_L0 rights) (fun i s=>s.2 = ((i:Nat):Int)∧1 ≤ s.1∧s.1 ≤ ((5 ^ i:Nat):Int)) rights.length
    (fun f => match f with | .ex _ _ => True | _ => False) (fun i s hi ⟨hs', h0, h5⟩ => by
      have hq:=h _ (List.getElem_mem hi)
      have h4:=lft_len hq
      have hp:(5:Nat) ^ (i + 1) ≤ 125:=by
        have:i + 1 ≤ 3:=by omega
        exact Nat.pow_le_pow_right (by omega) this
      have h6:s.1 * (((lft rights[i]).length:Int) + 1) ≤ ((5 ^ i:Nat):Int) * 5:=Int.mul_le_mul h5 (by omega) (by omega) (by omega)
      have e6:((5 ^ (i + 1):Nat):Int) = ((5 ^ i:Nat):Int) * 5:=by rw [Nat.pow_succ]; push_cast; rfl
      have h7:1 * 1 ≤ s.1 * (((lft rights[i]).length:Int) + 1):=Int.mul_le_mul h0 (by omega) (by omega) (by omega)
      rw [← e6] at h6
      unfold vested_States_L0
      rw [hs', if_pos (by simpa using hi), getI_nat hi, Option.bind_some, left_eq hq, Option.bind_some, addI_some (by constructor <;> omega), Option.bind_some, mulI_some (by constructor <;> omega), Option.bind_some, if_neg (by simp; omega), addI_one (by omega)]
      exact .inl ⟨_, rfl, rfl, by simpa using h7, h6⟩) (fun s ⟨hs', _⟩ => by
      unfold vested_States_L0
      rw [hs', if_neg (by simp)]
      exact ⟨_,rfl,trivial,trivial⟩) (1,0) ⟨rfl,by omega,by simp⟩ (rights.length + 1) (by omega)
  rw [h1,Option.bind_some]
  cases f with
  | go _=>exact h2.elim
  | ret _=>exact h3.elim
  | ex _ s =>
    dsimp only
    unfold slices_Clone_Placed slices_Clone_Entry
    have hc:=cntR_le h
    have hp:(5:Nat) ^ rights.length ≤ 125:=Nat.pow_le_pow_right (by omega) hr
    rw [appI_clone (by omega),Option.bind_some,Option.bind_some,appI_clone (by omega),Option.bind_some,Option.bind_some]
    rw [walk_eq rights (rights.length + 1) _ [] (by omega) h (by show t.Built.length + _ ≤ _; omega) (by show t.Base.length + _ ≤ _; omega) (by simp; omega),Option.bind_some,List.nil_append]
theorem sts_cons (r:Right) (rs:List Right) (t:Town):sts (r::rs) t = (List.range ((lft r).length + 1)).flatMap fun k=>sts rs (fA r.Drawing.Lot ((lft r).take k) t):=by rw [sts]
/-- what every state is -/
theorem sts_mem {c:Cap} : ∀ {rights:List Right} {t v:Town} {u:Town},u ∈ sts rights t → t.Built.Sublist v.Built → u.Plan = t.Plan∧u.Windows = t.Windows∧u.Built.Sublist (lastT rights v).Built∧loadT u c ≤ loadT t c + tops t.Plan c rights
  | [], t, v, u, h, hb => by
    obtain rfl:=List.mem_singleton.1 h
    exact ⟨rfl,rfl,hb,by simp [tops]⟩
  | r :: rs, t, v, u, h, hb => by
    unfold sts at h
    obtain ⟨k,hk,hu⟩:=List.mem_flatMap.1 h
    have hsub:(fA r.Drawing.Lot ((lft r).take k) t).Built.Sublist (lastR r v).Built:=by
      show List.Sublist _ (fA r.Drawing.Lot (lft r) v).Built
      rw [fA_built,fA_built]
      refine hb.append ?_
      have e:(lft r).flatMap (fun ph=>ph.Volumes.map fun v=>(⟨r.Drawing.Lot,v⟩:Placed)) = ((lft r).take k).flatMap (fun ph=>ph.Volumes.map fun v=>(⟨r.Drawing.Lot,v⟩:Placed)) ++ ((lft r).drop k).flatMap (fun ph=>ph.Volumes.map fun v=>(⟨r.Drawing.Lot,v⟩:Placed)):=by
        rw [← List.flatMap_append,List.take_append_drop]
      rw [e]
      exact List.sublist_append_left _ _
    have hp:=fA_plan r.Drawing.Lot ((lft r).take k) t
    obtain ⟨h1,h2,h3,h4⟩:=sts_mem (c:=c) hu hsub
    refine ⟨h1.trans hp.1,h2.trans hp.2,h3,?_⟩
    rw [hp.1,fA_load] at h4
    have hpk:=pk_le ((lft r).map (phL t.Plan c)) k (by have:=List.mem_range.1 hk; simp; omega)
    rw [← List.map_take] at hpk
    have e:tops t.Plan c (r::rs) = top t.Plan c r + tops t.Plan c rs:=by simp [tops]
    rw [e]
    unfold top
    omega
/-- some state has the greatest load -/
theorem sts_most (c:Cap) : ∀ (rights:List Right) (t:Town),∃ u ∈ sts rights t,loadT u c = loadT t c + tops t.Plan c rights
  | [],t=>⟨t,List.mem_singleton.2 rfl,by simp [tops]⟩
  | r :: rs, t => by
    obtain ⟨k,hk,he⟩:=pk_is ((lft r).map (phL t.Plan c))
    have hk' : k ≤ (lft r).length:=by simpa using hk
    obtain ⟨u,hu,hl⟩:=sts_most c rs (fA r.Drawing.Lot ((lft r).take k) t)
    have hp:=fA_plan r.Drawing.Lot ((lft r).take k) t
    refine ⟨u,?_,?_⟩
    · unfold sts
      exact List.mem_flatMap.2 ⟨k,List.mem_range.2 (by omega),hu⟩
    · rw [hl, hp.1, fA_load]
      rw [← List.map_take] at he
      have e:tops t.Plan c (r::rs) = top t.Plan c r + tops t.Plan c rs:=by simp [tops]
      rw [e]
      unfold top
      rw [he]; omega
theorem sts_head : ∀ (rights:List Right) (t:Town),∃ l,sts rights t = t::l
  | [],t=>⟨[],rfl⟩
  | r :: rs, t => by
    obtain ⟨l,hl⟩:=sts_head rs t
    refine ⟨l ++ ((List.range (lft r).length).map Nat.succ).flatMap fun k=>sts rs (fA r.Drawing.Lot ((lft r).take k) t),?_⟩
    rw [sts_cons,List.range_succ_eq_map,List.flatMap_cons,List.take_zero]
    show sts rs t ++ _ = _
    rw [hl,List.cons_append]
theorem sts_last : ∀ (rights:List Right) (t:Town),∃ l,sts rights t = l ++ [lastT rights t]
  | [],t=>⟨[],rfl⟩
  | r :: rs, t => by
    obtain ⟨l,hl⟩:=sts_last rs (lastR r t)
    refine ⟨((List.range (lft r).length).flatMap fun k=>sts rs (fA r.Drawing.Lot ((lft r).take k) t)) ++ l,?_⟩
    rw [sts_cons,List.range_succ,List.flatMap_append,List.flatMap_singleton,List.take_length]
    have:sts rs (fA r.Drawing.Lot (lft r) t) = l ++ [lastT (r::rs) t]:=hl
    rw [this,List.append_assoc]
/-- Safe says what all states are -/
theorem safe_iff {t:Town} {rights:List Right}:SafeP t rights ↔ ∀ u ∈ sts rights t,KeepsP u:=by
  constructor
  · rintro ⟨h1, h2⟩ u hu
    have hpl:=lastT_plan rights t
    refine ⟨fun c hc=>?_,?_⟩
    · obtain ⟨a, b, d, e⟩ := sts_mem (c := c) hu (List.Sublist.refl t.Built)
      rw [a] at hc
      have:=h1 c hc
      omega
    · obtain ⟨a, b, d, e⟩ := sts_mem (c := (default : Cap)) hu (List.Sublist.refl t.Built)
      exact h2.mono (hpl.1.trans a.symm) (hpl.2.trans b.symm) d
  · intro h
    refine ⟨fun c hc=>?_,?_⟩
    · obtain ⟨u, hu, hl⟩ := sts_most c rights t
      obtain ⟨a,_⟩:=sts_mem (c:=c) hu (List.Sublist.refl t.Built)
      have:=(h u hu).1 c (by rw [a]; exact hc)
      omega
    · obtain ⟨l, hl⟩ := sts_last rights t
      exact (h _ (by rw [hl]; simp)).2
end Go.Proofs.YtegglcdhfnjhcaaGreat

namespace Go.Proofs.YtegglcdhfnjhcaaGreat
open Go.Gb
set_option linter.unusedVariables false
set_option linter.unusedSimpArgs false
set_option linter.unusedSectionVars false
set_option linter.unusedVariables false
set_option linter.unusedSimpArgs false

theorem loop_allQ {body:Int → Option (Flow Int Bool)} {id:Nat} (N:Nat) (Q:Nat → Prop) (hN:N ≤ 1000000000)
    (step : ∀ i:Nat,i < N → (∀ m,m < i → Q m) → (Q i∧body (i:Int) = (addI (i:Int) 1).bind fun x=>some (.go x)) ∨ (¬ Q i∧body (i:Int) = some (.ret false)))
    (done:body (N:Int) = some (.ex id (N:Int))) {fuel:Nat} (hf:N < fuel) :
    ((∀ m,m < N → Q m)∧iterL body fuel 0 = some (.ex id (N:Int))) ∨ ((∃ m,m < N∧¬ Q m)∧iterL body fuel 0 = some (.ret false)):=by
  obtain ⟨f,h1,h2,h3⟩:=loop_up (body:=body) (fun i s=>s = ((i:Nat):Int)∧∀ m,m < i → Q m) N
    (fun f=>((∀ m,m < N → Q m)∧f = .ex id (N:Int)) ∨ ((∃ m,m < N∧¬ Q m)∧f = .ret false)) (fun i s hi ⟨hs,hI⟩=>by
      subst hs
      rcases step i hi hI with ⟨hq,hb⟩ | ⟨hq,hb⟩
      · rw [addI_one (by omega)] at hb
        refine .inl ⟨_,hb,rfl,fun m hm=>?_⟩
        by_cases e:m = i
        · subst e; exact hq
        · exact hI m (by omega)
      · exact .inr ⟨_,hb,trivial,.inr ⟨⟨i,hi,hq⟩,rfl⟩⟩) (fun s ⟨hs,hI⟩=>by
      subst hs
      exact ⟨_,done,trivial,.inl ⟨hI,rfl⟩⟩) 0 ⟨rfl,fun m h=>by omega⟩ fuel hf
  rcases h3 with ⟨h3,rfl⟩ | ⟨h3,rfl⟩
  · exact .inl ⟨h3,h1⟩
  · exact .inr ⟨h3,h1⟩
theorem one_spec {r:Right} : ∃ b,law33_one r = some b∧(b = true → RtS r):=by
  unfold law33_one
  rcases loop_allQ (body:=law33_one_L0 r) (id:=0) (min r.Drawing.Phases.length 5) (fun i=>∀ h:i < r.Drawing.Phases.length,PhS r.Drawing.Phases[i]) (by omega) (fun i hi _=>by
    have hlt:i < r.Drawing.Phases.length:=by omega
    unfold law33_one_L0 law33_phase
    rw [if_pos (by simp; omega),getI_nat hlt,Option.bind_some,Option.bind_some]
    by_cases hp:PhS r.Drawing.Phases[i]
    · have hp1 := hp.1; have hp2 := hp.2
      exact .inl ⟨fun _=>hp,by rw [if_neg (by simp; omega)]⟩
    · refine .inr ⟨fun h => hp (h hlt), ?_⟩
      rw [if_pos]
      unfold PhS at hp
      simp; omega) (by unfold law33_one_L0; rw [if_neg (by simp; omega)]) (fuel:=6) (by omega) with ⟨h1,h2⟩ | ⟨⟨m,hm,h1⟩,h2⟩
  · rw [h2, Option.bind_some]
    refine ⟨_,rfl,fun h=>?_⟩
    simp at h
    refine ⟨by omega,fun ph hph=>?_⟩
    obtain ⟨m,hm,rfl⟩:=List.getElem_of_mem hph
    exact h1 m (by omega) hm
  · rw [h2, Option.bind_some]
    exact ⟨_,rfl,fun h=>by simp at h⟩
structure FewP (t:Town) (rights:List Right) (n:Nat):Prop where
  town:TownS t
  caps:t.Plan.Caps.length ≤ 3
  built:t.Built.length ≤ 8
  base:t.Base.length ≤ 6
  len:rights.length ≤ n
  rts : ∀ r ∈ rights,RtS r
theorem few_spec {t:Town} {rights:List Right} {n:Nat} (hn:n ≤ 3) : ∃ b,law33_few t rights (n:Int) = some b∧(b = true → FewP t rights n):=by
  unfold law33_few
  rcases loop_allQ (body:=law33_few_L0 t) (id:=0) (min t.Plan.Caps.length 4) (fun i=>∀ h:i < t.Plan.Caps.length,t.Plan.Caps[i].Corners.length ≤ 12) (by omega) (fun i hi _=>by
    have hlt:i < t.Plan.Caps.length:=by omega
    unfold law33_few_L0
    rw [if_pos (by simp; omega),getI_nat hlt,Option.bind_some]
    by_cases hp:t.Plan.Caps[i].Corners.length ≤ 12
    · exact .inl ⟨fun _=>hp,by rw [if_neg (by simp; omega)]⟩
    · exact .inr ⟨fun h=>hp (h hlt),by rw [if_pos (by simp; omega)]⟩) (by unfold law33_few_L0; rw [if_neg (by simp; omega)]) (fuel:=5) (by omega) with ⟨a1,a2⟩ | ⟨_,a2⟩
  · rw [a2, Option.bind_some]
    dsimp only
    rcases loop_allQ (body:=law33_few_L1 t) (id:=2) (min t.Plan.Views.length 4) (fun i=>∀ h:i < t.Plan.Views.length,t.Plan.Views[i].Targets.length ≤ 5) (by omega) (fun i hi _=>by
      have hlt:i < t.Plan.Views.length:=by omega
      unfold law33_few_L1
      rw [if_pos (by simp; omega),getI_nat hlt,Option.bind_some]
      by_cases hp:t.Plan.Views[i].Targets.length ≤ 5
      · exact .inl ⟨fun _=>hp,by rw [if_neg (by simp; omega)]⟩
      · exact .inr ⟨fun h=>hp (h hlt),by rw [if_pos (by simp; omega)]⟩) (by unfold law33_few_L1; rw [if_neg (by simp; omega)]) (fuel:=5) (by omega) with ⟨b1,b2⟩ | ⟨_,b2⟩
    · rw [b2, Option.bind_some]
      dsimp only
      rcases loop_allQ (body:=law33_few_L2 t) (id:=4) (min t.Plan.Tables.length 5) (fun i=>∀ h:i < t.Plan.Tables.length,t.Plan.Tables[i].Rows.length ≤ 8) (by omega) (fun i hi _=>by
        have hlt:i < t.Plan.Tables.length:=by omega
        unfold law33_few_L2
        rw [if_pos (by simp; omega),getI_nat hlt,Option.bind_some]
        by_cases hp:t.Plan.Tables[i].Rows.length ≤ 8
        · exact .inl ⟨fun _=>hp,by rw [if_neg (by simp; omega)]⟩
        · exact .inr ⟨fun h=>hp (h hlt),by rw [if_pos (by simp; omega)]⟩) (by unfold law33_few_L2; rw [if_neg (by simp; omega)]) (fuel:=6) (by omega) with ⟨c1,c2⟩ | ⟨_,c2⟩
      · rw [c2, Option.bind_some]
        dsimp only
        rcases loop_allQ (body:=law33_few_L3 rights (n:Int)) (id:=6) (min rights.length (n + 1)) (fun i=>∀ h:i < rights.length,law33_one rights[i] = some true) (by omega) (fun i hi _=>by
          have hlt:i < rights.length:=by omega
          unfold law33_few_L3
          rw [if_pos (by simp; omega),getI_nat hlt,Option.bind_some]
          obtain ⟨b,hb,_⟩:=one_spec (r:=rights[i])
          rw [hb,Option.bind_some]
          cases b with
          | true=>exact .inl ⟨fun _=>hb,rfl⟩
          | false=>exact .inr ⟨fun h=>by have:=h hlt; rw [hb] at this; simp at this,rfl⟩) (by unfold law33_few_L3; rw [if_neg (by simp; omega)]) (fuel:=rights.length + 1) (by omega) with ⟨d1,d2⟩ | ⟨_,d2⟩
        · rw [d2, Option.bind_some]
          refine ⟨_,rfl,fun h=>?_⟩
          simp at h
          obtain ⟨⟨⟨⟨⟨⟨⟨e1,e2⟩,e3⟩,e4⟩,e5⟩,e6⟩,e7⟩,e8⟩:=h
          refine ⟨⟨⟨by omega,fun x hx=>?_⟩,by omega,fun c hc=>?_,by omega,by omega,fun w hw=>?_,by omega⟩,by omega,by omega,by omega,by omega,fun r hr=>?_⟩
          · obtain ⟨m, hm, rfl⟩ := List.getElem_of_mem hx
            exact c1 m (by omega) hm
          · obtain ⟨m, hm, rfl⟩ := List.getElem_of_mem hc
            exact a1 m (by omega) hm
          · obtain ⟨m, hm, rfl⟩ := List.getElem_of_mem hw
            have:=b1 m (by omega) hm
            omega
          · obtain ⟨m, hm, rfl⟩ := List.getElem_of_mem hr
            obtain ⟨b,hb,hbs⟩:=one_spec (r:=rights[m])
            have:=d1 m (by omega) hm
            rw [hb] at this
            exact hbs (Option.some.inj this)
        · rw [d2,Option.bind_some]; exact ⟨_,rfl,fun h=>by simp at h⟩
      · rw [c2,Option.bind_some]; exact ⟨_,rfl,fun h=>by simp at h⟩
    · rw [b2,Option.bind_some]; exact ⟨_,rfl,fun h=>by simp at h⟩
  · rw [a2,Option.bind_some]; exact ⟨_,rfl,fun h=>by simp at h⟩
end Go.Proofs.YtegglcdhfnjhcaaGreat

namespace Go.Proofs.YtegglcdhfnjhcaaGreat
open Go.Gb
set_option linter.unusedVariables false
set_option linter.unusedSimpArgs false
set_option linter.unusedSectionVars false
set_option linter.unusedVariables false
set_option linter.unusedSimpArgs false

theorem sorted_ext : ∀ {l m:List Int},l.Perm m → l.Pairwise (fun a b=>a ≤ b) → m.Pairwise (fun a b=>a ≤ b) → l = m
  | [],m,h,_,_=>h.nil_eq
  | a::l,[],h,_,_=>by simp at h
  | a :: l, b :: m, h, hl, hm => by
    have hab:a = b:=by
      have h1:a ∈ b::m:=h.subset List.mem_cons_self
      have h2:b ∈ a::l:=h.symm.subset List.mem_cons_self
      rcases List.mem_cons.1 h1 with e | h1
      · exact e
      · rcases List.mem_cons.1 h2 with e | h2
        · exact e.symm
        · have := (List.pairwise_cons.1 hm).1 a h1
          have:=(List.pairwise_cons.1 hl).1 b h2
          omega
    subst hab
    rw [sorted_ext ((List.perm_cons a).1 h) (List.pairwise_cons.1 hl).2 (List.pairwise_cons.1 hm).2]
theorem strict_ext : ∀ {l m:List Int},l.Pairwise (fun a b=>a < b) → m.Pairwise (fun a b=>a < b) → (∀ x,x ∈ l ↔ x ∈ m) → l = m
  | [],[],_,_,_=>rfl
  | [],b::m,_,_,h=>by have:=(h b).2 List.mem_cons_self; simp at this
  | a::l,[],_,_,h=>by have:=(h a).1 List.mem_cons_self; simp at this
  | a :: l, b :: m, hl, hm, h => by
    have ha:=(List.pairwise_cons.1 hl).1
    have hb:=(List.pairwise_cons.1 hm).1
    have hab:a = b:=by
      rcases List.mem_cons.1 ((h a).1 List.mem_cons_self) with e | h1
      · exact e
      · rcases List.mem_cons.1 ((h b).2 List.mem_cons_self) with e | h2
        · exact e.symm
        · have:=hb a h1; have:=ha b h2; omega
    subst hab
    rw [strict_ext (List.pairwise_cons.1 hl).2 (List.pairwise_cons.1 hm).2 fun x=>?_]
    constructor
    · intro hx
      rcases List.mem_cons.1 ((h x).1 (List.mem_cons_of_mem _ hx)) with e | h1
      · have:=ha x hx; omega
      · exact h1
    · intro hx
      rcases List.mem_cons.1 ((h x).2 (List.mem_cons_of_mem _ hx)) with e | h1
      · have:=hb x hx; omega
      · exact h1
theorem sort_is {l m:List Int} (h:l.length ≤ 1000) (hp:l.Perm m) (hs:m.Pairwise fun a b=>a ≤ b):sortInts l = some m:=by
  obtain ⟨r, hr, hp', hs'⟩ := sortInts_spec (l := l) (by omega)
  rw [hr,sorted_ext (hp'.trans hp) hs' hs]
theorem compact_is {l m:List Int} (h:l.length ≤ 1000) (hs:l.Pairwise fun a b=>a ≤ b) (hm:m.Pairwise fun a b=>a < b) (he : ∀ x,x ∈ l ↔ x ∈ m):compactInts l = some m:=by
  obtain ⟨r,hr,h1,h2,_⟩:=compactInts_spec (l:=l) (by omega) hs
  rw [hr,strict_ext h1 hm fun x=>(h2 x).trans (he x)]
def sq:List Point:=[⟨0,0⟩,⟨9,0⟩,⟨9,9⟩,⟨0,9⟩]
def sqS:List PolygonSide:=[⟨⟨0,0⟩,⟨9,0⟩⟩,⟨⟨9,0⟩,⟨9,9⟩⟩,⟨⟨9,9⟩,⟨0,9⟩⟩,⟨⟨0,9⟩,⟨0,0⟩⟩]
theorem sq_region:polygon_Region sq = some ([⟨0,0,9,9⟩],0):=by
  have h0:polygon_Right sq = some true:=by rfl
  have h1:iterL (polygon_Region_L0 sq) (sq.length + 1) (([]:List Int),0) = some (.ex 0 ([0,9,9,0],4)):=by rfl
  have h2:sortInts [0,9,9,0] = some [0,0,9,9]:=sort_is (by simp) (by decide) (by decide)
  have h3:compactInts [0,0,9,9] = some [0,9]:=compact_is (by simp) (by decide) (by decide) (fun x=>by simp)
  have h4:polygon_around sq = some sqS:=by rfl
  have h5:sortInts [0,9] = some [0,9]:=sort_is (by simp) (List.Perm.refl _) (by decide)
  have h6:iterL (polygon_Region_L2 [0,9] sqS (([]:List Rect),0)) (sqS.length + 1) (([]:List Int),0) = some (.ex 4 ([0,9],4)):=by rfl
  have h7:iterL (polygon_Region_L3 [0,9] (([]:List Rect),0) [0,9]) 9 (([]:List Rect),0) = some (.ex 6 ([⟨0,0,9,9⟩],2)):=by rfl
  have h8:polygon_Region_L1 [0,9] sqS 1 (([]:List Rect),0) = some (.go ([⟨0,0,9,9⟩],1)):=by
    unfold polygon_Region_L1
    rw [if_pos (by decide),h6,Option.bind_some]
    dsimp only
    rw [h5,Option.bind_some]
    have h7' : iterL (polygon_Region_L3 [0,9] (([]:List Rect),0) [0,9]) (([0,9]:List Int).length + sqS.length + ([]:List Rect).length + ([0,9]:List Int).length + 1) (([]:List Rect),0) = some (.ex 6 ([⟨0,0,9,9⟩],2)):=h7
    rw [h7', Option.bind_some]
    rfl
  have h9:polygon_Region_L1 [0,9] sqS 1 ([⟨0,0,9,9⟩],1) = some (.ex 2 ([⟨0,0,9,9⟩],1)):=by rfl
  unfold polygon_Region
  rw [h0,Option.bind_some,if_neg (by simp),h1,Option.bind_some]
  dsimp only
  rw [h2,Option.bind_some,h3,Option.bind_some,h4,Option.bind_some,show subI (([0,9]:List Int).length:Int) 1 = some 1 from rfl,Option.bind_some]
  have h10:iterL (polygon_Region_L1 [0,9] sqS 1) ((1:Int).toNat + 1) (([]:List Rect),0) = some (.ex 2 ([⟨0,0,9,9⟩],1)):=by
    show iterL _ 2 _ = _
    simp only [iterL,h8,h9,Option.bind_some]
  rw [h10,Option.bind_some]
  rfl
end Go.Proofs.YtegglcdhfnjhcaaGreat

namespace Go.Proofs.YtegglcdhfnjhcaaGreat
open Go.Gb
set_option linter.unusedVariables false
set_option linter.unusedSimpArgs false
set_option linter.unusedSectionVars false
set_option linter.unusedVariables false
set_option linter.unusedSimpArgs false

def cC:Cap:=⟨(⟨#[99]⟩:ByteArray),0,100,sq⟩
def t0:Town:=⟨⟨[],[],[],[],[cC],[],[],0⟩,[],[],[],[],[]⟩
def hmV (x y u:Int):Volume:=⟨⟨⟨x,0,y,1⟩,0,3⟩,0,u,false⟩
def r1:Right:=⟨1,0,⟨0,[⟨[hmV 1 2 60],[]⟩,⟨[],[⟨(⟨#[99]⟩:ByteArray),30⟩]⟩]⟩,0,0,false⟩
def r2 (u:Int):Right:=⟨2,0,⟨1,[⟨[hmV 3 4 u],[]⟩]⟩,0,0,false⟩
theorem example_eq (u:Int):law33_example u = some (t0,[r1,r2 u]):=rfl
theorem t0_S:TownS t0:=⟨⟨by simp [t0],fun t h=>by simp [t0] at h⟩,by simp [t0],fun c h=>by
  have:c = cC:=by simpa [t0] using h
  subst this; simp [cC,sq],by simp [t0],by simp [t0],fun w h=>by simp [t0] at h,by simp [t0]⟩
theorem rt_S (u:Int) : ∀ r ∈ [r1,r2 u],RtS r:=by
  intro r h
  simp only [List.mem_cons,List.not_mem_nil,or_false] at h
  rcases h with rfl | rfl
  · refine ⟨by simp [r1], fun ph hp => ?_⟩
    simp only [r1,List.mem_cons,List.not_mem_nil,or_false] at hp
    rcases hp with rfl | rfl <;> exact ⟨by simp,by simp⟩
  · refine ⟨by simp [r2], fun ph hp => ?_⟩
    simp only [r2,List.mem_cons,List.not_mem_nil,or_false] at hp
    subst hp; exact ⟨by simp,by simp⟩
theorem ld_of {v:Volume} {b:Bool} (h:drawing_RightVolume v = some true) (hc:slices_ContainsFunc_Rect [⟨0,0,9,9⟩] (fun y0=>measure_Load_1 y0 v) = some true):ld t0.Plan cC v = v.Units:=by
  unfold ld measure_Load
  rw [h,Option.bind_some,if_neg (by simp),show cC.Corners = sq from rfl,sq_region,Option.bind_some]
  dsimp only
  rw [hc]
  rfl
theorem ld1:ld t0.Plan cC (hmV 1 2 60) = 60:=ld_of (b:=true) rfl rfl
theorem ld3a:ld t0.Plan cC (hmV 3 4 40) = 40:=ld_of (b:=true) rfl rfl
theorem ld3b:ld t0.Plan cC (hmV 3 4 41) = 41:=ld_of (b:=true) rfl rfl
theorem top1:top t0.Plan cC r1 = 60:=by
  have e1:phL t0.Plan cC ⟨[hmV 1 2 60],[]⟩ = 60:=by simp [phL,nmd,lds,ld1]
  have e2:phL t0.Plan cC ⟨[],[⟨(⟨#[99]⟩:ByteArray),30⟩]⟩ = -30:=by simp [phL,nmd,lds,cC,lmd]; decide
  have:(lft r1).map (phL t0.Plan cC) = [60,-30]:=by
    rw [show lft r1 = [⟨[hmV 1 2 60],[]⟩,⟨[],[⟨(⟨#[99]⟩:ByteArray),30⟩]⟩] from rfl]
    simp [e1,e2]
  unfold top
  rw [this]; rfl
theorem top2 {u:Int} (h:ld t0.Plan cC (hmV 3 4 u) = u) (h0:0 ≤ u):top t0.Plan cC (r2 u) = u:=by
  have e1:phL t0.Plan cC ⟨[hmV 3 4 u],[]⟩ = u:=by simp [phL,nmd,lds,h]
  have:(lft (r2 u)).map (phL t0.Plan cC) = [u]:=by
    rw [show lft (r2 u) = [⟨[hmV 3 4 u],[]⟩] from rfl]
    simp [e1]
  unfold top
  rw [this]
  show max 0 (0 + u) = u
  omega
theorem t0_light (u:Int):LightP (lastT [r1,r2 u] t0):=by
  refine ⟨fun w h=>by simp [(lastT_plan _ _).2,t0] at h,fun w h=>by simp [(lastT_plan _ _).1,t0] at h,?_⟩
  show ([hmV 1 2 60,hmV 3 4 u].Pairwise fun a b=>ovl a b = false)
  simp only [List.pairwise_cons,List.mem_cons,List.not_mem_nil,or_false,forall_eq,List.Pairwise.nil,and_true,false_implies,implies_true]
  rfl
theorem safe40 : ∃ x,vested_Safe t0 [r1,r2 40] = some x∧x.2 = true:=by
  obtain ⟨x,hx,h1,_⟩:=safe_eq (rights:=[r1,r2 40]) t0_S (by simp) (rt_S 40) (by simp [t0]) (by simp [t0])
  refine ⟨x,hx,h1.2 ⟨fun c hc=>?_,t0_light 40⟩⟩
  have:c = cC:=by simpa [t0] using hc
  subst this
  have e:tops t0.Plan cC [r1,r2 40] = 100:=by simp [tops,top1,top2 ld3a (by omega)]
  rw [e]
  show 0 + 0 + 100 ≤ _
  decide
theorem safe41:vested_Safe t0 [r1,r2 41] = some (⟨1,(⟨#[99]⟩:ByteArray),0⟩,false):=by
  obtain ⟨x,hx,_,_,_,h4,_⟩:=safe_eq (rights:=[r1,r2 41]) t0_S (by simp) (rt_S 41) (by simp [t0]) (by simp [t0])
  obtain ⟨c,hc,rfl⟩:=h4 fun h=>by
    have:=h cC (by simp [t0])
    have e:tops t0.Plan cC [r1,r2 41] = 101:=by simp [tops,top1,top2 ld3b (by omega)]
    rw [e] at this
    have e0:loadT t0 cC = 0:=rfl
    rw [e0] at this
    exact absurd this (by decide)
  have:c = cC:=by simpa [t0] using hc
  subst this
  exact hx
end Go.Proofs.YtegglcdhfnjhcaaGreat

namespace Go.Proofs.YtegglcdhfnjhcaaGreat
open Go.Gb
set_option linter.unusedVariables false
set_option linter.unusedSimpArgs false
set_option linter.unusedSectionVars false
set_option linter.unusedVariables false
set_option linter.unusedSimpArgs false

def v2:Volume:=⟨⟨⟨2,0,3,1⟩,0,9⟩,0,0,false⟩
theorem v2_SS:SS (sld v2):=ssB_spec (by decide)
theorem v2_ray:rayV (sld v2) ⟨0,0,0⟩ ⟨1,0,1⟩ = true:=by
  obtain ⟨r,hr,hrs⟩:=Ray_eq (p:=⟨0,0,0⟩) (d:=⟨1,0,1⟩) (sld_thin v2)
  unfold rayV
  rw [hr]
  refine hrs.2 ⟨by decide,by decide,v2_SS,2,1,by omega,by omega,?_⟩
  show scells (sld v2) _ _ _
  decide
end Go.Proofs.YtegglcdhfnjhcaaGreat

namespace Go.Proofs.YtegglcdhfnjhcaaGreat
open Go.Gb
set_option linter.unusedVariables false
set_option linter.unusedSimpArgs false
set_option linter.unusedSectionVars false
set_option linter.unusedVariables false
set_option linter.unusedSimpArgs false

def wT:Town:=⟨⟨[],[],[],[],[],[],[⟨1,0,1⟩],1⟩,[],[],[⟨7,⟨0,0,0⟩⟩],[],[]⟩
def rW:Right:=⟨3,0,⟨1,[⟨[hmV 9 10 0],[]⟩,⟨[v2],[]⟩]⟩,0,0,false⟩
theorem wT_S:TownS wT:=⟨⟨by simp [wT],fun t h=>by simp [wT] at h⟩,by simp [wT],fun c h=>by simp [wT] at h,by simp [wT],by simp [wT],fun w h=>by simp [wT] at h,by simp [wT]⟩
theorem rW_S : ∀ r ∈ [rW],RtS r:=by
  intro r h
  rw [List.mem_singleton.1 h]
  refine ⟨by simp [rW],fun ph hp=>?_⟩
  simp only [rW,List.mem_cons,List.not_mem_nil,or_false] at hp
  rcases hp with rfl | rfl <;> exact ⟨by simp,by simp⟩
theorem safeW:vested_Safe wT [rW] = some (⟨2,(⟨#[]⟩:ByteArray),0⟩,false):=by
  obtain ⟨x,hx,_,_,_,_,h5⟩:=safe_eq (rights:=[rW]) wT_S (by simp) rW_S (by simp [wT]) (by simp [wT])
  obtain ⟨i,hi,rfl⟩:=h5 (fun c hc=>by simp [wT] at hc) fun h=>by
    have:=h ⟨7,⟨0,0,0⟩⟩ (by simp [wT])
    have e:solL (lastT [rW] wT).Built (fun lot=>lot == (7:Int)) = [sld (hmV 9 10 0),sld v2]:=rfl
    have e0:sunN (lastT [rW] wT) ⟨7,⟨0,0,0⟩⟩ = 0:=by
      unfold sunN freeN
      dsimp only
      rw [e,(lastT_plan _ _).1]
      show List.countP _ [(⟨1,0,1⟩:Point3)] = 0
      simp [v2_ray]
    rw [e0] at this
    exact absurd this (by decide)
  have:i = 0:=by simp [wT] at hi; exact hi
  subst this
  exact hx
theorem keepsW : ∃ x,vested_Keeps wT = some x∧x.2 = true:=by
  obtain ⟨x,hx,h1,_⟩:=keeps_eq wT_S (by simp [wT]) (by simp [wT])
  refine ⟨x,hx,h1.2 ⟨fun c hc=>by simp [wT] at hc,fun w hw=>?_,fun w hw=>by simp [wT] at hw,List.Pairwise.nil⟩⟩
  have:w = ⟨7,⟨0,0,0⟩⟩:=by simpa [wT] using hw
  subst this
  show (1:Int) ≤ ((sunN wT ⟨7,⟨0,0,0⟩⟩:Nat):Int)
  have:sunN wT ⟨7,⟨0,0,0⟩⟩ = 1:=rfl
  rw [this]; decide
theorem grant0:vested_Grant t0 [r1] (r2 40) = some 0:=by
  obtain ⟨x,hx,h⟩:=safe40
  unfold vested_Grant
  have h1:option_Living (r2 40) = some true:=rfl
  have h2:slices_ContainsFunc_Right [r1] (fun y0=>vested_Grant_1 y0 (r2 40)) = some false:=rfl
  have h3:slices_Clone_Right [r1] = some [r1]:=rfl
  rw [h1,Option.bind_some,if_neg (by simp),h2,Option.bind_some,if_neg (by simp),h3,Option.bind_some,appI_some (by simp),Option.bind_some]
  show (vested_Safe t0 [r1,r2 40]).bind _ = _
  rw [hx,Option.bind_some,h]; rfl
theorem small33_true:law33_small = some true:=by
  unfold law33_small
  rw [example_eq,Option.bind_some,example_eq,Option.bind_some]
  dsimp only
  obtain ⟨x,hx,hx2⟩:=safe40
  rw [hx,Option.bind_some,safe41,Option.bind_some,show law33_homes 9 0 = some (hmV 9 10 0) from rfl,Option.bind_some]
  have hw:vested_Safe (⟨(⟨[],[],[],[],[],[],[(⟨1,0,1⟩:Point3)],1⟩:Plan),[],[],[(⟨7,(⟨0,0,0⟩:Point3)⟩:Window)],[],[]⟩:Town) ([(⟨3,0,(⟨1,[(⟨[hmV 9 10 0],[]⟩:Phase),(⟨[(⟨(⟨(⟨2,0,3,1⟩:Rect),0,9⟩:Box),0,0,false⟩:Volume)],[]⟩:Phase)]⟩:Drawing),0,0,false⟩:Right)]) = some (⟨2,(⟨#[]⟩:ByteArray),0⟩,false):=safeW
  rw [hw,Option.bind_some]
  obtain ⟨y,hy,hy2⟩:=keepsW
  have hk:vested_Keeps (⟨(⟨[],[],[],[],[],[],[(⟨1,0,1⟩:Point3)],1⟩:Plan),[],[],[(⟨7,(⟨0,0,0⟩:Point3)⟩:Window)],[],[]⟩:Town) = some y:=hy
  rw [hk,Option.bind_some,states_eq (by simp) (rt_S 40) (by simp [t0]) (by simp [t0]),Option.bind_some]
  dsimp only
  rw [hx2,hy2,sts_len]
  have hc:cntR [r1,r2 40] = 6:=rfl
  rw [hc,if_pos (by simp)]
  have h1:sliceI [r1,r2 40] 0 1 = some [r1]:=rfl
  have h2:subI (([r1,r2 40]:List Right).length:Int) 1 = some 1:=rfl
  have h3:getI [r1,r2 40] 1 = some (r2 40):=rfl
  rw [h1,Option.bind_some,h2,Option.bind_some,h3,Option.bind_some,grant0]
  rfl
end Go.Proofs.YtegglcdhfnjhcaaGreat

namespace Go.Proofs.YtegglcdhfnjhcaaGreat
open Go.Gb
set_option linter.unusedVariables false
set_option linter.unusedSimpArgs false
set_option linter.unusedSectionVars false
set_option linter.unusedVariables false
set_option linter.unusedSimpArgs false

def bldR (r:Right):List Placed:=(lft r).flatMap fun ph=>ph.Volumes.map fun v=>(⟨r.Drawing.Lot,v⟩:Placed)
theorem lastT_built : ∀ (rights:List Right) (t:Town),(lastT rights t).Built = t.Built ++ rights.flatMap bldR
  | [],t=>by simp [lastT]
  | r :: rs, t => by
    show (lastT rs (fA r.Drawing.Lot (lft r) t)).Built = _
    rw [lastT_built rs,fA_built,List.flatMap_cons,List.append_assoc]
    rfl
theorem tops_app (p:Plan) (c:Cap) (a b:List Right) (r:Right):tops p c (a ++ r::b) = tops p c a + top p c r + tops p c b:=by
  simp [tops]; omega
structure UseI (i:Nat) (now:List Right) (t:Town):Prop where
  len:now.length ≤ 3
  rts : ∀ r ∈ now,RtS r
  town:TownS t
  built:t.Built.length ≤ 8 + 2 * i
  base:t.Base.length ≤ 6 + 3 * i
  safe:SafeP t now
theorem UseI.next {i:Nat} {now:List Right} {t:Town} (h:UseI i now t):UseI (i + 1) now t:=
  ⟨h.len,h.rts,h.town,by have:=h.built; omega,by have:=h.base; omega,h.safe⟩
end Go.Proofs.YtegglcdhfnjhcaaGreat

namespace Go.Proofs.YtegglcdhfnjhcaaGreat
open Go.Gb
set_option linter.unusedVariables false
set_option linter.unusedSimpArgs false
set_option linter.unusedSectionVars false
set_option linter.unusedVariables false
set_option linter.unusedSimpArgs false

theorem addW_one {i:Nat} (h:i < 4611686018427387904):addW (i:Int) 1 = some ((i + 1:Nat):Int):=by
  rw [addW_in (by unfold inI; omega)]; simp
theorem nmd_cap {c d:Cap} (h:d.Name = c.Name) : ∀ l:List Entry,nmd l d = nmd l c
  | []=>rfl
  | e::l=>by rw [nmd,nmd,nmd_cap h l,h]
theorem light_caps {a b:Town} (hs:b.Plan.Sun = a.Plan.Sun) (hh:b.Plan.Hours = a.Plan.Hours) (hv:b.Plan.Views = a.Plan.Views) (hw:b.Windows = a.Windows) (hb:b.Built = a.Built) (h:LightP a):LightP b:=by
  unfold LightP sunN viewN at *
  rw [hs,hh,hv,hw,hb]; exact h
def moreC (n:Int) (c:Cap):Cap:={ c with Limit:=max c.Limit (IntKind.i64.wrap (c.Limit + n)) }
def moreT (n:Int) (t:Town) (l:List Cap):Town:={ t with Plan:={ t.Plan with Caps:=l.map (moreC n) } }
theorem lds_more (n:Int) (t:Town) (x:List Cap) (c:Cap) (l:List Volume):lds (moreT n t x).Plan (moreC n c) l = lds t.Plan c l:=by
  have e:ld (moreT n t x).Plan (moreC n c) = ld t.Plan c:=rfl
  unfold lds; rw [e]
theorem phL_more (n:Int) (t:Town) (x:List Cap) (c:Cap):phL (moreT n t x).Plan (moreC n c) = phL t.Plan c:=by
  funext ph
  unfold phL
  rw [lds_more,nmd_cap (c:=c) (d:=moreC n c) rfl]
theorem safe_more {n:Int} {t:Town} {rights:List Right} (h:SafeP t rights):SafeP (moreT n t t.Plan.Caps) rights:=by
  obtain ⟨h1,h2⟩:=h
  have p1:=lastT_plan rights t
  have p2:=lastT_plan rights (moreT n t t.Plan.Caps)
  refine ⟨fun c hc=>?_,light_caps (a:=lastT rights t) (by rw [p1.1,p2.1]; rfl) (by rw [p1.1,p2.1]; rfl) (by rw [p1.1,p2.1]; rfl) (by rw [p1.2,p2.2]; rfl) (by rw [lastT_built,lastT_built]; rfl) h2⟩
  obtain ⟨d,hd,rfl⟩:=List.mem_map.1 (show c ∈ t.Plan.Caps.map (moreC n) from hc)
  have h3:=h1 d hd
  have e1:loadT (moreT n t t.Plan.Caps) (moreC n d) = loadT t d:=by
    unfold loadT
    rw [lds_more,nmd_cap (c:=d) (d:=moreC n d) rfl]; rfl
  have e2:tops (moreT n t t.Plan.Caps).Plan (moreC n d) rights = tops t.Plan d rights:=by
    unfold tops top
    rw [phL_more]
  have e3:d.Limit ≤ (moreC n d).Limit:=Int.le_max_left _ _
  rw [e1,e2]; omega
theorem top_none (p:Plan) (c:Cap) {r:Right} (h:lft r = []):top p c r = 0:=by
  unfold top; rw [h]; rfl
theorem safe_less {t:Town} {A B:List Right} {r:Right} (hT:TownS t) (hr:RtS r) (h:SafeP t (A ++ r::B)):SafeP t (A ++ B):=by
  obtain ⟨h1,h2⟩:=h
  have p1:=lastT_plan (A ++ r::B) t
  have p2:=lastT_plan (A ++ B) t
  refine ⟨fun c hc=>?_,h2.mono (p1.1.trans p2.1.symm) (p1.2.trans p2.2.symm) ?_⟩
  · have h3 := h1 c hc
    have h4:=(top_bd hT.plan (hT.cap c hc) hr).1
    rw [tops_app] at h3
    have e:tops t.Plan c (A ++ B) = tops t.Plan c A + tops t.Plan c B:=by simp [tops]
    rw [e]; omega
  · rw [lastT_built, lastT_built, List.flatMap_append, List.flatMap_append, List.flatMap_cons]
    exact (List.Sublist.refl _).append ((List.Sublist.refl _).append (List.sublist_append_right _ _))
theorem safe_none {t:Town} {A B:List Right} {r:Right} (hr:lft r = []) (h:SafeP t (A ++ B)):SafeP t (A ++ r::B):=by
  obtain ⟨h1,h2⟩:=h
  have p1:=lastT_plan (A ++ B) t
  have p2:=lastT_plan (A ++ r::B) t
  refine ⟨fun c hc=>?_,h2.mono (p1.1.trans p2.1.symm) (p1.2.trans p2.2.symm) ?_⟩
  · have h3 := h1 c hc
    have e:tops t.Plan c (A ++ B) = tops t.Plan c A + tops t.Plan c B:=by simp [tops]
    rw [e] at h3
    rw [tops_app,top_none _ _ hr]; omega
  · have e : bldR r = [] := by unfold bldR; rw [hr]; rfl
    rw [lastT_built,lastT_built,List.flatMap_append,List.flatMap_append,List.flatMap_cons,e,List.nil_append]
    exact List.Sublist.refl _
theorem law_VestedLapses (t:Town) (rights:List Right) (k more:Int):law33_VestedLapses t rights k more = some true:=by
  unfold law33_VestedLapses
  obtain ⟨b,hb,hbs⟩:=few_spec (t:=t) (rights:=rights) (n:=3) (by omega)
  rw [show ((3:Nat):Int) = 3 from rfl] at hb
  rw [small33_true,Option.bind_some,hb,Option.bind_some]
  by_cases hc:(((!b) || decide (more < 0)) || decide (1099511627776 < more)) = true
  · rw [if_pos hc]
  · rw [if_neg hc]
    simp only [Bool.or_eq_true, Bool.not_eq_true', decide_eq_true_eq, not_or, Bool.not_eq_false] at hc
    have hF:=hbs hc.1.1
    have h8:=hF.built; have h6:=hF.base; have hl3:=hF.len; have hcl:=hF.caps
    obtain ⟨x,hx,x1,_⟩:=safe_eq hF.town (by omega) hF.rts (by omega) (by omega)
    rw [hx,Option.bind_some]
    cases hs:x.2 with
    | false=>rw [if_pos (by simp)]
    | true =>
      have hS:=x1.1 hs
      obtain ⟨y,hy,y1,_⟩:=keeps_eq hF.town (by omega) (by omega)
      have hy2:y.2 = true:=y1.2 (safe_iff.1 hS _ (by obtain ⟨l,hl⟩:=sts_head rights t; rw [hl]; simp))
      rw [if_neg (by simp),hy,Option.bind_some]
      obtain ⟨f,h1,h2,h3⟩:=loop_up (body:=law33_VestedLapses_L0 t more) (fun i s=>s.2 = ((i:Nat):Int)∧s.1 = moreT more t (t.Plan.Caps.take i)) t.Plan.Caps.length
        (fun f => ∃ n, f = .ex 0 (moreT more t t.Plan.Caps, n)) (fun i s hi ⟨hs', hI⟩ => by
          have hlt:(t.Plan.Caps.take i).length ≤ 3:=by simp; omega
          unfold law33_VestedLapses_L0
          rw [hs', if_pos (by simpa using hi), getI_nat hi, Option.bind_some]
          rw [show addW t.Plan.Caps[i].Limit more = some (IntKind.i64.wrap (t.Plan.Caps[i].Limit + more)) from rfl,Option.bind_some]
          have hcaps:s.1.Plan.Caps = (t.Plan.Caps.take i).map (moreC more):=by rw [hI]; rfl
          rw [hcaps,appI_some (by simp; omega),Option.bind_some,addW_one (by omega),hI]
          refine .inl ⟨_,rfl,rfl,?_⟩
          rw [List.take_succ_eq_append_getElem hi]
          unfold moreT
          rw [List.map_append]
          rfl) (fun s ⟨hs', hI⟩ => by
          obtain ⟨s1,s2⟩:=s
          unfold law33_VestedLapses_L0
          rw [if_neg (by rw [hs']; simp)]
          rw [List.take_length] at hI
          dsimp only at hI
          exact ⟨_,rfl,trivial,s2,by rw [hI]⟩) ({ t with Plan:={ t.Plan with Caps:=([]:List Cap) } },0) ⟨rfl,rfl⟩ (t.Plan.Caps.length + 1) (by omega)
      obtain ⟨n,rfl⟩:=h3
      rw [h1,Option.bind_some]
      dsimp only
      have hTm:TownS (moreT more t t.Plan.Caps):=by
        obtain ⟨a,b,c,d,e,f,g⟩:=hF.town
        refine ⟨a,by show (t.Plan.Caps.map (moreC more)).length ≤ _; simpa using b,fun q hq=>?_,d,e,f,g⟩
        obtain ⟨d,hd,rfl⟩:=List.mem_map.1 (show q ∈ t.Plan.Caps.map (moreC more) from hq)
        exact c d hd
      obtain ⟨z,hz,z1,_⟩:=safe_eq (rights:=rights) hTm (by omega) hF.rts (by show t.Built.length ≤ _; omega) (by show t.Base.length ≤ _; omega)
      have hz2:z.2 = true:=z1.2 (safe_more hS)
      rw [hz,Option.bind_some,hy2,hz2,if_neg (by simp)]
      by_cases hk:(decide (k < 0) || decide ((rights.length:Int) ≤ k)) = true
      · rw [if_pos hk]
      · rw [if_neg hk]
        simp only [Bool.or_eq_true,decide_eq_true_eq,not_or,Int.not_lt,Int.not_le] at hk
        obtain ⟨j,rfl⟩ : ∃ j:Nat,k = (j:Int):=⟨k.toNat,by omega⟩
        have hj:j < rights.length:=by omega
        have hA:(rights.take j).length ≤ 3:=by simp; omega
        have hB:(rights.drop (j + 1)).length ≤ 3:=by simp; omega
        have hAB:(rights.take j ++ rights.drop (j + 1)).length ≤ 3:=by simp; omega
        have e0:rights = rights.take j ++ rights[j]::rights.drop (j + 1):=by
          rw [← List.drop_eq_getElem_cons hj,List.take_append_drop]
        have e1:rights.set j { rights[j] with Over:=true } = rights.take j ++ { rights[j] with Over:=true }::rights.drop (j + 1):=List.set_eq_take_append_cons_drop .. |>.trans (if_pos hj)
        have hq:=hF.rts _ (List.getElem_mem hj)
        have hSl:SafeP t (rights.take j ++ rights.drop (j + 1)):=safe_less hF.town hq (by rw [← e0]; exact hS)
        have hSo:SafeP t (rights.set j { rights[j] with Over:=true }):=by
          rw [e1]
          refine safe_none ?_ hSl
          unfold lft liv
          simp
        have hrA : ∀ q ∈ rights.take j ++ rights.drop (j + 1),RtS q:=fun q hq=>by
          rcases List.mem_append.1 hq with h | h
          · exact hF.rts q (List.mem_of_mem_take h)
          · exact hF.rts q (List.mem_of_mem_drop h)
        have hrO : ∀ q ∈ rights.set j { rights[j] with Over:=true },RtS q:=fun q hq'=>by
          rcases List.mem_or_eq_of_mem_set hq' with h | h
          · exact hF.rts q h
          · rw [h]; exact hq
        obtain ⟨u,hu,u1,_⟩:=safe_eq hF.town (by omega) hrA (by omega) (by omega)
        obtain ⟨v,hv,v1,_⟩:=safe_eq hF.town (by simp; omega) hrO (by omega) (by omega)
        rw [sliceI_some (by omega) (by omega) (by omega),Option.bind_some,Int.toNat_natCast,Int.toNat_zero,List.drop_zero,appI_clone (by omega),Option.bind_some,addW_one (by omega),Option.bind_some,
          sliceI_some (by omega) (by omega) (by omega),Option.bind_some,Int.toNat_natCast,Int.toNat_natCast,List.take_length,appI_some (by omega),Option.bind_some,hu,Option.bind_some,appI_clone (by omega),Option.bind_some,getI_nat hj,Option.bind_some,Option.bind_some,hv,Option.bind_some,u1.2 hSl,v1.2 hSo]
        rfl
end Go.Proofs.YtegglcdhfnjhcaaGreat

