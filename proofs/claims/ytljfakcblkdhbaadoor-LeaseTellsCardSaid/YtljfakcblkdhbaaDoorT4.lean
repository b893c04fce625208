/- What the functions compute that the law reaches, and that the law holds of it, part 4 -/
import Derived.Test.YtljfakcblkdhbaaDoorT3
namespace Go.Proofs.YtljfakcblkdhbaaDoor
open Go.Gb
set_option linter.unusedVariables false
set_option linter.unusedSimpArgs false
set_option linter.unusedSectionVars false
set_option maxRecDepth 100000
/-! What the reference's desk does, in the words of the program's. -/
structure Rel (c:DC) (r:Ref46Desk):Prop where
  L:r.L = c.L
  O:r.Out = c.out
  S:r.Sent = c.sent
  N:r.Counter = c.counter
  T : ∀ f n,(r.In.any fun y=>y.From == f && y.Number == n) = tookC c f n
section
variable {r:Ref46Desk} {c:DC} {cap:ByteArray} {n to:Int}
theorem Rel.lens (e:Rel c r) (h:Inv c):r.L.length ≤ 100:=by rw [e.L]; have:=h.len; omega
theorem Rel.bnd (e:Rel c r) (h:Inv c) : ∀ x ∈ r.L,0 ≤ x.Used∧x.Used ≤ x.Held∧x.Held ≤ 1099511627776:=fun x hx=>(h.le x (by rw [← e.L]; exact hx)).2
theorem rel_use (h : Inv c) (e : Rel c r) : ∃ r', refUse r cap n = some (r', (useC c cap n).2) ∧ Rel (useC c cap n).1 r' ∧ r'.In = r.In ∧ (useC c cap n).1.sent = c.sent := by
  have hs:(useC c cap n).1.out = c.out∧(useC c cap n).1.sent = c.sent∧(useC c cap n).1.counter = c.counter∧(useC c cap n).1.taken = c.taken:=by
    unfold useC; split
    · split
      · exact ⟨rfl,rfl,rfl,rfl⟩
      · split <;> exact ⟨rfl,rfl,rfl,rfl⟩
    · exact ⟨rfl,rfl,rfl,rfl⟩
  exact ⟨_,refUse_eq h e.L,⟨rfl,e.O.trans hs.1.symm,e.S.trans hs.2.1.symm,e.N.trans hs.2.2.1.symm,fun f k=>by rw [took_eq hs.2.2.2]; exact e.T f k⟩,rfl,hs.2.1⟩
theorem rel_free (h : Inv c) (e : Rel c r) : ∃ r', refFree r cap n = some (r', (freeC c cap n).2) ∧ Rel (freeC c cap n).1 r' ∧ r'.In = r.In ∧ (freeC c cap n).1.sent = c.sent := by
  have hs:(freeC c cap n).1.out = c.out∧(freeC c cap n).1.sent = c.sent∧(freeC c cap n).1.counter = c.counter∧(freeC c cap n).1.taken = c.taken:=by
    unfold freeC; split
    · split
      · exact ⟨rfl,rfl,rfl,rfl⟩
      · split <;> exact ⟨rfl,rfl,rfl,rfl⟩
    · exact ⟨rfl,rfl,rfl,rfl⟩
  exact ⟨_,refFree_eq h e.L,⟨rfl,e.O.trans hs.1.symm,e.S.trans hs.2.1.symm,e.N.trans hs.2.2.1.symm,fun f k=>by rw [took_eq hs.2.2.2]; exact e.T f k⟩,rfl,hs.2.1⟩
theorem rel_send (h : Inv c) (e : Rel c r) (hs : c.sent < 1000000) : ∃ q r', sendC c cap to n = some q ∧ refSend r cap to n = some (r', q.2) ∧ Rel q.1 r' ∧ r'.In = r.In ∧ q.1.sent ≤ c.sent + 1 := by
  have hl:=e.lens h
  have hb:=e.bnd h
  have ho:=h.ol
  have h0:=h.se
  unfold sendC refSend
  by_cases ht:(0 ≤ to∧to ≤ 7)∧¬ to = c.counter
  rotate_left
  · rw [if_neg ht, if_pos (show ((!(decide (0 ≤ to) && decide (to < 8))) || to == r.Counter) = true by rw [e.N]; simp; omega)]
    exact ⟨_,_,rfl,rfl,e,rfl,by dsimp only; omega⟩
  rw [if_pos ht,if_neg (show ¬ ((!(decide (0 ≤ to) && decide (to < 8))) || to == r.Counter) = true by rw [e.N]; simp; omega),refMay_spec hl,Option.bind_some]
  by_cases hn:1 ≤ n∧n ≤ 1099511627776
  rotate_left
  · rw [if_neg hn, if_neg hn]
    exact ⟨_,_,rfl,rfl,e,rfl,by dsimp only; omega⟩
  rw [if_pos hn,if_pos hn]
  rcases refAt_spec (r:=r) (cap:=cap) hl with ⟨h1,_⟩ | ⟨j,x,hx,h1,h2⟩
  · rw [h1]; rw [e.L] at h1; rw [h1]
    exact ⟨_,_,rfl,rfl,e,rfl,by dsimp only; omega⟩
  · have h1' := h1
    rw [e.L] at h1'
    rw [refLeft_spec hl hb,h1,h1']
    have hxb:=hb x (List.mem_of_getElem? hx)
    simp only [Option.isNone_some,Bool.false_eq_true,if_false,bne_self_eq_false,Option.bind_some]
    by_cases hlt:x.Held - x.Used < n
    · rw [if_pos (decide_eq_true hlt), if_pos hlt]
      exact ⟨_,_,rfl,rfl,e,rfl,by dsimp only; omega⟩
    rw [if_neg hlt,if_pos hs,if_neg (show ¬ decide (x.Held - x.Used < n) = true by simp [hlt]),h2,Option.bind_some,getI_nat hx,Option.bind_some,subI_of (by omega),Option.bind_some,e.S,addI_of (by omega),Option.bind_some,e.N,e.O,appI_some (by simp; omega),Option.bind_some]
    refine ⟨_,_,rfl,rfl,⟨?_,rfl,rfl,rfl,e.T⟩,rfl,by dsimp only; omega⟩
    have hcx:=(getC_mem h1).2
    have:=set_setC (y:={ x with Held:=x.Held - n }) h.so (e.L ▸ hx)
    subst hcx
    rw [e.L]; exact this.symm
theorem insC_split {y:Lease} : ∀ {A B:List Lease},(∀ a ∈ A,bLt y.Cap a.Cap = false) → (∀ b ∈ B,bLt y.Cap b.Cap = true) → insC y (A ++ B) = A ++ y::B
  | [],[],_,_=>rfl
  | [],b::B,_,hb=>by simp only [List.nil_append,insC]; rw [if_pos (hb b (by simp))]
  | a :: A, B, ha, hb => by
    simp only [List.cons_append,insC]
    rw [if_neg (by rw [ha a (by simp)]; decide),insC_split (fun x hx=>ha x (by simp [hx])) hb]
theorem take_loop {L:List Lease} {y:Lease} (hs:Sor L) (hn : ∀ x ∈ L,¬ x.Cap = cap) (hl:L.length ≤ 100) (hy:y.Cap = cap) : ∃ s,iterL (refTakeL cap) 1000 (L ++ [zL],(L.length:Int)) = some (.ex 0 s)∧(∃ z,getI s.1 s.2 = some z)∧s.1.set s.2.toNat y = insC y L:=by
  have fin : ∀ (j:Nat) (w:Lease),j ≤ L.length → (∀ x ∈ L.drop j,bLt cap x.Cap = true) → (∀ x ∈ L.take j,bLt x.Cap cap = true) → (∃ z,getI (L.take j ++ w::L.drop j) ((j:Nat):Int) = some z)∧(L.take j ++ w::L.drop j).set ((j:Nat):Int).toNat y = insC y L:=by
    intro j w hj h1 h2
    have hlen:(L.take j).length = j:=by rw [List.length_take]; omega
    have hw:(L.take j ++ w::L.drop j)[j]? = some w:=by rw [List.getElem?_append_right (by omega),hlen]; simp
    refine ⟨⟨w,getI_nat hw⟩,?_⟩
    rw [Int.toNat_natCast,List.set_append_right _ _ (by omega),hlen,Nat.sub_self,List.set_cons_zero]
    have:=insC_split (y:=y) (A:=L.take j) (B:=L.drop j) (fun a ha=>by rw [hy]; exact bLt_asymm (h2 a ha)) (fun b hb=>by rw [hy]; exact h1 b hb)
    rw [List.take_append_drop] at this
    exact this.symm
  obtain ⟨f,h1,h2,s,rfl,h3,h4⟩:=loop_down (body:=refTakeL cap) (fun s=>∃ (j:Nat) (w:Lease),s.2 = (j:Int)∧j ≤ L.length∧s.1 = L.take j ++ w::L.drop j∧∀ x ∈ L.drop j,bLt cap x.Cap = true) (fun s=>s.2.toNat)
    (fun f=>∃ s,f = .ex 0 s∧(∃ z,getI s.1 s.2 = some z)∧s.1.set s.2.toNat y = insC y L)
    (fun s ⟨j,w,e1,hj,e2,hd⟩=>by
      obtain ⟨s1,s2⟩:=s
      dsimp only at e1 e2
      subst e1 e2
      cases j with
      | zero =>
        refine .inr ⟨.ex 0 (L.take 0 ++ w::L.drop 0,((0:Nat):Int)),?_,trivial,(L.take 0 ++ w::L.drop 0,((0:Nat):Int)),rfl,fin 0 w (Nat.zero_le _) hd (by simp)⟩
        unfold refTakeL
        rw [if_neg (by simp)]
      | succ j =>
        have hjl:j < L.length:=by omega
        have hx:L[j]? = some L[j]:=List.getElem?_eq_getElem hjl
        generalize L[j] = x at hx
        have hlen:(L.take (j + 1)).length = j + 1:=by rw [List.length_take]; omega
        have hg:(L.take (j + 1) ++ w::L.drop (j + 1))[j]? = some x:=by
          rw [List.getElem?_append_left (by omega),List.getElem?_take,if_pos (by omega),hx]
        have hgw:(L.take (j + 1) ++ w::L.drop (j + 1))[j + 1]? = some w:=by rw [List.getElem?_append_right (by omega),hlen]; simp
        have hxm:x ∈ L:=List.mem_of_getElem? hx
        have hstep:refTakeL cap (L.take (j + 1) ++ w::L.drop (j + 1),((j + 1:Nat):Int)) = if (!(bLt x.Cap cap || x.Cap.toList == cap.toList)) then some (.go ((L.take (j + 1) ++ w::L.drop (j + 1)).set (j + 1) x,(j:Int))) else some (.ex 0 (L.take (j + 1) ++ w::L.drop (j + 1),((j + 1:Nat):Int))):=by
          unfold refTakeL
          dsimp only
          rw [if_pos (decide_eq_true (by omega)),subI_of (by omega),Option.bind_some,show ((j + 1:Nat):Int) - 1 = (j:Int) by omega,getI_nat hg,Option.bind_some,getI_nat hgw,Option.bind_some,Int.toNat_natCast]
        rw [hstep,toList_beq]
        have hne:=hn x hxm
        cases hlt:bLt x.Cap cap with
        | false =>
          rw [if_pos (by simp [hne])]
          have hgt:bLt cap x.Cap = true:=by
            cases hg2:bLt cap x.Cap with
            | true=>rfl
            | false=>exact absurd (bLt_total hlt hg2) hne
          have hdr:L.drop j = x::L.drop (j + 1):=by
            rw [List.drop_eq_getElem_cons hjl]
            congr 1
            rw [List.getElem?_eq_getElem hjl] at hx
            exact Option.some.inj hx
          have htk:L.take (j + 1) = L.take j ++ [x]:=by rw [List.take_add_one,hx]; rfl
          refine .inl ⟨_,rfl,⟨j,x,rfl,by omega,?_,?_⟩,by dsimp only; omega⟩
          · dsimp only
            rw [List.set_append_right _ _ (by omega),hlen,Nat.sub_self,List.set_cons_zero,hdr,htk,List.append_assoc]
            rfl
          · rw [hdr]
            intro z hz
            rcases List.mem_cons.1 hz with rfl | hz
            · exact hgt
            · exact hd z hz
        | true =>
          rw [if_neg (by simp)]
          refine .inr ⟨_,rfl,trivial,_,rfl,fin (j + 1) w hj hd fun z hz=>?_⟩
          rw [List.take_add_one,hx] at hz
          rcases List.mem_append.1 hz with hz | hz
          · obtain ⟨i, hi, rfl⟩ := List.getElem_of_mem hz
            rw [List.length_take] at hi
            rw [List.getElem_take]
            have hxe:L[j] = x:=by rw [List.getElem?_eq_getElem hjl] at hx; exact Option.some.inj hx
            have hs' : L.Pairwise fun a b=>bLt a.Cap b.Cap = true:=hs
            have:=List.pairwise_iff_getElem.1 hs' i j (by omega) hjl (by omega)
            rw [hxe] at this
            exact bLt_trans this hlt
          · simp at hz; rw [hz]; exact hlt)
    (L ++ [zL],(L.length:Int)) ⟨L.length,zL,rfl,Nat.le_refl _,by rw [List.take_length,List.drop_length],by simp⟩ 1000 (by dsimp only; omega)
  exact ⟨s,h1,h3,h4⟩
theorem any_snoc {I:List Portion} {p:Portion} {f k:Int}:((I ++ [p]).any fun y=>y.From == f && y.Number == k) = ((I.any fun y=>y.From == f && y.Number == k) || (p.From == f && p.Number == k)):=by simp
theorem rel_took (e:Rel c r) {p:Portion} {L:List Lease} {r' : Ref46Desk} (hL:r'.L = L) (hO:r'.Out = r.Out) (hS:r'.Sent = r.Sent) (hN:r'.Counter = r.Counter) (hI:r'.In = r.In ++ [p]):Rel { c with L:=L,taken:=setK c.taken ⟨p.From,p.Number⟩ true } r':=by
  refine ⟨hL,hO.trans e.O,hS.trans e.S,hN.trans e.N,fun f k=>?_⟩
  rw [hI,any_snoc,e.T]
  by_cases hk:p.From = f∧p.Number = k
  · rw [← hk.1,← hk.2,took_set]; simp
  · rw [took_ne c L hk]
    have:(p.From == f && p.Number == k) = false:=by
      simp only [Bool.and_eq_false_iff,beq_eq_false_iff_ne]
      by_cases h1:p.From = f
      · exact .inr fun h2=>hk ⟨h1,h2⟩
      · exact .inl h1
    rw [this,Bool.or_false]
theorem hear_loop {O:List Portion} {p:Portion} (hl:O.length ≤ 1000000) : ∃ i,iterL (refHearL O p) 1000001 ([],0) = some (.ex 0 (O.filter (fun q=>!(decide (q.Cap = p.Cap) && q.Number == p.Number && q.To == p.From)),i)):=by
  have hc : ∀ x:Portion,(((!(x.Cap.toList == p.Cap.toList)) || x.Number != p.Number) || x.To != p.From) = !(decide (x.Cap = p.Cap) && x.Number == p.Number && x.To == p.From):=fun x=>by
    rw [toList_beq]
    show (((!decide (x.Cap = p.Cap)) || !(x.Number == p.Number)) || !(x.To == p.From)) = _
    cases decide (x.Cap = p.Cap) <;> cases (x.Number == p.Number) <;> cases (x.To == p.From) <;> rfl
  obtain ⟨f,h1,h2,i,rfl⟩:=loop_up (body:=refHearL O p) (fun i s=>s.2 = (i:Int)∧s.1 = (O.take i).filter (fun q=>!(decide (q.Cap = p.Cap) && q.Number == p.Number && q.To == p.From))) O.length
    (fun f=>∃ i,f = .ex 0 (O.filter (fun q=>!(decide (q.Cap = p.Cap) && q.Number == p.Number && q.To == p.From)),i))
    (fun i s hi ⟨e1,e2⟩=>by
      obtain ⟨s1,s2⟩:=s
      dsimp only at e1 e2
      subst e1 e2
      have hx:O[i]? = some O[i]:=List.getElem?_eq_getElem hi
      generalize O[i] = x at hx
      refine .inl ?_
      unfold refHearL
      dsimp only
      rw [if_pos (decide_eq_true (by omega)),getI_nat hx,Option.bind_some,hc]
      have hlf:((O.take i).filter (fun q=>!(decide (q.Cap = p.Cap) && q.Number == p.Number && q.To == p.From))).length ≤ i:=Nat.le_trans (List.length_filter_le _ _) (by rw [List.length_take]; omega)
      have e2:=take_filter (p:=fun q=>!(decide (q.Cap = p.Cap) && q.Number == p.Number && q.To == p.From)) hx
      cases hb:(!(decide (x.Cap = p.Cap) && x.Number == p.Number && x.To == p.From)) with
      | true =>
        rw [hb,if_pos rfl] at e2
        rw [if_pos rfl,appI_some (by simp only [List.length_cons,List.length_nil]; omega),Option.bind_some,addI_nat (m:=1000000) (by omega) (by omega),Option.bind_some]
        exact ⟨_,rfl,by dsimp only; omega,e2.symm⟩
      | false =>
        rw [hb,if_neg (by decide),List.append_nil] at e2
        rw [if_neg (by decide),Option.bind_some,addI_nat (m:=1000000) (by omega) (by omega),Option.bind_some]
        exact ⟨_,rfl,by dsimp only; omega,e2.symm⟩)
    (fun s ⟨e1,e2⟩=>by
      obtain ⟨s1,s2⟩:=s
      dsimp only at e1 e2
      subst e1 e2
      refine ⟨.ex 0 (O.filter (fun q=>!(decide (q.Cap = p.Cap) && q.Number == p.Number && q.To == p.From)),(O.length:Int)),?_,trivial,_,rfl⟩
      unfold refHearL
      dsimp only
      rw [if_neg (by simp),List.take_length]) ([],0) ⟨rfl,rfl⟩ 1000001 (by omega)
  exact ⟨i,h1⟩
theorem rel_hear {p : Portion} (h : Inv c) (e : Rel c r) (hI : r.In.length ≤ 99) : ∃ r', refHear r p = some (r', (hearC c p).2) ∧ Rel (hearC c p).1 r' ∧ r'.In.length ≤ r.In.length + 1 ∧ (hearC c p).1.sent = c.sent := by
  have hl:=e.lens h
  have hb:=e.bnd h
  have ho:=h.ol
  have h0:=h.se
  have hv:validC p = !(refBad p):=by
    unfold validC refBad
    have e1:decide (p.From < 8) = decide (p.From ≤ 7):=by congr 1; exact propext (by omega)
    have e2:decide (p.To < 8) = decide (p.To ≤ 7):=by congr 1; exact propext (by omega)
    have e3:decide (p.Number < 1) = !decide (1 ≤ p.Number):=by rw [← decide_not]; congr 1; exact propext (by omega)
    have e4:decide (p.N < 0) = !decide (0 ≤ p.N):=by rw [← decide_not]; congr 1; exact propext (by omega)
    have e5:decide (1099511627776 < p.N) = !decide (p.N ≤ 1099511627776):=by rw [← decide_not]; congr 1; exact propext (by omega)
    rw [e1,e2,e3,e4,e5,show (p.From != p.To) = !(p.From == p.To) from rfl]
    cases decide (0 ≤ p.From) <;> cases decide (p.From ≤ 7) <;> cases decide (0 ≤ p.To) <;> cases decide (p.To ≤ 7) <;> cases (p.From == p.To) <;> cases decide (1 ≤ p.Number) <;> cases decide (0 ≤ p.N) <;> cases decide (p.N ≤ 1099511627776) <;> rfl
  unfold refHear hearC
  cases hbad:refBad p with
  | true =>
    rw [hbad] at hv
    rw [if_pos rfl,if_neg (show ¬ validC p = true by rw [hv]; decide)]
    exact ⟨_,rfl,e,by omega,rfl⟩
  | false=>
  rw [hbad] at hv
  rw [if_neg (by decide),if_pos (show validC p = true by rw [hv]; decide)]
  by_cases hto:p.To = c.counter
  rotate_left
  · rw [if_neg hto, if_pos (show (p.To != r.Counter) = true by rw [e.N]; simpa using hto)]
    exact ⟨_,rfl,e,by omega,rfl⟩
  rw [if_pos hto,if_neg (show ¬ (p.To != r.Counter) = true by rw [e.N]; simpa using hto)]
  by_cases hN:p.N = 0
  · rw [if_pos hN, if_pos (show (p.N == 0) = true by simpa using hN)]
    obtain ⟨i,hi⟩:=hear_loop (O:=r.Out) (p:=p) (by rw [e.O]; omega)
    rw [hi,Option.bind_some]
    exact ⟨_,rfl,⟨e.L,by rw [e.O],e.S,e.N,fun f k=>e.T f k⟩,by dsimp only; omega,rfl⟩
  rw [if_neg hN,if_neg (show ¬ (p.N == 0) = true by simpa using hN),refTook_spec (by omega),Option.bind_some,e.T]
  cases htk:tookC c p.From p.Number with
  | true =>
    rw [if_neg (by decide),if_pos rfl,Option.bind_some]
    dsimp only
    rw [if_neg (show ¬ ((0:Int) != 0) = true by decide)]
    refine ⟨r,?_,e,by omega,rfl⟩
    rw [e.N]; rfl
  | false=>
  rw [if_pos (by rfl),if_neg (by decide)]
  obtain ⟨v1,v2,v3,v4,v5,v6,v7,v8⟩:=took_valid (p:=p) (by rw [hv]; rfl)
  unfold refTake
  rcases refAt_spec (r:=r) (cap:=p.Cap) hl with ⟨h1,h2⟩ | ⟨j,x,hx,h1,h2⟩
  · have h1' := h1
    rw [e.L] at h1'
    rw [h2,Option.bind_some,h1']
    dsimp only
    by_cases hfull:30 ≤ c.L.length
    · rw [if_pos hfull, if_pos (by rw [e.L]; simp; omega), Option.bind_some]
      dsimp only
      rw [if_pos (show ((6:Int) != 0) = true by decide)]
      exact ⟨r,rfl,e,by omega,rfl⟩
    rw [if_neg hfull,if_neg (by rw [e.L]; simp; omega),if_neg (by decide),e.L,appI_some (by simp; omega),Option.bind_some]
    obtain ⟨s,g1,⟨z,g2⟩,g3⟩:=take_loop (y:=⟨p.Cap,r.Counter,p.N,0⟩) h.so (getC_none h1') (by omega) rfl
    rw [g1,Option.bind_some]
    dsimp only
    rw [g2,Option.bind_some,Option.bind_some]
    dsimp only
    rw [g3,appI_some (by simp; omega),Option.bind_some,Option.bind_some]
    dsimp only
    rw [if_neg (show ¬ ((0:Int) != 0) = true by decide)]
    refine ⟨{ r with L:=insC ⟨p.Cap,r.Counter,p.N,0⟩ c.L,In:=r.In ++ [p] },by rw [e.N]; rfl,rel_took e (by dsimp only; rw [e.N]) rfl rfl rfl rfl,by simp,rfl⟩
  · have h1' := h1
    rw [e.L] at h1'
    have hxb:=hb x (List.mem_of_getElem? hx)
    rw [h2,Option.bind_some,h1']
    dsimp only
    rw [if_neg (by simp; omega),if_pos (by simp),getI_nat hx,Option.bind_some,addI_of (by omega),Option.bind_some]
    by_cases hfull:1099511627776 < x.Held + p.N
    · rw [if_pos hfull, if_pos (decide_eq_true hfull), Option.bind_some, Option.bind_some]
      dsimp only
      rw [if_pos (show ((6:Int) != 0) = true by decide)]
      exact ⟨r,rfl,e,by omega,rfl⟩
    rw [if_neg hfull,if_neg (by simp [hfull]),Option.bind_some]
    dsimp only
    rw [appI_some (by simp; omega),Option.bind_some,Option.bind_some]
    dsimp only
    rw [if_neg (show ¬ ((0:Int) != 0) = true by decide)]
    have hcx:=(getC_mem h1).2
    have hset:setC c.L p.Cap { x with Held:=x.Held + p.N } = c.L.set j { x with Held:=x.Held + p.N }:=by
      rw [← hcx]; exact set_setC h.so (e.L ▸ hx)
    refine ⟨{ r with L:=r.L.set ((j:Nat):Int).toNat { x with Held:=x.Held + p.N },In:=r.In ++ [p] },by rw [e.N]; rfl,rel_took e (by dsimp only; rw [hset,e.L]; rfl) rfl rfl rfl rfl,by simp,rfl⟩
theorem refBad_good {l:List Lease} {i:Nat} {x:Lease} (hx:l[i]? = some x) (hl:l.length ≤ 30):refOpenBad n l (i:Int) x = some (!(goodC n l i)):=by
  have hi:i < l.length:=(List.getElem?_eq_some_iff.1 hx).1
  have hb:=bad_eq (n:=n) hx hl
  unfold refOpenBad goodC
  rw [hx]
  dsimp only
  have e1:(if decide ((0:Int) < (i:Int)) = true then (subI (i:Int) 1).bind fun j=>(getI l j).bind fun y=>some (!(Op.bytesLess y.Cap.toList x.Cap.toList)) else some false) = some (!(i == 0 || match l[i - 1]? with | some y=>bLt y.Cap x.Cap | none=>false)):=by
    by_cases h0:i = 0
    · subst h0; rfl
    · rw [if_pos (decide_eq_true (by omega)), subI_of (by omega), Option.bind_some]
      have hy:l[i - 1]? = some l[i - 1]:=List.getElem?_eq_getElem (by omega)
      rw [show (i:Int) - 1 = ((i - 1:Nat):Int) by omega,getI_nat hy,Option.bind_some,hy]
      simp [h0,bLt]
  rw [e1]
  generalize (i == 0 || match l[i - 1]? with | some y=>bLt y.Cap x.Cap | none=>false) = q
  unfold refBad4
  by_cases hc:x.Counter = n∧0 ≤ x.Used∧x.Used ≤ x.Held∧x.Held ≤ 1099511627776
  · rw [if_neg (by simp; omega)]
    rw [show (x.Counter == n && (decide (0 ≤ x.Held) && decide (x.Held ≤ 1099511627776)) && (decide (0 ≤ x.Used) && decide (x.Used ≤ x.Held))) = true by simp; omega]
    rfl
  · rw [if_pos (by simp; omega)]
    rw [show (x.Counter == n && (decide (0 ≤ x.Held) && decide (x.Held ≤ 1099511627776)) && (decide (0 ≤ x.Used) && decide (x.Used ≤ x.Held))) = false by
      rw [← Bool.not_eq_true]; simp; omega]
    rfl
theorem rel_open {l:List Lease}:(∃ c r,openC n l = (some c,0)∧refOpen n l = some (some r,0)∧Rel c r∧Inv c∧c.sent = 0∧r.In = []∧0 ≤ n∧n ≤ 7) ∨ (openC n l = (none,1)∧refOpen n l = some (none,1)):=by
  unfold refOpen
  by_cases hn:(0 ≤ n∧n ≤ 7)∧l.length ≤ 30
  rotate_left
  · right
    rw [if_pos (by simp; omega)]
    unfold openC
    rw [if_neg (fun h=>hn ⟨h.1,h.2.1⟩)]
    exact ⟨rfl,rfl⟩
  obtain ⟨hn,hl⟩:=hn
  rw [if_neg (by simp; omega)]
  obtain ⟨f,h1,h2,h3⟩:=loop_up (body:=refOpenL n l) (fun i (s:Int)=>s = (i:Int)∧∀ j < i,goodC n l j = true) l.length
    (fun f=>(f = .ex 0 (l.length:Int)∧∀ j < l.length,goodC n l j = true) ∨ (f = .ret (none,1)∧∃ j < l.length,goodC n l j = false))
    (fun i s hi ⟨e1,e3⟩=>by
      subst e1
      have hx:l[i]? = some l[i]:=List.getElem?_eq_getElem hi
      unfold refOpenL
      rw [if_pos (decide_eq_true (by omega)),getI_nat hx,Option.bind_some,refBad_good hx hl,Option.bind_some]
      cases hg:goodC n l i with
      | false=>exact .inr ⟨_,rfl,trivial,.inr ⟨rfl,i,hi,hg⟩⟩
      | true =>
        rw [if_neg (by decide),addI_nat (m:=30) (by omega) (by omega),Option.bind_some]
        refine .inl ⟨_,rfl,by omega,fun j hj=>?_⟩
        rcases Nat.lt_succ_iff_lt_or_eq.1 hj with hj | rfl
        · exact e3 j hj
        · exact hg)
    (fun s ⟨e1,e3⟩=>by
      subst e1
      refine ⟨.ex 0 (l.length:Int),?_,trivial,.inl ⟨rfl,e3⟩⟩
      unfold refOpenL
      rw [if_neg (by simp)]) 0 ⟨rfl,fun j hj=>by omega⟩ 1000 (by omega)
  rw [h1,Option.bind_some]
  rcases h3 with ⟨rfl,h3⟩ | ⟨rfl,j,hj,h3⟩
  · left
    have ho:openC n l = (some ⟨n,l,[],0,[]⟩,0):=by
      unfold openC
      rw [if_pos ⟨hn,hl,List.all_eq_true.2 fun j hj=>h3 j (List.mem_range.1 hj)⟩]
    dsimp only
    rw [appI_some (by simp; omega),Option.bind_some]
    refine ⟨_,_,ho,rfl,⟨rfl,rfl,rfl,rfl,fun _ _=>rfl⟩,?_,rfl,rfl,hn.1,hn.2⟩
    rcases open_can n l with ⟨d,c,_,h5,h6⟩ | ⟨_,h5⟩
    · rw [ho] at h5
      obtain rfl:=Option.some.inj (Prod.mk.inj h5).1
      exact h6.i
    · rw [ho] at h5; cases (Prod.mk.inj h5).1
  · right
    unfold openC
    rw [if_neg (fun h=>by have:=List.all_eq_true.1 h.2.2 j (List.mem_range.2 hj); rw [h3] at this; cases this)]
    exact ⟨rfl,rfl⟩
end

end Go.Proofs.YtljfakcblkdhbaaDoor

namespace Go.Proofs.YtljfakcblkdhbaaDoor
open Go.Gb
set_option linter.unusedVariables false
set_option linter.unusedSimpArgs false
set_option linter.unusedSectionVars false
set_option maxRecDepth 100000
/-! The law LeaseTells holds. -/
section
variable {m:List Portion} {cap:ByteArray} {to a:Int} {c:DC} {r:Ref46Desk}
theorem outlen {c:DC} (h:Inv c):c.out.length ≤ 1000000:=by have:=h.ol; have:=h.se; omega
theorem look24_eq (h:Inv c) (e:Rel c r):look24 (some c) r = some false:=by
  unfold look24
  rw [d_leases,Option.bind_some,sameL_eq (by have:=h.len; omega),Option.bind_some,e.L,decide_eq_true rfl,if_neg (by decide),d_pend,Option.bind_some,sameP_eq (outlen h),Option.bind_some,e.O,decide_eq_true rfl]
  rfl
theorem tellsE_eq {i:Int} (h:Inv c) (e:Rel c r) (h0:0 ≤ i) (h1:i ≤ 100):tellsE (some c) (some r) i = some (.go (some c,some r,i + 1)):=by
  unfold tellsE
  rw [Option.bind_some,look24_eq h e,Option.bind_some,if_neg (by decide),addI_of (by omega),Option.bind_some]
theorem tellsH_eq {i : Nat} (h : Inv c) (e : Rel c r) (hi : i ≤ 100) (hI : r.In.length ≤ 99) (hm : m.length ≤ 100) : ∃ c' r', tellsH m (some c) (some r) (i : Int) = some (.go (some c', some r', (i : Int) + 1)) ∧ Inv c' ∧ Rel c' r' ∧ r'.In.length ≤ r.In.length + 1 ∧ c'.sent = c.sent := by
  unfold tellsH
  by_cases hlt:i < m.length
  rotate_left
  · rw [if_neg (by simp; omega)]
    exact ⟨c,r,tellsE_eq h e (by omega) (by omega),h,e,by omega,rfl⟩
  rw [if_pos (decide_eq_true (by omega))]
  have hx:m[i]? = some m[i]:=List.getElem?_eq_getElem hlt
  generalize m[i] = x at hx
  obtain ⟨r', h1, h2, h3, h4⟩ := rel_hear (p := x) h e hI
  have hr : rHear (some r) x = some (some r', (hearC c x).2) := by unfold rHear; rw [Option.bind_some, h1, Option.bind_some]
  have hi':=h.hear x
  have ht:rTook (some r') x.From x.Number = some (tookC (hearC c x).1 x.From x.Number):=by unfold rTook; rw [Option.bind_some,refTook_spec (by omega),h2.T]
  simp only [getI_nat hx,Option.bind_some,d_hear,hr,d_took,ht]
  rw [if_neg (by simp),Option.bind_some,if_neg (by simp)]
  exact ⟨_, r', tellsE_eq hi' h2 (by omega) (by omega), hi', h2, h3, h4⟩
theorem tellsL_eq {i : Nat} (h : Inv c) (e : Rel c r) (hi : i ≤ 100) (hI : r.In.length ≤ 99) (hm : m.length ≤ 100) : ∃ c' r', tellsL m cap (some c) (some r) (i : Int) = some (.go (some c', some r', (i : Int) + 1)) ∧ Inv c' ∧ Rel c' r' ∧ r'.In.length ≤ r.In.length + 1 ∧ c'.sent = c.sent := by
  unfold tellsL
  have hl:rLeft (some r) cap = some (leftC c cap):=by unfold rLeft; rw [Option.bind_some,refLeft_spec (e.lens h) (e.bnd h),e.L]; rfl
  rw [d_left,Option.bind_some,hl,Option.bind_some,if_neg (by simp)]
  exact tellsH_eq h e hi hI hm
theorem tellsB_eq {i : Nat} (h : Inv c) (e : Rel c r) (hm : m.length ≤ 20) (hi : i ≤ m.length) (hI : r.In.length ≤ i) (hs : c.sent ≤ i) : ∃ c' r', tellsB m cap to a (some c, some r, (i : Int)) = some (.go (some c', some r', ((i + 1 : Nat) : Int))) ∧ Inv c' ∧ Rel c' r' ∧ r'.In.length ≤ i + 1 ∧ c'.sent ≤ ((i + 1 : Nat) : Int) := by
  unfold tellsB
  dsimp only
  rw [if_pos (decide_eq_true (by omega)),d_use,Option.bind_some]
  obtain ⟨r1,a1,a2,a3,a4⟩:=rel_use (cap:=cap) (n:=a) h e
  have b1:rUse (some r) cap a = some (some r1,(useC c cap a).2):=by unfold rUse; rw [Option.bind_some,a1,Option.bind_some]
  have h1:=h.use cap a
  rw [b1,Option.bind_some,if_neg (by simp)]
  generalize (useC c cap a).1 = c1 at a2 a4 h1 ⊢
  obtain ⟨q,r2,g1,g2,g3,g4,g5⟩:=rel_send (cap:=cap) (to:=to) (n:=a) h1 a2 (by omega)
  have b2:rSend (some r1) cap to a = some (some r2,q.2):=by unfold rSend; rw [Option.bind_some,g2,Option.bind_some]
  have h2:=h1.send g1
  rw [d_send g1,Option.bind_some,b2,Option.bind_some,if_neg (by simp)]
  have hrem : ∃ k,remI (i:Int) 2 = some k:=⟨_,rfl⟩
  obtain ⟨k,hk⟩:=hrem
  rw [hk,Option.bind_some]
  dsimp only
  split
  · obtain ⟨r3, u1, u2, u3, u4⟩ := rel_free (cap := cap) (n := a) h2 g3
    have b3:rFree (some r2) cap a = some (some r3,(freeC q.1 cap a).2):=by unfold rFree; rw [Option.bind_some,u1,Option.bind_some]
    rw [d_free,Option.bind_some,b3,Option.bind_some,if_neg (by simp)]
    obtain ⟨c', r', w1, w2, w3, w4, w5⟩ := tellsL_eq (m := m) (cap := cap) (i := i) (h2.free cap a) u2 (by omega) (by rw [u3, g4, a3]; omega) (by omega)
    exact ⟨c', r', w1, w2, w3, by rw [u3, g4, a3] at w4; omega, by rw [w5, u4]; omega⟩
  · obtain ⟨c', r', w1, w2, w3, w4, w5⟩ := tellsL_eq (m := m) (cap := cap) (i := i) h2 g3 (by omega) (by rw [g4, a3]; omega) (by omega)
    exact ⟨c', r', w1, w2, w3, by rw [g4, a3] at w4; omega, by rw [w5]; omega⟩
theorem look31_eq {n:Int} (h:Inv c) (e:Rel c r) (hI:r.In.length ≤ 100) (hn:0 ≤ n∧n ≤ 7):look31 (some c) r n = some true:=by
  unfold look31
  rw [d_leases,Option.bind_some,sameL_eq (by have:=h.len; omega),Option.bind_some,e.L,decide_eq_true rfl,Option.bind_some,if_pos rfl,addI_of (by omega),Option.bind_some]
  obtain ⟨k,hk⟩ : ∃ k,remI (n + 1) 8 = some k:=⟨_,rfl⟩
  rw [hk,Option.bind_some,d_took,Option.bind_some,Option.bind_some,hk,Option.bind_some,refTook_spec hI,Option.bind_some,e.T]
  simp
theorem law_LeaseTells (n:Int) (l:List Lease) (m:List Portion) (cap:ByteArray) (to a:Int):law46_LeaseTells n l m cap to a = some true:=by
  unfold law46_LeaseTells
  by_cases hm:m.length ≤ 20
  rotate_left
  · rw [if_pos (by simp; omega)]
  by_cases hl:l.length ≤ 35
  rotate_left
  · rw [if_pos (by simp; omega)]
  rw [if_neg (by simp; omega)]
  rcases rel_open (n:=n) (l:=l) with ⟨c,r,h1,h2,h3,h4,h5,h6,h7⟩ | ⟨h1,h2⟩
  rotate_left
  · rw [h1,h2,Option.bind_some]; rfl
  rw [h1,h2,Option.bind_some,if_neg (by simp),if_neg (by simp)]
  obtain ⟨f,g1,g2,g3⟩:=loop_up (body:=tellsB m cap to a) (fun i s=>∃ c r,s = (some c,some r,(i:Int))∧Inv c∧Rel c r∧r.In.length ≤ i∧c.sent ≤ (i:Int)) (m.length + 1)
    (fun f=>∃ c r j,f = .ex 0 (some c,some r,j)∧Inv c∧Rel c r∧r.In.length ≤ 100)
    (fun i s hi ⟨c,r,e,u1,u2,u3,u4⟩=>by
      subst e
      obtain ⟨c', r', w1, w2, w3, w4, w5⟩ := tellsB_eq (cap := cap) (to := to) (a := a) u1 u2 hm (by omega) u3 u4
      exact .inl ⟨_, w1, c', r', rfl, w2, w3, w4, w5⟩)
    (fun s ⟨c,r,e,u1,u2,u3,u4⟩=>by
      subst e
      refine ⟨.ex 0 (some c,some r,((m.length + 1:Nat):Int)),?_,trivial,c,r,_,rfl,u1,u2,by omega⟩
      unfold tellsB
      dsimp only
      rw [if_neg (by simp; omega)]) (some c,some r,0) ⟨c,r,rfl,h4,h3,by rw [h6]; simp,by rw [h5]; simp⟩ 30 (by omega)
  rw [g1,Option.bind_some]
  obtain ⟨c', r', j, rfl, u1, u2, u3⟩ := g3
  dsimp only
  obtain ⟨k,hk⟩ : ∃ k,remI (n + 1) 8 = some k:=⟨_,rfl⟩
  rw [d_copy,Option.bind_some,if_neg (by simp),d_use,Option.bind_some,addI_of (by omega),Option.bind_some,hk,Option.bind_some,d_hear,Option.bind_some,Option.bind_some,look31_eq u1 u2 u3 h7,Option.bind_some]
end

end Go.Proofs.YtljfakcblkdhbaaDoor

