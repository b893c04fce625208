/- What the functions compute that the law reaches, and that the law holds of it, part 3 -/
import Derived.Test.YtljfakcblkdhbaaDoorT2
namespace Go.Proofs.YtljfakcblkdhbaaDoor
open Go.Gb
set_option linter.unusedVariables false
set_option linter.unusedSimpArgs false
set_option linter.unusedSectionVars false
set_option maxRecDepth 100000
/-! The reference's desk, marked: a value. -/
section
variable {r:Ref46Desk} {b:Nat} {lv ov iv:Value} {k k' : K} {G:FP}
/-- with its blocks marked it is a value that can be pointed to -/
theorem RefO.marked (h:RefO r b lv ov iv k) (hF : ∀ i,RFP b lv iv i → i < k.w.heap.size):IsRef (α:=tb.D (.st 6)) r (ptrV b) (k.shareF (RFP b lv iv) hF):=by
  have hh:=handed_F k (RFP b lv iv) hF
  obtain ⟨_,arr,t,e,hr⟩:=h.box
  have hr:arr.toList = rcells r lv ov iv∧arr.toList.length = 5∧_:=hr
  have i1:IsV r.L lv (k.shareF (RFP b lv iv) hF):=h.ol.shareF hh fun i hi=>.inr (.inr (.inl hi))
  have i2:IsV r.Out ov (k.shareF (RFP b lv iv) hF):=Pers.pers hh.le h.oo
  have i3:IsV r.In iv (k.shareF (RFP b lv iv) hF):=h.oi.shareF hh fun i hi=>.inr (.inr (.inr hi))
  obtain ⟨c1,q1,r1⟩:=i1
  obtain ⟨c2,q2,r2⟩:=i2
  obtain ⟨c3,q3,r3⟩:=i3
  obtain ⟨u1,rfl,s1⟩:=r1
  obtain ⟨u2,rfl,s2⟩:=r2
  obtain ⟨u3,rfl,s3⟩:=r3
  have q1:lv = u1:=q1
  have q2:ov = u2:=q2
  have q3:iv = u3:=q3
  subst q1 q2 q3
  refine ⟨⟨b,0,none⟩,rfl,.inr (.inl rfl),rcells r lv ov iv,?_,?_⟩
  · show Enc.rep (α := Int × List Lease × List Portion × Int × List Portion) _ (rcells r lv ov iv) (r.Counter, r.L, r.Out, r.Sent, r.In)
    exact ⟨rfl,rfl,rfl,⟨_,rfl,s1⟩,rfl,⟨_,rfl,s2⟩,rfl,rfl,⟨_,rfl,s3⟩⟩
  · rw [← hr.1]
    have:=cellsAt_row (w:=k.w) (b:=b) (off:=0) (n:=5) e (by have:=hr.2.1; rw [Array.length_toList] at this; omega)
    rw [List.drop_zero,← hr.2.1,List.take_length] at this
    exact this
end

/-! its readers -/
section
variable {r:Ref46Desk} {b:Nat} {lv ov iv v1 v2:Value} {k0:K} {cap:ByteArray} {f n:Int}
theorem refO_read {g:FuncId} {vs:List Value} {R S:Pred} (h:RefO r b lv ov iv k0) (hG:GOk tb k0)
    (hc : ∀ kM : K, kM.w = k0.w → Le k0 kM → GOk tb kM → IsRef (α := tb.D (.st 6)) r (ptrV b) kM → Calls Tryd.prog g vs.toArray kM.w (Ret kM R)) (hR : ∀ v k k', R v k → S v k') : Calls Tryd.prog g vs.toArray k0.w (Ret k0 S) := by
  have hF : ∀ i,RFP b lv iv i → i < k0.w.heap.size:=fun i hi=>(h.lt i hi).1
  have hh:=handed_F k0 (RFP b lv iv) hF
  exact calls_marked (F:=RFP b lv iv) (hF:=hF) (hc (k0.shareF _ hF) rfl hh.le (hG.le hh.le) (h.marked hF)) fun v k' hv=>hR _ _ _ hv
theorem res_int {x:Int} {v:Value} {k k' : K} (h:(resV (T:=tb) [.int] x).is ⟨#[],[]⟩ v k):IsV x v k':=by
  have h:IsV x v k:=(mkv_is (T:=tb) (t:=.int) (x:=x)).1 h
  rw [isV_int] at h ⊢; exact h
theorem res_bool {x:Bool} {v:Value} {k k' : K} (h:(resV (T:=tb) [.bool] x).is ⟨#[],[]⟩ v k):IsV x v k':=by
  have h:IsV x v k:=(mkv_is (T:=tb) (t:=.bool) (x:=x)).1 h
  rw [isV_bool] at h ⊢; exact h
theorem refAt_ok {i:Int} (h:RefO r b lv ov iv k0) (hG:GOk tb k0) (i1:IsV cap v1 k0) (hr:refAt r cap = some i):Calls Tryd.prog 48 #[ptrV b,v1] k0.w (Ret k0 (IsV i)):=
  refO_read (vs:=[ptrV b,v1]) h hG (fun kM _ hle hg hp=>kd48.ok.ok kM [ptrV b,v1] (r,cap) i hg ⟨(isV_rfT (T:=tb) (t:=.st 6) (x:=r) (v:=ptrV b) (k:=kM)).2 hp,Pers.pers hle i1⟩ hr) fun v k k' hv=>res_int hv
theorem refMay_ok {i:Int} (h:RefO r b lv ov iv k0) (hG:GOk tb k0) (i1:IsV cap v1 k0) (i2:IsV n v2 k0) (hr:refMay r cap n = some i):Calls Tryd.prog 47 #[ptrV b,v1,v2] k0.w (Ret k0 (IsV i)):=
  refO_read (vs:=[ptrV b,v1,v2]) h hG (fun kM _ hle hg hp=>kd47.ok.ok kM [ptrV b,v1,v2] (r,cap,n) i hg ⟨(isV_rfT (T:=tb) (t:=.st 6) (x:=r) (v:=ptrV b) (k:=kM)).2 hp,Pers.pers hle i1,Pers.pers hle i2⟩ hr) fun v k k' hv=>res_int hv
theorem refLeft_ok {i:Int} (h:RefO r b lv ov iv k0) (hG:GOk tb k0) (i1:IsV cap v1 k0) (hr:refLeft r cap = some i):Calls Tryd.prog 31 #[ptrV b,v1] k0.w (Ret k0 (IsV i)):=
  refO_read (vs:=[ptrV b,v1]) h hG (fun kM _ hle hg hp=>kd31.ok.ok kM [ptrV b,v1] (r,cap) i hg ⟨(isV_rfT (T:=tb) (t:=.st 6) (x:=r) (v:=ptrV b) (k:=kM)).2 hp,Pers.pers hle i1⟩ hr) fun v k k' hv=>res_int hv
theorem refTook_ok {t:Bool} (h:RefO r b lv ov iv k0) (hG:GOk tb k0) (i1:IsV f v1 k0) (i2:IsV n v2 k0) (hr:refTook r f n = some t):Calls Tryd.prog 33 #[ptrV b,v1,v2] k0.w (Ret k0 (IsV t)):=
  refO_read (vs:=[ptrV b,v1,v2]) h hG (fun kM _ hle hg hp=>kd33.ok.ok kM [ptrV b,v1,v2] (r,f,n) t hg ⟨(isV_rfT (T:=tb) (t:=.st 6) (x:=r) (v:=ptrV b) (k:=kM)).2 hp,Pers.pers hle i1,Pers.pers hle i2⟩ hr) fun v k k' hv=>res_bool hv
end

end Go.Proofs.YtljfakcblkdhbaaDoor

namespace Go.Proofs.YtljfakcblkdhbaaDoor
open Go.Gb
set_option linter.unusedVariables false
set_option linter.unusedSimpArgs false
set_option linter.unusedSectionVars false
set_option maxRecDepth 100000
/-! What the reference's readers answer. -/
section
variable {r:Ref46Desk} {cap:ByteArray} {f n:Int}
theorem getC_skip : ∀ {l:List Lease} {i:Nat},(∀ y ∈ l.take i,¬ y.Cap = cap) → getC l cap = getC (l.drop i) cap
  | _,0,_=>rfl
  | [],i + 1,_=>by simp
  | x :: l, i + 1, h => by
    rw [List.drop_succ_cons]
    simp only [getC]
    rw [if_neg (h x (by simp)),getC_skip (i:=i) fun y hy=>h y (by simp [hy])]
theorem refAt_spec (hl:r.L.length ≤ 100):(getC r.L cap = none∧refAt r cap = some (-1)) ∨ ∃ j x,r.L[j]? = some x∧getC r.L cap = some x∧refAt r cap = some ((j:Nat):Int):=by
  unfold refAt
  obtain ⟨g,h1,h2,h3⟩:=loop_up (body:=refAtL r.L cap) (fun i s=>s = (i:Int)∧∀ y ∈ r.L.take i,¬ y.Cap = cap) r.L.length
    (fun g=>(getC r.L cap = none∧∃ s,g = .ex 0 s) ∨ ∃ j x,r.L[j]? = some x∧getC r.L cap = some x∧g = .ret ((j:Nat):Int))
    (fun i s hi ⟨e,hb⟩=>by
      subst e
      have hx:r.L[i]? = some r.L[i]:=List.getElem?_eq_getElem hi
      have hd:r.L.drop i = r.L[i]::r.L.drop (i + 1):=List.drop_eq_getElem_cons hi
      generalize r.L[i] = x at hx hd
      unfold refAtL
      rw [if_pos (decide_eq_true (by omega)),getI_nat hx,Option.bind_some,toList_beq]
      by_cases hc:x.Cap = cap
      · refine .inr ⟨.ret (i : Int), by rw [if_pos (by simp [hc])], trivial, .inr ⟨i, x, hx, ?_, rfl⟩⟩
        rw [getC_skip hb,hd]
        simp only [getC]
        rw [if_pos hc]
      · refine .inl ⟨_, by rw [if_neg (by simp [hc]), addI_nat (Nat.le_of_lt hi) (by omega), Option.bind_some], by omega, ?_⟩
        intro y hy
        rw [List.take_add_one,hx] at hy
        rcases List.mem_append.1 hy with hy | hy
        · exact hb y hy
        · simp at hy; rw [hy]; exact hc)
    (fun s ⟨e,hb⟩=>by
      subst e
      refine ⟨.ex 0 (r.L.length:Int),(by unfold refAtL; rw [if_neg (by simp)]),trivial,.inl ⟨?_,_,rfl⟩⟩
      rw [getC_skip hb,List.drop_length]; rfl) 0 ⟨rfl,by simp⟩ 1000 (by omega)
  rw [h1,Option.bind_some]
  rcases h3 with ⟨g1,s,rfl⟩ | ⟨j,x,g1,g2,rfl⟩
  · exact .inl ⟨g1,rfl⟩
  · exact .inr ⟨j,x,g1,g2,rfl⟩
theorem refMay_spec (hl:r.L.length ≤ 100):refMay r cap n = some (if 1 ≤ n∧n ≤ 1099511627776 then (if (getC r.L cap).isNone then 4 else 0) else 1):=by
  unfold refMay
  by_cases hn:1 ≤ n∧n ≤ 1099511627776
  · rw [if_neg (by simp; omega), if_pos hn]
    rcases refAt_spec (cap:=cap) hl with ⟨h1,h2⟩ | ⟨j,x,_,h1,h2⟩
    · rw [h2,Option.bind_some,if_pos (by simp),h1]; rfl
    · rw [h2,Option.bind_some,if_neg (by simp),h1]; rfl
  · rw [if_pos (by simp; omega),if_neg hn]
theorem refLeft_spec (hl:r.L.length ≤ 100) (hb : ∀ x ∈ r.L,0 ≤ x.Used∧x.Used ≤ x.Held∧x.Held ≤ 1099511627776):refLeft r cap = some (match getC r.L cap with | some x=>x.Held - x.Used | none=>0):=by
  unfold refLeft
  rcases refAt_spec (cap:=cap) hl with ⟨h1,h2⟩ | ⟨j,x,hx,h1,h2⟩
  · rw [h2,Option.bind_some,if_pos (by simp),h1]
  · have := hb x (List.mem_of_getElem? hx)
    rw [h2,Option.bind_some,if_neg (by simp),getI_nat hx,Option.bind_some,Option.bind_some,subI_of (by omega),Option.bind_some,h1]
theorem refTook_spec (hl:r.In.length ≤ 100):refTook r f n = some (r.In.any fun y=>y.From == f && y.Number == n):=by
  unfold refTook
  obtain ⟨g,h1,h2,h3⟩:=loop_up (body:=refTookL r.In f n) (fun i s=>s = (i:Int)∧∀ y ∈ r.In.take i,(y.From == f && y.Number == n) = false) r.In.length
    (fun g=>((r.In.any fun y=>y.From == f && y.Number == n) = false∧∃ s,g = .ex 0 s) ∨ ((r.In.any fun y=>y.From == f && y.Number == n) = true∧g = .ret true))
    (fun i s hi ⟨e,hb⟩=>by
      subst e
      have hx:r.In[i]? = some r.In[i]:=List.getElem?_eq_getElem hi
      generalize r.In[i] = x at hx
      have hc:(if (x.From == f) = true then (getI r.In (i:Int)).bind fun z=>some (z.Number == n) else some false) = some (x.From == f && x.Number == n):=by
        rw [getI_nat hx,Option.bind_some]
        cases x.From == f <;> simp
      unfold refTookL
      rw [if_pos (decide_eq_true (by omega))]
      rw [getI_nat hx,Option.bind_some]
      rw [getI_nat hx] at hc
      rw [hc,Option.bind_some]
      cases hb' : (x.From == f && x.Number == n) with
      | true=>exact .inr ⟨.ret true,by rw [if_pos rfl],trivial,.inr ⟨List.any_eq_true.2 ⟨x,List.mem_of_getElem? hx,hb'⟩,rfl⟩⟩
      | false =>
        refine .inl ⟨_,by rw [if_neg (by simp),addI_nat (Nat.le_of_lt hi) (by omega),Option.bind_some],by omega,?_⟩
        intro y hy
        rw [List.take_add_one,hx] at hy
        rcases List.mem_append.1 hy with hy | hy
        · exact hb y hy
        · simp at hy; rw [hy]; exact hb')
    (fun s ⟨e,hb⟩=>by
      subst e
      refine ⟨.ex 0 (r.In.length:Int),(by unfold refTookL; rw [if_neg (by simp)]),trivial,.inl ⟨?_,_,rfl⟩⟩
      rw [List.take_length] at hb
      exact List.any_eq_false.2 fun y hy=>by rw [hb y hy]; simp) 0 ⟨rfl,by simp⟩ 1000 (by omega)
  rw [h1,Option.bind_some]
  rcases h3 with ⟨g1,s,rfl⟩ | ⟨g1,rfl⟩
  · rw [g1]
  · rw [g1]
end

end Go.Proofs.YtljfakcblkdhbaaDoor

namespace Go.Proofs.YtljfakcblkdhbaaDoor
open Go.Gb
set_option linter.unusedVariables false
set_option linter.unusedSimpArgs false
set_option linter.unusedSectionVars false
set_option maxRecDepth 100000
/-! The reference's methods that change it: Use. -/
theorem fo64_1:FieldOk Tryd.prog 64 1 1:=⟨_,_,0,Tryd.underlying64,rfl,rfl,by kernel_rfl⟩
theorem ty32r:Ty Tryd.prog 32 RawV:=⟨⟨_,Tryd.underlying32,rfl⟩,by kernel_rfl⟩
def refUse (r:Ref46Desk) (cap:ByteArray) (n:Int):Option (Ref46Desk × Int):=
  (refMay r cap n).bind fun e=>if e != 0 then some (r,e) else
  (refLeft r cap).bind fun l=>if decide (l < n) then some (r,26) else
  (refAt r cap).bind fun i=>(getI r.L i).bind fun x=>(addI x.Used n).bind fun u=>some ({ r with L:=r.L.set i.toNat { x with Used:=u } },0)
theorem refUse_ok {k0:K} {r:Ref46Desk} {b:Nat} {lv ov iv v1 v2:Value} {cap:ByteArray} {n:Int} {res:Ref46Desk × Int} (D:RefO r b lv ov iv k0) (hG:GOk tb k0) (i1:IsV cap v1 k0) (i2:IsV n v2 k0) (hr:refUse r cap n = some res) :
    Calls Tryd.prog 27 #[ptrV b,v1,v2] k0.w (RetC (RFP b lv iv) k0 fun u k=>RefO res.1 b lv ov iv k∧IsV res.2 u k):=by
  unfold refUse at hr
  obtain ⟨e,he,hr⟩:=bind_some hr
  refine enterK Tryd.func27 rfl Tryd.ntmps27 (show 3 ≤ 41 by decide) fun a k hk0 hs hd ha=>?_
  obtain ⟨e0,e1,e2,_⟩:=ha
  have i0:Is (ptrV b) (a.get 0) k:=e0
  replace i1:IsV cap (a.get 1) k:=by rw [e1,hk0]; exact i1
  replace i2:IsV n (a.get 2) k:=by rw [e2,hk0]; exact i2
  have hQ:Gb.LetsOut (bodyPost Tryd.prog Tryd.f27 (RetC (RFP b lv iv) k0 fun u k=>RefO res.1 b lv ov iv k∧IsV res.2 u k)):=letsOutC
  have hg:Chg (RFP b lv iv) k0 k:=by rw [hk0]; exact Chg.refl _ k0
  replace D:RefO r b lv ov iv k:=by rw [hk0]; exact D
  replace hG:GOk tb k:=by rw [hk0]; exact hG
  clear e0 e1 e2
  refine stepL 1 (⟨some (IsI 0),[]⟩::[]) rfl ⟨hg,hs,hd⟩ (by kernel_rfl) ⟨aI rfl rfl,trivial⟩ [⟨0,Is (ptrV b)⟩,⟨1,IsV cap⟩,⟨2,IsV n⟩,⟨0,fun _ k=>RefO r b lv ov iv k∧GOk tb k⟩] (fun b' q p=>⟨p.ke 0 rfl i0,p.ke 1 rfl i1,p.ke 2 rfl i2,⟨D.grow p.grow,hG.le p.grow.le⟩,trivial⟩) ?_
  clear i0 i1 i2 D hG hg hs hd
  rintro a k ⟨⟨hg,hs,hd⟩,i0,i1,i2,⟨D,hG⟩,_⟩
  refine stepL 5 (_::_::_::⟨some (IsV e),[(9,some 0),(10,some 1),(11,some 2)]⟩::_::[]) rfl ⟨hg,hs,hd⟩ (by kernel_rfl) ⟨mu rfl i0,mu rfl i1,mu rfl i2,ob1 rfl fun a' _ g m=>ok_call rfl Tryd.call47 (by show Calls Tryd.prog 47 #[a'.eval (.tmp 9),a'.eval (.tmp 10),a'.eval (.tmp 11)] _ _; rw [show a'.eval (.tmp 9) = ptrV b from m.1]; exact refMay_ok (D.grow g) (hG.le g.le) m.2.1 m.2.2.1 he),cp 3 rfl rfl,trivial⟩
    [⟨0,Is (ptrV b)⟩,⟨1,IsV cap⟩,⟨2,IsV n⟩,⟨7,IsV e⟩,⟨0,fun _ k=>RefO r b lv ov iv k∧GOk tb k⟩] (fun b' q p=>⟨p.ke 0 rfl i0,p.ke 1 rfl i1,p.ke 2 rfl i2,p.ou 4 7 rfl,⟨D.grow p.grow,hG.le p.grow.le⟩,trivial⟩) ?_
  clear i0 i1 i2 D hG hg hs hd
  rintro a k ⟨⟨hg,hs,hd⟩,i0,i1,i2,i7,⟨D,hG⟩,_⟩
  refine wp_seq ?_
  refine stepL 2 (_::⟨some (IsV (e != 0)),[(13,some 0)]⟩::[]) rfl ⟨hg,hs,hd⟩ (by kernel_rfl) ⟨mu rfl i7,ob1 rfl fun _ _ g m=>ok_neI rfl m.1 (Gb.cI rfl),trivial⟩
    [⟨0,Is (ptrV b)⟩,⟨1,IsV cap⟩,⟨2,IsV n⟩,⟨7,IsV e⟩,⟨14,IsV (e != 0)⟩,⟨0,fun _ k=>RefO r b lv ov iv k∧GOk tb k⟩] (fun b' q p=>⟨p.ke 0 rfl i0,p.ke 1 rfl i1,p.ke 2 rfl i2,p.ke 7 rfl i7,p.ou 1 14 rfl,⟨D.grow p.grow,hG.le p.grow.le⟩,trivial⟩) ?_
  clear i0 i1 i2 i7 D hG hg hs hd
  rintro a k ⟨⟨hg,hs,hd⟩,i0,i1,i2,i7,i14,⟨D,hG⟩,_⟩
  refine wp_cond_split (isBool i14) (fun hc=>?_) (fun hc=>?_)
  · rw [if_pos hc] at hr
    obtain rfl:=Option.some.inj hr
    refine stepL 2 (_::_::[]) rfl ⟨hg,hs,hd⟩ (by kernel_rfl) ⟨mu rfl i7,cp 0 rfl rfl,trivial⟩ [⟨6,IsV e⟩,⟨0,fun _ k=>RefO r b lv ov iv k∧GOk tb k⟩] (fun b' q p=>⟨p.ou 1 6 rfl,⟨D.grow p.grow,hG.le p.grow.le⟩,trivial⟩) ?_
    rintro a k ⟨⟨hg,hs,hd⟩,i6,⟨D,hG⟩,_⟩
    refine wp_ret ?_
    exact retC1 rfl hd hg ⟨D,i6⟩
  rw [if_neg (by rw [hc]; simp)] at hr
  obtain ⟨l,hl,hr⟩:=bind_some hr
  refine wp_skip ?_
  refine wp_seq ?_
  refine stepL 5 (_::_::⟨some (IsV l),[(16,some 0),(17,some 1)]⟩::_::⟨some (IsV (decide (l < n))),[(18,some 2),(19,some 3)]⟩::[]) rfl ⟨hg,hs,hd⟩ (by kernel_rfl) ⟨mu rfl i0,mu rfl i1,ob1 rfl fun a' _ g m=>ok_call rfl Tryd.call31 (by show Calls Tryd.prog 31 #[a'.eval (.tmp 16),a'.eval (.tmp 17)] _ _; rw [show a'.eval (.tmp 16) = ptrV b from m.1]; exact refLeft_ok (D.grow g) (hG.le g.le) m.2.1 hl),mu rfl i2,ob1 rfl fun _ _ g m=>ok_lss rfl m.1 m.2.1,trivial⟩
    [⟨0,Is (ptrV b)⟩,⟨1,IsV cap⟩,⟨2,IsV n⟩,⟨20,IsV (decide (l < n))⟩,⟨0,fun _ k=>RefO r b lv ov iv k∧GOk tb k⟩] (fun b' q p=>⟨p.ke 0 rfl i0,p.ke 1 rfl i1,p.ke 2 rfl i2,p.ou 4 20 rfl,⟨D.grow p.grow,hG.le p.grow.le⟩,trivial⟩) ?_
  clear i0 i1 i2 i7 i14 D hG hg hs hd
  rintro a k ⟨⟨hg,hs,hd⟩,i0,i1,i2,i20,⟨D,hG⟩,_⟩
  refine wp_cond_split (isBool i20) (fun hc=>?_) (fun hc=>?_)
  · rw [if_pos hc] at hr
    obtain rfl:=Option.some.inj hr
    refine stepL 1 (⟨some (IsI 26),[]⟩::[]) rfl ⟨hg,hs,hd⟩ (by kernel_rfl) ⟨aI rfl rfl,trivial⟩ [⟨6,IsI 26⟩,⟨0,fun _ k=>RefO r b lv ov iv k∧GOk tb k⟩] (fun b' q p=>⟨p.ou 0 6 rfl,⟨D.grow p.grow,hG.le p.grow.le⟩,trivial⟩) ?_
    rintro a k ⟨⟨hg,hs,hd⟩,i6,⟨D,hG⟩,_⟩
    refine wp_ret ?_
    exact retC1 rfl hd hg ⟨D,i6⟩
  rw [if_neg (by rw [hc]; simp)] at hr
  obtain ⟨i,hi,hr⟩:=bind_some hr
  obtain ⟨x,hx,hr⟩:=bind_some hr
  obtain ⟨u,hu,hr⟩:=bind_some hr
  obtain rfl:=Option.some.inj hr
  refine wp_skip ?_
  refine stepL 4 (_::_::⟨some (IsV i),[(21,some 0),(22,some 1)]⟩::_::[]) rfl ⟨hg,hs,hd⟩ (by kernel_rfl) ⟨mu rfl i0,mu rfl i1,ob1 rfl fun a' _ g m=>ok_call rfl Tryd.call48 (by show Calls Tryd.prog 48 #[a'.eval (.tmp 21),a'.eval (.tmp 22)] _ _; rw [show a'.eval (.tmp 21) = ptrV b from m.1]; exact refAt_ok (D.grow g) (hG.le g.le) m.2.1 hi),cp 2 rfl rfl,trivial⟩
    [⟨0,Is (ptrV b)⟩,⟨2,IsV n⟩,⟨8,IsV i⟩,⟨0,fun _ k=>RefO r b lv ov iv k∧GOk tb k⟩] (fun b' q p=>⟨p.ke 0 rfl i0,p.ke 2 rfl i2,p.ou 3 8 rfl,⟨D.grow p.grow,hG.le p.grow.le⟩,trivial⟩) ?_
  clear i0 i1 i2 i20 D hG hg hs hd hc
  rintro a k ⟨⟨hg,hs,hd⟩,i0,i2,i8,⟨D,hG⟩,_⟩
  obtain ⟨h0,hxi,_,_⟩:=getI_spec hx
  refine wp_seq ?_
  refine cut (fun a' k'=>Bs (RFP b lv iv) k0 41 a' k'∧RefO { r with L:=r.L.set i.toNat { x with Used:=u } } b lv ov iv k') ?_ hQ ?_
  · intro Q1 W1 w1
    refine region (a0:=a) (k0:=k) (n:=41) (m:=17) (_::⟨some (Is (ptrV b)),[(24,some 0)]⟩::⟨some (IsAdr b 1),[(25,some 1)]⟩::⟨some (Is lv),[(26,some 2)]⟩::_::_::⟨some (Is (ptrV b)),[(29,some 5)]⟩::⟨some (IsAdr b 1),[(30,some 6)]⟩::⟨some (Is lv),[(31,some 7)]⟩::_::⟨some (IsPtr x),[(32,some 8),(33,some 9)]⟩::⟨some (IsPtr x.Used),[(34,some 10)]⟩::⟨some (IsV x.Used),[(35,some 11)]⟩::_::⟨some (IsV u),[(36,some 12),(37,some 13)]⟩::⟨some (IsAdrO lv (i.toNat * Enc.sz Lease)),[(27,some 3),(28,some 4)]⟩::⟨some (IsAdrO lv (i.toNat * Enc.sz Lease + 3)),[(39,some 15)]⟩::[]) hmix hs (by kernel_rfl)
      ⟨mu rfl i0,ob1 rfl fun _ _ g m=>ok_nilCheckV rfl ⟨_,m.1⟩ m.1,ob1 rfl fun _ _ g m=>ok_fieldAdr rfl fo64_1 m.1,ob1 rfl fun _ _ g m=>ok_loadC rfl ty32r m.1 (D.grow g).box rfl,mu rfl i8,mu rfl i0,ob1 rfl fun _ _ g m=>ok_nilCheckV rfl ⟨_,m.1⟩ m.1,ob1 rfl fun _ _ g m=>ok_fieldAdr rfl fo64_1 m.1,ob1 rfl fun _ _ g m=>ok_loadC rfl ty32r m.1 (D.grow g).box rfl,mu rfl i8,
       ob1 rfl fun a' _ g m=>ok_indexAddr rfl Tryd.underlying32 ty43 (by rw [show a'.eval (.tmp 32) = lv from m.1]; exact (D.grow g).ol.rd) m.2.1 hx,ob1 rfl fun a' _ g m=>ok_fieldAddr rfl fo43_3 (at_Lease_3 _) m.1,ob1 rfl fun _ _ g m=>ok_load rfl ty3 m.1,mu rfl i2,ob1 rfl fun _ _ g m=>ok_add rfl m.1 m.2.1 hu,
       ob1 rfl fun a' _ g m=>ok_indexO rfl Tryd.underlying32 ty43 (B:=0) (e:=43) (xs:=r.L) ⟨m.1,by rw [show a'.eval (.tmp 27) = lv from m.1]; exact (D.grow g).ol⟩ m.2.1 hx,ob1 rfl fun _ _ g m=>ok_fieldAdrO rfl fo43_3 m.1,trivial⟩ W1 fun b' q p=>?_
    have hgq:=hg.then p.grow
    have Dq:=D.grow p.grow
    have ju:IsV u (b'.get 38) q:=p.ou 14 38 rfl
    have jp:IsAdrO lv (i.toNat * Enc.sz Lease + 3) (b'.get 40) q:=p.ou 16 40 rfl
    refine tail_storeS (i:=17) (m:=i.toNat) rfl rfl rfl rfl szf3 upd_F43_3 jp Dq.ol hxi ju fun q2 hch hz=>?_
    have hw:Wr (RFP b lv iv) k0 (obF lv):=fun c hc=>.inl (.inr (.inl hc))
    exact tail_done (k:=q2) (w1 _ _ ⟨⟨hgq.step hch hw,p.size.trans hs,p.defers.trans hd⟩,⟨Dq.box.keep hch Dq.n1 Dq.ol.nshF,hz,Pers.pers (hch.le Dq.ol.nshF) Dq.oo,Dq.oi.keep hch (fun c h1 h2=>Dq.ap c h2 h1) Dq.ol.nshF,Dq.n1,Dq.n2,Dq.ap⟩⟩)
  clear i0 i2 i8 D hG hg hs hd
  rintro a k ⟨⟨hg,hs,hd⟩,D⟩
  refine stepL 1 (⟨some (IsI 0),[]⟩::[]) rfl ⟨hg,hs,hd⟩ (by kernel_rfl) ⟨aI rfl rfl,trivial⟩ [⟨6,IsI 0⟩,⟨0,fun _ k=>RefO { r with L:=r.L.set i.toNat { x with Used:=u } } b lv ov iv k⟩] (fun b' q p=>⟨p.ou 0 6 rfl,D.grow p.grow,trivial⟩) ?_
  rintro a k ⟨⟨hg,hs,hd⟩,i6,D,_⟩
  refine wp_ret ?_
  exact retC1 rfl hd hg ⟨D,i6⟩

end Go.Proofs.YtljfakcblkdhbaaDoor

namespace Go.Proofs.YtljfakcblkdhbaaDoor
open Go.Gb
set_option linter.unusedVariables false
set_option linter.unusedSimpArgs false
set_option linter.unusedSectionVars false
set_option maxRecDepth 100000
/-! Free. -/
def refFree (r:Ref46Desk) (cap:ByteArray) (n:Int):Option (Ref46Desk × Int):=
  (refMay r cap n).bind fun e=>if e != 0 then some (r,e) else
  (refAt r cap).bind fun i=>(getI r.L i).bind fun x=>if decide (x.Used < n) then some (r,26) else
  (subI x.Used n).bind fun u=>some ({ r with L:=r.L.set i.toNat { x with Used:=u } },0)
theorem refFree_ok {k0:K} {r:Ref46Desk} {b:Nat} {lv ov iv v1 v2:Value} {cap:ByteArray} {n:Int} {res:Ref46Desk × Int} (D:RefO r b lv ov iv k0) (hG:GOk tb k0) (i1:IsV cap v1 k0) (i2:IsV n v2 k0) (hr:refFree r cap n = some res) :
    Calls Tryd.prog 30 #[ptrV b,v1,v2] k0.w (RetC (RFP b lv iv) k0 fun u k=>RefO res.1 b lv ov iv k∧IsV res.2 u k):=by
  unfold refFree at hr
  obtain ⟨e,he,hr⟩:=bind_some hr
  refine enterK Tryd.func30 rfl Tryd.ntmps30 (show 3 ≤ 46 by decide) fun a k hk0 hs hd ha=>?_
  obtain ⟨e0,e1,e2,_⟩:=ha
  have i0:Is (ptrV b) (a.get 0) k:=e0
  replace i1:IsV cap (a.get 1) k:=by rw [e1,hk0]; exact i1
  replace i2:IsV n (a.get 2) k:=by rw [e2,hk0]; exact i2
  have hQ:Gb.LetsOut (bodyPost Tryd.prog Tryd.f30 (RetC (RFP b lv iv) k0 fun u k=>RefO res.1 b lv ov iv k∧IsV res.2 u k)):=letsOutC
  have hg:Chg (RFP b lv iv) k0 k:=by rw [hk0]; exact Chg.refl _ k0
  replace D:RefO r b lv ov iv k:=by rw [hk0]; exact D
  replace hG:GOk tb k:=by rw [hk0]; exact hG
  clear e0 e1 e2
  refine stepL 1 (⟨some (IsI 0),[]⟩::[]) rfl ⟨hg,hs,hd⟩ (by kernel_rfl) ⟨aI rfl rfl,trivial⟩ [⟨0,Is (ptrV b)⟩,⟨1,IsV cap⟩,⟨2,IsV n⟩,⟨0,fun _ k=>RefO r b lv ov iv k∧GOk tb k⟩] (fun b' q p=>⟨p.ke 0 rfl i0,p.ke 1 rfl i1,p.ke 2 rfl i2,⟨D.grow p.grow,hG.le p.grow.le⟩,trivial⟩) ?_
  clear i0 i1 i2 D hG hg hs hd
  rintro a k ⟨⟨hg,hs,hd⟩,i0,i1,i2,⟨D,hG⟩,_⟩
  refine stepL 5 (_::_::_::⟨some (IsV e),[(9,some 0),(10,some 1),(11,some 2)]⟩::_::[]) rfl ⟨hg,hs,hd⟩ (by kernel_rfl) ⟨mu rfl i0,mu rfl i1,mu rfl i2,ob1 rfl fun a' _ g m=>ok_call rfl Tryd.call47 (by show Calls Tryd.prog 47 #[a'.eval (.tmp 9),a'.eval (.tmp 10),a'.eval (.tmp 11)] _ _; rw [show a'.eval (.tmp 9) = ptrV b from m.1]; exact refMay_ok (D.grow g) (hG.le g.le) m.2.1 m.2.2.1 he),cp 3 rfl rfl,trivial⟩
    [⟨0,Is (ptrV b)⟩,⟨1,IsV cap⟩,⟨2,IsV n⟩,⟨7,IsV e⟩,⟨0,fun _ k=>RefO r b lv ov iv k∧GOk tb k⟩] (fun b' q p=>⟨p.ke 0 rfl i0,p.ke 1 rfl i1,p.ke 2 rfl i2,p.ou 4 7 rfl,⟨D.grow p.grow,hG.le p.grow.le⟩,trivial⟩) ?_
  clear i0 i1 i2 D hG hg hs hd
  rintro a k ⟨⟨hg,hs,hd⟩,i0,i1,i2,i7,⟨D,hG⟩,_⟩
  refine wp_seq ?_
  refine stepL 2 (_::⟨some (IsV (e != 0)),[(13,some 0)]⟩::[]) rfl ⟨hg,hs,hd⟩ (by kernel_rfl) ⟨mu rfl i7,ob1 rfl fun _ _ g m=>ok_neI rfl m.1 (Gb.cI rfl),trivial⟩
    [⟨0,Is (ptrV b)⟩,⟨1,IsV cap⟩,⟨2,IsV n⟩,⟨7,IsV e⟩,⟨14,IsV (e != 0)⟩,⟨0,fun _ k=>RefO r b lv ov iv k∧GOk tb k⟩] (fun b' q p=>⟨p.ke 0 rfl i0,p.ke 1 rfl i1,p.ke 2 rfl i2,p.ke 7 rfl i7,p.ou 1 14 rfl,⟨D.grow p.grow,hG.le p.grow.le⟩,trivial⟩) ?_
  clear i0 i1 i2 i7 D hG hg hs hd
  rintro a k ⟨⟨hg,hs,hd⟩,i0,i1,i2,i7,i14,⟨D,hG⟩,_⟩
  refine wp_cond_split (isBool i14) (fun hc=>?_) (fun hc=>?_)
  · rw [if_pos hc] at hr
    obtain rfl:=Option.some.inj hr
    refine stepL 2 (_::_::[]) rfl ⟨hg,hs,hd⟩ (by kernel_rfl) ⟨mu rfl i7,cp 0 rfl rfl,trivial⟩ [⟨6,IsV e⟩,⟨0,fun _ k=>RefO r b lv ov iv k∧GOk tb k⟩] (fun b' q p=>⟨p.ou 1 6 rfl,⟨D.grow p.grow,hG.le p.grow.le⟩,trivial⟩) ?_
    rintro a k ⟨⟨hg,hs,hd⟩,i6,⟨D,hG⟩,_⟩
    refine wp_ret ?_
    exact retC1 rfl hd hg ⟨D,i6⟩
  rw [if_neg (by rw [hc]; simp)] at hr
  obtain ⟨i,hi,hr⟩:=bind_some hr
  obtain ⟨x,hx,hr⟩:=bind_some hr
  refine wp_skip ?_
  refine stepL 4 (_::_::⟨some (IsV i),[(16,some 0),(17,some 1)]⟩::_::[]) rfl ⟨hg,hs,hd⟩ (by kernel_rfl) ⟨mu rfl i0,mu rfl i1,ob1 rfl fun a' _ g m=>ok_call rfl Tryd.call48 (by show Calls Tryd.prog 48 #[a'.eval (.tmp 16),a'.eval (.tmp 17)] _ _; rw [show a'.eval (.tmp 16) = ptrV b from m.1]; exact refAt_ok (D.grow g) (hG.le g.le) m.2.1 hi),cp 2 rfl rfl,trivial⟩
    [⟨0,Is (ptrV b)⟩,⟨2,IsV n⟩,⟨8,IsV i⟩,⟨0,fun _ k=>RefO r b lv ov iv k∧GOk tb k⟩] (fun b' q p=>⟨p.ke 0 rfl i0,p.ke 2 rfl i2,p.ou 3 8 rfl,⟨D.grow p.grow,hG.le p.grow.le⟩,trivial⟩) ?_
  clear i0 i1 i2 i7 i14 D hG hg hs hd
  rintro a k ⟨⟨hg,hs,hd⟩,i0,i2,i8,⟨D,hG⟩,_⟩
  refine wp_seq ?_
  refine stepL 10 (_::⟨some (Is (ptrV b)),[(19,some 0)]⟩::⟨some (IsAdr b 1),[(20,some 1)]⟩::⟨some (Is lv),[(21,some 2)]⟩::_::⟨some (IsPtr x),[(22,some 3),(23,some 4)]⟩::⟨some (IsPtr x.Used),[(24,some 5)]⟩::⟨some (IsV x.Used),[(25,some 6)]⟩::_::⟨some (IsV (decide (x.Used < n))),[(26,some 7),(27,some 8)]⟩::[]) rfl ⟨hg,hs,hd⟩ (by kernel_rfl)
      ⟨mu rfl i0,ob1 rfl fun _ _ g m=>ok_nilCheckV rfl ⟨_,m.1⟩ m.1,ob1 rfl fun _ _ g m=>ok_fieldAdr rfl fo64_1 m.1,ob1 rfl fun _ _ g m=>ok_loadC rfl ty32r m.1 (D.grow g).box rfl,mu rfl i8,ob1 rfl fun a' _ g m=>ok_indexAddr rfl Tryd.underlying32 ty43 (by rw [show a'.eval (.tmp 22) = lv from m.1]; exact (D.grow g).ol.rd) m.2.1 hx,ob1 rfl fun a' _ g m=>ok_fieldAddr rfl fo43_3 (at_Lease_3 _) m.1,ob1 rfl fun _ _ g m=>ok_load rfl ty3 m.1,mu rfl i2,ob1 rfl fun _ _ g m=>ok_lss rfl m.1 m.2.1,trivial⟩
    [⟨0,Is (ptrV b)⟩,⟨2,IsV n⟩,⟨8,IsV i⟩,⟨28,IsV (decide (x.Used < n))⟩,⟨0,fun _ k=>RefO r b lv ov iv k∧GOk tb k⟩] (fun b' q p=>⟨p.ke 0 rfl i0,p.ke 2 rfl i2,p.ke 8 rfl i8,p.ou 9 28 rfl,⟨D.grow p.grow,hG.le p.grow.le⟩,trivial⟩) ?_
  clear i0 i2 i8 D hG hg hs hd hc
  rintro a k ⟨⟨hg,hs,hd⟩,i0,i2,i8,i28,⟨D,hG⟩,_⟩
  refine wp_cond_split (isBool i28) (fun hc=>?_) (fun hc=>?_)
  · rw [if_pos hc] at hr
    obtain rfl:=Option.some.inj hr
    refine stepL 1 (⟨some (IsI 26),[]⟩::[]) rfl ⟨hg,hs,hd⟩ (by kernel_rfl) ⟨aI rfl rfl,trivial⟩ [⟨6,IsI 26⟩,⟨0,fun _ k=>RefO r b lv ov iv k∧GOk tb k⟩] (fun b' q p=>⟨p.ou 0 6 rfl,⟨D.grow p.grow,hG.le p.grow.le⟩,trivial⟩) ?_
    rintro a k ⟨⟨hg,hs,hd⟩,i6,⟨D,hG⟩,_⟩
    refine wp_ret ?_
    exact retC1 rfl hd hg ⟨D,i6⟩
  rw [if_neg (by rw [hc]; simp)] at hr
  obtain ⟨u,hu,hr⟩:=bind_some hr
  obtain rfl:=Option.some.inj hr
  refine wp_skip ?_
  obtain ⟨h0,hxi,_,_⟩:=getI_spec hx
  refine wp_seq ?_
  refine cut (fun a' k'=>Bs (RFP b lv iv) k0 46 a' k'∧RefO { r with L:=r.L.set i.toNat { x with Used:=u } } b lv ov iv k') ?_ hQ ?_
  · intro Q1 W1 w1
    refine region (a0:=a) (k0:=k) (n:=46) (m:=17) (_::⟨some (Is (ptrV b)),[(29,some 0)]⟩::⟨some (IsAdr b 1),[(30,some 1)]⟩::⟨some (Is lv),[(31,some 2)]⟩::_::_::⟨some (Is (ptrV b)),[(34,some 5)]⟩::⟨some (IsAdr b 1),[(35,some 6)]⟩::⟨some (Is lv),[(36,some 7)]⟩::_::⟨some (IsPtr x),[(37,some 8),(38,some 9)]⟩::⟨some (IsPtr x.Used),[(39,some 10)]⟩::⟨some (IsV x.Used),[(40,some 11)]⟩::_::⟨some (IsV u),[(41,some 12),(42,some 13)]⟩::⟨some (IsAdrO lv (i.toNat * Enc.sz Lease)),[(32,some 3),(33,some 4)]⟩::⟨some (IsAdrO lv (i.toNat * Enc.sz Lease + 3)),[(44,some 15)]⟩::[]) hmix hs (by kernel_rfl)
      ⟨mu rfl i0,ob1 rfl fun _ _ g m=>ok_nilCheckV rfl ⟨_,m.1⟩ m.1,ob1 rfl fun _ _ g m=>ok_fieldAdr rfl fo64_1 m.1,ob1 rfl fun _ _ g m=>ok_loadC rfl ty32r m.1 (D.grow g).box rfl,mu rfl i8,mu rfl i0,ob1 rfl fun _ _ g m=>ok_nilCheckV rfl ⟨_,m.1⟩ m.1,ob1 rfl fun _ _ g m=>ok_fieldAdr rfl fo64_1 m.1,ob1 rfl fun _ _ g m=>ok_loadC rfl ty32r m.1 (D.grow g).box rfl,mu rfl i8,
       ob1 rfl fun a' _ g m=>ok_indexAddr rfl Tryd.underlying32 ty43 (by rw [show a'.eval (.tmp 37) = lv from m.1]; exact (D.grow g).ol.rd) m.2.1 hx,ob1 rfl fun a' _ g m=>ok_fieldAddr rfl fo43_3 (at_Lease_3 _) m.1,ob1 rfl fun _ _ g m=>ok_load rfl ty3 m.1,mu rfl i2,ob1 rfl fun _ _ g m=>ok_sub rfl m.1 m.2.1 hu,
       ob1 rfl fun a' _ g m=>ok_indexO rfl Tryd.underlying32 ty43 (B:=0) (e:=43) (xs:=r.L) ⟨m.1,by rw [show a'.eval (.tmp 32) = lv from m.1]; exact (D.grow g).ol⟩ m.2.1 hx,ob1 rfl fun _ _ g m=>ok_fieldAdrO rfl fo43_3 m.1,trivial⟩ W1 fun b' q p=>?_
    have hgq:=hg.then p.grow
    have Dq:=D.grow p.grow
    have ju:IsV u (b'.get 43) q:=p.ou 14 43 rfl
    have jp:IsAdrO lv (i.toNat * Enc.sz Lease + 3) (b'.get 45) q:=p.ou 16 45 rfl
    refine tail_storeS (i:=17) (m:=i.toNat) rfl rfl rfl rfl szf3 upd_F43_3 jp Dq.ol hxi ju fun q2 hch hz=>?_
    have hw:Wr (RFP b lv iv) k0 (obF lv):=fun c hc=>.inl (.inr (.inl hc))
    exact tail_done (k:=q2) (w1 _ _ ⟨⟨hgq.step hch hw,p.size.trans hs,p.defers.trans hd⟩,⟨Dq.box.keep hch Dq.n1 Dq.ol.nshF,hz,Pers.pers (hch.le Dq.ol.nshF) Dq.oo,Dq.oi.keep hch (fun c h1 h2=>Dq.ap c h2 h1) Dq.ol.nshF,Dq.n1,Dq.n2,Dq.ap⟩⟩)
  clear i0 i2 i8 i28 D hG hg hs hd
  rintro a k ⟨⟨hg,hs,hd⟩,D⟩
  refine stepL 1 (⟨some (IsI 0),[]⟩::[]) rfl ⟨hg,hs,hd⟩ (by kernel_rfl) ⟨aI rfl rfl,trivial⟩ [⟨6,IsI 0⟩,⟨0,fun _ k=>RefO { r with L:=r.L.set i.toNat { x with Used:=u } } b lv ov iv k⟩] (fun b' q p=>⟨p.ou 0 6 rfl,D.grow p.grow,trivial⟩) ?_
  rintro a k ⟨⟨hg,hs,hd⟩,i6,D,_⟩
  refine wp_ret ?_
  exact retC1 rfl hd hg ⟨D,i6⟩

end Go.Proofs.YtljfakcblkdhbaaDoor

namespace Go.Proofs.YtljfakcblkdhbaaDoor
open Go.Gb
set_option linter.unusedVariables false
set_option linter.unusedSimpArgs false
set_option linter.unusedSectionVars false
set_option maxRecDepth 100000
/-! What Use and Free of the reference do, in the words of the program's desk. -/
section
variable {r:Ref46Desk} {c:DC} {cap:ByteArray} {n:Int}
theorem set_setC : ∀ {l:List Lease} {j:Nat} {x y:Lease},Sor l → l[j]? = some x → setC l x.Cap y = l.set j y
  | [],j,x,y,_,h=>by simp at h
  | z :: l, 0, x, y, hs, h => by
    simp only [List.getElem?_cons_zero,Option.some.injEq] at h
    subst h
    have hs:=sor_key hs
    obtain ⟨h1,_⟩:=List.pairwise_cons.1 hs
    unfold setC
    simp only [List.map_cons,if_pos,List.set_cons_zero]
    congr 1
    have : ∀ w ∈ l,(if w.Cap = z.Cap then y else w) = id w:=fun w hw=>if_neg fun e=>h1 w hw e.symm
    rw [List.map_congr_left this,List.map_id]
  | z :: l, j + 1, x, y, hs, h => by
    have hs' : Sor l:=(List.pairwise_cons.1 (show List.Pairwise (fun a b:Lease=>bLt a.Cap b.Cap = true) (z::l) from hs)).2
    have hx:x ∈ l:=List.mem_of_getElem? (by simpa using h)
    have hne : ¬ z.Cap = x.Cap:=(List.pairwise_cons.1 (sor_key hs)).1 x hx
    have ih:=set_setC (j:=j) (x:=x) (y:=y) hs' (by simpa using h)
    unfold setC at ih ⊢
    simp only [List.map_cons,if_neg hne,List.set_cons_succ,ih]
theorem refUse_eq (h:Inv c) (e:r.L = c.L):refUse r cap n = some ({ r with L:=(useC c cap n).1.L },(useC c cap n).2):=by
  have hl:r.L.length ≤ 100:=by rw [e]; have:=h.len; omega
  have hb : ∀ x ∈ r.L,0 ≤ x.Used∧x.Used ≤ x.Held∧x.Held ≤ 1099511627776:=fun x hx=>(h.le x (by rw [← e]; exact hx)).2
  have er:({ r with L:=c.L }:Ref46Desk) = r:=by rw [← e]
  unfold refUse useC
  rw [refMay_spec hl,Option.bind_some,e]
  by_cases hn:1 ≤ n∧n ≤ 1099511627776
  · rw [if_pos hn, if_pos hn]
    rcases refAt_spec (r:=r) (cap:=cap) hl with ⟨h1,_⟩ | ⟨j,x,hx,h1,h2⟩
    · rw [e] at h1; rw [h1]
      simp [er]
    · rw [refLeft_spec hl hb, h1]
      rw [e] at h1 hx; rw [h1]
      have hxb:=hb x (by rw [e]; exact List.mem_of_getElem? hx)
      simp only [Option.isNone_some,Bool.false_eq_true,if_false,bne_self_eq_false,Option.bind_some]
      by_cases hlt:x.Held - x.Used < n
      · rw [if_pos (by simp [hlt]),if_pos hlt]; simp [er]
      · rw [if_neg (by simp [hlt]), if_neg hlt, h2, Option.bind_some, getI_nat hx, Option.bind_some, addI_of (by omega), Option.bind_some]
        have hcx:=(getC_mem h1).2
        have:=set_setC (y:={ x with Used:=x.Used + n }) h.so hx
        subst hcx
        rw [this]; simp
  · rw [if_neg hn,if_neg hn]; simp [er]
theorem refFree_eq (h:Inv c) (e:r.L = c.L):refFree r cap n = some ({ r with L:=(freeC c cap n).1.L },(freeC c cap n).2):=by
  have hl:r.L.length ≤ 100:=by rw [e]; have:=h.len; omega
  have hb : ∀ x ∈ r.L,0 ≤ x.Used∧x.Used ≤ x.Held∧x.Held ≤ 1099511627776:=fun x hx=>(h.le x (by rw [← e]; exact hx)).2
  have er:({ r with L:=c.L }:Ref46Desk) = r:=by rw [← e]
  unfold refFree freeC
  rw [refMay_spec hl,Option.bind_some,e]
  by_cases hn:1 ≤ n∧n ≤ 1099511627776
  · rw [if_pos hn, if_pos hn]
    rcases refAt_spec (r:=r) (cap:=cap) hl with ⟨h1,_⟩ | ⟨j,x,hx,h1,h2⟩
    · rw [e] at h1; rw [h1]
      simp [er]
    · rw [e] at h1 hx; rw [h1, h2]
      have hxb:=hb x (by rw [e]; exact List.mem_of_getElem? hx)
      simp only [Option.isNone_some,Bool.false_eq_true,if_false,bne_self_eq_false,Option.bind_some]
      rw [getI_nat hx,Option.bind_some]
      by_cases hlt:x.Used < n
      · rw [if_pos (by simp [hlt]),if_pos hlt]; simp [er]
      · rw [if_neg (by simp [hlt]), if_neg hlt, subI_of (by omega), Option.bind_some]
        have hcx:=(getC_mem h1).2
        have:=set_setC (y:={ x with Used:=x.Used - n }) h.so hx
        subst hcx
        rw [this]; simp
  · rw [if_neg hn,if_neg hn]; simp [er]
end

end Go.Proofs.YtljfakcblkdhbaaDoor

namespace Go.Proofs.YtljfakcblkdhbaaDoor
open Go.Gb
set_option linter.unusedVariables false
set_option linter.unusedSimpArgs false
set_option linter.unusedSectionVars false
set_option maxRecDepth 100000
/-! Lists of the call's own are compared as values are. -/
end Go.Proofs.YtljfakcblkdhbaaDoor

namespace Go.Proofs.YtljfakcblkdhbaaDoor
open Go.Gb
set_option linter.unusedVariables false
set_option linter.unusedSimpArgs false
set_option linter.unusedSectionVars false
set_option maxRecDepth 100000
/-! The reference's Send. -/
theorem fo64_0:FieldOk Tryd.prog 64 0 0:=⟨_,_,0,Tryd.underlying64,rfl,rfl,by kernel_rfl⟩
theorem fo64_2:FieldOk Tryd.prog 64 2 2:=⟨_,_,0,Tryd.underlying64,rfl,rfl,by kernel_rfl⟩
theorem fo64_3:FieldOk Tryd.prog 64 3 3:=⟨_,_,0,Tryd.underlying64,rfl,rfl,by kernel_rfl⟩
theorem fo64_4:FieldOk Tryd.prog 64 4 4:=⟨_,_,0,Tryd.underlying64,rfl,rfl,by kernel_rfl⟩
/-- what is there behind a method -/
def RefT (r:Ref46Desk) (b:Nat) (F:FP) (k0:K) (k:K):Prop:=∃ lv ov iv,RefO r b lv ov iv k∧Wr F k0 (RFP b lv iv)
section
variable {r r' : Ref46Desk} {b:Nat} {lv ov ov' iv:Value} {k k' : K}
theorem RefO.cell (D:RefO r b lv ov iv k) (g:Chg (Eq b) k k') (hb:Box b (⟨rcells r' lv ov' iv⟩:RawC 5) k') (hL:r'.L = r.L) (hI:r'.In = r.In) (ho:IsV r'.Out ov' k'):RefO r' b lv ov' iv k':=by
  have hsh : ∀ c,b = c → ¬ k.sh c:=fun c e=>e ▸ D.box.own
  exact ⟨hb,by rw [hL]; exact D.ol.keep g (fun c hc e=>D.n1 (e ▸ hc)) hsh,ho,by rw [hI]; exact D.oi.keep g (fun c hc e=>D.n2 (e ▸ hc)) hsh,D.n1,D.n2,D.ap⟩
theorem rturn2 {fn:Func} {r1 s1:ResultVar} {F:FP} {a:Act} {R S:Pred} (hr:fn.results = #[r1,s1]) (hd:a.defers = []) (hg:Chg F k k') (h:ResOk Tryd.prog a k' r1 R) (g:ResOk Tryd.prog a k' s1 S) (ht:RefT r b F k k') :
    bodyPost Tryd.prog fn (RetC F k fun u k'=>RefT r b F k k'∧IsTup2 R S u k') .ret a k'.w:=by
  obtain ⟨v,hv,hR⟩:=resOk_run h
  obtain ⟨u,hu,hS⟩:=resOk_run g
  refine ⟨hd, .tuple #[v, u], ?_, k', rfl, hg, ht, v, u, rfl, hR, hS⟩
  simp only [results_eq,hr]
  simp [hv,hu]
theorem rturn3 {fn:Func} {r1 s1 t1:ResultVar} {F:FP} {a:Act} {R S U:Pred} (hr:fn.results = #[r1,s1,t1]) (hd:a.defers = []) (hg:Chg F k k') (h:ResOk Tryd.prog a k' r1 R) (g:ResOk Tryd.prog a k' s1 S) (f:ResOk Tryd.prog a k' t1 U) (ht:RefT r b F k k') :
    bodyPost Tryd.prog fn (RetC F k fun u k'=>RefT r b F k k'∧IsTup3 R S U u k') .ret a k'.w:=by
  obtain ⟨v,hv,hR⟩:=resOk_run h
  obtain ⟨u,hu,hS⟩:=resOk_run g
  obtain ⟨z,hz,hU⟩:=resOk_run f
  refine ⟨hd, .tuple #[v, u, z], ?_, k', rfl, hg, ht, v, u, z, rfl, hR, hS, hU⟩
  simp only [results_eq,hr]
  simp [hv,hu,hz]
end
theorem refCounter_ok {k0:K} {v:Value} {n:Int} (hG:GOk tb k0) (i:IsV n v k0):Calls Tryd.prog 46 #[v] k0.w (Ret k0 (IsV (decide (0 ≤ n) && decide (n < 8)))):=
  Calls.mono (k46.ok.ok k0 [v] n _ hG i (show ref46_counter n = some (decide (0 ≤ n) && decide (n < 8)) from by unfold ref46_counter; cases decide (0 ≤ n) <;> rfl)) fun e w h=>by
    cases e with
    | returned u => obtain ⟨k', e1, g, hv⟩ := h; exact ⟨k', e1, g, res_bool hv⟩
    | panicked c=>exact h.elim
    | outgrown=>exact h.elim
def refSend (r:Ref46Desk) (cap:ByteArray) (to n:Int):Option (Ref46Desk × Portion × Int):=
  if (!(decide (0 ≤ to) && decide (to < 8))) || to == r.Counter then some (r,zP,1) else
  (refMay r cap n).bind fun e=>if e != 0 then some (r,zP,e) else
  (refLeft r cap).bind fun l=>if decide (l < n) then some (r,zP,26) else
  (refAt r cap).bind fun i=>(getI r.L i).bind fun x=>(subI x.Held n).bind fun u=>(addI r.Sent 1).bind fun s=>
  (appI r.Out [(⟨cap,r.Counter,to,s,n⟩:Portion)]).bind fun o=>some ({ r with L:=r.L.set i.toNat { x with Held:=u },Sent:=s,Out:=o },⟨cap,r.Counter,to,s,n⟩,0)
theorem appI_nil {α:Type} [Enc α] {xs ys zs:List α} (h:appI xs ys = some zs):appI [] xs = some xs:=by
  unfold appI at h ⊢
  split at h
  · rw [if_pos (by simp at *; omega)]; rfl
  · cases h
theorem refSend_ok {k0:K} {r:Ref46Desk} {b:Nat} {lv ov iv v1 v2 v3:Value} {cap:ByteArray} {to n:Int} {res:Ref46Desk × Portion × Int} (D:RefO r b lv ov iv k0) (hG:GOk tb k0) (i1:IsV cap v1 k0) (i2:IsV to v2 k0) (i3:IsV n v3 k0) (hr:refSend r cap to n = some res) :
    Calls Tryd.prog 28 #[ptrV b,v1,v2,v3] k0.w (RetC (RFP b lv iv) k0 fun u k=>RefT res.1 b (RFP b lv iv) k0 k∧IsTup2 (IsV res.2.1) (IsV res.2.2) u k):=by
  unfold refSend at hr
  refine enterK Tryd.func28 rfl Tryd.ntmps28 (show 4 ≤ 91 by decide) fun a k hk0 hs hd ha=>?_
  obtain ⟨e0,e1,e2,e3,_⟩:=ha
  have i0:Is (ptrV b) (a.get 0) k:=e0
  replace i1:IsV cap (a.get 1) k:=by rw [e1,hk0]; exact i1
  replace i2:IsV to (a.get 2) k:=by rw [e2,hk0]; exact i2
  replace i3:IsV n (a.get 3) k:=by rw [e3,hk0]; exact i3
  have hQ:Gb.LetsOut (bodyPost Tryd.prog Tryd.f28 (RetC (RFP b lv iv) k0 fun u k=>RefT res.1 b (RFP b lv iv) k0 k∧IsTup2 (IsV res.2.1) (IsV res.2.2) u k)):=letsOutC
  have hg:Chg (RFP b lv iv) k0 k:=by rw [hk0]; exact Chg.refl _ k0
  have hlt0 : ∀ c,RFP b lv iv c → c < k0.w.heap.size:=fun c hc=>(D.lt c hc).1
  replace D:RefO r b lv ov iv k:=by rw [hk0]; exact D
  replace hG:GOk tb k:=by rw [hk0]; exact hG
  clear e0 e1 e2 e3
  have fin : ∀ {a : Act} {k : K} {r' : Ref46Desk} {p : Portion} {e : Int} {b8 : Nat}, Bs (RFP b lv iv) k0 91 a k → RefT r' b (RFP b lv iv) k0 k → a.get 8 = ptrV b8 → Box b8 p k → IsV e (a.get 9) k → res = (r', p, e) → bodyPost Tryd.prog Tryd.f28 (RetC (RFP b lv iv) k0 fun u k => RefT res.1 b (RFP b lv iv) k0 k ∧ IsTup2 (IsV res.2.1) (IsV res.2.2) u k) .ret a k.w := by
    intro a k r' p e b8 hB hD e8 hb i9 er
    subst er
    exact rturn2 rfl hB.d hB.g (resCell e8 hb) i9 hD
  have ws:Wr (RFP b lv iv) k0 (RFP b lv iv):=fun c hc=>.inl hc
  have wb:Wr (RFP b lv iv) k0 (Eq b):=fun c e=>.inl (.inl e.symm)
  refine wp_seq ?_
  refine cut (fun a' k'=>∃ b8,Bs (RFP b lv iv) k0 91 a' k'∧Is (ptrV b) (a'.get 0) k'∧IsV cap (a'.get 1) k'∧IsV to (a'.get 2) k'∧IsV n (a'.get 3) k'∧a'.get 8 = ptrV b8∧Box b8 zP k'∧k0.w.heap.size ≤ b8∧RefO r b lv ov iv k'∧GOk tb k') ?_ hQ ?_
  · intro Q1 W1 w1
    refine gS 2 (⟨some (IsBox k.w.heap.size zP),[]⟩::⟨some (IsI 0),[]⟩::[]) hs (by kernel_rfl) ⟨ob1 rfl fun _ _ g n=>ok_alloc _ g.size rfl z47,aI rfl rfl,trivial⟩ W1 fun b q p=>?_
    obtain ⟨b8,e8,lo8,z8⟩:IsBox k.w.heap.size zP (b.get 8) q:=p.ou 0 8 rfl
    exact tail_done (k:=q) (w1 _ _ ⟨b8,Bs.post ⟨hg,hs,hd⟩ p,p.ke 0 rfl i0,p.ke 1 rfl i1,p.ke 2 rfl i2,p.ke 3 rfl i3,e8,z8,Nat.le_trans hg.size lo8,D.grow p.grow,hG.le p.grow.le⟩)
  clear i0 i1 i2 i3 D hg hs hd hG
  rintro a k ⟨b8,⟨hg,hs,hd⟩,i0,i1,i2,i3,e8,z8,lo8,D,hG⟩
  have hn8 : ¬ RFP b lv iv b8:=fun hc=>by have:=hlt0 b8 hc; omega
  generalize hcc:((!(decide (0 ≤ to) && decide (to < 8))) || to == r.Counter) = cc at hr
  refine wp_seq ?_
  refine wp_seq ?_
  refine cut (fun a' k'=>Bs (RFP b lv iv) k0 91 a' k'∧Is (ptrV b) (a'.get 0) k'∧IsV cap (a'.get 1) k'∧IsV to (a'.get 2) k'∧IsV n (a'.get 3) k'∧Is (ptrV b8) (a'.get 8) k'∧Box b8 zP k'∧RefO r b lv ov iv k'∧IsV cc (a'.get 23) k'∧GOk tb k') ?_ hQ ?_
  · intro Q1 W1 w1
    have i8:Is (ptrV b8) (a.get 8) k:=e8
    cases hm:(decide (0 ≤ to) && decide (to < 8)) with
    | true =>
      refine gS 11 (_::⟨some (IsV (decide (0 ≤ to) && decide (to < 8))),[(13,some 0)]⟩::⟨some (IsV (!(decide (0 ≤ to) && decide (to < 8)))),[(14,some 1)]⟩::_::⟨some (IsV to),[(2,none)]⟩::⟨some (Is (ptrV b)),[(0,none)]⟩::⟨some (Is (ptrV b)),[(18,some 5)]⟩::⟨some (IsAdr b 0),[(19,some 6)]⟩::⟨some (IsV r.Counter),[(20,some 7)]⟩::⟨some (IsV (to == r.Counter)),[(17,some 4),(21,some 8)]⟩::⟨some (IsV cc),[(16,some 3),(22,some 9)]⟩::[]) hs (by kernel_rfl)
        ⟨mu rfl i2,ob1 rfl fun _ _ g n=>ok_call rfl Tryd.call46 (refCounter_ok (hG.le g.le) n.1),ob1 rfl fun _ _ g n=>ok_not rfl n.1,cm 2 rfl rfl,
        ⟨inferInstance,.inl ⟨fun b q hk hn=>ok_move rfl (up i2 hk hn.1),guardF (by rw [hm]; rfl)⟩⟩,⟨inferInstance,.inl ⟨fun b q hk hn=>ok_move rfl (up i0 hk hn.1),guardF (by rw [hm]; rfl)⟩⟩,⟨inferInstance,.inl ⟨fun b q hk hn=>ok_nilCheckV rfl ⟨_,hn.1⟩ hn.1,guardF (by rw [hm]; rfl)⟩⟩,⟨inferInstance,.inl ⟨fun b q hk hn=>ok_fieldAdr rfl fo64_0 hn.1,guardF (by rw [hm]; rfl)⟩⟩,⟨inferInstance,.inl ⟨fun b q hk hn=>ok_loadI rfl ty3r hn.1 (D.grow hk).box rfl,guardF (by rw [hm]; rfl)⟩⟩,⟨inferInstance,.inl ⟨fun b q hk hn=>ok_eqI rfl hn.1 hn.2.1,guardF (by rw [hm]; rfl)⟩⟩,
        ob1 rfl fun b q hk hn=>ok_cast (by rw [← hcc,hm]; rfl) (ok_pick_f rfl hn.1 (by rw [hm]; rfl) hn.2.1),trivial⟩ W1 fun b q p=>?_
      exact tail_done (k:=q) (w1 _ _ ⟨Bs.post ⟨hg,hs,hd⟩ p,p.ke 0 rfl i0,p.ke 1 rfl i1,p.ke 2 rfl i2,p.ke 3 rfl i3,p.ke 8 rfl i8,z8.grow p.grow,D.grow p.grow,p.ou 10 23 rfl,hG.le p.grow.le⟩)
    | false =>
      refine gS 11 (_::⟨some (IsV (decide (0 ≤ to) && decide (to < 8))),[(13,some 0)]⟩::⟨some (IsV (!(decide (0 ≤ to) && decide (to < 8)))),[(14,some 1)]⟩::_::⟨none,[]⟩::⟨none,[]⟩::⟨none,[]⟩::⟨none,[]⟩::⟨none,[]⟩::⟨none,[]⟩::⟨some (IsV cc),[(16,some 3)]⟩::[]) hs (by kernel_rfl)
        ⟨mu rfl i2,ob1 rfl fun _ _ g n=>ok_call rfl Tryd.call46 (refCounter_ok (hG.le g.le) n.1),ob1 rfl fun _ _ g n=>ok_not rfl n.1,cm 2 rfl rfl,
        guardT (by rw [hm]; rfl),guardT (by rw [hm]; rfl),guardT (by rw [hm]; rfl),guardT (by rw [hm]; rfl),guardT (by rw [hm]; rfl),guardT (by rw [hm]; rfl),
        ob1 rfl fun b q hk hn=>ok_cast (by rw [← hcc,hm]; rfl) (ok_pick_t rfl hn.1 (by rw [hm]; rfl) (isV_bool.2 rfl)),trivial⟩ W1 fun b q p=>?_
      exact tail_done (k:=q) (w1 _ _ ⟨Bs.post ⟨hg,hs,hd⟩ p,p.ke 0 rfl i0,p.ke 1 rfl i1,p.ke 2 rfl i2,p.ke 3 rfl i3,p.ke 8 rfl i8,z8.grow p.grow,D.grow p.grow,p.ou 10 23 rfl,hG.le p.grow.le⟩)
  clear i0 i1 i2 i3 D hg hs hd e8 z8 hG
  rintro a k ⟨⟨hg,hs,hd⟩,i0,i1,i2,i3,i8,z8,D,i23,hG⟩
  have out8 : ∀ {k k' : K} {y:Portion},Box b8 y k → RefO r b lv ov iv k → Chg (Eq b8) k k' → RefO r b lv ov iv k':=fun hb D g=>D.keep g (fun c hc e=>hn8 (e ▸ hc)) (fun c e=>e ▸ hb.own)
  have w8:Wr (RFP b lv iv) k0 (Eq b8):=fun c e=>.inr (e ▸ lo8)
  refine wp_cond_split (isBool i23) (fun hc=>?_) (fun hc=>?_)
  · rw [if_pos hc] at hr
    obtain rfl:=Option.some.inj hr
    refine wp_seq ?_
    refine cut (fun a' k'=>Bs (RFP b lv iv) k0 91 a' k'∧Is (ptrV b8) (a'.get 8) k'∧Box b8 zP k'∧RefO r b lv ov iv k'∧IsV (1:Int) (a'.get 9) k') ?_ hQ ?_
    · intro Q1 W1 w1
      refine gS 1 (⟨some (IsV zP),[]⟩::[]) hs (by kernel_rfl) ⟨ob1 rfl fun _ _ g n=>ok_build (ps:=[]) rfl bld47_,trivial⟩ W1 fun b' q p=>?_
      have hgq:=hg.then p.grow
      have z8q:=z8.grow p.grow
      have Dq:=D.grow p.grow
      have e8:b'.get 8 = ptrV b8:=(p.old 8 rfl).trans i8
      have j24:IsV zP (b'.get 24) q:=p.ou 0 24 rfl
      refine tail_storeB (i:=1) rfl rfl rfl rfl szf47 (Upd.self (α:=Portion)) e8 z8q j24 fun q2 hch hz=>?_
      refine tail_assign (i:=2) (d:=9) rfl rfl (.inl rfl) rfl (by rw [p.size,hs]; decide) fun b3 hsz3 hdf3 e3 hoth3=>?_
      exact tail_done (k:=q2) (w1 _ _ ⟨⟨hgq.step hch w8,by rw [hsz3,p.size,hs],by rw [hdf3,p.defers,hd]⟩,(hoth3 8 (by decide)).trans e8,hz,out8 z8q Dq hch,isV_int.2 e3⟩)
    rintro a k ⟨hB,i8,z8,D,i9⟩
    refine wp_ret ?_
    exact fin hB ⟨_,_,_,D,ws⟩ i8 z8 i9 rfl
  rw [if_neg (by rw [hc]; decide)] at hr
  obtain ⟨e,he,hr⟩:=bind_some hr
  refine wp_skip ?_
  refine stepL 5 (_::_::_::⟨some (IsV e),[(25,some 0),(26,some 1),(27,some 2)]⟩::_::[]) rfl ⟨hg,hs,hd⟩ (by kernel_rfl) ⟨mu rfl i0,mu rfl i1,mu rfl i3,ob1 rfl fun a' _ g m=>ok_call rfl Tryd.call47 (by show Calls Tryd.prog 47 #[a'.eval (.tmp 25),a'.eval (.tmp 26),a'.eval (.tmp 27)] _ _; rw [show a'.eval (.tmp 25) = ptrV b from m.1]; exact refMay_ok (D.grow g) (hG.le g.le) m.2.1 m.2.2.1 he),cp 3 rfl rfl,trivial⟩
    [⟨0,Is (ptrV b)⟩,⟨1,IsV cap⟩,⟨2,IsV to⟩,⟨3,IsV n⟩,⟨8,Is (ptrV b8)⟩,⟨10,IsV e⟩,⟨0,fun _ k=>RefO r b lv ov iv k∧GOk tb k∧Box b8 zP k⟩] (fun b' q p=>⟨p.ke 0 rfl i0,p.ke 1 rfl i1,p.ke 2 rfl i2,p.ke 3 rfl i3,p.ke 8 rfl i8,p.ou 4 10 rfl,⟨D.grow p.grow,hG.le p.grow.le,z8.grow p.grow⟩,trivial⟩) ?_
  clear i0 i1 i2 i3 i8 i23 D hG z8 hg hs hd hc
  rintro a k ⟨⟨hg,hs,hd⟩,i0,i1,i2,i3,i8,i10,⟨D,hG,z8⟩,_⟩
  refine wp_seq ?_
  refine stepL 2 (_::⟨some (IsV (e != 0)),[(29,some 0)]⟩::[]) rfl ⟨hg,hs,hd⟩ (by kernel_rfl) ⟨mu rfl i10,ob1 rfl fun _ _ g m=>ok_neI rfl m.1 (Gb.cI rfl),trivial⟩
    [⟨0,Is (ptrV b)⟩,⟨1,IsV cap⟩,⟨2,IsV to⟩,⟨3,IsV n⟩,⟨8,Is (ptrV b8)⟩,⟨10,IsV e⟩,⟨30,IsV (e != 0)⟩,⟨0,fun _ k=>RefO r b lv ov iv k∧GOk tb k∧Box b8 zP k⟩] (fun b' q p=>⟨p.ke 0 rfl i0,p.ke 1 rfl i1,p.ke 2 rfl i2,p.ke 3 rfl i3,p.ke 8 rfl i8,p.ke 10 rfl i10,p.ou 1 30 rfl,⟨D.grow p.grow,hG.le p.grow.le,z8.grow p.grow⟩,trivial⟩) ?_
  clear i0 i1 i2 i3 i8 i10 D hG z8 hg hs hd
  rintro a k ⟨⟨hg,hs,hd⟩,i0,i1,i2,i3,i8,i10,i30,⟨D,hG,z8⟩,_⟩
  refine wp_cond_split (isBool i30) (fun hc=>?_) (fun hc=>?_)
  · rw [if_pos hc] at hr
    obtain rfl:=Option.some.inj hr
    refine wp_seq ?_
    refine cut (fun a' k'=>Bs (RFP b lv iv) k0 91 a' k'∧Is (ptrV b8) (a'.get 8) k'∧Box b8 zP k'∧RefO r b lv ov iv k'∧IsV e (a'.get 9) k') ?_ trivial ?_
    · intro Q1 W1 w1
      refine gS 2 (⟨some (IsV zP),[]⟩::_::[]) hs (by kernel_rfl) ⟨ob1 rfl fun _ _ g n=>ok_build (ps:=[]) rfl bld47_,mu rfl i10,trivial⟩ W1 fun b' q p=>?_
      have hgq:=hg.then p.grow
      have z8q:=z8.grow p.grow
      have Dq:=D.grow p.grow
      have e8:b'.get 8 = ptrV b8:=(p.old 8 rfl).trans i8
      have j31:IsV zP (b'.get 31) q:=p.ou 0 31 rfl
      have j32:IsV e (b'.get 32) q:=p.ou 1 32 rfl
      refine tail_storeB (i:=2) rfl rfl rfl rfl szf47 (Upd.self (α:=Portion)) e8 z8q j31 fun q2 hch hz=>?_
      refine tail_assign (i:=3) (d:=9) rfl rfl (.inl rfl) rfl (by rw [p.size,hs]; decide) fun b3 hsz3 hdf3 e3 hoth3=>?_
      exact tail_done (k:=q2) (w1 _ _ ⟨⟨hgq.step hch w8,by rw [hsz3,p.size,hs],by rw [hdf3,p.defers,hd]⟩,(hoth3 8 (by decide)).trans e8,hz,out8 z8q Dq hch,isV_int.2 (e3.trans (isV_int.1 j32))⟩)
    rintro a k ⟨hB,i8,z8,D,i9⟩
    refine wp_ret ?_
    exact fin hB ⟨_,_,_,D,ws⟩ i8 z8 i9 rfl
  rw [if_neg (by rw [hc]; simp)] at hr
  obtain ⟨l,hl,hr⟩:=bind_some hr
  refine wp_skip ?_
  refine wp_seq ?_
  refine stepL 5 (_::_::⟨some (IsV l),[(33,some 0),(34,some 1)]⟩::_::⟨some (IsV (decide (l < n))),[(35,some 2),(36,some 3)]⟩::[]) rfl ⟨hg,hs,hd⟩ (by kernel_rfl) ⟨mu rfl i0,mu rfl i1,ob1 rfl fun a' _ g m=>ok_call rfl Tryd.call31 (by show Calls Tryd.prog 31 #[a'.eval (.tmp 33),a'.eval (.tmp 34)] _ _; rw [show a'.eval (.tmp 33) = ptrV b from m.1]; exact refLeft_ok (D.grow g) (hG.le g.le) m.2.1 hl),mu rfl i3,ob1 rfl fun _ _ g m=>ok_lss rfl m.1 m.2.1,trivial⟩
    [⟨0,Is (ptrV b)⟩,⟨1,IsV cap⟩,⟨2,IsV to⟩,⟨3,IsV n⟩,⟨8,Is (ptrV b8)⟩,⟨37,IsV (decide (l < n))⟩,⟨0,fun _ k=>RefO r b lv ov iv k∧GOk tb k∧Box b8 zP k⟩] (fun b' q p=>⟨p.ke 0 rfl i0,p.ke 1 rfl i1,p.ke 2 rfl i2,p.ke 3 rfl i3,p.ke 8 rfl i8,p.ou 4 37 rfl,⟨D.grow p.grow,hG.le p.grow.le,z8.grow p.grow⟩,trivial⟩) ?_
  clear i0 i1 i2 i3 i8 i10 i30 D hG z8 hg hs hd hc
  rintro a k ⟨⟨hg,hs,hd⟩,i0,i1,i2,i3,i8,i37,⟨D,hG,z8⟩,_⟩
  refine wp_cond_split (isBool i37) (fun hc=>?_) (fun hc=>?_)
  · rw [if_pos hc] at hr
    obtain rfl:=Option.some.inj hr
    refine wp_seq ?_
    refine cut (fun a' k'=>Bs (RFP b lv iv) k0 91 a' k'∧Is (ptrV b8) (a'.get 8) k'∧Box b8 zP k'∧RefO r b lv ov iv k'∧IsV (26:Int) (a'.get 9) k') ?_ trivial ?_
    · intro Q1 W1 w1
      refine gS 1 (⟨some (IsV zP),[]⟩::[]) hs (by kernel_rfl) ⟨ob1 rfl fun _ _ g n=>ok_build (ps:=[]) rfl bld47_,trivial⟩ W1 fun b' q p=>?_
      have hgq:=hg.then p.grow
      have z8q:=z8.grow p.grow
      have Dq:=D.grow p.grow
      have e8:b'.get 8 = ptrV b8:=(p.old 8 rfl).trans i8
      have j38:IsV zP (b'.get 38) q:=p.ou 0 38 rfl
      refine tail_storeB (i:=1) rfl rfl rfl rfl szf47 (Upd.self (α:=Portion)) e8 z8q j38 fun q2 hch hz=>?_
      refine tail_assign (i:=2) (d:=9) rfl rfl (.inl rfl) rfl (by rw [p.size,hs]; decide) fun b3 hsz3 hdf3 e3 hoth3=>?_
      exact tail_done (k:=q2) (w1 _ _ ⟨⟨hgq.step hch w8,by rw [hsz3,p.size,hs],by rw [hdf3,p.defers,hd]⟩,(hoth3 8 (by decide)).trans e8,hz,out8 z8q Dq hch,isV_int.2 e3⟩)
    rintro a k ⟨hB,i8,z8,D,i9⟩
    refine wp_ret ?_
    exact fin hB ⟨_,_,_,D,ws⟩ i8 z8 i9 rfl
  rw [if_neg (by rw [hc]; simp)] at hr
  obtain ⟨i,hi,hr⟩:=bind_some hr
  obtain ⟨x,hx,hr⟩:=bind_some hr
  obtain ⟨u,hu,hr⟩:=bind_some hr
  obtain ⟨s,hs1,hr⟩:=bind_some hr
  obtain ⟨o,ho,hr⟩:=bind_some hr
  obtain rfl:=Option.some.inj hr
  refine wp_skip ?_
  refine stepL 4 (_::_::⟨some (IsV i),[(39,some 0),(40,some 1)]⟩::_::[]) rfl ⟨hg,hs,hd⟩ (by kernel_rfl) ⟨mu rfl i0,mu rfl i1,ob1 rfl fun a' _ g m=>ok_call rfl Tryd.call48 (by show Calls Tryd.prog 48 #[a'.eval (.tmp 39),a'.eval (.tmp 40)] _ _; rw [show a'.eval (.tmp 39) = ptrV b from m.1]; exact refAt_ok (D.grow g) (hG.le g.le) m.2.1 hi),cp 2 rfl rfl,trivial⟩
    [⟨0,Is (ptrV b)⟩,⟨1,IsV cap⟩,⟨2,IsV to⟩,⟨3,IsV n⟩,⟨8,Is (ptrV b8)⟩,⟨11,IsV i⟩,⟨0,fun _ k=>RefO r b lv ov iv k∧Box b8 zP k⟩] (fun b' q p=>⟨p.ke 0 rfl i0,p.ke 1 rfl i1,p.ke 2 rfl i2,p.ke 3 rfl i3,p.ke 8 rfl i8,p.ou 3 11 rfl,⟨D.grow p.grow,z8.grow p.grow⟩,trivial⟩) ?_
  clear i0 i1 i2 i3 i8 i37 D hG z8 hg hs hd hc
  rintro a k ⟨⟨hg,hs,hd⟩,i0,i1,i2,i3,i8,i11,⟨D,z8⟩,_⟩
  obtain ⟨h0,hxi,_,_⟩:=getI_spec hx
  -- the number that is held
  generalize hr1:({ r with L:=r.L.set i.toNat { x with Held:=u } }:Ref46Desk) = r1
  refine wp_seq ?_
  refine cut (fun a' k'=>Bs (RFP b lv iv) k0 91 a' k'∧Is (ptrV b) (a'.get 0) k'∧IsV cap (a'.get 1) k'∧IsV to (a'.get 2) k'∧IsV n (a'.get 3) k'∧Is (ptrV b8) (a'.get 8) k'∧Box b8 zP k'∧RefO r1 b lv ov iv k') ?_ hQ ?_
  · intro Q1 W1 w1
    refine region (a0:=a) (k0:=k) (n:=91) (m:=17) (_::⟨some (Is (ptrV b)),[(42,some 0)]⟩::⟨some (IsAdr b 1),[(43,some 1)]⟩::⟨some (Is lv),[(44,some 2)]⟩::_::_::⟨some (Is (ptrV b)),[(47,some 5)]⟩::⟨some (IsAdr b 1),[(48,some 6)]⟩::⟨some (Is lv),[(49,some 7)]⟩::_::⟨some (IsPtr x),[(50,some 8),(51,some 9)]⟩::⟨some (IsPtr x.Held),[(52,some 10)]⟩::⟨some (IsV x.Held),[(53,some 11)]⟩::_::⟨some (IsV u),[(54,some 12),(55,some 13)]⟩::⟨some (IsAdrO lv (i.toNat * Enc.sz Lease)),[(45,some 3),(46,some 4)]⟩::⟨some (IsAdrO lv (i.toNat * Enc.sz Lease + 2)),[(57,some 15)]⟩::[]) hmix hs (by kernel_rfl)
      ⟨mu rfl i0,ob1 rfl fun _ _ g n=>ok_nilCheckV rfl ⟨_,n.1⟩ n.1,ob1 rfl fun _ _ g n=>ok_fieldAdr rfl fo64_1 n.1,ob1 rfl fun _ _ g n=>ok_loadC rfl ty32r n.1 (D.grow g).box rfl,mu rfl i11,mu rfl i0,ob1 rfl fun _ _ g n=>ok_nilCheckV rfl ⟨_,n.1⟩ n.1,ob1 rfl fun _ _ g n=>ok_fieldAdr rfl fo64_1 n.1,ob1 rfl fun _ _ g n=>ok_loadC rfl ty32r n.1 (D.grow g).box rfl,mu rfl i11,
       ob1 rfl fun a' _ g n=>ok_indexAddr rfl Tryd.underlying32 ty43 (by rw [show a'.eval (.tmp 50) = lv from n.1]; exact (D.grow g).ol.rd) n.2.1 hx,ob1 rfl fun a' _ g n=>ok_fieldAddr rfl fo43_2 (at_Lease_2 _) n.1,ob1 rfl fun _ _ g n=>ok_load rfl ty3 n.1,mu rfl i3,ob1 rfl fun _ _ g n=>ok_sub rfl n.1 n.2.1 hu,
       ob1 rfl fun a' _ g n=>ok_indexO rfl Tryd.underlying32 ty43 (B:=0) (e:=43) (xs:=r.L) ⟨n.1,by rw [show a'.eval (.tmp 45) = lv from n.1]; exact (D.grow g).ol⟩ n.2.1 hx,ob1 rfl fun _ _ g n=>ok_fieldAdrO rfl fo43_2 n.1,trivial⟩ W1 fun b' q p=>?_
    have hgq:=hg.then p.grow
    have Dq:=D.grow p.grow
    have z8q:=z8.grow p.grow
    have ju:IsV u (b'.get 56) q:=p.ou 14 56 rfl
    have jp:IsAdrO lv (i.toNat * Enc.sz Lease + 2) (b'.get 58) q:=p.ou 16 58 rfl
    have l0:=p.ke 0 rfl i0
    have l1:=p.ke 1 rfl i1
    have l2:=p.ke 2 rfl i2
    have l3:=p.ke 3 rfl i3
    have l8:=p.ke 8 rfl i8
    refine tail_storeS (i:=17) (m:=i.toNat) rfl rfl rfl rfl szf3 upd_F43_2 jp Dq.ol hxi ju fun q2 hch hz=>?_
    have hw:Wr (RFP b lv iv) k0 (obF lv):=fun c hc=>.inl (.inr (.inl hc))
    have z82:=z8q.keep hch (fun hc=>hn8 (.inr (.inl hc))) Dq.ol.nshF
    subst hr1
    exact tail_done (k:=q2) (w1 _ _ ⟨⟨hgq.step hch hw,p.size.trans hs,p.defers.trans hd⟩,l0,isV_str.2 (isV_str.1 l1),isV_int.2 (isV_int.1 l2),isV_int.2 (isV_int.1 l3),l8,z82,⟨Dq.box.keep hch Dq.n1 Dq.ol.nshF,hz,Pers.pers (hch.le Dq.ol.nshF) Dq.oo,Dq.oi.keep hch (fun c h1 h2=>Dq.ap c h2 h1) Dq.ol.nshF,Dq.n1,Dq.n2,Dq.ap⟩⟩)
  clear i0 i1 i2 i3 i8 i11 D z8 hg hs hd out8
  rintro a k ⟨⟨hg,hs,hd⟩,i0,i1,i2,i3,i8,z8,D⟩
  have ec:r1.Counter = r.Counter:=by rw [← hr1]
  have es:r1.Sent = r.Sent:=by rw [← hr1]
  have eo:r1.Out = r.Out:=by rw [← hr1]
  have hres:({ r with L:=r.L.set i.toNat { x with Held:=u },Sent:=s,Out:=o }:Ref46Desk) = { r1 with Sent:=s,Out:=o }:=by rw [← hr1]
  rw [hres] at fin ⊢
  rw [hres] at hQ
  clear hres hr1
  rw [← eo,← ec] at ho
  rw [← es] at hs1
  rw [← ec] at fin hQ ⊢
  clear ec es eo
  -- the number of the portions that were sent
  refine wp_seq ?_
  refine cut (fun a' k'=>Bs (RFP b lv iv) k0 91 a' k'∧Is (ptrV b) (a'.get 0) k'∧IsV cap (a'.get 1) k'∧IsV to (a'.get 2) k'∧IsV n (a'.get 3) k'∧Is (ptrV b8) (a'.get 8) k'∧Box b8 zP k'∧RefO { r1 with Sent:=s } b lv ov iv k') ?_ hQ ?_
  · intro Q1 W1 w1
    refine gS 7 (_::⟨some (Is (ptrV b)),[(59,some 0)]⟩::⟨some (IsAdr b 3),[(60,some 1)]⟩::⟨some (IsV r1.Sent),[(61,some 2)]⟩::⟨some (IsV s),[(62,some 3)]⟩::⟨some (Is (ptrV b)),[(59,some 0)]⟩::⟨some (IsAdr b 3),[(64,some 5)]⟩::[]) hs (by kernel_rfl) ⟨mu rfl i0,ob1 rfl fun _ _ g n=>ok_nilCheckV rfl ⟨_,n.1⟩ n.1,ob1 rfl fun _ _ g n=>ok_fieldAdr rfl fo64_3 n.1,ob1 rfl fun _ _ g n=>ok_loadI rfl ty3r n.1 (D.grow g).box rfl,ob1 rfl fun _ _ g n=>ok_add rfl n.1 (Gb.cI rfl) hs1,ob1 rfl fun _ _ g n=>ok_nilCheckV rfl ⟨_,n.1⟩ n.1,ob1 rfl fun _ _ g n=>ok_fieldAdr rfl fo64_3 n.1,trivial⟩ W1 fun b' q p=>?_
    have hgq:=hg.then p.grow
    have Dq:=D.grow p.grow
    have z8q:=z8.grow p.grow
    have ju:IsV s (b'.get 63) q:=p.ou 4 63 rfl
    have jp:IsAdr b 3 (b'.get 65) q:=p.ou 6 65 rfl
    have l0:=p.ke 0 rfl i0
    have l1:=p.ke 1 rfl i1
    have l2:=p.ke 2 rfl i2
    have l3:=p.ke 3 rfl i3
    have l8:=p.ke 8 rfl i8
    refine tail_storeC (i:=7) (off:=3) (w:=.int .i64 s) rfl rfl rfl rfl (by kernel_rfl) (by decide) jp Dq.box (isV_int.1 ju) rfl fun q2 hch hz=>?_
    have hsh : ∀ c,b = c → ¬ q.sh c:=fun c e=>e ▸ Dq.box.own
    have D2:=Dq.cell (r':={ r1 with Sent:=s }) hch hz rfl rfl (Pers.pers (hch.le hsh) Dq.oo)
    have z82:=z8q.keep hch (fun e=>hn8 (.inl e.symm)) hsh
    exact tail_done (k:=q2) (w1 _ _ ⟨⟨hgq.step hch wb,p.size.trans hs,p.defers.trans hd⟩,l0,isV_str.2 (isV_str.1 l1),isV_int.2 (isV_int.1 l2),isV_int.2 (isV_int.1 l3),l8,z82,D2⟩)
  clear i0 i1 i2 i3 i8 D z8 hg hs hd
  rintro a k ⟨⟨hg,hs,hd⟩,i0,i1,i2,i3,i8,z8,D⟩
  generalize hp:(⟨cap,r1.Counter,to,s,n⟩:Portion) = pp at ho fin hQ ⊢
  -- the portion
  refine wp_seq ?_
  refine cut (fun a' k'=>Bs (RFP b lv iv) k0 91 a' k'∧Is (ptrV b) (a'.get 0) k'∧Is (ptrV b8) (a'.get 8) k'∧IsRef pp (a'.get 12) k'∧Box b8 zP k'∧RefO { r1 with Sent:=s } b lv ov iv k') ?_ hQ ?_
  · intro Q1 W1 w1
    refine region (a0:=a) (k0:=k) (n:=91) (m:=13) (_::_::⟨some (Is (ptrV b)),[(67,some 1)]⟩::⟨some (IsAdr b 0),[(68,some 2)]⟩::⟨some (IsV r1.Counter),[(69,some 3)]⟩::_::_::⟨some (Is (ptrV b)),[(72,some 6)]⟩::⟨some (IsAdr b 3),[(73,some 7)]⟩::⟨some (IsV s),[(74,some 8)]⟩::_::⟨some (IsV pp),[(66,some 0),(70,some 4),(71,some 5),(75,some 9),(76,some 10)]⟩::⟨some (IsBox k.w.heap.size zP),[]⟩::[]) hmix hs (by kernel_rfl) ⟨mu rfl i1,mu rfl i0,ob1 rfl fun _ _ g n=>ok_nilCheckV rfl ⟨_,n.1⟩ n.1,ob1 rfl fun _ _ g n=>ok_fieldAdr rfl fo64_0 n.1,ob1 rfl fun _ _ g n=>ok_loadI rfl ty3r n.1 (D.grow g).box rfl,mu rfl i2,mu rfl i0,ob1 rfl fun _ _ g n=>ok_nilCheckV rfl ⟨_,n.1⟩ n.1,ob1 rfl fun _ _ g n=>ok_fieldAdr rfl fo64_3 n.1,ob1 rfl fun _ _ g n=>ok_loadI rfl ty3r n.1 (D.grow g).box rfl,mu rfl i3,
      ob1 rfl fun _ _ g m=>by rw [← hp]; exact ok_build rfl (bld47_0_1_2_3_4 m.1 m.2.1 m.2.2.1 m.2.2.2.1 m.2.2.2.2.1),ob1 rfl fun _ _ g n=>ok_alloc _ g.size rfl z47,trivial⟩ W1 fun b' q p=>?_
    obtain ⟨b12,j12,x12,z12⟩:IsBox k.w.heap.size zP (b'.get 12) q:=p.ou 12 12 rfl
    have j76:IsV pp (b'.get 77) q:=p.ou 11 77 rfl
    have hgq:=hg.then p.grow
    have Dq:=D.grow p.grow
    have z8q:=z8.grow p.grow
    have l0:=p.ke 0 rfl i0
    have l8:=p.ke 8 rfl i8
    have hns:=z12.nshF
    have hlo:Lo k (Eq b12):=Lo.eq x12
    have hap:Apart (RFP b lv iv) (Eq b12):=fun c hc e=>by have:=(D.lt c hc).1; omega
    have h812 : ¬ b12 = b8:=fun e=>by have:=z8.lt; omega
    refine tail_storeB (i:=13) rfl rfl rfl rfl szf47 (Upd.self (α:=Portion)) j12 z12 j76 fun q2 hch hz=>?_
    have D2:=Dq.keep hch hap hns
    have z82:=z8q.keep hch h812 hns
    obtain ⟨q3,hsh,jn⟩:=hz.give
    have hgq2:=(hgq.step hch (hlo.chg hg).wr).hand hsh (hlo.chg hg).wr
    rw [← hsh.w]
    exact tail_done (k:=q3) (w1 _ _ ⟨⟨hgq2,p.size.trans hs,p.defers.trans hd⟩,l0,l8,by rw [j12]; exact jn,z82.handed hsh h812,D2.handed hsh hap⟩)
  clear i0 i1 i2 i3 i8 D z8 hg hs hd
  rintro a k ⟨⟨hg,hs,hd⟩,i0,i8,i12,z8,D⟩
  -- the pending portions
  refine wp_seq ?_
  refine cut (fun a' k' => Bs (RFP b lv iv) k0 91 a' k' ∧ Is (ptrV b8) (a'.get 8) k' ∧ IsRef pp (a'.get 12) k' ∧ Box b8 zP k' ∧ ∃ ov', RefO { r1 with Sent := s, Out := o } b lv ov' iv k') ?_ hQ ?_
  · intro Q1 W1 w1
    refine region_mid (a0:=a) (k0:=k) (n:=91) (m:=9) (⟨some (Is (ptrV b)),[(0,none)]⟩::⟨some IsE0,[]⟩::⟨some (Is (ptrV b)),[(0,none)]⟩::⟨some (Is (ptrV b)),[(80,some 2)]⟩::⟨some (IsAdr b 2),[(81,some 3)]⟩::⟨some (IsV r1.Out),[(82,some 4)]⟩::⟨some (IsOwn k.w.heap.size 47 r1.Out),[(79,some 1),(83,some 5)]⟩::⟨some (IsV pp),[(12,none)]⟩::⟨some (IsV [pp]),[(85,some 7)]⟩::[]) [0] [9,10,11,12] hmix hs (by kernel_rfl) ⟨mu rfl i0,ob1 rfl fun _ _ g n=>ok_buildSlice0 rfl Tryd.underlying28 eo47,mu rfl i0,ob1 rfl fun _ _ g n=>ok_nilCheckV rfl ⟨_,n.1⟩ n.1,ob1 rfl fun _ _ g n=>ok_fieldAdr rfl fo64_2 n.1,ob1 rfl fun _ _ g n=>does_weak (ok_loadC rfl ty28r n.1 (D.grow g).box rfl) fun v k' g' hv=>by rw [show v = ov from hv]; exact Mono.mono (g.trans g') D.oo,ob1 rfl fun _ _ g n=>ok_append0 rfl Tryd.underlying28 eo47 g.size n.1 (IsV.rd n.2.1) (appI_nil ho),ob1 rfl fun _ _ g n=>ok_load rfl ty47 (up i12 g n.1).ptr,ob1 rfl fun _ _ g n=>ok_buildSlice rfl Tryd.underlying28 eo47 rfl (by decide) (by decide) ⟨rfl,n.1,trivial⟩,trivial⟩ W1 ?_ fun b' q p=>?_
    · intro l hl hlm e he
      simp only [List.mem_cons,List.not_mem_nil,or_false] at hl
      subst hl
      obtain rfl:=Option.some.inj he
      exact ⟨_,rfl,fun k g=>i0⟩
    have hgq:=hg.then p.grow
    have hsb:=p.size.trans hs
    have Dq:=D.grow p.grow
    have z8q:=z8.grow p.grow
    have j78:b'.get 78 = ptrV b:=p.val 0 78 _ _ (by decide) rfl rfl
    have j84:IsOwn k.w.heap.size 47 r1.Out (b'.get 84) q:=p.val 6 84 _ _ (by decide) rfl rfl
    have j86:IsV [pp] (b'.get 86) q:=p.val 8 86 _ _ (by decide) rfl rfl
    have l8:b'.get 8 = ptrV b8:=(p.old 8 rfl).trans i8
    have l12:IsRef pp (b'.get 12) q:=by rw [p.old 12 rfl]; exact Mono.mono p.grow i12
    have lo84 : ∀ c,obF (b'.get 84) c → k.w.heap.size ≤ c:=fun c hc=>(j84.lt c hc).1
    have hgk:k.w.heap.size ≤ q.w.heap.size:=p.grow.size
    refine tail_appendS (i:=9) (d:=87) rfl rfl rfl rfl (by rw [hsb]; decide) (e:=47) Tryd.underlying28 eo47 (j84.weaken (Nat.zero_le _)) (IsV.rd j86) ho fun b2 q2 hsz hdf hoth hch hown hob=>?_
    replace hch:Chg (obF (b'.get 84)) q q2:=hch
    replace hob : ∀ c,obF (b2.get 87) c → obF (b'.get 84) c ∨ q.w.heap.size ≤ c:=hob
    have hnh : ∀ c,obF (b'.get 84) c → ¬ q.sh c:=(j84.weaken (Nat.zero_le _)).nshF
    have wh:Wr (RFP b lv iv) k0 (obF (b'.get 84)):=fun c hc=>.inr (Nat.le_trans hg.size (lo84 c hc))
    have hap:Apart (RFP b lv iv) (obF (b'.get 84)):=fun c hc hc'=>by have:=(D.lt c hc).1; have:=lo84 c hc'; omega
    have D2:=Dq.keep hch hap hnh
    have z82:=z8q.keep hch (fun hc=>by have:=lo84 _ hc; have:=z8.lt; omega) hnh
    have l12':=Pers.pers (hch.le hnh) l12
    have hgq2:=hgq.step hch wh
    refine tail_does (i:=10) (d:=88) (R:=Is (ptrV b)) rfl rfl rfl (by rw [hsz,hsb]; decide) W1 (ok_nilCheckV rfl ⟨_,(hoth 78 (by decide)).trans j78⟩ ((hoth 78 (by decide)).trans j78)) fun b3 q3 hsz3 hdf3 hoth3 hg3 j88=>?_
    refine tail_does (i:=11) (d:=89) (R:=IsAdr b 2) rfl rfl rfl (by rw [hsz3,hsz,hsb]; decide) W1 (ok_fieldAdr rfl fo64_2 j88) fun b4 q4 hsz4 hdf4 hoth4 hg4 j89=>?_
    have hg34:=hg3.trans hg4
    have e87:b4.get 87 = b2.get 87:=(hoth4 87 (by decide)).trans (hoth3 87 (by decide))
    have hown4:IsOwn 0 47 o (b2.get 87) q4:=Mono.mono hg34 hown
    have lo87 : ∀ c,obF (b2.get 87) c → k.w.heap.size ≤ c:=fun c hc=>(hob c hc).elim (lo84 c) (fun h=>Nat.le_trans hgk h)
    obtain ⟨q5,sh5,iv5⟩:=hown4.give
    have hap5:Apart (RFP b lv iv) (obF (b2.get 87)):=fun c hc hc'=>by have:=(D.lt c hc).1; have:=lo87 c hc'; omega
    have D5:=(D2.grow hg34).handed sh5 hap5
    have z85:=(z82.grow hg34).handed sh5 (fun hc=>by have:=lo87 _ hc; have:=z8.lt; omega)
    have l12'':=Pers.pers sh5.le (Mono.mono hg34 l12')
    have hgq5:=(hgq2.then hg34).hand sh5 (fun c hc=>.inr (Nat.le_trans hg.size (lo87 c hc)))
    rw [← sh5.w]
    refine tail_storeC (i:=12) (off:=2) (w:=b2.get 87) rfl rfl rfl rfl (by kernel_rfl) (by decide) j89 D5.box e87 (own_one hown) fun q6 hch6 hz6=>?_
    have hsh6 : ∀ c,b = c → ¬ q5.sh c:=fun c e=>e ▸ D5.box.own
    have D6:=D5.cell (r':={ r1 with Sent:=s,Out:=o }) (ov':=b2.get 87) hch6 hz6 rfl rfl (Pers.pers (hch6.le hsh6) iv5)
    refine tail_done (k:=q6) (w1 _ _ ⟨⟨hgq5.step hch6 wb,by rw [hsz4,hsz3,hsz,hsb],by rw [hdf4,hdf3,hdf,p.defers,hd]⟩,?_,?_,z85.keep hch6 (fun e=>hn8 (.inl e.symm)) hsh6,_,D6⟩)
    · show b4.get 8 = _
      rw [hoth4 8 (by decide),hoth3 8 (by decide),hoth 8 (by decide)]; exact l8
    · rw [hoth4 12 (by decide), hoth3 12 (by decide), hoth 12 (by decide)]
      exact Pers.pers (hch6.le hsh6) l12''
  clear i0 i8 i12 D z8 hg hs hd
  rintro a k ⟨⟨hg, hs, hd⟩, i8, i12, z8, ov', D⟩
  refine wp_seq ?_
  refine cut (fun a' k'=>Bs (RFP b lv iv) k0 91 a' k'∧Is (ptrV b8) (a'.get 8) k'∧Box b8 pp k'∧RefO { r1 with Sent:=s,Out:=o } b lv ov' iv k'∧IsV (0:Int) (a'.get 9) k') ?_ hQ ?_
  · intro Q1 W1 w1
    refine gS 1 (⟨some (IsV pp),[(12,none)]⟩::[]) hs (by kernel_rfl) ⟨ob1 rfl fun _ _ g n=>ok_load rfl ty47 (up i12 g n.1).ptr,trivial⟩ W1 fun b' q p=>?_
    have hgq:=hg.then p.grow
    have z8q:=z8.grow p.grow
    have Dq:=D.grow p.grow
    have e8:b'.get 8 = ptrV b8:=(p.old 8 rfl).trans i8
    have j90:IsV pp (b'.get 90) q:=p.ou 0 90 rfl
    have hns:=z8q.nshF
    refine tail_storeB (i:=1) rfl rfl rfl rfl szf47 (Upd.self (α:=Portion)) e8 z8q j90 fun q2 hch hz=>?_
    refine tail_assign (i:=2) (d:=9) rfl rfl (.inl rfl) rfl (by rw [p.size,hs]; decide) fun b3 hsz3 hdf3 e3 hoth3=>?_
    exact tail_done (k:=q2) (w1 _ _ ⟨⟨hgq.step hch w8,by rw [hsz3,p.size,hs],by rw [hdf3,p.defers,hd]⟩,(hoth3 8 (by decide)).trans e8,hz,Dq.keep hch (fun c hc e=>hn8 (e ▸ hc)) hns,isV_int.2 e3⟩)
  rintro a k ⟨hB,i8,z8,D,i9⟩
  refine wp_ret ?_
  exact fin hB ⟨_,_,_,D,ws⟩ i8 z8 i9 rfl

end Go.Proofs.YtljfakcblkdhbaaDoor

namespace Go.Proofs.YtljfakcblkdhbaaDoor
open Go.Gb
set_option linter.unusedVariables false
set_option linter.unusedSimpArgs false
set_option linter.unusedSectionVars false
set_option maxRecDepth 100000
/-! The reference's take. -/
abbrev zL:Lease:=⟨(⟨#[]⟩:ByteArray),0,0,0⟩
def refTakeL (cap:ByteArray) (s:List Lease × Int):Option (Flow (List Lease × Int) Unit):=
  if decide (0 < s.2) then (subI s.2 1).bind fun j=>(getI s.1 j).bind fun y=>
    if (!(bLt y.Cap cap || y.Cap.toList == cap.toList)) then (getI s.1 s.2).bind fun _=>some (.go (s.1.set s.2.toNat y,j)) else some (.ex 0 s)
  else some (.ex 0 s)
def refTake (r:Ref46Desk) (p:Portion):Option (Ref46Desk × Int):=
  (refAt r p.Cap).bind fun i=>
  if (decide (i < 0) && decide (30 ≤ (r.L.length:Int))) then some (r,6) else
  (if decide (0 ≤ i) then (getI r.L i).bind fun x=>(addI x.Held p.N).bind fun u=>if decide (1099511627776 < u) then some none else some (some { r with L:=r.L.set i.toNat { x with Held:=u } })
   else (appI r.L [zL]).bind fun l0=>(iterL (refTakeL p.Cap) 1000 (l0,(r.L.length:Int))).bind fun f=>match f with
    | .ex _ s=>(getI s.1 s.2).bind fun _=>some (some { r with L:=s.1.set s.2.toNat ⟨p.Cap,r.Counter,p.N,0⟩ })
    | _=>none).bind fun o=>match o with
  | none=>some (r,6)
  | some r1=>(appI r1.In [p]).bind fun I=>some ({ r1 with In:=I },0)
theorem refTake_ok {k0:K} {r:Ref46Desk} {b:Nat} {lv ov iv v1:Value} {p_:Portion} {res:Ref46Desk × Int} (D:RefO r b lv ov iv k0) (hG:GOk tb k0) (i1:IsV p_ v1 k0) (hr:refTake r p_ = some res) :
    Calls Tryd.prog 49 #[ptrV b,v1] k0.w (RetC (RFP b lv iv) k0 fun u k=>RefT res.1 b (RFP b lv iv) k0 k∧IsV res.2 u k):=by
  unfold refTake at hr
  obtain ⟨i,hi,hr⟩:=bind_some hr
  refine enterK Tryd.func49 rfl Tryd.ntmps49 (show 2 ≤ 127 by decide) fun a k hk0 hs hd ha=>?_
  obtain ⟨e0,e1,_⟩:=ha
  have i0:Is (ptrV b) (a.get 0) k:=e0
  replace i1:IsV p_ (a.get 1) k:=by rw [e1,hk0]; exact i1
  have hQ:Gb.LetsOut (bodyPost Tryd.prog Tryd.f49 (RetC (RFP b lv iv) k0 fun u k=>RefT res.1 b (RFP b lv iv) k0 k∧IsV res.2 u k)):=letsOutC
  have hg:Chg (RFP b lv iv) k0 k:=by rw [hk0]; exact Chg.refl _ k0
  have hlt0 : ∀ c,RFP b lv iv c → c < k0.w.heap.size:=fun c hc=>(D.lt c hc).1
  replace D:RefO r b lv ov iv k:=by rw [hk0]; exact D
  replace hG:GOk tb k:=by rw [hk0]; exact hG
  clear e0 e1
  have ws:Wr (RFP b lv iv) k0 (RFP b lv iv):=fun c hc=>.inl hc
  have wb:Wr (RFP b lv iv) k0 (Eq b):=fun c e=>.inl (.inl e.symm)
  have fin : ∀ {a : Act} {k : K} {r' : Ref46Desk} {e : Int}, Bs (RFP b lv iv) k0 127 a k → RefT r' b (RFP b lv iv) k0 k → IsV e (a.get 4) k → res = (r', e) → bodyPost Tryd.prog Tryd.f49 (RetC (RFP b lv iv) k0 fun u k => RefT res.1 b (RFP b lv iv) k0 k ∧ IsV res.2 u k) .ret a k.w := by
    intro a k r' e hB hD i4 er
    subst er
    exact retC1 rfl hB.d hB.g (show ResOk _ _ _ (.tmp 4) (fun u k=>RefT _ b (RFP b lv iv) k0 k∧IsV _ u k) from ⟨hD,i4⟩)
  refine stepL 2 (⟨some (IsRef p_),[(1,none)]⟩::⟨some (IsI 0),[]⟩::[]) rfl ⟨hg,hs,hd⟩ (by kernel_rfl) ⟨ob1 rfl fun _ _ g n=>ok_boxR rfl (up i1 g n.1),aI rfl rfl,trivial⟩ [⟨0,Is (ptrV b)⟩,⟨3,IsRef p_⟩,⟨0,fun _ k=>RefO r b lv ov iv k∧GOk tb k⟩] (fun b' q p=>⟨p.ke 0 rfl i0,p.ou 0 3 rfl,⟨D.grow p.grow,hG.le p.grow.le⟩,trivial⟩) ?_
  clear i0 i1 D hG hg hs hd
  rintro a k ⟨⟨hg,hs,hd⟩,i0,i3,⟨D,hG⟩,_⟩
  refine stepL 5 (_::⟨some (IsPtr p_.Cap),[(3,none)]⟩::⟨some (IsV p_.Cap),[(8,some 1)]⟩::⟨some (IsV i),[(7,some 0),(9,some 2)]⟩::_::[]) rfl ⟨hg,hs,hd⟩ (by kernel_rfl) ⟨mu rfl i0,ob1 rfl fun _ _ g n=>ok_fieldAddr rfl fo47_0 (at_Portion_0 _) (up i3 g n.1).ptr,ob1 rfl fun _ _ g n=>ok_load rfl ty9 n.1,ob1 rfl fun a' _ g m=>ok_call rfl Tryd.call48 (by show Calls Tryd.prog 48 #[a'.eval (.tmp 7),a'.eval (.tmp 9)] _ _; rw [show a'.eval (.tmp 7) = ptrV b from m.1]; exact refAt_ok (D.grow g) (hG.le g.le) m.2.1 hi),cp 3 rfl rfl,trivial⟩
    [⟨0,Is (ptrV b)⟩,⟨3,IsRef p_⟩,⟨5,IsV i⟩,⟨0,fun _ k=>RefO r b lv ov iv k⟩] (fun b' q p=>⟨p.ke 0 rfl i0,p.ke 3 rfl i3,p.ou 4 5 rfl,D.grow p.grow,trivial⟩) ?_
  clear i0 i3 D hG hg hs hd
  rintro a k ⟨⟨hg,hs,hd⟩,i0,i3,i5,D,_⟩
  replace D:RefO r b lv ov iv k:=D
  refine wp_seq ?_
  refine stepL 10 (_::⟨some (IsV (decide (i < 0))),[(11,some 0)]⟩::_::_::⟨some (Gd (decide (i < 0) = true) (Is (ptrV b))),[(14,some 3)]⟩::⟨some (Gd (decide (i < 0) = true) (IsAdr b 1)),[(15,some 4)]⟩::⟨some (Gd (decide (i < 0) = true) (Is lv)),[(16,some 5)]⟩::⟨some (Gd (decide (i < 0) = true) (IsL r.L)),[(17,some 6)]⟩::⟨some (Gd (decide (i < 0) = true) (IsV (decide (30 ≤ (r.L.length:Int))))),[(18,some 7)]⟩::⟨some (IsV (decide (i < 0) && decide (30 ≤ (r.L.length:Int)))),[(13,some 2),(19,some 8)]⟩::[]) rfl ⟨hg,hs,hd⟩ (by kernel_rfl) ⟨mu rfl i5,ob1 rfl fun _ _ g n=>ok_lss rfl n.1 (Gb.cI rfl),cm 1 rfl rfl,mT rfl rfl i0,gT [(14,some 3)] rfl rfl fun hp _ _ h n=>ok_nilCheckV rfl ⟨_,Gd.get n.1 hp⟩ (Gd.get n.1 hp),gT [(15,some 4)] rfl rfl fun hp _ _ h n=>ok_fieldAdr rfl fo64_1 (Gd.get n.1 hp),gT [(16,some 5)] rfl rfl fun hp _ _ h n=>ok_loadC rfl ty32r (Gd.get n.1 hp) (D.grow h).box rfl,gT [(17,some 6)] rfl rfl fun hp a' _ h n=>ok_len rfl rfl Tryd.underlying32 (by rw [show a'.eval (.tmp 17) = lv from Gd.get n.1 hp]; exact (D.grow h).ol.rd),gT [(18,some 7)] rfl rfl fun hp _ _ h n=>ok_geq rfl (Gd.get n.1 hp) (Gb.cI rfl),o1 [(13,some 2),(19,some 8)] rfl fun _ _ h n=>ok_pickAnd rfl n.1 (Gd.get n.2.1) (Gb.cB rfl),trivial⟩
    [⟨0,Is (ptrV b)⟩,⟨3,IsRef p_⟩,⟨5,IsV i⟩,⟨20,IsV (decide (i < 0) && decide (30 ≤ (r.L.length:Int)))⟩,⟨0,fun _ k=>RefO r b lv ov iv k⟩] (fun b' q p=>⟨p.ke 0 rfl i0,p.ke 3 rfl i3,p.ke 5 rfl i5,p.ou 9 20 rfl,D.grow p.grow,trivial⟩) ?_
  clear i0 i3 i5 D hg hs hd
  rintro a k ⟨⟨hg,hs,hd⟩,i0,i3,i5,i20,D,_⟩
  replace D:RefO r b lv ov iv k:=D
  refine wp_cond_split (isBool i20) (fun hc=>?_) (fun hc=>?_)
  · rw [if_pos hc] at hr
    obtain rfl:=Option.some.inj hr
    refine stepL 1 (⟨some (IsI 6),[]⟩::[]) rfl ⟨hg,hs,hd⟩ (by kernel_rfl) ⟨aI rfl rfl,trivial⟩ [⟨4,IsI 6⟩,⟨0,fun _ k=>RefO r b lv ov iv k⟩] (fun b' q p=>⟨p.ou 0 4 rfl,D.grow p.grow,trivial⟩) ?_
    rintro a k ⟨hB,i4,D,_⟩
    replace D:RefO r b lv ov iv k:=D
    refine wp_ret ?_
    exact fin hB ⟨_,_,_,D,ws⟩ i4 rfl
  rw [if_neg (by rw [hc]; decide)] at hr
  clear i20 hc
  obtain ⟨o,ho,hr⟩:=bind_some hr
  refine wp_skip ?_
  refine cutR (fun a' k' => ∃ r1 lv', o = some r1 ∧ Bs (RFP b lv iv) k0 127 a' k' ∧ Is (ptrV b) (a'.get 0) k' ∧ IsRef p_ (a'.get 3) k' ∧ RefO r1 b lv' ov iv k' ∧ Wr (RFP b lv iv) k0 (RFP b lv' iv))
    (fun a' k'=>bodyPost Tryd.prog Tryd.f49 (RetC (RFP b lv iv) k0 fun u k=>RefT res.1 b (RFP b lv iv) k0 k∧IsV res.2 u k) .ret a' k'.w) ?_ ?_ (fun _ _ h=>h)
  · intro Q1 W1 w1 wr1
    refine stepL 2 (_::⟨some (IsV (decide (0 ≤ i))),[(21,some 0)]⟩::[]) rfl ⟨hg,hs,hd⟩ (by kernel_rfl) ⟨mu rfl i5,ob1 rfl fun _ _ g n=>ok_geq rfl n.1 (Gb.cI rfl),trivial⟩
      [⟨0,Is (ptrV b)⟩,⟨3,IsRef p_⟩,⟨5,IsV i⟩,⟨22,IsV (decide (0 ≤ i))⟩,⟨0,fun _ k=>RefO r b lv ov iv k⟩] (fun b' q p=>⟨p.ke 0 rfl i0,p.ke 3 rfl i3,p.ke 5 rfl i5,p.ou 1 22 rfl,D.grow p.grow,trivial⟩) ?_
    clear i0 i3 i5 D hg hs hd
    rintro a k ⟨⟨hg,hs,hd⟩,i0,i3,i5,i22,D,_⟩
    replace D:RefO r b lv ov iv k:=D
    refine wp_cond_split (isBool i22) (fun hc=>?_) (fun hc=>?_)
    · rw [if_pos hc] at ho
      obtain ⟨x,hx,ho⟩:=bind_some ho
      obtain ⟨u,hu,ho⟩:=bind_some ho
      obtain ⟨h0,hxi,_,_⟩:=getI_spec hx
      refine wp_seq ?_
      refine wp_seq ?_
      refine cut (fun a' k'=>Bs (RFP b lv iv) k0 127 a' k'∧Is (ptrV b) (a'.get 0) k'∧IsRef p_ (a'.get 3) k'∧IsV i (a'.get 5) k'∧IsV (decide (1099511627776 < u)) (a'.get 34) k'∧RefO r b lv ov iv k') ?_ trivial ?_
      · intro Q2 W2 w2
        refine region (a0:=a) (k0:=k) (n:=127) (m:=12) (_::⟨some (Is (ptrV b)),[(23,some 0)]⟩::⟨some (IsAdr b 1),[(24,some 1)]⟩::⟨some (Is lv),[(25,some 2)]⟩::_::⟨some (IsPtr x),[(26,some 3),(27,some 4)]⟩::⟨some (IsPtr x.Held),[(28,some 5)]⟩::⟨some (IsV x.Held),[(29,some 6)]⟩::⟨some (IsPtr p_.N),[(3,none)]⟩::⟨some (IsV p_.N),[(31,some 8)]⟩::⟨some (IsV u),[(30,some 7),(32,some 9)]⟩::⟨some (IsV (decide (1099511627776 < u))),[(33,some 10)]⟩::[]) hmix hs (by kernel_rfl)
          ⟨mu rfl i0,ob1 rfl fun _ _ g n=>ok_nilCheckV rfl ⟨_,n.1⟩ n.1,ob1 rfl fun _ _ g n=>ok_fieldAdr rfl fo64_1 n.1,ob1 rfl fun _ _ g n=>ok_loadC rfl ty32r n.1 (D.grow g).box rfl,mu rfl i5,ob1 rfl fun a' _ g n=>ok_indexAddr rfl Tryd.underlying32 ty43 (by rw [show a'.eval (.tmp 26) = lv from n.1]; exact (D.grow g).ol.rd) n.2.1 hx,ob1 rfl fun a' _ g n=>ok_fieldAddr rfl fo43_2 (at_Lease_2 _) n.1,ob1 rfl fun _ _ g n=>ok_load rfl ty3 n.1,ob1 rfl fun _ _ g n=>ok_fieldAddr rfl fo47_4 (at_Portion_4 _) (up i3 g n.1).ptr,ob1 rfl fun _ _ g n=>ok_load rfl ty3 n.1,ob1 rfl fun _ _ g n=>ok_add rfl n.1 n.2.1 hu,ob1 rfl fun _ _ g n=>ok_gtr rfl n.1 (Gb.cI rfl),trivial⟩ W2 fun b' q p=>?_
        exact tail_done (k:=q) (w2 _ _ ⟨Bs.post ⟨hg,hs,hd⟩ p,p.ke 0 rfl i0,p.ke 3 rfl i3,p.ke 5 rfl i5,p.ou 11 34 rfl,D.grow p.grow⟩)
      clear i0 i3 i5 i22 D hg hs hd hc
      rintro a k ⟨⟨hg,hs,hd⟩,i0,i3,i5,i34,D⟩
      refine wp_cond_split (isBool i34) (fun hc=>?_) (fun hc=>?_)
      · rw [if_pos hc] at ho
        obtain rfl:=Option.some.inj ho
        obtain rfl:=Option.some.inj hr
        refine stepL 1 (⟨some (IsI 6),[]⟩::[]) rfl ⟨hg,hs,hd⟩ (by kernel_rfl) ⟨aI rfl rfl,trivial⟩ [⟨4,IsI 6⟩,⟨0,fun _ k=>RefO r b lv ov iv k⟩] (fun b' q p=>⟨p.ou 0 4 rfl,D.grow p.grow,trivial⟩) ?_
        rintro a k ⟨hB,i4,D,_⟩
        replace D:RefO r b lv ov iv k:=D
        refine wp_ret ?_
        exact wr1 _ _ (fin hB ⟨_,_,_,D,ws⟩ i4 rfl)
      rw [if_neg (by rw [hc]; decide)] at ho
      obtain rfl:=Option.some.inj ho
      clear i34 hc
      refine wp_skip ?_
      refine region (a0:=a) (k0:=k) (n:=127) (m:=18) (_::⟨some (Is (ptrV b)),[(35,some 0)]⟩::⟨some (IsAdr b 1),[(36,some 1)]⟩::⟨some (Is lv),[(37,some 2)]⟩::_::_::⟨some (Is (ptrV b)),[(40,some 5)]⟩::⟨some (IsAdr b 1),[(41,some 6)]⟩::⟨some (Is lv),[(42,some 7)]⟩::_::⟨some (IsPtr x),[(43,some 8),(44,some 9)]⟩::⟨some (IsPtr x.Held),[(45,some 10)]⟩::⟨some (IsV x.Held),[(46,some 11)]⟩::⟨some (IsPtr p_.N),[(3,none)]⟩::⟨some (IsV p_.N),[(48,some 13)]⟩::⟨some (IsV u),[(47,some 12),(49,some 14)]⟩::⟨some (IsAdrO lv (i.toNat * Enc.sz Lease)),[(38,some 3),(39,some 4)]⟩::⟨some (IsAdrO lv (i.toNat * Enc.sz Lease + 2)),[(51,some 16)]⟩::[]) hmix hs (by kernel_rfl)
        ⟨mu rfl i0,ob1 rfl fun _ _ g n=>ok_nilCheckV rfl ⟨_,n.1⟩ n.1,ob1 rfl fun _ _ g n=>ok_fieldAdr rfl fo64_1 n.1,ob1 rfl fun _ _ g n=>ok_loadC rfl ty32r n.1 (D.grow g).box rfl,mu rfl i5,mu rfl i0,ob1 rfl fun _ _ g n=>ok_nilCheckV rfl ⟨_,n.1⟩ n.1,ob1 rfl fun _ _ g n=>ok_fieldAdr rfl fo64_1 n.1,ob1 rfl fun _ _ g n=>ok_loadC rfl ty32r n.1 (D.grow g).box rfl,mu rfl i5,
         ob1 rfl fun a' _ g n=>ok_indexAddr rfl Tryd.underlying32 ty43 (by rw [show a'.eval (.tmp 43) = lv from n.1]; exact (D.grow g).ol.rd) n.2.1 hx,ob1 rfl fun a' _ g n=>ok_fieldAddr rfl fo43_2 (at_Lease_2 _) n.1,ob1 rfl fun _ _ g n=>ok_load rfl ty3 n.1,ob1 rfl fun _ _ g n=>ok_fieldAddr rfl fo47_4 (at_Portion_4 _) (up i3 g n.1).ptr,ob1 rfl fun _ _ g n=>ok_load rfl ty3 n.1,ob1 rfl fun _ _ g n=>ok_add rfl n.1 n.2.1 hu,
         ob1 rfl fun a' _ g n=>ok_indexO rfl Tryd.underlying32 ty43 (B:=0) (e:=43) (xs:=r.L) ⟨n.1,by rw [show a'.eval (.tmp 38) = lv from n.1]; exact (D.grow g).ol⟩ n.2.1 hx,ob1 rfl fun _ _ g n=>ok_fieldAdrO rfl fo43_2 n.1,trivial⟩ W1 fun b' q p=>?_
      have hgq:=hg.then p.grow
      have Dq:=D.grow p.grow
      have ju:IsV u (b'.get 50) q:=p.ou 15 50 rfl
      have jp:IsAdrO lv (i.toNat * Enc.sz Lease + 2) (b'.get 52) q:=p.ou 17 52 rfl
      have l0:=p.ke 0 rfl i0
      have l3:=p.ke 3 rfl i3
      refine tail_storeS (i:=18) (m:=i.toNat) rfl rfl rfl rfl szf3 upd_F43_2 jp Dq.ol hxi ju fun q2 hch hz=>?_
      have hw:Wr (RFP b lv iv) k0 (obF lv):=fun c hc=>.inl (.inr (.inl hc))
      exact tail_done (k:=q2) (w1 _ _ ⟨_,lv,rfl,⟨hgq.step hch hw,p.size.trans hs,p.defers.trans hd⟩,l0,Pers.pers (hch.le Dq.ol.nshF) l3,⟨Dq.box.keep hch Dq.n1 Dq.ol.nshF,hz,Pers.pers (hch.le Dq.ol.nshF) Dq.oo,Dq.oi.keep hch (fun c h1 h2=>Dq.ap c h2 h1) Dq.ol.nshF,Dq.n1,Dq.n2,Dq.ap⟩,ws⟩)
    rw [if_neg (by rw [hc]; decide)] at ho
    clear i5 i22 hc
    obtain ⟨l0,hl0,ho⟩:=bind_some ho
    obtain ⟨f1,hf1,ho⟩:=bind_some ho
    refine wp_seq ?_
    refine cut (fun a' k'=>Bs (RFP b lv iv) k0 127 a' k'∧Is (ptrV b) (a'.get 0) k'∧IsRef p_ (a'.get 3) k'∧IsL r.L (a'.get 6) k'∧RefO r b lv ov iv k') ?_ trivial ?_
    · intro Q2 W2 w2
      refine gS 5 (_::⟨some (Is (ptrV b)),[(53,some 0)]⟩::⟨some (IsAdr b 1),[(54,some 1)]⟩::⟨some (Is lv),[(55,some 2)]⟩::⟨some (IsL r.L),[(56,some 3)]⟩::[]) hs (by kernel_rfl) ⟨mu rfl i0,ob1 rfl fun _ _ g n=>ok_nilCheckV rfl ⟨_,n.1⟩ n.1,ob1 rfl fun _ _ g n=>ok_fieldAdr rfl fo64_1 n.1,ob1 rfl fun _ _ g n=>ok_loadC rfl ty32r n.1 (D.grow g).box rfl,ob1 rfl fun a' _ h n=>ok_len rfl rfl Tryd.underlying32 (by rw [show a'.eval (.tmp 56) = lv from n.1]; exact (D.grow h).ol.rd),trivial⟩ W2 fun b' q p=>?_
      have j57:IsL r.L (b'.get 57) q:=p.ou 4 57 rfl
      have l0:=p.ke 0 rfl i0
      have l3:=p.ke 3 rfl i3
      refine tail_assign (i:=5) (d:=6) rfl rfl (.inl rfl) rfl (by rw [p.size,hs]; decide) fun b3 hsz3 hdf3 e3 hoth3=>?_
      exact tail_done (k:=q) (w2 _ _ ⟨⟨hg.then p.grow,hsz3.trans (p.size.trans hs),hdf3.trans (p.defers.trans hd)⟩,by rw [hoth3 0 (by decide)]; exact l0,by rw [hoth3 3 (by decide)]; exact l3,by rw [show b3.get 6 = b'.get 57 from e3]; exact j57,D.grow p.grow⟩)
    clear i0 i3 D hg hs hd
    rintro a k ⟨⟨hg,hs,hd⟩,i0,i3,i6,D⟩
    -- one more lease
    refine wp_seq ?_
    refine cut (fun a' k' => ∃ lv', Bs (RFP b lv iv) k0 127 a' k' ∧ Is (ptrV b) (a'.get 0) k' ∧ IsRef p_ (a'.get 3) k' ∧ IsL r.L (a'.get 6) k' ∧ RefO { r with L := l0 } b lv' ov iv k' ∧ Lo k0 (obF lv')) ?_ trivial ?_
    · intro Q2 W2 w2
      refine gS 9 (_::⟨some IsE0,[]⟩::_::⟨some (Is (ptrV b)),[(60,some 2)]⟩::⟨some (IsAdr b 1),[(61,some 3)]⟩::⟨some (Is lv),[(62,some 4)]⟩::⟨some (IsOwn k.w.heap.size 43 r.L),[(59,some 1),(63,some 5)]⟩::⟨some (IsV zL),[]⟩::⟨some (IsV [zL]),[(65,some 7)]⟩::[]) hs (by kernel_rfl) ⟨mu rfl i0,ob1 rfl fun _ _ g n=>ok_buildSlice0 rfl Tryd.underlying32 eo43,mu rfl i0,ob1 rfl fun _ _ g n=>ok_nilCheckV rfl ⟨_,n.1⟩ n.1,ob1 rfl fun _ _ g n=>ok_fieldAdr rfl fo64_1 n.1,ob1 rfl fun _ _ g n=>ok_loadC rfl ty32r n.1 (D.grow g).box rfl,ob1 rfl fun a' _ g n=>ok_append0 rfl Tryd.underlying32 eo43 g.size n.1 (by rw [show a'.eval (.tmp 63) = lv from n.2.1]; exact (D.grow g).ol.rd) (appI_nil hl0),ob1 rfl fun _ _ g n=>ok_build (ps:=[]) rfl bld43_,ob1 rfl fun _ _ g n=>ok_buildSlice rfl Tryd.underlying32 eo43 rfl (by decide) (by decide) ⟨rfl,n.1,trivial⟩,trivial⟩ W2 fun b' q p=>?_
      have hgq:=hg.then p.grow
      have hsb:=p.size.trans hs
      have Dq:=D.grow p.grow
      have j58:Is (ptrV b) (b'.get 58) q:=p.ou 0 58 rfl
      have j64:IsOwn k.w.heap.size 43 r.L (b'.get 64) q:=p.ou 6 64 rfl
      have j66:IsV [zL] (b'.get 66) q:=p.ou 8 66 rfl
      have m0:=p.ke 0 rfl i0
      have m3:=p.ke 3 rfl i3
      have m6:=p.ke 6 rfl i6
      have lo64 : ∀ c,obF (b'.get 64) c → k.w.heap.size ≤ c:=fun c hc=>(j64.lt c hc).1
      have hgk:k.w.heap.size ≤ q.w.heap.size:=p.grow.size
      refine tail_appendS (i:=9) (d:=67) rfl rfl rfl rfl (by rw [hsb]; decide) (e:=43) Tryd.underlying32 eo43 (j64.weaken (Nat.zero_le _)) (IsV.rd j66) hl0 fun b2 q2 hsz hdf hoth hch hown hob=>?_
      replace hch:Chg (obF (b'.get 64)) q q2:=hch
      replace hob : ∀ c,obF (b2.get 67) c → obF (b'.get 64) c ∨ q.w.heap.size ≤ c:=hob
      have hnh : ∀ c,obF (b'.get 64) c → ¬ q.sh c:=(j64.weaken (Nat.zero_le _)).nshF
      have wh:Wr (RFP b lv iv) k0 (obF (b'.get 64)):=fun c hc=>.inr (Nat.le_trans hg.size (lo64 c hc))
      have hap:Apart (RFP b lv iv) (obF (b'.get 64)):=fun c hc hc'=>by have:=(D.lt c hc).1; have:=lo64 c hc'; omega
      have D2:=Dq.keep hch hap hnh
      have hgq2:=hgq.step hch wh
      refine tail_does (i:=10) (d:=68) (R:=Is (ptrV b)) rfl rfl rfl (by rw [hsz,hsb]; decide) W2 (ok_nilCheckV rfl ⟨_,(hoth 58 (by decide)).trans j58⟩ ((hoth 58 (by decide)).trans j58)) fun b3 q3 hsz3 hdf3 hoth3 hg3 j68=>?_
      refine tail_does (i:=11) (d:=69) (R:=IsAdr b 1) rfl rfl rfl (by rw [hsz3,hsz,hsb]; decide) W2 (ok_fieldAdr rfl fo64_1 j68) fun b4 q4 hsz4 hdf4 hoth4 hg4 j69=>?_
      have hg34:=hg3.trans hg4
      have e67:b4.get 67 = b2.get 67:=(hoth4 67 (by decide)).trans (hoth3 67 (by decide))
      have hown4:IsOwn 0 43 l0 (b2.get 67) q4:=Mono.mono hg34 hown
      have lo67 : ∀ c,obF (b2.get 67) c → k.w.heap.size ≤ c:=fun c hc=>(hob c hc).elim (lo64 c) (fun h=>Nat.le_trans hgk h)
      have D4:=D2.grow hg34
      refine tail_storeC (i:=12) (off:=1) (w:=b2.get 67) rfl rfl rfl rfl (by kernel_rfl) (by decide) j69 D4.box e67 (own_one hown) fun q6 hch6 hz6=>?_
      have hsh6 : ∀ c,b = c → ¬ q4.sh c:=fun c e=>e ▸ D4.box.own
      have hbn : ¬ obF (b2.get 67) b:=fun hc=>by have:=(D.lt b (.inl rfl)).1; have:=lo67 _ hc; omega
      have D6:RefO { r with L:=l0 } b (b2.get 67) ov iv q6:=⟨hz6,hown4.keep hch6 (fun c hc e=>hbn (e ▸ hc)) hsh6,Pers.pers (hch6.le hsh6) D4.oo,D4.oi.keep hch6 (fun c hc e=>D4.n2 (e ▸ hc)) hsh6,hbn,D4.n2,fun c hc hc'=>by have:=(D.lt c (.inr (.inr hc'))).1; have:=lo67 _ hc; omega⟩
      refine tail_done (k:=q6) (w2 _ _ ⟨_,⟨(hgq2.then hg34).step hch6 wb,by rw [hsz4,hsz3,hsz,hsb],by rw [hdf4,hdf3,hdf,p.defers,hd]⟩,?_,?_,?_,D6,fun c hc=>Nat.le_trans hg.size (lo67 c hc)⟩)
      · rw [hoth4 0 (by decide),hoth3 0 (by decide),hoth 0 (by decide)]; exact m0
      · rw [hoth4 3 (by decide), hoth3 3 (by decide), hoth 3 (by decide)]
        exact Pers.pers (hch6.le hsh6) (Mono.mono hg34 (Pers.pers (hch.le hnh) m3))
      · rw [hoth4 6 (by decide), hoth3 6 (by decide), hoth 6 (by decide)]
        exact Pers.pers (hch6.le hsh6) (Mono.mono hg34 (Pers.pers (hch.le hnh) m6))
    clear i0 i3 i6 D hg hs hd
    rintro a k ⟨lv', ⟨hg, hs, hd⟩, i0, i3, i6, D, hlo⟩
    have wl:Wr (RFP b lv iv) k0 (obF lv'):=fun c hc=>.inr (hlo c hc)
    refine wp_seq ?_
    refine wp_block ?_
    refine cutFe f1 (fun s' c q=>Bs (RFP b lv iv) k0 127 c q∧Is (ptrV b) (c.get 0) q∧IsRef p_ (c.get 3) q∧IsV s'.2 (c.get 6) q∧RefO { r with L:=s'.1 } b lv' ov iv q) (fun i' s' c q=>i' = 0∧Bs (RFP b lv iv) k0 127 c q∧Is (ptrV b) (c.get 0) q∧IsRef p_ (c.get 3) q∧IsV s'.2 (c.get 6) q∧RefO { r with L:=s'.1 } b lv' ov iv q) (fun _ _ _=>False) ?_ trivial ?_ ?_ ?_
    · intro Q2 W2 hgo hex hret
      refine sim_loop ?_ _ _ _ _ _ hf1 ⟨⟨hg,hs,hd⟩,i0,i3,i6,D⟩ Q2 W2 hgo hex hret
      clear ho hf1 hgo hex hret W2 hg hs hd i0 i3 i6 D
      intro s1 fl_ a k hr2 hS Q hQ2 hgo hex hret
      obtain ⟨⟨hg,hs,hd⟩,i0,i3,i6,D⟩:=hS
      unfold refTakeL at hr2
      -- the condition
      have key : ∃ t,(t = true → ∃ j y z,subI s1.2 1 = some j∧getI s1.1 j = some y∧getI s1.1 s1.2 = some z∧fl_ = .go (s1.1.set s1.2.toNat y,j))∧(t = false → fl_ = .ex 0 s1) ∧
          ((decide (0 < s1.2) = false∧t = false) ∨ (decide (0 < s1.2) = true∧∃ j y,subI s1.2 1 = some j∧getI s1.1 j = some y∧t = (!(bLt y.Cap p_.Cap || y.Cap.toList == p_.Cap.toList)))):=by
        cases hm:decide (0 < s1.2) with
        | false =>
          rw [hm] at hr2
          exact ⟨false,by simp,fun _=>(Option.some.inj hr2).symm,.inl ⟨rfl,rfl⟩⟩
        | true =>
          rw [hm,if_pos rfl] at hr2
          obtain ⟨j,hj,hr2⟩:=bind_some hr2
          obtain ⟨y,hy,hr2⟩:=bind_some hr2
          refine ⟨_,fun ht=>?_,fun ht=>?_,.inr ⟨rfl,j,y,hj,hy,rfl⟩⟩
          · rw [if_pos ht] at hr2
            obtain ⟨z,hz,hr2⟩:=bind_some hr2
            exact ⟨j,y,z,hj,hy,hz,(Option.some.inj hr2).symm⟩
          · rw [if_neg (by rw [ht]; decide)] at hr2
            exact (Option.some.inj hr2).symm
      obtain ⟨t,ht1,ht2,hcase⟩:=key
      refine wp_seq ?_
      refine wp_seq ?_
      refine cut (fun a' k'=>Bs (RFP b lv iv) k0 127 a' k'∧Is (ptrV b) (a'.get 0) k'∧IsRef p_ (a'.get 3) k'∧IsV s1.2 (a'.get 6) k'∧IsV t (a'.get 85) k'∧RefO { r with L:=s1.1 } b lv' ov iv k') ?_ hQ2 ?_
      · intro Q3 W3 w3
        rcases hcase with ⟨hm,htf⟩ | ⟨hm,j,y,hj,hy,htt⟩
        · refine region (a0 := a) (k0 := k) (n := 127) (m := 16) (_ :: ⟨some (IsV (decide (0 < s1.2))), [(70, some 0)]⟩ :: _ :: ⟨none, []⟩ :: ⟨none, []⟩ :: ⟨none, []⟩ :: ⟨none, []⟩ :: ⟨none, []⟩ :: ⟨none, []⟩ :: ⟨none, []⟩ :: ⟨none, []⟩ :: ⟨none, []⟩ :: ⟨none, []⟩ :: ⟨none, []⟩ :: ⟨none, []⟩ :: ⟨some (IsV t), [(72, some 2)]⟩ :: []) hmix hs (by kernel_rfl)
            ⟨mu rfl i6,ob1 rfl fun _ _ g n=>ok_gtr rfl n.1 (Gb.cI rfl),cm 1 rfl rfl,guardF hm,guardF hm,guardF hm,guardF hm,guardF hm,guardF hm,guardF hm,guardF hm,guardF hm,guardF hm,guardF hm,guardF hm,ob1 rfl fun b q hk hn=>ok_cast htf.symm (ok_pick_f rfl hn.1 hm (isV_bool.2 rfl)),trivial⟩ W3 fun b' q p=>?_
          exact tail_done (k:=q) (w3 _ _ ⟨Bs.post ⟨hg,hs,hd⟩ p,p.ke 0 rfl i0,p.ke 3 rfl i3,p.ke 6 rfl i6,p.ou 15 85 rfl,D.grow p.grow⟩)
        · refine region (a0 := a) (k0 := k) (n := 127) (m := 16) (_ :: ⟨some (IsV (decide (0 < s1.2))), [(70, some 0)]⟩ :: _ :: ⟨some (Is (ptrV b)), [(0, none)]⟩ :: ⟨some (Is (ptrV b)), [(73, some 3)]⟩ :: ⟨some (IsAdr b 1), [(74, some 4)]⟩ :: ⟨some (Is lv'), [(75, some 5)]⟩ :: ⟨some (IsV s1.2), [(6, none)]⟩ :: ⟨some (IsV j), [(77, some 7)]⟩ :: ⟨some (IsPtr y), [(76, some 6), (78, some 8)]⟩ :: ⟨some (IsPtr y.Cap), [(79, some 9)]⟩ :: ⟨some (IsV y.Cap), [(80, some 10)]⟩ :: ⟨some (IsPtr p_.Cap), [(3, none)]⟩ :: ⟨some (IsV p_.Cap), [(82, some 12)]⟩ :: ⟨some (IsV (!(bLt y.Cap p_.Cap || y.Cap.toList == p_.Cap.toList))), [(81, some 11), (83, some 13)]⟩ :: ⟨some (IsV t), [(72, some 2), (84, some 14)]⟩ :: []) hmix hs (by kernel_rfl)
            ⟨mu rfl i6,ob1 rfl fun _ _ g n=>ok_gtr rfl n.1 (Gb.cI rfl),cm 1 rfl rfl,
            ⟨inferInstance,.inl ⟨fun b q hk hn=>ok_move rfl (up i0 hk hn.1),guardT hm⟩⟩,⟨inferInstance,.inl ⟨fun b q hk hn=>ok_nilCheckV rfl ⟨_,hn.1⟩ hn.1,guardT hm⟩⟩,⟨inferInstance,.inl ⟨fun b q hk hn=>ok_fieldAdr rfl fo64_1 hn.1,guardT hm⟩⟩,⟨inferInstance,.inl ⟨fun b q hk hn=>ok_loadC rfl ty32r hn.1 (D.grow hk).box rfl,guardT hm⟩⟩,⟨inferInstance,.inl ⟨fun b q hk hn=>ok_move rfl (up i6 hk hn.1),guardT hm⟩⟩,⟨inferInstance,.inl ⟨fun b q hk hn=>ok_sub rfl hn.1 (Gb.cI rfl) hj,guardT hm⟩⟩,
            ⟨inferInstance,.inl ⟨fun a' q hk hn=>ok_indexAddr rfl Tryd.underlying32 ty43 (by rw [show a'.eval (.tmp 76) = lv' from hn.1]; exact (D.grow hk).ol.rd) hn.2.1 hy,guardT hm⟩⟩,⟨inferInstance,.inl ⟨fun b q hk hn=>ok_fieldAddr rfl fo43_0 (at_Lease_0 _) hn.1,guardT hm⟩⟩,⟨inferInstance,.inl ⟨fun b q hk hn=>ok_load rfl ty9 hn.1,guardT hm⟩⟩,⟨inferInstance,.inl ⟨fun b q hk hn=>ok_fieldAddr rfl fo47_0 (at_Portion_0 _) (up i3 hk hn.1).ptr,guardT hm⟩⟩,⟨inferInstance,.inl ⟨fun b q hk hn=>ok_load rfl ty9 hn.1,guardT hm⟩⟩,⟨inferInstance,.inl ⟨fun b q hk hn=>ok_gtS rfl hn.1 hn.2.1,guardT hm⟩⟩,
            ob1 rfl fun b q hk hn=>ok_cast htt.symm (ok_pick_t rfl hn.1 hm hn.2.1),trivial⟩ W3 fun b' q p=>?_
          exact tail_done (k:=q) (w3 _ _ ⟨Bs.post ⟨hg,hs,hd⟩ p,p.ke 0 rfl i0,p.ke 3 rfl i3,p.ke 6 rfl i6,p.ou 15 85 rfl,D.grow p.grow⟩)
      clear i0 i3 i6 D hg hs hd
      rintro a k ⟨⟨hg,hs,hd⟩,i0,i3,i6,i85,D⟩
      refine wp_cond_split (isBool i85) (fun hc=>?_) (fun hc=>?_)
      · obtain ⟨j, y, z, hj, hy, hz, rfl⟩ := ht1 hc
        obtain ⟨h0,hzi,_,_⟩:=getI_spec hz
        refine wp_skip ?_
        refine wp_block ?_
        refine wp_seq ?_
        refine cut (fun a' k'=>Bs (RFP b lv iv) k0 127 a' k'∧Is (ptrV b) (a'.get 0) k'∧IsRef p_ (a'.get 3) k'∧IsV s1.2 (a'.get 6) k'∧RefO { r with L:=s1.1.set s1.2.toNat y } b lv' ov iv k') ?_ hQ2 ?_
        · intro Q3 W3 w3
          refine region (a0:=a) (k0:=k) (n:=127) (m:=14) (_::⟨some (Is (ptrV b)),[(86,some 0)]⟩::⟨some (IsAdr b 1),[(87,some 1)]⟩::⟨some (Is lv'),[(88,some 2)]⟩::_::_::⟨some (Is (ptrV b)),[(91,some 5)]⟩::⟨some (IsAdr b 1),[(92,some 6)]⟩::⟨some (Is lv'),[(93,some 7)]⟩::_::⟨some (IsV j),[(95,some 9)]⟩::⟨some (IsPtr y),[(94,some 8),(96,some 10)]⟩::⟨some (IsV y),[(97,some 11)]⟩::⟨some (IsAdrO lv' (s1.2.toNat * Enc.sz Lease)),[(89,some 3),(90,some 4)]⟩::[]) hmix hs (by kernel_rfl)
            ⟨mu rfl i0,ob1 rfl fun _ _ g n=>ok_nilCheckV rfl ⟨_,n.1⟩ n.1,ob1 rfl fun _ _ g n=>ok_fieldAdr rfl fo64_1 n.1,ob1 rfl fun _ _ g n=>ok_loadC rfl ty32r n.1 (D.grow g).box rfl,mu rfl i6,mu rfl i0,ob1 rfl fun _ _ g n=>ok_nilCheckV rfl ⟨_,n.1⟩ n.1,ob1 rfl fun _ _ g n=>ok_fieldAdr rfl fo64_1 n.1,ob1 rfl fun _ _ g n=>ok_loadC rfl ty32r n.1 (D.grow g).box rfl,mu rfl i6,ob1 rfl fun _ _ g n=>ok_sub rfl n.1 (Gb.cI rfl) hj,
             ob1 rfl fun a' _ g n=>ok_indexAddr rfl Tryd.underlying32 ty43 (by rw [show a'.eval (.tmp 94) = lv' from n.1]; exact (D.grow g).ol.rd) n.2.1 hy,ob1 rfl fun _ _ g n=>ok_load rfl ty43 n.1,
             ob1 rfl fun a' _ g n=>ok_indexO rfl Tryd.underlying32 ty43 (B:=0) (e:=43) (xs:=s1.1) ⟨n.1,by rw [show a'.eval (.tmp 89) = lv' from n.1]; exact (D.grow g).ol⟩ n.2.1 hz,trivial⟩ W3 fun b' q p=>?_
          have hgq:=hg.then p.grow
          have Dq:=D.grow p.grow
          have ju:IsV y (b'.get 98) q:=p.ou 12 98 rfl
          have jp:IsAdrO lv' (s1.2.toNat * Enc.sz Lease) (b'.get 99) q:=p.ou 13 99 rfl
          have m0:=p.ke 0 rfl i0
          have m3:=p.ke 3 rfl i3
          have m6:=p.ke 6 rfl i6
          refine tail_storeS (i:=14) (m:=s1.2.toNat) (off:=0) rfl rfl rfl rfl szf43 (Upd.self (α:=Lease)) jp Dq.ol hzi ju fun q2 hch hz=>?_
          exact tail_done (k:=q2) (w3 _ _ ⟨⟨hgq.step hch wl,p.size.trans hs,p.defers.trans hd⟩,m0,Pers.pers (hch.le Dq.ol.nshF) m3,Pers.pers (hch.le Dq.ol.nshF) m6,⟨Dq.box.keep hch Dq.n1 Dq.ol.nshF,hz,Pers.pers (hch.le Dq.ol.nshF) Dq.oo,Dq.oi.keep hch (fun c h1 h2=>Dq.ap c h2 h1) Dq.ol.nshF,Dq.n1,Dq.n2,Dq.ap⟩⟩)
        clear i0 i3 i6 D hg hs hd i85
        rintro a k ⟨⟨hg,hs,hd⟩,i0,i3,i6,D⟩
        refine gS 2 (_::⟨some (IsV j),[(100,some 0)]⟩::[]) hs (by kernel_rfl) ⟨mu rfl i6,ob1 rfl fun _ _ g n=>ok_sub rfl n.1 (Gb.cI rfl) hj,trivial⟩ hQ2 fun b' q p=>?_
        have j101:IsV j (b'.get 101) q:=p.ou 1 101 rfl
        have m0:=p.ke 0 rfl i0
        have m3:=p.ke 3 rfl i3
        refine tail_assign (i:=2) (d:=6) rfl rfl (.inl rfl) rfl (by rw [p.size,hs]; decide) fun b3 hsz3 hdf3 e3 hoth3=>?_
        exact tail_done (k:=q) (hgo _ _ _ rfl ⟨⟨hg.then p.grow,hsz3.trans (p.size.trans hs),hdf3.trans (p.defers.trans hd)⟩,by rw [hoth3 0 (by decide)]; exact m0,by rw [hoth3 3 (by decide)]; exact m3,by rw [show b3.get 6 = b'.get 101 from e3]; exact j101,D.grow p.grow⟩)
      · refine wp_exit ?_
        exact hex _ _ _ _ (ht2 hc) ⟨rfl,⟨hg,hs,hd⟩,i0,i3,i6,D⟩
    · exact fun _ _ _ _ h=>h.elim
    · rintro _ _ _ rfl _
      simp at ho
    clear hf1 i0 i3 i6 D hg hs hd
    rintro _ s2 a k rfl ⟨rfl,⟨hg,hs,hd⟩,i0,i3,i6,D⟩
    dsimp only at ho
    obtain ⟨z,hz,ho⟩:=bind_some ho
    obtain rfl:=Option.some.inj ho
    obtain ⟨h0,hzi,_,_⟩:=getI_spec hz
    refine region (a0:=a) (k0:=k) (n:=127) (m:=15) (_::⟨some (Is (ptrV b)),[(102,some 0)]⟩::⟨some (IsAdr b 1),[(103,some 1)]⟩::⟨some (Is lv'),[(104,some 2)]⟩::_::⟨some (IsPtr p_.Cap),[(3,none)]⟩::⟨some (IsV p_.Cap),[(107,some 5)]⟩::_::⟨some (Is (ptrV b)),[(109,some 7)]⟩::⟨some (IsAdr b 0),[(110,some 8)]⟩::⟨some (IsV r.Counter),[(111,some 9)]⟩::⟨some (IsPtr p_.N),[(3,none)]⟩::⟨some (IsV p_.N),[(113,some 11)]⟩::⟨some (IsV (⟨p_.Cap,r.Counter,p_.N,0⟩:Lease)),[(108,some 6),(112,some 10),(114,some 12)]⟩::⟨some (IsAdrO lv' (s2.2.toNat * Enc.sz Lease)),[(105,some 3),(106,some 4)]⟩::[]) hmix hs (by kernel_rfl)
      ⟨mu rfl i0,ob1 rfl fun _ _ g n=>ok_nilCheckV rfl ⟨_,n.1⟩ n.1,ob1 rfl fun _ _ g n=>ok_fieldAdr rfl fo64_1 n.1,ob1 rfl fun _ _ g n=>ok_loadC rfl ty32r n.1 (D.grow g).box rfl,mu rfl i6,ob1 rfl fun _ _ g n=>ok_fieldAddr rfl fo47_0 (at_Portion_0 _) (up i3 g n.1).ptr,ob1 rfl fun _ _ g n=>ok_load rfl ty9 n.1,mu rfl i0,ob1 rfl fun _ _ g n=>ok_nilCheckV rfl ⟨_,n.1⟩ n.1,ob1 rfl fun _ _ g n=>ok_fieldAdr rfl fo64_0 n.1,ob1 rfl fun _ _ g n=>ok_loadI rfl ty3r n.1 (D.grow g).box rfl,ob1 rfl fun _ _ g n=>ok_fieldAddr rfl fo47_4 (at_Portion_4 _) (up i3 g n.1).ptr,ob1 rfl fun _ _ g n=>ok_load rfl ty3 n.1,
       ob1 rfl fun _ _ g m=>ok_build rfl (bld43_0_1_2 m.1 m.2.1 m.2.2.1),
       ob1 rfl fun a' _ g n=>ok_indexO rfl Tryd.underlying32 ty43 (B:=0) (e:=43) (xs:=s2.1) ⟨n.1,by rw [show a'.eval (.tmp 105) = lv' from n.1]; exact (D.grow g).ol⟩ n.2.1 hz,trivial⟩ W1 fun b' q p=>?_
    have hgq:=hg.then p.grow
    have Dq:=D.grow p.grow
    have ju:IsV (⟨p_.Cap,r.Counter,p_.N,0⟩:Lease) (b'.get 115) q:=p.ou 13 115 rfl
    have jp:IsAdrO lv' (s2.2.toNat * Enc.sz Lease) (b'.get 116) q:=p.ou 14 116 rfl
    have m0:=p.ke 0 rfl i0
    have m3:=p.ke 3 rfl i3
    refine tail_storeS (i:=15) (m:=s2.2.toNat) (off:=0) rfl rfl rfl rfl szf43 (Upd.self (α:=Lease)) jp Dq.ol hzi ju fun q2 hch hz=>?_
    exact tail_done (k := q2) (w1 _ _ ⟨_, lv', rfl, ⟨hgq.step hch wl, p.size.trans hs, p.defers.trans hd⟩, m0, Pers.pers (hch.le Dq.ol.nshF) m3, ⟨Dq.box.keep hch Dq.n1 Dq.ol.nshF, hz, Pers.pers (hch.le Dq.ol.nshF) Dq.oo, Dq.oi.keep hch (fun c h1 h2 => Dq.ap c h2 h1) Dq.ol.nshF, Dq.n1, Dq.n2, Dq.ap⟩, fun c hc => by
      rcases hc with rfl | hc | hc
      · exact .inl (.inl rfl)
      · exact wl c hc
      · exact .inl (.inr (.inr hc))⟩)
  clear i0 i3 i5 D hg hs hd
  rintro a k ⟨r1, lv', rfl, ⟨hg, hs, hd⟩, i0, i3, D, wt⟩
  dsimp only at hr
  obtain ⟨I,hI,hr⟩:=bind_some hr
  obtain rfl:=Option.some.inj hr
  refine wp_seq ?_
  refine cut (fun a' k' => Bs (RFP b lv iv) k0 127 a' k' ∧ ∃ iv', RefO { r1 with In := I } b lv' ov iv' k' ∧ Wr (RFP b lv iv) k0 (RFP b lv' iv')) ?_ hQ ?_
  · intro Q1 W1 w1
    refine region_mid (a0:=a) (k0:=k) (n:=127) (m:=7) (⟨some (Is (ptrV b)),[(0,none)]⟩::⟨some (Is (ptrV b)),[(0,none)]⟩::⟨some (Is (ptrV b)),[(118,some 1)]⟩::⟨some (IsAdr b 4),[(119,some 2)]⟩::⟨some (OwnAt iv 0 47 r1.In),[(120,some 3)]⟩::⟨some (IsV p_),[(3,none)]⟩::⟨some (IsV [p_]),[(122,some 5)]⟩::[]) [0] [7,8,9,10] hmix hs (by kernel_rfl) ⟨mu rfl i0,mu rfl i0,ob1 rfl fun _ _ g n=>ok_nilCheckV rfl ⟨_,n.1⟩ n.1,ob1 rfl fun _ _ g n=>ok_fieldAdr rfl fo64_4 n.1,ob1 rfl fun _ _ g n=>does_weak (ok_loadC rfl ty28r n.1 (D.grow g).box rfl) fun v k' g' hv=>⟨hv,by rw [show v = iv from hv]; exact Mono.mono (g.trans g') D.oi⟩,ob1 rfl fun _ _ g n=>ok_load rfl ty47 (up i3 g n.1).ptr,ob1 rfl fun _ _ g n=>ok_buildSlice rfl Tryd.underlying28 eo47 rfl (by decide) (by decide) ⟨rfl,n.1,trivial⟩,trivial⟩ W1 ?_ fun b' q p=>?_
    · intro l hl hlm e he
      simp only [List.mem_cons,List.not_mem_nil,or_false] at hl
      subst hl
      obtain rfl:=Option.some.inj he
      exact ⟨_,rfl,fun k g=>i0⟩
    have hgq:=hg.then p.grow
    have hsb:=p.size.trans hs
    have Dq:=D.grow p.grow
    have j117:b'.get 117 = ptrV b:=p.val 0 117 _ _ (by decide) rfl rfl
    have j121:OwnAt iv 0 47 r1.In (b'.get 121) q:=p.val 4 121 _ _ (by decide) rfl rfl
    have j123:IsV [p_] (b'.get 123) q:=p.val 6 123 _ _ (by decide) rfl rfl
    have eh:b'.eval (.tmp 121) = iv:=j121.1
    refine tail_appendS (i:=7) (d:=124) rfl rfl rfl rfl (by rw [hsb]; decide) (e:=47) Tryd.underlying28 eo47 j121.2 (IsV.rd j123) hI fun b2 q2 hsz hdf hoth hch hown hob=>?_
    rw [eh] at hch hob
    have hnh : ∀ c,obF iv c → ¬ q.sh c:=Dq.oi.nshF
    have wh:Wr (RFP b lv iv) k0 (obF iv):=fun c hc=>.inl (.inr (.inr hc))
    have box2:=Dq.box.keep hch Dq.n2 hnh
    have ol2:=Dq.ol.keep hch (fun c h1 h2=>Dq.ap c h1 h2) hnh
    have oo2:=Pers.pers (hch.le hnh) Dq.oo
    have hgq2:=hgq.step hch wh
    have hRq : ∀ c,RFP b lv' iv c → c < q.w.heap.size:=fun c hc=>(Dq.lt c hc).1
    refine tail_does (i:=8) (d:=125) (R:=Is (ptrV b)) rfl rfl rfl (by rw [hsz,hsb]; decide) W1 (ok_nilCheckV rfl ⟨_,(hoth 117 (by decide)).trans j117⟩ ((hoth 117 (by decide)).trans j117)) fun b3 q3 hsz3 hdf3 hoth3 hg3 j125=>?_
    refine tail_does (i:=9) (d:=126) (R:=IsAdr b 4) rfl rfl rfl (by rw [hsz3,hsz,hsb]; decide) W1 (ok_fieldAdr rfl fo64_4 j125) fun b4 q4 hsz4 hdf4 hoth4 hg4 j126=>?_
    have hg34:=hg3.trans hg4
    have box4:=box2.grow hg34
    have e124:b4.get 124 = b2.get 124:=(hoth4 124 (by decide)).trans (hoth3 124 (by decide))
    have hown4:IsOwn 0 47 I (b2.get 124) q4:=Mono.mono hg34 hown
    refine tail_storeC (i:=10) (off:=4) (w:=b2.get 124) rfl rfl rfl rfl (by kernel_rfl) (by decide) j126 box4 e124 (own_one hown) fun q5 hch5 hz5=>?_
    have hsh5 : ∀ c,b = c → ¬ q4.sh c:=fun c e=>e ▸ box4.own
    have hbn : ¬ obF (b2.get 124) b:=fun hc=>(hob b hc).elim Dq.n2 (fun h=>by have:=hRq b (.inl rfl); omega)
    have D5:RefO { r1 with In:=I } b lv' ov (b2.get 124) q5:=⟨hz5,(Mono.mono hg34 ol2).keep hch5 (fun c hc e=>Dq.n1 (e ▸ hc)) hsh5,Pers.pers (hch5.le hsh5) (Mono.mono hg34 oo2),hown4.keep hch5 (fun c hc e=>hbn (e ▸ hc)) hsh5,Dq.n1,hbn,fun c hc hc'=>(hob c hc').elim (Dq.ap c hc) (fun h=>by have:=hRq c (.inr (.inl hc)); omega)⟩
    refine tail_done (k:=q5) (w1 _ _ ⟨⟨(hgq2.then hg34).step hch5 wb,by rw [hsz4,hsz3,hsz,hsb],by rw [hdf4,hdf3,hdf,p.defers,hd]⟩,_,D5,fun c hc=>?_⟩)
    rcases hc with rfl | hc | hc
    · exact .inl (.inl rfl)
    · exact wt c (.inr (.inl hc))
    · rcases hob c hc with hc | hc
      · exact .inl (.inr (.inr hc))
      · exact .inr (Nat.le_trans hgq.size hc)
  clear i0 i3 D hg hs hd
  rintro a k ⟨⟨hg, hs, hd⟩, iv', D, wt'⟩
  refine stepL 1 (⟨some (IsI 0),[]⟩::[]) rfl ⟨hg,hs,hd⟩ (by kernel_rfl) ⟨aI rfl rfl,trivial⟩ [⟨4,IsI 0⟩,⟨0,fun _ k=>RefO { r1 with In:=I } b lv' ov iv' k⟩] (fun b' q p=>⟨p.ou 0 4 rfl,D.grow p.grow,trivial⟩) ?_
  rintro a k ⟨hB,i4,D,_⟩
  replace D:RefO { r1 with In:=I } b lv' ov iv' k:=D
  refine wp_ret ?_
  exact fin hB ⟨_,_,_,D,wt'⟩ i4 rfl

end Go.Proofs.YtljfakcblkdhbaaDoor

namespace Go.Proofs.YtljfakcblkdhbaaDoor
open Go.Gb
set_option linter.unusedVariables false
set_option linter.unusedSimpArgs false
set_option linter.unusedSectionVars false
set_option maxRecDepth 100000
/-! The reference's Hear. -/
theorem isL_one {α:Type} [Enc α] {xs:List α} {v:Value} {k:K} (h:IsV xs v k):v.oneCell' = true:=by
  rcases isV_list.1 h with ⟨rfl,_⟩ | ⟨_,rfl,_⟩ | ⟨_,_,_,rfl,_⟩ <;> rfl
def refHearL (O:List Portion) (p:Portion) (s:List Portion × Int):Option (Flow (List Portion × Int) Unit):=
  if decide (s.2 < (O.length:Int)) then (getI O s.2).bind fun x=>
    (if (((!(x.Cap.toList == p.Cap.toList)) || x.Number != p.Number) || x.To != p.From) then appI s.1 [x] else some s.1).bind fun l=>(addI s.2 1).bind fun i=>some (.go (l,i))
  else some (.ex 0 s)
def refBad (p:Portion):Bool:=(((((!(decide (0 ≤ p.From) && decide (p.From < 8))) || !(decide (0 ≤ p.To) && decide (p.To < 8))) || p.From == p.To) || decide (p.Number < 1)) || decide (p.N < 0)) || decide (1099511627776 < p.N)
def refHear (r:Ref46Desk) (p:Portion):Option (Ref46Desk × Portion × Bool × Int):=
  if refBad p then some (r,zP,false,1) else
  if p.To != r.Counter then some (r,zP,false,24) else
  if p.N == 0 then (iterL (refHearL r.Out p) 1000001 ([],0)).bind fun f=>match f with
    | .ex _ s=>some ({ r with Out:=s.1 },zP,false,0)
    | _=>none
  else (refTook r p.From p.Number).bind fun t=>(if (!t) then refTake r p else some (r,0)).bind fun q=>if q.2 != 0 then some (q.1,zP,false,q.2) else some (q.1,⟨p.Cap,q.1.Counter,p.From,p.Number,0⟩,true,0)
theorem refHear_ok {k0:K} {r:Ref46Desk} {b:Nat} {lv ov iv v1:Value} {p_:Portion} {res:Ref46Desk × Portion × Bool × Int} (D:RefO r b lv ov iv k0) (hG:GOk tb k0) (i1:IsV p_ v1 k0) (hr:refHear r p_ = some res) :
    Calls Tryd.prog 32 #[ptrV b,v1] k0.w (RetC (RFP b lv iv) k0 fun u k=>RefT res.1 b (RFP b lv iv) k0 k∧IsTup3 (IsV res.2.1) (IsV res.2.2.1) (IsV res.2.2.2) u k):=by
  unfold refHear at hr
  refine enterK Tryd.func32 rfl Tryd.ntmps32 (show 2 ≤ 124 by decide) fun a k hk0 hs hd ha=>?_
  obtain ⟨e0,e1,_⟩:=ha
  have i0:Is (ptrV b) (a.get 0) k:=e0
  replace i1:IsV p_ (a.get 1) k:=by rw [e1,hk0]; exact i1
  have hQ:Gb.LetsOut (bodyPost Tryd.prog Tryd.f32 (RetC (RFP b lv iv) k0 fun u k=>RefT res.1 b (RFP b lv iv) k0 k∧IsTup3 (IsV res.2.1) (IsV res.2.2.1) (IsV res.2.2.2) u k)):=letsOutC
  have hg:Chg (RFP b lv iv) k0 k:=by rw [hk0]; exact Chg.refl _ k0
  have hlt0 : ∀ c,RFP b lv iv c → c < k0.w.heap.size∧¬ k0.sh c:=D.lt
  replace D:RefO r b lv ov iv k:=by rw [hk0]; exact D
  have glob : ∀ {k:K},Chg (RFP b lv iv) k0 k → GOk tb k:=fun g=>hG.le (g.le fun c hc=>(hlt0 c hc).2)
  clear e0 e1
  have ws:Wr (RFP b lv iv) k0 (RFP b lv iv):=fun c hc=>.inl hc
  have wb:Wr (RFP b lv iv) k0 (Eq b):=fun c e=>.inl (.inl e.symm)
  have fin : ∀ {a : Act} {k : K} {r' : Ref46Desk} {p : Portion} {t : Bool} {e : Int} {b4 : Nat}, Bs (RFP b lv iv) k0 124 a k → RefT r' b (RFP b lv iv) k0 k → a.get 4 = ptrV b4 → Box b4 p k → IsV t (a.get 5) k → IsV e (a.get 6) k → res = (r', p, t, e) → bodyPost Tryd.prog Tryd.f32 (RetC (RFP b lv iv) k0 fun u k => RefT res.1 b (RFP b lv iv) k0 k ∧ IsTup3 (IsV res.2.1) (IsV res.2.2.1) (IsV res.2.2.2) u k) .ret a k.w := by
    intro a k r' p t e b4 hB hD e4 hb i5 i6 er
    subst er
    exact rturn3 rfl hB.d hB.g (resCell e4 hb) i5 i6 hD
  refine wp_seq ?_
  refine cut (fun a' k'=>∃ b4,Bs (RFP b lv iv) k0 124 a' k'∧Is (ptrV b) (a'.get 0) k'∧IsRef p_ (a'.get 3) k'∧a'.get 4 = ptrV b4∧Box b4 zP k'∧k0.w.heap.size ≤ b4∧RefO r b lv ov iv k') ?_ hQ ?_
  · intro Q1 W1 w1
    refine gS 4 (⟨some (IsRef p_),[(1,none)]⟩::⟨some (IsBox k.w.heap.size zP),[]⟩::⟨some (IsV false),[]⟩::⟨some (IsI 0),[]⟩::[]) hs (by kernel_rfl) ⟨ob1 rfl fun _ _ g n=>ok_boxR rfl (up i1 g n.1),ob1 rfl fun _ _ g n=>ok_alloc _ g.size rfl z47,ob1 rfl fun _ _ g n=>ok_assign rfl (isV_bool.2 rfl),aI rfl rfl,trivial⟩ W1 fun b' q p=>?_
    obtain ⟨b4,e4,lo4,z4⟩:IsBox k.w.heap.size zP (b'.get 4) q:=p.ou 1 4 rfl
    exact tail_done (k:=q) (w1 _ _ ⟨b4,Bs.post ⟨hg,hs,hd⟩ p,p.ke 0 rfl i0,p.ou 0 3 rfl,e4,z4,Nat.le_trans hg.size lo4,D.grow p.grow⟩)
  clear i0 i1 D hg hs hd
  rintro a k ⟨b4,⟨hg,hs,hd⟩,i0,i3,i4,z4,lo4,D⟩
  replace i4:Is (ptrV b4) (a.get 4) k:=i4
  have hn4 : ¬ RFP b lv iv b4:=fun hc=>by have:=(hlt0 b4 hc).1; omega
  have w4:Wr (RFP b lv iv) k0 (Eq b4):=fun c e=>.inr (e ▸ lo4)
  have out4 : ∀ {k k' : K} {y:Portion} {r' : Ref46Desk} {lv' ov' iv' : Value},¬ RFP b lv' iv' b4 → Box b4 y k → RefO r' b lv' ov' iv' k → Chg (Eq b4) k k' → RefO r' b lv' ov' iv' k':=fun hn hb D g=>D.keep g (fun c hc e=>hn (e ▸ hc)) (fun c e=>e ▸ hb.own)
  -- an answer without a message
  refine wp_seq ?_
  have hG1:=glob hg
  refine stepL 32 (⟨some (IsPtr p_.From),[(3,none)]⟩::⟨some (IsV p_.From),[(11,some 0)]⟩::⟨some (IsV (decide (0 ≤ p_.From) && decide (p_.From < 8))),[(12,some 1)]⟩::⟨some (IsV (!(decide (0 ≤ p_.From) && decide (p_.From < 8)))),[(13,some 2)]⟩::_ ::
    ⟨some (Gd ((!(decide (0 ≤ p_.From) && decide (p_.From < 8))) = false) (IsPtr p_.To)),[(3,none)]⟩::⟨some (Gd ((!(decide (0 ≤ p_.From) && decide (p_.From < 8))) = false) (IsV p_.To)),[(16,some 5)]⟩::⟨some (Gd ((!(decide (0 ≤ p_.From) && decide (p_.From < 8))) = false) (IsV (decide (0 ≤ p_.To) && decide (p_.To < 8)))),[(17,some 6)]⟩::⟨some (Gd ((!(decide (0 ≤ p_.From) && decide (p_.From < 8))) = false) (IsV (!(decide (0 ≤ p_.To) && decide (p_.To < 8))))),[(18,some 7)]⟩::⟨some (IsV ((!(decide (0 ≤ p_.From) && decide (p_.From < 8))) || !(decide (0 ≤ p_.To) && decide (p_.To < 8)))),[(15,some 4),(19,some 8)]⟩::_ ::
    ⟨some (Gd (((!(decide (0 ≤ p_.From) && decide (p_.From < 8))) || !(decide (0 ≤ p_.To) && decide (p_.To < 8))) = false) (IsPtr p_.From)),[(3,none)]⟩::⟨some (Gd (((!(decide (0 ≤ p_.From) && decide (p_.From < 8))) || !(decide (0 ≤ p_.To) && decide (p_.To < 8))) = false) (IsV p_.From)),[(22,some 11)]⟩::⟨some (Gd (((!(decide (0 ≤ p_.From) && decide (p_.From < 8))) || !(decide (0 ≤ p_.To) && decide (p_.To < 8))) = false) (IsPtr p_.To)),[(3,none)]⟩::⟨some (Gd (((!(decide (0 ≤ p_.From) && decide (p_.From < 8))) || !(decide (0 ≤ p_.To) && decide (p_.To < 8))) = false) (IsV p_.To)),[(24,some 13)]⟩::⟨some (Gd (((!(decide (0 ≤ p_.From) && decide (p_.From < 8))) || !(decide (0 ≤ p_.To) && decide (p_.To < 8))) = false) (IsV (p_.From == p_.To))),[(23,some 12),(25,some 14)]⟩ ::
    ⟨some (IsV (((!(decide (0 ≤ p_.From) && decide (p_.From < 8))) || !(decide (0 ≤ p_.To) && decide (p_.To < 8))) || p_.From == p_.To)),[(21,some 10),(26,some 15)]⟩::_ ::
    ⟨some (Gd ((((!(decide (0 ≤ p_.From) && decide (p_.From < 8))) || !(decide (0 ≤ p_.To) && decide (p_.To < 8))) || p_.From == p_.To) = false) (IsPtr p_.Number)),[(3,none)]⟩::⟨some (Gd ((((!(decide (0 ≤ p_.From) && decide (p_.From < 8))) || !(decide (0 ≤ p_.To) && decide (p_.To < 8))) || p_.From == p_.To) = false) (IsV p_.Number)),[(29,some 18)]⟩::⟨some (Gd ((((!(decide (0 ≤ p_.From) && decide (p_.From < 8))) || !(decide (0 ≤ p_.To) && decide (p_.To < 8))) || p_.From == p_.To) = false) (IsV (decide (p_.Number < 1)))),[(30,some 19)]⟩ ::
    ⟨some (IsV ((((!(decide (0 ≤ p_.From) && decide (p_.From < 8))) || !(decide (0 ≤ p_.To) && decide (p_.To < 8))) || p_.From == p_.To) || decide (p_.Number < 1))),[(28,some 17),(31,some 20)]⟩::_ ::
    ⟨some (Gd (((((!(decide (0 ≤ p_.From) && decide (p_.From < 8))) || !(decide (0 ≤ p_.To) && decide (p_.To < 8))) || p_.From == p_.To) || decide (p_.Number < 1)) = false) (IsPtr p_.N)),[(3,none)]⟩::⟨some (Gd (((((!(decide (0 ≤ p_.From) && decide (p_.From < 8))) || !(decide (0 ≤ p_.To) && decide (p_.To < 8))) || p_.From == p_.To) || decide (p_.Number < 1)) = false) (IsV p_.N)),[(34,some 23)]⟩::⟨some (Gd (((((!(decide (0 ≤ p_.From) && decide (p_.From < 8))) || !(decide (0 ≤ p_.To) && decide (p_.To < 8))) || p_.From == p_.To) || decide (p_.Number < 1)) = false) (IsV (decide (p_.N < 0)))),[(35,some 24)]⟩ ::
    ⟨some (IsV (((((!(decide (0 ≤ p_.From) && decide (p_.From < 8))) || !(decide (0 ≤ p_.To) && decide (p_.To < 8))) || p_.From == p_.To) || decide (p_.Number < 1)) || decide (p_.N < 0))),[(33,some 22),(36,some 25)]⟩::_ ::
    ⟨some (Gd ((((((!(decide (0 ≤ p_.From) && decide (p_.From < 8))) || !(decide (0 ≤ p_.To) && decide (p_.To < 8))) || p_.From == p_.To) || decide (p_.Number < 1)) || decide (p_.N < 0)) = false) (IsPtr p_.N)),[(3,none)]⟩::⟨some (Gd ((((((!(decide (0 ≤ p_.From) && decide (p_.From < 8))) || !(decide (0 ≤ p_.To) && decide (p_.To < 8))) || p_.From == p_.To) || decide (p_.Number < 1)) || decide (p_.N < 0)) = false) (IsV p_.N)),[(39,some 28)]⟩::⟨some (Gd ((((((!(decide (0 ≤ p_.From) && decide (p_.From < 8))) || !(decide (0 ≤ p_.To) && decide (p_.To < 8))) || p_.From == p_.To) || decide (p_.Number < 1)) || decide (p_.N < 0)) = false) (IsV (decide (1099511627776 < p_.N)))),[(40,some 29)]⟩ ::
    ⟨some (IsV (refBad p_)),[(38,some 27),(41,some 30)]⟩::[]) rfl ⟨hg,hs,hd⟩ (by kernel_rfl)
    ⟨ob1 rfl fun _ _ g n=>ok_fieldAddr rfl fo47_1 (at_Portion_1 _) (up i3 g n.1).ptr,ob1 rfl fun _ _ g n=>ok_load rfl ty3 n.1,ob1 rfl fun _ _ g n=>ok_call rfl Tryd.call46 (refCounter_ok (hG1.le g.le) n.1),ob1 rfl fun _ _ g n=>ok_not rfl n.1,cm 3 rfl rfl,
     gF [(3,none)] rfl rfl fun hp _ _ g n=>ok_fieldAddr rfl fo47_2 (at_Portion_2 _) (up i3 g n.1).ptr,gF [(16,some 5)] rfl rfl fun hp _ _ g n=>ok_load rfl ty3 (Gd.get n.1 hp),gF [(17,some 6)] rfl rfl fun hp _ _ g n=>ok_call rfl Tryd.call46 (refCounter_ok (hG1.le g.le) (Gd.get n.1 hp)),gF [(18,some 7)] rfl rfl fun hp _ _ g n=>ok_not rfl (Gd.get n.1 hp),o1 [(15,some 4),(19,some 8)] rfl fun _ _ h n=>ok_pickOr rfl n.1 (Gb.cB rfl) (Gd.get n.2.1),cm 9 rfl rfl,
     gF [(3,none)] rfl rfl fun hp _ _ g n=>ok_fieldAddr rfl fo47_1 (at_Portion_1 _) (up i3 g n.1).ptr,gF [(22,some 11)] rfl rfl fun hp _ _ g n=>ok_load rfl ty3 (Gd.get n.1 hp),gF [(3,none)] rfl rfl fun hp _ _ g n=>ok_fieldAddr rfl fo47_2 (at_Portion_2 _) (up i3 g n.1).ptr,gF [(24,some 13)] rfl rfl fun hp _ _ g n=>ok_load rfl ty3 (Gd.get n.1 hp),gF [(23,some 12),(25,some 14)] rfl rfl fun hp _ _ g n=>ok_eqI rfl (Gd.get n.1 hp) (Gd.get n.2.1 hp),o1 [(21,some 10),(26,some 15)] rfl fun _ _ h n=>ok_pickOr rfl n.1 (Gb.cB rfl) (Gd.get n.2.1),cm 16 rfl rfl,
     gF [(3,none)] rfl rfl fun hp _ _ g n=>ok_fieldAddr rfl fo47_3 (at_Portion_3 _) (up i3 g n.1).ptr,gF [(29,some 18)] rfl rfl fun hp _ _ g n=>ok_load rfl ty3 (Gd.get n.1 hp),gF [(30,some 19)] rfl rfl fun hp _ _ g n=>ok_lss rfl (Gd.get n.1 hp) (Gb.cI rfl),o1 [(28,some 17),(31,some 20)] rfl fun _ _ h n=>ok_pickOr rfl n.1 (Gb.cB rfl) (Gd.get n.2.1),cm 21 rfl rfl,
     gF [(3,none)] rfl rfl fun hp _ _ g n=>ok_fieldAddr rfl fo47_4 (at_Portion_4 _) (up i3 g n.1).ptr,gF [(34,some 23)] rfl rfl fun hp _ _ g n=>ok_load rfl ty3 (Gd.get n.1 hp),gF [(35,some 24)] rfl rfl fun hp _ _ g n=>ok_lss rfl (Gd.get n.1 hp) (Gb.cI rfl),o1 [(33,some 22),(36,some 25)] rfl fun _ _ h n=>ok_pickOr rfl n.1 (Gb.cB rfl) (Gd.get n.2.1),cm 26 rfl rfl,
     gF [(3,none)] rfl rfl fun hp _ _ g n=>ok_fieldAddr rfl fo47_4 (at_Portion_4 _) (up i3 g n.1).ptr,gF [(39,some 28)] rfl rfl fun hp _ _ g n=>ok_load rfl ty3 (Gd.get n.1 hp),gF [(40,some 29)] rfl rfl fun hp _ _ g n=>ok_gtr rfl (Gd.get n.1 hp) (Gb.cI rfl),o1 [(38,some 27),(41,some 30)] rfl fun _ _ h n=>ok_pickOr rfl n.1 (Gb.cB rfl) (Gd.get n.2.1),trivial⟩
    [⟨0,Is (ptrV b)⟩,⟨3,IsRef p_⟩,⟨4,Is (ptrV b4)⟩,⟨42,IsV (refBad p_)⟩,⟨0,fun _ k=>RefO r b lv ov iv k∧Box b4 zP k⟩] (fun b' q p=>⟨p.ke 0 rfl i0,p.ke 3 rfl i3,p.ke 4 rfl i4,p.ou 31 42 rfl,⟨D.grow p.grow,z4.grow p.grow⟩,trivial⟩) ?_
  clear i0 i3 i4 D z4 hg hs hd hG1
  rintro a k ⟨⟨hg,hs,hd⟩,i0,i3,i4,i42,⟨D,z4⟩,_⟩
  refine wp_cond_split (isBool i42) (fun hc=>?_) (fun hc=>?_)
  · rw [if_pos hc] at hr
    obtain rfl:=Option.some.inj hr
    refine wp_seq ?_
    refine cut (fun a' k'=>Bs (RFP b lv iv) k0 124 a' k'∧Is (ptrV b4) (a'.get 4) k'∧Box b4 zP k'∧RefO r b lv ov iv k'∧IsV false (a'.get 5) k'∧IsV (1:Int) (a'.get 6) k') ?_ hQ ?_
    · intro Q1 W1 w1
      refine gS 1 (⟨some (IsV zP),[]⟩::[]) hs (by kernel_rfl) ⟨ob1 rfl fun _ _ g n=>ok_build (ps:=[]) rfl bld47_,trivial⟩ W1 fun b' q p=>?_
      have hgq:=hg.then p.grow
      have z4q:=z4.grow p.grow
      have Dq:=D.grow p.grow
      have e4:b'.get 4 = ptrV b4:=(p.old 4 rfl).trans i4
      have j43:IsV zP (b'.get 43) q:=p.ou 0 43 rfl
      refine tail_storeB (i:=1) rfl rfl rfl rfl szf47 (Upd.self (α:=Portion)) e4 z4q j43 fun q2 hch hz=>?_
      refine tail_assign (i:=2) (d:=5) rfl rfl (.inl rfl) rfl (by rw [p.size,hs]; decide) fun b2 hsz2 hdf2 e2 hoth2=>?_
      refine tail_assign (i:=3) (d:=6) rfl rfl (.inl rfl) rfl (by rw [hsz2,p.size,hs]; decide) fun b3 hsz3 hdf3 e3 hoth3=>?_
      exact tail_done (k:=q2) (w1 _ _ ⟨⟨hgq.step hch w4,by rw [hsz3,hsz2,p.size,hs],by rw [hdf3,hdf2,p.defers,hd]⟩,(hoth3 4 (by decide)).trans ((hoth2 4 (by decide)).trans e4),hz,out4 hn4 z4q Dq hch,isV_bool.2 ((hoth3 5 (by decide)).trans e2),isV_int.2 e3⟩)
    rintro a k ⟨hB,i4,z4,D,i5,i6⟩
    refine wp_ret ?_
    exact fin hB ⟨_,_,_,D,ws⟩ i4 z4 i5 i6 rfl
  rw [if_neg (by rw [hc]; decide)] at hr
  clear i42 hc
  refine wp_skip ?_
  refine wp_seq ?_
  refine wp_seq ?_
  refine cut (fun a' k'=>Bs (RFP b lv iv) k0 124 a' k'∧Is (ptrV b) (a'.get 0) k'∧IsRef p_ (a'.get 3) k'∧Is (ptrV b4) (a'.get 4) k'∧Box b4 zP k'∧RefO r b lv ov iv k'∧IsV (p_.To != r.Counter) (a'.get 50) k') ?_ hQ ?_
  · intro Q1 W1 w1
    refine region (a0:=a) (k0:=k) (n:=124) (m:=7) (⟨some (IsPtr p_.To),[(3,none)]⟩::⟨some (IsV p_.To),[(44,some 0)]⟩::_::⟨some (Is (ptrV b)),[(46,some 2)]⟩::⟨some (IsAdr b 0),[(47,some 3)]⟩::⟨some (IsV r.Counter),[(48,some 4)]⟩::⟨some (IsV (p_.To != r.Counter)),[(45,some 1),(49,some 5)]⟩::[]) hmix hs (by kernel_rfl) ⟨ob1 rfl fun _ _ g n=>ok_fieldAddr rfl fo47_2 (at_Portion_2 _) (up i3 g n.1).ptr,ob1 rfl fun _ _ g n=>ok_load rfl ty3 n.1,mu rfl i0,ob1 rfl fun _ _ g n=>ok_nilCheckV rfl ⟨_,n.1⟩ n.1,ob1 rfl fun _ _ g n=>ok_fieldAdr rfl fo64_0 n.1,ob1 rfl fun _ _ g n=>ok_loadI rfl ty3r n.1 (D.grow g).box rfl,ob1 rfl fun _ _ g n=>ok_neI rfl n.1 n.2.1,trivial⟩ W1 fun b' q p=>?_
    exact tail_done (k:=q) (w1 _ _ ⟨Bs.post ⟨hg,hs,hd⟩ p,p.ke 0 rfl i0,p.ke 3 rfl i3,p.ke 4 rfl i4,z4.grow p.grow,D.grow p.grow,p.ou 6 50 rfl⟩)
  clear i0 i3 i4 D z4 hg hs hd
  rintro a k ⟨⟨hg,hs,hd⟩,i0,i3,i4,z4,D,i50⟩
  refine wp_cond_split (isBool i50) (fun hc=>?_) (fun hc=>?_)
  · rw [if_pos hc] at hr
    obtain rfl:=Option.some.inj hr
    refine wp_seq ?_
    refine cut (fun a' k'=>Bs (RFP b lv iv) k0 124 a' k'∧Is (ptrV b4) (a'.get 4) k'∧Box b4 zP k'∧RefO r b lv ov iv k'∧IsV false (a'.get 5) k'∧IsV (24:Int) (a'.get 6) k') ?_ hQ ?_
    · intro Q1 W1 w1
      refine gS 1 (⟨some (IsV zP),[]⟩::[]) hs (by kernel_rfl) ⟨ob1 rfl fun _ _ g n=>ok_build (ps:=[]) rfl bld47_,trivial⟩ W1 fun b' q p=>?_
      have hgq:=hg.then p.grow
      have z4q:=z4.grow p.grow
      have Dq:=D.grow p.grow
      have e4:b'.get 4 = ptrV b4:=(p.old 4 rfl).trans i4
      have j43:IsV zP (b'.get 51) q:=p.ou 0 51 rfl
      refine tail_storeB (i:=1) rfl rfl rfl rfl szf47 (Upd.self (α:=Portion)) e4 z4q j43 fun q2 hch hz=>?_
      refine tail_assign (i:=2) (d:=5) rfl rfl (.inl rfl) rfl (by rw [p.size,hs]; decide) fun b2 hsz2 hdf2 e2 hoth2=>?_
      refine tail_assign (i:=3) (d:=6) rfl rfl (.inl rfl) rfl (by rw [hsz2,p.size,hs]; decide) fun b3 hsz3 hdf3 e3 hoth3=>?_
      exact tail_done (k:=q2) (w1 _ _ ⟨⟨hgq.step hch w4,by rw [hsz3,hsz2,p.size,hs],by rw [hdf3,hdf2,p.defers,hd]⟩,(hoth3 4 (by decide)).trans ((hoth2 4 (by decide)).trans e4),hz,out4 hn4 z4q Dq hch,isV_bool.2 ((hoth3 5 (by decide)).trans e2),isV_int.2 e3⟩)
    rintro a k ⟨hB,i4,z4,D,i5,i6⟩
    refine wp_ret ?_
    exact fin hB ⟨_,_,_,D,ws⟩ i4 z4 i5 i6 rfl
  rw [if_neg (by rw [hc]; simp)] at hr
  clear i50 hc
  refine wp_skip ?_
  refine wp_seq ?_
  refine stepL 3 (⟨some (IsPtr p_.N),[(3,none)]⟩::⟨some (IsV p_.N),[(52,some 0)]⟩::⟨some (IsV (p_.N == 0)),[(53,some 1)]⟩::[]) rfl ⟨hg,hs,hd⟩ (by kernel_rfl) ⟨ob1 rfl fun _ _ g n=>ok_fieldAddr rfl fo47_4 (at_Portion_4 _) (up i3 g n.1).ptr,ob1 rfl fun _ _ g n=>ok_load rfl ty3 n.1,ob1 rfl fun _ _ g n=>ok_eqI rfl n.1 (Gb.cI rfl),trivial⟩
    [⟨0,Is (ptrV b)⟩,⟨3,IsRef p_⟩,⟨4,Is (ptrV b4)⟩,⟨54,IsV (p_.N == 0)⟩,⟨0,fun _ k=>RefO r b lv ov iv k∧Box b4 zP k⟩] (fun b' q p=>⟨p.ke 0 rfl i0,p.ke 3 rfl i3,p.ke 4 rfl i4,p.ou 2 54 rfl,⟨D.grow p.grow,z4.grow p.grow⟩,trivial⟩) ?_
  clear i0 i3 i4 D z4 hg hs hd
  rintro a k ⟨⟨hg,hs,hd⟩,i0,i3,i4,i54,⟨D,z4⟩,_⟩
  refine wp_cond_split (isBool i54) (fun hc=>?_) (fun hc=>?_)
  · -- an acknowledgement
    rw [if_pos hc] at hr
    clear i54 hc
    obtain ⟨f1,hf1,hr⟩:=bind_some hr
    refine stepL 1 (⟨some IsE0,[]⟩::[]) rfl ⟨hg,hs,hd⟩ (by kernel_rfl) ⟨ob1 rfl fun _ _ _ _=>ok_assign rfl isE0_nil,trivial⟩ [⟨0,Is (ptrV b)⟩,⟨3,IsRef p_⟩,⟨4,Is (ptrV b4)⟩,⟨7,IsE0⟩,⟨0,fun _ k=>RefO r b lv ov iv k∧Box b4 zP k⟩] (fun b' q p=>⟨p.ke 0 rfl i0,p.ke 3 rfl i3,p.ke 4 rfl i4,p.ou 0 7 rfl,⟨D.grow p.grow,z4.grow p.grow⟩,trivial⟩) ?_
    clear i0 i3 i4 D z4 hg hs hd
    rintro a k ⟨⟨hg,hs,hd⟩,i0,i3,i4,i7,⟨D,z4⟩,_⟩
    refine wp_seq ?_
    refine stepL 1 (⟨some (IsI 0),[]⟩::[]) rfl ⟨hg,hs,hd⟩ (by kernel_rfl) ⟨aI rfl rfl,trivial⟩ [⟨0,Is (ptrV b)⟩,⟨3,IsRef p_⟩,⟨4,Is (ptrV b4)⟩,⟨7,IsE0⟩,⟨8,IsV (0:Int)⟩,⟨0,fun _ k=>RefO r b lv ov iv k∧Box b4 zP k⟩] (fun b' q p=>⟨p.ke 0 rfl i0,p.ke 3 rfl i3,p.ke 4 rfl i4,p.ke 7 rfl i7,p.ou 0 8 rfl,⟨D.grow p.grow,z4.grow p.grow⟩,trivial⟩) ?_
    clear i0 i3 i4 i7 D z4 hg hs hd
    rintro a k ⟨⟨hg,hs,hd⟩,i0,i3,i4,i7,i8,⟨D,z4⟩,_⟩
    have i7' : IsOwn 0 47 ([]:List Portion) (a.get 7) k:=IsE0.own (show IsE0 (a.get 7) k from i7)
    have lo7:Lo k0 (obF (a.get 7)):=fun c hc=>by
      have:=IsE0.ob (show IsE0 (a.get 7) k from i7)
      simp [obF,this] at hc
    refine wp_block ?_
    refine cutFe f1 (fun s' c q=>Bs (RFP b lv iv) k0 124 c q∧Is (ptrV b) (c.get 0) q∧IsRef p_ (c.get 3) q∧Is (ptrV b4) (c.get 4) q∧IsOwn 0 47 s'.1 (c.get 7) q∧Lo k0 (obF (c.get 7))∧¬ obF (c.get 7) b4∧IsV s'.2 (c.get 8) q∧RefO r b lv ov iv q∧Box b4 zP q) (fun i' s' c q=>i' = 0∧Bs (RFP b lv iv) k0 124 c q∧Is (ptrV b) (c.get 0) q∧IsRef p_ (c.get 3) q∧Is (ptrV b4) (c.get 4) q∧IsOwn 0 47 s'.1 (c.get 7) q∧Lo k0 (obF (c.get 7))∧¬ obF (c.get 7) b4∧IsV s'.2 (c.get 8) q∧RefO r b lv ov iv q∧Box b4 zP q) (fun _ _ _=>False) ?_ hQ ?_ ?_ ?_
    · intro Q1 W1 hgo hex hret
      have hn7 : ¬ obF (a.get 7) b4:=fun hc=>by
        have:=IsE0.ob (show IsE0 (a.get 7) k from i7)
        simp [obF,this] at hc
      refine sim_loop ?_ _ _ _ _ _ hf1 ⟨⟨hg, hs, hd⟩, i0, i3, i4, i7', lo7, hn7, i8, D, z4⟩ Q1 W1 hgo hex hret
      clear hr hf1 hgo hex hret W1 hg hs hd i0 i3 i4 i7 i7' lo7 hn7 i8 D z4
      intro s1 fl_ a k hr hS Q hQ2 hgo hex hret
      obtain ⟨⟨hg,hs,hd⟩,i0,i3,i4,own,lo7,hn7,i8,D,z4⟩:=hS
      unfold refHearL at hr
      generalize hu:a.get 7 = u at own lo7 hn7
      have i7:OwnAt u 0 47 s1.1 (a.get 7) k:=⟨hu,by rw [hu]; exact own⟩
      clear hu own
      refine wp_seq ?_
      refine stepL 7 (_::_::⟨some (Is (ptrV b)),[(56,some 1)]⟩::⟨some (IsAdr b 2),[(57,some 2)]⟩::⟨some (IsV r.Out),[(58,some 3)]⟩::⟨some (IsL r.Out),[(59,some 4)]⟩::⟨some (IsV (decide (s1.2 < (r.Out.length:Int)))),[(55,some 0),(60,some 5)]⟩::[]) rfl ⟨hg,hs,hd⟩ (by kernel_rfl) ⟨mu rfl i8,mu rfl i0,ob1 rfl fun _ _ g n=>ok_nilCheckV rfl ⟨_,n.1⟩ n.1,ob1 rfl fun _ _ g n=>ok_fieldAdr rfl fo64_2 n.1,ob1 rfl fun _ _ g n=>does_weak (ok_loadC rfl ty28r n.1 (D.grow g).box rfl) fun v k' g' hv=>by rw [show v = ov from hv]; exact Mono.mono (g.trans g') D.oo,ob1 rfl fun _ _ h n=>ok_len rfl rfl Tryd.underlying28 (IsV.rd n.1),ob1 rfl fun _ _ h n=>ok_lss rfl n.1 n.2.1,trivial⟩
        [⟨0,Is (ptrV b)⟩,⟨3,IsRef p_⟩,⟨4,Is (ptrV b4)⟩,⟨7,OwnAt u 0 47 s1.1⟩,⟨8,IsV s1.2⟩,⟨61,IsV (decide (s1.2 < (r.Out.length:Int)))⟩,⟨0,fun _ k=>RefO r b lv ov iv k∧Box b4 zP k⟩] (fun b' q p=>⟨p.ke 0 rfl i0,p.ke 3 rfl i3,p.ke 4 rfl i4,p.ke 7 rfl i7,p.ke 8 rfl i8,p.ou 6 61 rfl,⟨D.grow p.grow,z4.grow p.grow⟩,trivial⟩) ?_
      clear i0 i3 i4 i7 i8 D z4 hg hs hd
      rintro a k ⟨⟨hg,hs,hd⟩,i0,i3,i4,i7,i8,i61,⟨D,z4⟩,_⟩
      refine wp_cond_split (isBool i61) (fun hc=>?_) (fun hc=>?_)
      · rw [if_pos hc] at hr
        clear i61 hc
        obtain ⟨x,hx,hr⟩:=bind_some hr
        generalize hcc:(((!(x.Cap.toList == p_.Cap.toList)) || x.Number != p_.Number) || x.To != p_.From) = cc at hr
        obtain ⟨l1,hl1,hr⟩:=bind_some hr
        obtain ⟨j,hj,hr⟩:=bind_some hr
        refine wp_skip ?_
        refine wp_seq ?_
        refine cut (fun a' k'=>Bs (RFP b lv iv) k0 124 a' k'∧Is (ptrV b) (a'.get 0) k'∧IsRef p_ (a'.get 3) k'∧Is (ptrV b4) (a'.get 4) k'∧IsOwn 0 47 l1 (a'.get 7) k'∧Lo k0 (obF (a'.get 7))∧¬ obF (a'.get 7) b4∧IsV s1.2 (a'.get 8) k'∧RefO r b lv ov iv k'∧Box b4 zP k') ?_ hQ2 ?_
        · intro Q2 W2 w2
          refine wp_block ?_
          refine wp_seq ?_
          refine cut (fun a' k'=>Bs (RFP b lv iv) k0 124 a' k'∧Is (ptrV b) (a'.get 0) k'∧IsRef p_ (a'.get 3) k'∧Is (ptrV b4) (a'.get 4) k'∧OwnAt u 0 47 s1.1 (a'.get 7) k'∧IsV s1.2 (a'.get 8) k'∧IsRef x (a'.get 9) k'∧RefO r b lv ov iv k'∧Box b4 zP k') ?_ W2 ?_
          · intro Q3 W3 w3
            refine gS 8 (_::⟨some (Is (ptrV b)),[(64,some 0)]⟩::⟨some (IsAdr b 2),[(65,some 1)]⟩::⟨some (IsV r.Out),[(66,some 2)]⟩::_::⟨some (IsPtr x),[(67,some 3),(68,some 4)]⟩::⟨some (IsV x),[(69,some 5)]⟩::⟨some (IsBox k.w.heap.size zP),[]⟩::[]) hs (by kernel_rfl) ⟨mu rfl i0,ob1 rfl fun _ _ g n=>ok_nilCheckV rfl ⟨_,n.1⟩ n.1,ob1 rfl fun _ _ g n=>ok_fieldAdr rfl fo64_2 n.1,ob1 rfl fun _ _ g n=>does_weak (ok_loadC rfl ty28r n.1 (D.grow g).box rfl) fun v k' g' hv=>by rw [show v = ov from hv]; exact Mono.mono (g.trans g') D.oo,mu rfl i8,ob1 rfl fun _ _ g n=>ok_indexAddr rfl Tryd.underlying28 ty47 (IsV.rd n.1) n.2.1 hx,ob1 rfl fun _ _ g n=>ok_load rfl ty47 n.1,ob1 rfl fun _ _ g n=>ok_alloc _ g.size rfl z47,trivial⟩ W3 fun b' q p=>?_
            obtain ⟨b9,j9,x9,z9⟩:IsBox k.w.heap.size zP (b'.get 9) q:=p.ou 7 9 rfl
            have j70:IsV x (b'.get 70) q:=p.ou 6 70 rfl
            have hgq:=hg.then p.grow
            have Dq:=D.grow p.grow
            have z4q:=z4.grow p.grow
            have m0:=p.ke 0 rfl i0
            have m3:=p.ke 3 rfl i3
            have m4:=p.ke 4 rfl i4
            have m7:OwnAt u 0 47 s1.1 (b'.get 7) q:=p.ke 7 rfl i7
            have m8:=p.ke 8 rfl i8
            have hns:=z9.nshF
            have hlo:Lo k (Eq b9):=Lo.eq x9
            have hap:Apart (RFP b lv iv) (Eq b9):=fun c hc e=>by have:=(D.lt c hc).1; omega
            have h94 : ¬ b9 = b4:=fun e=>by have:=z4.lt; omega
            have hap7:Apart (obF u) (Eq b9):=fun c hc e=>by have:=i7.2.ltF c (by rw [i7.1]; exact hc); omega
            refine tail_storeB (i:=8) rfl rfl rfl rfl szf47 (Upd.self (α:=Portion)) j9 z9 j70 fun q2 hch hz=>?_
            obtain ⟨q3,hsh,jn⟩:=hz.give
            have hgq2:=(hgq.step hch (hlo.chg hg).wr).hand hsh (hlo.chg hg).wr
            have hle:=hch.le hns
            rw [← hsh.w]
            have o7:IsOwn 0 47 s1.1 u q3:=((m7.1 ▸ m7.2:IsOwn 0 47 s1.1 u q).keep hch hap7 hns).handed hsh hap7
            exact tail_done (k:=q3) (w3 _ _ ⟨⟨hgq2,p.size.trans hs,p.defers.trans hd⟩,m0,Pers.pers hsh.le (Pers.pers hle m3),m4,⟨m7.1,by rw [m7.1]; exact o7⟩,isV_int.2 (isV_int.1 m8),by rw [j9]; exact jn,(Dq.keep hch hap hns).handed hsh hap,(z4q.keep hch h94 hns).handed hsh h94⟩)
          clear i0 i3 i4 i7 i8 D z4 hg hs hd
          rintro a k ⟨⟨hg,hs,hd⟩,i0,i3,i4,i7,i8,i9,D,z4⟩
          refine stepL 19 (⟨some (IsPtr x.Cap),[(9,none)]⟩::⟨some (IsV x.Cap),[(71,some 0)]⟩::⟨some (IsPtr p_.Cap),[(3,none)]⟩::⟨some (IsV p_.Cap),[(73,some 2)]⟩::⟨some (IsV (!(x.Cap.toList == p_.Cap.toList))),[(72,some 1),(74,some 3)]⟩::_ ::
            ⟨some (Gd ((!(x.Cap.toList == p_.Cap.toList)) = false) (IsPtr x.Number)),[(9,none)]⟩::⟨some (Gd ((!(x.Cap.toList == p_.Cap.toList)) = false) (IsV x.Number)),[(77,some 6)]⟩::⟨some (Gd ((!(x.Cap.toList == p_.Cap.toList)) = false) (IsPtr p_.Number)),[(3,none)]⟩::⟨some (Gd ((!(x.Cap.toList == p_.Cap.toList)) = false) (IsV p_.Number)),[(79,some 8)]⟩::⟨some (Gd ((!(x.Cap.toList == p_.Cap.toList)) = false) (IsV (x.Number != p_.Number))),[(78,some 7),(80,some 9)]⟩::⟨some (IsV ((!(x.Cap.toList == p_.Cap.toList)) || x.Number != p_.Number)),[(76,some 5),(81,some 10)]⟩::_ ::
            ⟨some (Gd (((!(x.Cap.toList == p_.Cap.toList)) || x.Number != p_.Number) = false) (IsPtr x.To)),[(9,none)]⟩::⟨some (Gd (((!(x.Cap.toList == p_.Cap.toList)) || x.Number != p_.Number) = false) (IsV x.To)),[(84,some 13)]⟩::⟨some (Gd (((!(x.Cap.toList == p_.Cap.toList)) || x.Number != p_.Number) = false) (IsPtr p_.From)),[(3,none)]⟩::⟨some (Gd (((!(x.Cap.toList == p_.Cap.toList)) || x.Number != p_.Number) = false) (IsV p_.From)),[(86,some 15)]⟩::⟨some (Gd (((!(x.Cap.toList == p_.Cap.toList)) || x.Number != p_.Number) = false) (IsV (x.To != p_.From))),[(85,some 14),(87,some 16)]⟩::⟨some (IsV (((!(x.Cap.toList == p_.Cap.toList)) || x.Number != p_.Number) || x.To != p_.From)),[(83,some 12),(88,some 17)]⟩::[]) rfl ⟨hg,hs,hd⟩ (by kernel_rfl)
            ⟨ob1 rfl fun _ _ g n=>ok_fieldAddr rfl fo47_0 (at_Portion_0 _) (up i9 g n.1).ptr,ob1 rfl fun _ _ g n=>ok_load rfl ty9 n.1,ob1 rfl fun _ _ g n=>ok_fieldAddr rfl fo47_0 (at_Portion_0 _) (up i3 g n.1).ptr,ob1 rfl fun _ _ g n=>ok_load rfl ty9 n.1,ob1 rfl fun _ _ g n=>ok_neS rfl n.1 n.2.1,cm 4 rfl rfl,
             gF [(9,none)] rfl rfl fun hp _ _ g n=>ok_fieldAddr rfl fo47_3 (at_Portion_3 _) (up i9 g n.1).ptr,gF [(77,some 6)] rfl rfl fun hp _ _ g n=>ok_load rfl ty3 (Gd.get n.1 hp),gF [(3,none)] rfl rfl fun hp _ _ g n=>ok_fieldAddr rfl fo47_3 (at_Portion_3 _) (up i3 g n.1).ptr,gF [(79,some 8)] rfl rfl fun hp _ _ g n=>ok_load rfl ty3 (Gd.get n.1 hp),gF [(78,some 7),(80,some 9)] rfl rfl fun hp _ _ g n=>ok_neI rfl (Gd.get n.1 hp) (Gd.get n.2.1 hp),o1 [(76,some 5),(81,some 10)] rfl fun _ _ h n=>ok_pickOr rfl n.1 (Gb.cB rfl) (Gd.get n.2.1),cm 11 rfl rfl,
             gF [(9,none)] rfl rfl fun hp _ _ g n=>ok_fieldAddr rfl fo47_2 (at_Portion_2 _) (up i9 g n.1).ptr,gF [(84,some 13)] rfl rfl fun hp _ _ g n=>ok_load rfl ty3 (Gd.get n.1 hp),gF [(3,none)] rfl rfl fun hp _ _ g n=>ok_fieldAddr rfl fo47_1 (at_Portion_1 _) (up i3 g n.1).ptr,gF [(86,some 15)] rfl rfl fun hp _ _ g n=>ok_load rfl ty3 (Gd.get n.1 hp),gF [(85,some 14),(87,some 16)] rfl rfl fun hp _ _ g n=>ok_neI rfl (Gd.get n.1 hp) (Gd.get n.2.1 hp),o1 [(83,some 12),(88,some 17)] rfl fun _ _ h n=>ok_pickOr rfl n.1 (Gb.cB rfl) (Gd.get n.2.1),trivial⟩
            [⟨0,Is (ptrV b)⟩,⟨3,IsRef p_⟩,⟨4,Is (ptrV b4)⟩,⟨7,OwnAt u 0 47 s1.1⟩,⟨8,IsV s1.2⟩,⟨9,IsRef x⟩,⟨89,IsV (((!(x.Cap.toList == p_.Cap.toList)) || x.Number != p_.Number) || x.To != p_.From)⟩,⟨0,fun _ k=>RefO r b lv ov iv k∧Box b4 zP k⟩] (fun b' q p=>⟨p.ke 0 rfl i0,p.ke 3 rfl i3,p.ke 4 rfl i4,p.ke 7 rfl i7,p.ke 8 rfl i8,p.ke 9 rfl i9,p.ou 18 89 rfl,⟨D.grow p.grow,z4.grow p.grow⟩,trivial⟩) ?_
          clear i0 i3 i4 i7 i8 i9 D z4 hg hs hd
          rw [hcc]
          rintro a k ⟨⟨hg,hs,hd⟩,i0,i3,i4,i7,i8,i9,i89,⟨D,z4⟩,_⟩
          refine wp_cond_split (isBool i89) (fun hc=>?_) (fun hc=>?_)
          · rw [if_pos hc] at hl1
            refine gS 3 (⟨some (OwnAt u 0 47 s1.1),[(7,none)]⟩::⟨some (IsV x),[(9,none)]⟩::⟨some (IsV [x]),[(91,some 1)]⟩::[]) hs (by kernel_rfl) ⟨ob1 rfl fun _ _ g n=>ok_moveOA (.inl rfl) (up i7 g n.1),ob1 rfl fun _ _ g n=>ok_load rfl ty47 (up i9 g n.1).ptr,ob1 rfl fun _ _ g n=>ok_buildSlice rfl Tryd.underlying28 eo47 rfl (by decide) (by decide) ⟨rfl,n.1,trivial⟩,trivial⟩ W2 fun b' q p=>?_
            have hgq:=hg.then p.grow
            have hsb:=p.size.trans hs
            have Dq:=D.grow p.grow
            have z4q:=z4.grow p.grow
            obtain ⟨e90,j90⟩:OwnAt u 0 47 s1.1 (b'.get 90) q:=p.ou 0 90 rfl
            have j92:IsV [x] (b'.get 92) q:=p.ou 2 92 rfl
            have m0:=p.ke 0 rfl i0
            have m3:=p.ke 3 rfl i3
            have m4:=p.ke 4 rfl i4
            have m8:=p.ke 8 rfl i8
            refine tail_appendS (i:=3) (d:=93) rfl rfl rfl rfl (by rw [hsb]; decide) (e:=47) Tryd.underlying28 eo47 j90 (IsV.rd j92) hl1 fun b2 q2 hsz2 hdf2 hoth2 hch2 hown2 hob2=>?_
            replace hch2:Chg (obF u) q q2:=(show Chg (obF (b'.get 90)) q q2 from hch2) |> fun h=>e90 ▸ h
            replace hob2 : ∀ c,obF (b2.get 93) c → obF u c ∨ q.w.heap.size ≤ c:=fun c hc=>(hob2 c hc).imp (fun h=>by rw [← e90]; exact h) id
            have hns : ∀ c,obF u c → ¬ q.sh c:=fun c hc=>j90.nshF c (by rw [e90]; exact hc)
            have hapR:Apart (RFP b lv iv) (obF u):=fun c hc hc'=>by have:=(hlt0 c hc).1; have:=lo7 c hc'; omega
            refine tail_assign (i:=4) (d:=7) rfl rfl (.inl rfl) rfl (by rw [hsz2,hsb]; decide) fun b3 hsz3 hdf3 e3 hoth3=>?_
            have e7:b3.get 7 = b2.get 93:=e3
            have hgs:=hgq.size
            refine tail_done (k:=q2) (w2 _ _ ⟨⟨hgq.step hch2 lo7.wr,by rw [hsz3,hsz2,hsb],by rw [hdf3,hdf2,p.defers,hd]⟩,?_,?_,?_,by rw [e7]; exact hown2,?_,?_,?_,Dq.keep hch2 hapR hns,z4q.keep hch2 hn7 hns⟩)
            · rw [hoth3 0 (by decide),hoth2 0 (by decide)]; exact m0
            · rw [hoth3 3 (by decide),hoth2 3 (by decide)]; exact Pers.pers (hch2.le hns) m3
            · rw [hoth3 4 (by decide),hoth2 4 (by decide)]; exact m4
            · rw [e7]; exact fun c hc=>(hob2 c hc).elim (lo7 c) (fun h=>Nat.le_trans hgs h)
            · rw [e7]; exact fun hc=>(hob2 b4 hc).elim hn7 (fun h=>by have:=z4q.lt; omega)
            · rw [hoth3 8 (by decide),hoth2 8 (by decide)]; exact isV_int.2 (isV_int.1 m8)
          · rw [if_neg (by rw [hc]; decide)] at hl1
            obtain rfl:=Option.some.inj hl1
            refine wp_skip ?_
            exact w2 _ _ ⟨⟨hg,hs,hd⟩,i0,i3,i4,i7.1 ▸ i7.2,by rw [i7.1]; exact lo7,by rw [i7.1]; exact hn7,i8,D,z4⟩
        clear i0 i3 i4 i7 i8 D z4 hg hs hd lo7 hn7
        rintro a k ⟨⟨hg,hs,hd⟩,i0,i3,i4,own,lo7,hn7,i8,D,z4⟩
        refine gS 2 (_::⟨some (IsV j),[(62,some 0)]⟩::[]) hs (by kernel_rfl) ⟨mu rfl i8,ob1 rfl fun _ _ g n=>ok_add rfl n.1 (Gb.cI rfl) hj,trivial⟩ hQ2 fun b' q p=>?_
        have j63:IsV j (b'.get 63) q:=p.ou 1 63 rfl
        have m0:=p.ke 0 rfl i0
        have m3:=p.ke 3 rfl i3
        have m4:=p.ke 4 rfl i4
        have e7:b'.get 7 = a.get 7:=p.old 7 rfl
        refine tail_assign (i:=2) (d:=8) rfl rfl (.inl rfl) rfl (by rw [p.size,hs]; decide) fun b3 hsz3 hdf3 e3 hoth3=>?_
        refine tail_done (k:=q) (hgo _ _ _ (Option.some.inj hr).symm ⟨⟨hg.then p.grow,hsz3.trans (p.size.trans hs),hdf3.trans (p.defers.trans hd)⟩,by rw [hoth3 0 (by decide)]; exact m0,by rw [hoth3 3 (by decide)]; exact m3,by rw [hoth3 4 (by decide)]; exact m4,?_,?_,?_,by rw [show b3.get 8 = b'.get 63 from e3]; exact j63,D.grow p.grow,z4.grow p.grow⟩)
        · rw [hoth3 7 (by decide),e7]; exact Mono.mono p.grow own
        · rw [hoth3 7 (by decide),e7]; exact lo7
        · rw [hoth3 7 (by decide),e7]; exact hn7
      · rw [if_neg (by rw [hc]; decide)] at hr
        refine wp_exit ?_
        exact hex _ _ _ _ (Option.some.inj hr).symm ⟨rfl,⟨hg,hs,hd⟩,i0,i3,i4,i7.1 ▸ i7.2,by rw [i7.1]; exact lo7,by rw [i7.1]; exact hn7,i8,D,z4⟩
    · exact fun _ _ _ _ h=>h.elim
    · rintro _ _ _ rfl _
      simp at hr
    clear hf1 i0 i3 i4 i7 i7' lo7 i8 D z4 hg hs hd
    rintro _ s2 a k rfl ⟨rfl,⟨hg,hs,hd⟩,i0,i3,i4,own,lo7,hn7,i8,D,z4⟩
    dsimp only at hr
    obtain rfl:=Option.some.inj hr
    obtain ⟨k2,sh,iv7⟩:=own.give
    have hapR:Apart (RFP b lv iv) (obF (a.get 7)):=fun c hc hc'=>by have:=(hlt0 c hc).1; have:=lo7 c hc'; omega
    rw [← sh.w]
    replace hg:=hg.hand sh lo7.wr
    replace D:=D.handed sh hapR
    replace z4:=z4.handed sh hn7
    clear own sh i3 i8
    replace i0:Is (ptrV b) (a.get 0) k2:=i0
    replace i4:Is (ptrV b4) (a.get 4) k2:=i4
    refine wp_seq ?_
    refine cut (fun a' k' => Bs (RFP b lv iv) k0 124 a' k' ∧ Is (ptrV b4) (a'.get 4) k' ∧ Box b4 zP k' ∧ ∃ ov', RefO { r with Out := s2.1 } b lv ov' iv k') ?_ hQ ?_
    · intro Q1 W1 w1
      refine gS 4 (_::_::⟨some (Is (ptrV b)),[(94,some 0)]⟩::⟨some (IsAdr b 2),[(96,some 2)]⟩::[]) hs (by kernel_rfl) ⟨mu rfl i0,mu rfl iv7,ob1 rfl fun _ _ g n=>ok_nilCheckV rfl ⟨_,n.1⟩ n.1,ob1 rfl fun _ _ g n=>ok_fieldAdr rfl fo64_2 n.1,trivial⟩ W1 fun b' q p=>?_
      have hgq:=hg.then p.grow
      have Dq:=D.grow p.grow
      have z4q:=z4.grow p.grow
      have j95:IsV s2.1 (b'.get 95) q:=p.ou 1 95 rfl
      have j97:IsAdr b 2 (b'.get 97) q:=p.ou 3 97 rfl
      have m4:=p.ke 4 rfl i4
      refine tail_storeC (i:=4) (off:=2) (w:=b'.get 95) rfl rfl rfl rfl (by kernel_rfl) (by decide) j97 Dq.box rfl (isL_one j95) fun q2 hch hz=>?_
      have hsh : ∀ c,b = c → ¬ q.sh c:=fun c e=>e ▸ Dq.box.own
      have D2:=Dq.cell (r':={ r with Out:=s2.1 }) (ov':=b'.get 95) hch hz rfl rfl (Pers.pers (hch.le hsh) j95)
      have z42:=z4q.keep hch (fun e=>hn4 (.inl e.symm)) hsh
      exact tail_done (k:=q2) (w1 _ _ ⟨⟨hgq.step hch wb,p.size.trans hs,p.defers.trans hd⟩,m4,z42,_,D2⟩)
    clear i0 i4 D z4 hg hs hd lo7 hn7 iv7 hapR
    rintro a k ⟨⟨hg, hs, hd⟩, i4, z4, ov', D⟩
    refine wp_seq ?_
    refine cut (fun a' k'=>Bs (RFP b lv iv) k0 124 a' k'∧Is (ptrV b4) (a'.get 4) k'∧Box b4 zP k'∧RefO { r with Out:=s2.1 } b lv ov' iv k'∧IsV false (a'.get 5) k'∧IsV (0:Int) (a'.get 6) k') ?_ hQ ?_
    · intro Q1 W1 w1
      refine gS 1 (⟨some (IsV zP),[]⟩::[]) hs (by kernel_rfl) ⟨ob1 rfl fun _ _ g n=>ok_build (ps:=[]) rfl bld47_,trivial⟩ W1 fun b' q p=>?_
      have hgq:=hg.then p.grow
      have z4q:=z4.grow p.grow
      have Dq:=D.grow p.grow
      have e4:b'.get 4 = ptrV b4:=(p.old 4 rfl).trans i4
      have j43:IsV zP (b'.get 98) q:=p.ou 0 98 rfl
      refine tail_storeB (i:=1) rfl rfl rfl rfl szf47 (Upd.self (α:=Portion)) e4 z4q j43 fun q2 hch hz=>?_
      refine tail_assign (i:=2) (d:=5) rfl rfl (.inl rfl) rfl (by rw [p.size,hs]; decide) fun b2 hsz2 hdf2 e2 hoth2=>?_
      refine tail_assign (i:=3) (d:=6) rfl rfl (.inl rfl) rfl (by rw [hsz2,p.size,hs]; decide) fun b3 hsz3 hdf3 e3 hoth3=>?_
      exact tail_done (k:=q2) (w1 _ _ ⟨⟨hgq.step hch w4,by rw [hsz3,hsz2,p.size,hs],by rw [hdf3,hdf2,p.defers,hd]⟩,(hoth3 4 (by decide)).trans ((hoth2 4 (by decide)).trans e4),hz,out4 hn4 z4q Dq hch,isV_bool.2 ((hoth3 5 (by decide)).trans e2),isV_int.2 e3⟩)
    rintro a k ⟨hB,i4,z4,D,i5,i6⟩
    refine wp_ret ?_
    exact fin hB ⟨_,_,_,D,ws⟩ i4 z4 i5 i6 rfl
  -- a portion
  rw [if_neg (by rw [hc]; simp)] at hr
  clear i54 hc
  obtain ⟨t,ht,hr⟩:=bind_some hr
  obtain ⟨q0,hq0,hr⟩:=bind_some hr
  refine wp_skip ?_
  refine cutR (fun a' k' => ∃ lv' ov' iv', q0.2 = 0 ∧ Bs (RFP b lv iv) k0 124 a' k' ∧ Is (ptrV b) (a'.get 0) k' ∧ IsRef p_ (a'.get 3) k' ∧ Is (ptrV b4) (a'.get 4) k' ∧ Box b4 zP k' ∧ RefO q0.1 b lv' ov' iv' k' ∧ Wr (RFP b lv iv) k0 (RFP b lv' iv') ∧ ¬ RFP b lv' iv' b4)
    (fun a' k'=>bodyPost Tryd.prog Tryd.f32 (RetC (RFP b lv iv) k0 fun u k=>RefT res.1 b (RFP b lv iv) k0 k∧IsTup3 (IsV res.2.1) (IsV res.2.2.1) (IsV res.2.2.2) u k) .ret a' k'.w) ?_ ?_ (fun _ _ h=>h)
  · intro Q1 W1 w1 wr1
    have hG2:=glob hg
    refine stepL 7 (_::⟨some (IsPtr p_.From),[(3,none)]⟩::⟨some (IsV p_.From),[(100,some 1)]⟩::⟨some (IsPtr p_.Number),[(3,none)]⟩::⟨some (IsV p_.Number),[(102,some 3)]⟩::⟨some (IsV t),[(99,some 0),(101,some 2),(103,some 4)]⟩::⟨some (IsV (!t)),[(104,some 5)]⟩::[]) rfl ⟨hg,hs,hd⟩ (by kernel_rfl) ⟨mu rfl i0,ob1 rfl fun _ _ g n=>ok_fieldAddr rfl fo47_1 (at_Portion_1 _) (up i3 g n.1).ptr,ob1 rfl fun _ _ g n=>ok_load rfl ty3 n.1,ob1 rfl fun _ _ g n=>ok_fieldAddr rfl fo47_3 (at_Portion_3 _) (up i3 g n.1).ptr,ob1 rfl fun _ _ g n=>ok_load rfl ty3 n.1,ob1 rfl fun a' _ g m=>ok_call rfl Tryd.call33 (by show Calls Tryd.prog 33 #[a'.eval (.tmp 99),a'.eval (.tmp 101),a'.eval (.tmp 103)] _ _; rw [show a'.eval (.tmp 99) = ptrV b from m.1]; exact refTook_ok (D.grow g) (hG2.le g.le) m.2.1 m.2.2.1 ht),ob1 rfl fun _ _ g n=>ok_not rfl n.1,trivial⟩
      [⟨0,Is (ptrV b)⟩,⟨3,IsRef p_⟩,⟨4,Is (ptrV b4)⟩,⟨105,IsV (!t)⟩,⟨0,fun _ k=>RefO r b lv ov iv k∧Box b4 zP k⟩] (fun b' q p=>⟨p.ke 0 rfl i0,p.ke 3 rfl i3,p.ke 4 rfl i4,p.ou 6 105 rfl,⟨D.grow p.grow,z4.grow p.grow⟩,trivial⟩) ?_
    clear i0 i3 i4 D z4 hg hs hd hG2
    rintro a k ⟨⟨hg,hs,hd⟩,i0,i3,i4,i105,⟨D,z4⟩,_⟩
    refine wp_cond_split (isBool i105) (fun hc=>?_) (fun hc=>?_)
    · rw [if_pos hc] at hq0
      have hG3:=glob hg
      refine wp_seq ?_
      refine cut (fun a' k' => ∃ lv' ov' iv', Bs (RFP b lv iv) k0 124 a' k' ∧ Is (ptrV b) (a'.get 0) k' ∧ IsRef p_ (a'.get 3) k' ∧ Is (ptrV b4) (a'.get 4) k' ∧ IsV q0.2 (a'.get 10) k' ∧ Box b4 zP k' ∧ RefO q0.1 b lv' ov' iv' k' ∧ Wr (RFP b lv iv) k0 (RFP b lv' iv') ∧ ¬ RFP b lv' iv' b4) ?_ trivial ?_
      · intro Q2 W2 w2
        refine gS 2 (_::⟨some (IsV p_),[(3,none)]⟩::[]) hs (by kernel_rfl) ⟨mu rfl i0,ob1 rfl fun _ _ g n=>ok_load rfl ty47 (up i3 g n.1).ptr,trivial⟩ W2 fun b' q p=>?_
        have hgq:=hg.then p.grow
        have hsb:=p.size.trans hs
        have Dq:=D.grow p.grow
        have z4q:=z4.grow p.grow
        have j106:Is (ptrV b) (b'.get 106) q:=p.ou 0 106 rfl
        have j107:IsV p_ (b'.get 107) q:=p.ou 1 107 rfl
        have m0:=p.ke 0 rfl i0
        have m3:=p.ke 3 rfl i3
        have m4:=p.ke 4 rfl i4
        refine tail_call (F:=RFP b lv iv) (i:=2) (d:=108) (as_:=[.tmp 106,.tmp 107]) rfl rfl rfl rfl (by rw [hsb]; decide) Tryd.call49 W2 (by show Calls Tryd.prog 49 #[b'.get 106,b'.get 107] _ _; rw [show b'.get 106 = ptrV b from j106]; exact refTake_ok Dq (hG3.le p.grow.le) j107 hq0) fun b2 q2 hsz2 hdf2 hoth2 hch2 hres=>?_
        obtain ⟨⟨lv', ov', iv', D2, hw2⟩, j108⟩ := hres
        have hns : ∀ c,RFP b lv iv c → ¬ q.sh c:=fun c hc=>(Dq.lt c hc).2
        have hgs:=hgq.size
        refine tail_assign (i:=3) (d:=10) rfl rfl (.inl rfl) rfl (by rw [hsz2,hsb]; decide) fun b3 hsz3 hdf3 e3 hoth3=>?_
        refine tail_done (k := q2) (w2 _ _ ⟨lv', ov', iv', ⟨hgq.step hch2 ws, by rw [hsz3, hsz2, hsb], by rw [hdf3, hdf2, p.defers, hd]⟩, ?_, ?_, ?_, by rw [show b3.get 10 = b2.get 108 from e3]; exact j108, z4q.keep hch2 hn4 hns, D2, fun c hc => (hw2 c hc).imp id fun h => Nat.le_trans hgs h, fun hc => (hw2 b4 hc).elim hn4 fun h => by have := z4q.lt; omega⟩)
        · rw [hoth3 0 (by decide),hoth2 0 (by decide)]; exact m0
        · rw [hoth3 3 (by decide),hoth2 3 (by decide)]; exact Pers.pers (hch2.le hns) m3
        · rw [hoth3 4 (by decide),hoth2 4 (by decide)]; exact m4
      clear i0 i3 i4 i105 D z4 hg hs hd
      rintro a k ⟨lv', ov', iv', ⟨hg, hs, hd⟩, i0, i3, i4, i10, z4, D, hw', hn4'⟩
      refine stepL 2 (_::⟨some (IsV (q0.2 != 0)),[(109,some 0)]⟩::[]) rfl ⟨hg,hs,hd⟩ (by kernel_rfl) ⟨mu rfl i10,ob1 rfl fun _ _ g n=>ok_neI rfl n.1 (Gb.cI rfl),trivial⟩
        [⟨0,Is (ptrV b)⟩,⟨3,IsRef p_⟩,⟨4,Is (ptrV b4)⟩,⟨10,IsV q0.2⟩,⟨110,IsV (q0.2 != 0)⟩,⟨0,fun _ k=>RefO q0.1 b lv' ov' iv' k∧Box b4 zP k⟩] (fun b' q p=>⟨p.ke 0 rfl i0,p.ke 3 rfl i3,p.ke 4 rfl i4,p.ke 10 rfl i10,p.ou 1 110 rfl,⟨D.grow p.grow,z4.grow p.grow⟩,trivial⟩) ?_
      clear i0 i3 i4 i10 D z4 hg hs hd
      rintro a k ⟨⟨hg,hs,hd⟩,i0,i3,i4,i10,i110,⟨D,z4⟩,_⟩
      refine wp_cond_split (isBool i110) (fun hc=>?_) (fun hc=>?_)
      · rw [if_pos hc] at hr
        obtain rfl:=Option.some.inj hr
        refine wp_seq ?_
        refine cut (fun a' k'=>Bs (RFP b lv iv) k0 124 a' k'∧Is (ptrV b4) (a'.get 4) k'∧Box b4 zP k'∧RefO q0.1 b lv' ov' iv' k'∧IsV false (a'.get 5) k'∧IsV q0.2 (a'.get 6) k') ?_ trivial ?_
        · intro Q2 W2 w2
          refine gS 2 (⟨some (IsV zP),[]⟩::_::[]) hs (by kernel_rfl) ⟨ob1 rfl fun _ _ g n=>ok_build (ps:=[]) rfl bld47_,mu rfl i10,trivial⟩ W2 fun b' q p=>?_
          have hgq:=hg.then p.grow
          have z4q:=z4.grow p.grow
          have Dq:=D.grow p.grow
          have e4:b'.get 4 = ptrV b4:=(p.old 4 rfl).trans i4
          have j43:IsV zP (b'.get 111) q:=p.ou 0 111 rfl
          have j112:IsV q0.2 (b'.get 112) q:=p.ou 1 112 rfl
          refine tail_storeB (i:=2) rfl rfl rfl rfl szf47 (Upd.self (α:=Portion)) e4 z4q j43 fun q2 hch hz=>?_
          refine tail_assign (i:=3) (d:=5) rfl rfl (.inl rfl) rfl (by rw [p.size,hs]; decide) fun b2 hsz2 hdf2 e2 hoth2=>?_
          refine tail_assign (i:=4) (d:=6) rfl rfl (.inl rfl) rfl (by rw [hsz2,p.size,hs]; decide) fun b3 hsz3 hdf3 e3 hoth3=>?_
          exact tail_done (k:=q2) (w2 _ _ ⟨⟨hgq.step hch w4,by rw [hsz3,hsz2,p.size,hs],by rw [hdf3,hdf2,p.defers,hd]⟩,(hoth3 4 (by decide)).trans ((hoth2 4 (by decide)).trans e4),hz,out4 hn4' z4q Dq hch,isV_bool.2 ((hoth3 5 (by decide)).trans e2),isV_int.2 (e3.trans ((hoth2 112 (by decide)).trans (isV_int.1 j112)))⟩)
        rintro a k ⟨hB,i4,z4,D,i5,i6⟩
        refine wp_ret ?_
        exact wr1 _ _ (fin hB ⟨_,_,_,D,hw'⟩ i4 z4 i5 i6 rfl)
      · refine wp_skip ?_
        exact w1 _ _ ⟨lv', ov', iv', by simpa using hc, ⟨hg, hs, hd⟩, i0, i3, i4, z4, D, hw', hn4'⟩
    · rw [if_neg (by rw [hc]; decide)] at hq0
      obtain rfl:=Option.some.inj hq0
      refine wp_skip ?_
      exact w1 _ _ ⟨lv,ov,iv,rfl,⟨hg,hs,hd⟩,i0,i3,i4,z4,D,ws,hn4⟩
  clear i0 i3 i4 D z4 hg hs hd
  rintro a k ⟨lv', ov', iv', h0, ⟨hg, hs, hd⟩, i0, i3, i4, z4, D, hw', hn4'⟩
  rw [if_neg (by rw [h0]; simp)] at hr
  obtain rfl:=Option.some.inj hr
  refine wp_seq ?_
  refine cut (fun a' k'=>Bs (RFP b lv iv) k0 124 a' k'∧Is (ptrV b4) (a'.get 4) k'∧Box b4 (⟨p_.Cap,q0.1.Counter,p_.From,p_.Number,0⟩:Portion) k'∧RefO q0.1 b lv' ov' iv' k'∧IsV true (a'.get 5) k'∧IsV (0:Int) (a'.get 6) k') ?_ hQ ?_
  · intro Q1 W1 w1
    refine region (a0:=a) (k0:=k) (n:=124) (m:=11) (⟨some (IsPtr p_.Cap),[(3,none)]⟩::⟨some (IsV p_.Cap),[(113,some 0)]⟩::_::⟨some (Is (ptrV b)),[(115,some 2)]⟩::⟨some (IsAdr b 0),[(116,some 3)]⟩::⟨some (IsV q0.1.Counter),[(117,some 4)]⟩::⟨some (IsPtr p_.From),[(3,none)]⟩::⟨some (IsV p_.From),[(119,some 6)]⟩::⟨some (IsPtr p_.Number),[(3,none)]⟩::⟨some (IsV p_.Number),[(121,some 8)]⟩::⟨some (IsV (⟨p_.Cap,q0.1.Counter,p_.From,p_.Number,0⟩:Portion)),[(114,some 1),(118,some 5),(120,some 7),(122,some 9)]⟩::[]) hmix hs (by kernel_rfl)
      ⟨ob1 rfl fun _ _ g n=>ok_fieldAddr rfl fo47_0 (at_Portion_0 _) (up i3 g n.1).ptr,ob1 rfl fun _ _ g n=>ok_load rfl ty9 n.1,mu rfl i0,ob1 rfl fun _ _ g n=>ok_nilCheckV rfl ⟨_,n.1⟩ n.1,ob1 rfl fun _ _ g n=>ok_fieldAdr rfl fo64_0 n.1,ob1 rfl fun _ _ g n=>ok_loadI rfl ty3r n.1 (D.grow g).box rfl,ob1 rfl fun _ _ g n=>ok_fieldAddr rfl fo47_1 (at_Portion_1 _) (up i3 g n.1).ptr,ob1 rfl fun _ _ g n=>ok_load rfl ty3 n.1,ob1 rfl fun _ _ g n=>ok_fieldAddr rfl fo47_3 (at_Portion_3 _) (up i3 g n.1).ptr,ob1 rfl fun _ _ g n=>ok_load rfl ty3 n.1,ob1 rfl fun _ _ g m=>ok_build rfl (bld47_0_1_2_3 m.1 m.2.1 m.2.2.1 m.2.2.2.1),trivial⟩ W1 fun b' q p=>?_
    have hgq:=hg.then p.grow
    have z4q:=z4.grow p.grow
    have Dq:=D.grow p.grow
    have e4:b'.get 4 = ptrV b4:=(p.old 4 rfl).trans i4
    have j123:IsV (⟨p_.Cap,q0.1.Counter,p_.From,p_.Number,0⟩:Portion) (b'.get 123) q:=p.ou 10 123 rfl
    refine tail_storeB (i:=11) rfl rfl rfl rfl szf47 (Upd.self (α:=Portion)) e4 z4q j123 fun q2 hch hz=>?_
    refine tail_assign (i:=12) (d:=5) rfl rfl (.inl rfl) rfl (by rw [p.size,hs]; decide) fun b2 hsz2 hdf2 e2 hoth2=>?_
    refine tail_assign (i:=13) (d:=6) rfl rfl (.inl rfl) rfl (by rw [hsz2,p.size,hs]; decide) fun b3 hsz3 hdf3 e3 hoth3=>?_
    exact tail_done (k:=q2) (w1 _ _ ⟨⟨hgq.step hch w4,by rw [hsz3,hsz2,p.size,hs],by rw [hdf3,hdf2,p.defers,hd]⟩,(hoth3 4 (by decide)).trans ((hoth2 4 (by decide)).trans e4),hz,out4 hn4' z4q Dq hch,isV_bool.2 ((hoth3 5 (by decide)).trans e2),isV_int.2 e3⟩)
  rintro a k ⟨hB,i4,z4,D,i5,i6⟩
  refine wp_ret ?_
  exact fin hB ⟨_,_,_,D,hw'⟩ i4 z4 i5 i6 rfl

end Go.Proofs.YtljfakcblkdhbaaDoor

namespace Go.Proofs.YtljfakcblkdhbaaDoor
open Go.Gb
set_option linter.unusedVariables false
set_option linter.unusedSimpArgs false
set_option linter.unusedSectionVars false
set_option maxRecDepth 100000
/-! The reference's Open. -/
def refBad4 (n:Int) (x:Lease):Bool:=((x.Counter != n || decide (x.Used < 0)) || decide (x.Held < x.Used)) || decide (1099511627776 < x.Held)
def refOpenBad (n:Int) (l:List Lease) (i:Int) (x:Lease):Option Bool:=
  if refBad4 n x then some true else
  if decide (0 < i) then (subI i 1).bind fun j=>(getI l j).bind fun y=>some (!(Op.bytesLess y.Cap.toList x.Cap.toList)) else some false
theorem refOpenBad_spec {n i:Int} {l:List Lease} {x:Lease} {c:Bool} (h:refOpenBad n l i x = some c) : ∃ y7 y8,(refBad4 n x = false∧decide (0 < i) = true → subI i 1 = some y7)∧(refBad4 n x = false∧decide (0 < i) = true → getI l y7 = some y8)∧c = (refBad4 n x || (decide (0 < i) && !(Op.bytesLess y8.Cap.toList x.Cap.toList))):=by
  unfold refOpenBad at h
  cases h4:refBad4 n x with
  | true=>rw [h4,if_pos rfl] at h; exact ⟨0,zL,by simp,by simp,(Option.some.inj h).symm⟩
  | false =>
    rw [h4,if_neg (by decide)] at h
    cases hi:decide (0 < i) with
    | false=>rw [hi,if_neg (by decide)] at h; exact ⟨0,zL,by simp,by simp,(Option.some.inj h).symm⟩
    | true =>
      rw [hi,if_pos rfl] at h
      obtain ⟨j,hj,h⟩:=bind_some h
      obtain ⟨y,hy,h⟩:=bind_some h
      exact ⟨j,y,fun _=>hj,fun _=>hy,(Option.some.inj h).symm⟩
def refOpenL (n:Int) (l:List Lease) (s:Int):Option (Flow Int (Option Ref46Desk × Int)):=
  if decide (s < (l.length:Int)) then (getI l s).bind fun x=>(refOpenBad n l s x).bind fun c=>if c then some (.ret (none,1)) else (addI s 1).bind fun i=>some (.go i)
  else some (.ex 0 s)
def refOpen (n:Int) (l:List Lease):Option (Option Ref46Desk × Int):=
  if (!(decide (0 ≤ n) && decide (n < 8))) || decide (30 < (l.length:Int)) then some (none,1) else
  (iterL (refOpenL n l) 1000 0).bind fun f=>match f with
    | .ex _ _=>(appI [] l).bind fun l1=>some (some ⟨n,l1,[],0,[]⟩,0)
    | .ret r=>some r
    | .go _=>none
def NewRef (k0:K):Option Ref46Desk → Pred
  | none=>Is (.pointer none)
  | some r=>fun v k=>∃ b lv ov iv,v = ptrV b∧RefO r b lv ov iv k∧Lo k0 (RFP b lv iv)
theorem bld64 {k:K} {v0 v1:Value} {n:Int} (e0:v0 = .int .i64 n) (h1:v1.oneCell' = true) :
    ∃ v,(∀ w,(Instr.build 64 #[(0,v0),(1,v1)]).run Tryd.prog w = .ok v w)∧IsV (⟨rcells ⟨n,[],[],0,[]⟩ v1 (.slice none 0 0) (.slice none 0 0)⟩:RawC 5) v k:=by
  subst e0
  refine ⟨.agg #[.int .i64 n,v1,.slice none 0 0,.int .i64 0,.slice none 0 0],fun w=>?_,raw5 rfl (by simp only [rcells,List.mem_cons,List.not_mem_nil,or_false]; rintro v (rfl | rfl | rfl | rfl | rfl) <;> first | exact h1 | rfl)⟩
  have c1:(Value.int .i64 n).cells = #[.int .i64 n]:=rfl
  have c2:v1.cells = #[v1]:=by cases v1 <;> first | rfl | exact absurd h1 (by simp [Value.oneCell'])
  simp [Instr.build,Instr.fill,cells_agg,c1,c2]
theorem refOpen_ok {k0:K} {v0 v1:Value} {n:Int} {l:List Lease} {r:Option Ref46Desk × Int} (hG:GOk tb k0) (i0:IsV n v0 k0) (i1:IsV l v1 k0) (hr:refOpen n l = some r) :
    Calls Tryd.prog 25 #[v0,v1] k0.w (RetC noF k0 (IsTup2 (NewRef k0 r.1) (IsV r.2))):=by
  unfold refOpen at hr
  refine enterK Tryd.func25 rfl Tryd.ntmps25 (show 2 ≤ 68 by decide) fun a k hk0 hs hd ha=>?_
  obtain ⟨e0,e1,_⟩:=ha
  replace i0:IsV n (a.get 0) k:=by rw [e0,hk0]; exact i0
  replace i1:IsV l (a.get 1) k:=by rw [e1,hk0]; exact i1
  have hQ:Gb.LetsOut (bodyPost Tryd.prog Tryd.f25 (RetC noF k0 (IsTup2 (NewRef k0 r.1) (IsV r.2)))):=letsOutC
  have hg:Chg noF k0 k:=by rw [hk0]; exact Chg.refl _ k0
  clear e0 e1
  have stop : ∀ {a:Act} {k:K},Bs noF k0 68 a k → Is (.pointer none) (a.get 4) k → IsV (1:Int) (a.get 5) k → bodyPost Tryd.prog Tryd.f25 (RetC noF k0 (IsTup2 (NewRef k0 none) (IsV (1:Int)))) .ret a k.w:=
    fun hB i4 i5=>retC2 rfl hB.d hB.g (show ResOk _ _ _ (.tmp 4) (NewRef k0 none) from i4) i5
  refine stepL 2 (⟨some (Is (.pointer none)),[]⟩::⟨some (IsI 0),[]⟩::[]) rfl ⟨hg,hs,hd⟩ (by kernel_rfl) ⟨ob1 rfl fun _ _ g n=>ok_assign rfl rfl,aI rfl rfl,trivial⟩ [⟨0,IsV n⟩,⟨1,IsV l⟩] (fun b q p=>⟨p.ke 0 rfl i0,p.ke 1 rfl i1,trivial⟩) ?_
  clear i0 i1 hg hs hd
  rintro a k ⟨⟨hg,hs,hd⟩,i0,i1,_⟩
  have hGk:GOk tb k:=hG.le (hg.le fun _ f=>f.elim)
  refine wp_seq ?_
  refine stepL 8 (_::⟨some (IsV (decide (0 ≤ n) && decide (n < 8))),[(8,some 0)]⟩::⟨some (IsV (!(decide (0 ≤ n) && decide (n < 8)))),[(9,some 1)]⟩::_::_::_::_::_::[]) rfl ⟨hg,hs,hd⟩ (by kernel_rfl) ⟨mu rfl i0,ob1 rfl fun _ _ g n=>ok_call rfl Tryd.call46 (refCounter_ok (hGk.le g.le) n.1),ob1 rfl fun _ _ g n=>ok_not rfl n.1,cm 2 rfl rfl,mF rfl rfl i1,gF [(12,some 4)] rfl rfl fun hp _ _ h n=>ok_len rfl rfl Tryd.underlying32 (IsV.rd (Gd.get n.1 hp)),gF [(13,some 5)] rfl rfl fun hp _ _ h n=>ok_gtr rfl (Gd.get n.1 hp) (Gb.cI rfl),o1 [(11,some 3),(14,some 6)] rfl fun _ _ h n=>ok_pickOr rfl n.1 (Gb.cB rfl) (Gd.get n.2.1),trivial⟩ [⟨0,IsV n⟩,⟨1,IsV l⟩,⟨15,IsV ((!(decide (0 ≤ n) && decide (n < 8))) || decide (30 < (l.length:Int)))⟩] (fun b q p=>⟨p.ke 0 rfl i0,p.ke 1 rfl i1,p.ou 7 15 rfl,trivial⟩) ?_
  clear i0 i1 hg hs hd hGk
  rintro a k ⟨⟨hg,hs,hd⟩,i0,i1,i15,_⟩
  refine wp_cond_split (isBool i15) (fun hc=>?_) (fun hc=>?_)
  · rw [if_pos hc] at hr
    obtain rfl:=Option.some.inj hr
    refine stepL 2 (⟨some (Is (.pointer none)),[]⟩::⟨some (IsI 1),[]⟩::[]) rfl ⟨hg,hs,hd⟩ (by kernel_rfl) ⟨ob1 rfl fun _ _ g n=>ok_assign rfl rfl,aI rfl rfl,trivial⟩ [⟨4,Is (.pointer none)⟩,⟨5,IsI 1⟩] (fun b q p=>⟨p.ou 0 4 rfl,p.ou 1 5 rfl,trivial⟩) ?_
    rintro a k ⟨hB,i4,i5,_⟩
    refine wp_ret ?_
    exact stop hB i4 i5
  rw [if_neg (by rw [hc]; decide)] at hr
  clear i15 hc
  refine wp_skip ?_
  obtain ⟨f1,hf1,hr⟩:=bind_some hr
  refine wp_seq ?_
  refine stepL 1 (⟨some (IsI 0),[]⟩::[]) rfl ⟨hg,hs,hd⟩ (by kernel_rfl) ⟨aI rfl rfl,trivial⟩ [⟨0,IsV n⟩,⟨1,IsV l⟩,⟨6,IsV (0:Int)⟩] (fun b q p=>⟨p.ke 0 rfl i0,p.ke 1 rfl i1,p.ou 0 6 rfl,trivial⟩) ?_
  clear i0 i1 hg hs hd
  rintro a k ⟨⟨hg,hs,hd⟩,i0,i1,i6,_⟩
  refine wp_block ?_
  refine cutFe f1 (fun s' c q=>Bs noF k0 68 c q∧IsV n (c.get 0) q∧IsV l (c.get 1) q∧IsV s' (c.get 6) q) (fun i' s' c q=>i' = 0∧Bs noF k0 68 c q∧IsV n (c.get 0) q∧IsV l (c.get 1) q) (fun r' c q=>bodyPost Tryd.prog Tryd.f25 (RetC noF k0 (IsTup2 (NewRef k0 r'.1) (IsV r'.2))) .ret c q.w) ?_ hQ ?_ ?_ ?_
  · intro Q1 W1 hgo hex hret
    refine sim_loop ?_ _ _ _ _ _ hf1 ⟨⟨hg,hs,hd⟩,i0,i1,i6⟩ Q1 W1 hgo hex hret
    clear hr hf1 hgo hex hret W1 hg hs hd i0 i1 i6
    intro s1 fl_ a k hr hS Q hQ2 hgo hex hret
    obtain ⟨⟨hg,hs,hd⟩,i0,i1,i6⟩:=hS
    unfold refOpenL at hr
    refine wp_seq ?_
    refine stepL 4 (_::_::⟨some (IsL l),[(17,some 1)]⟩::⟨some (IsV (decide (s1 < (l.length:Int)))),[(16,some 0),(18,some 2)]⟩::[]) rfl ⟨hg,hs,hd⟩ (by kernel_rfl) ⟨mu rfl i6,mu rfl i1,ob1 rfl fun _ _ h n=>ok_len rfl rfl Tryd.underlying32 (IsV.rd n.1),ob1 rfl fun _ _ h n=>ok_lss rfl n.1 n.2.1,trivial⟩ [⟨0,IsV n⟩,⟨1,IsV l⟩,⟨6,IsV s1⟩,⟨19,IsV (decide (s1 < (l.length:Int)))⟩] (fun b q p=>⟨p.ke 0 rfl i0,p.ke 1 rfl i1,p.ke 6 rfl i6,p.ou 3 19 rfl,trivial⟩) ?_
    clear i0 i1 i6 hg hs hd
    rintro a k ⟨⟨hg,hs,hd⟩,i0,i1,i6,i19,_⟩
    refine wp_cond_split (isBool i19) (fun hc=>?_) (fun hc=>?_)
    · rw [if_pos hc] at hr
      clear i19 hc
      obtain ⟨x,hx,hr⟩:=bind_some hr
      obtain ⟨c,hb,hr⟩:=bind_some hr
      obtain ⟨y7,y8,hy7,hy8,hcc⟩:=refOpenBad_spec hb
      refine wp_skip ?_
      refine wp_seq ?_
      refine wp_block ?_
      refine wp_seq ?_
      refine cut (fun a' k'=>Bs noF k0 68 a' k'∧IsV n (a'.get 0) k'∧IsV l (a'.get 1) k'∧IsV s1 (a'.get 6) k'∧IsRef x (a'.get 7) k') ?_ hQ2 ?_
      · intro Q2 W2 w2
        refine gS 5 (_::_::⟨some (IsPtr x),[(22,some 0),(23,some 1)]⟩::⟨some (IsV x),[(24,some 2)]⟩::⟨some (IsBox k.w.heap.size zL),[]⟩::[]) hs (by kernel_rfl) ⟨mu rfl i1,mu rfl i6,ob1 rfl fun _ _ h n=>ok_indexAddr rfl Tryd.underlying32 ty43 (IsV.rd n.1) n.2.1 hx,ob1 rfl fun _ _ h n=>ok_load rfl ty43 n.1,ob1 rfl fun _ _ h n=>ok_alloc _ h.size rfl z43,trivial⟩ W2 fun b1 q p=>?_
        have hgq:=hg.then p.grow
        have j25:IsV x (b1.get 25) q:=p.ou 3 25 rfl
        obtain ⟨b7,j7,x7,z7⟩:IsBox k.w.heap.size zL (b1.get 7) q:=p.ou 4 7 rfl
        have m0:=p.ke 0 rfl i0
        have m1:=p.ke 1 rfl i1
        have m6:=p.ke 6 rfl i6
        have hns:=z7.nshF
        have hlo:Lo k (Eq b7):=Lo.eq x7
        refine tail_storeB (i:=5) rfl rfl rfl rfl szf43 (Upd.self (α:=Lease)) j7 z7 j25 fun q2 hch hz=>?_
        obtain ⟨q3,hsh,jn⟩:=hz.give
        have hgq2:=(hgq.step hch (hlo.chg hg).wr).hand hsh (hlo.chg hg).wr
        have hle:=hch.le hns
        rw [← hsh.w]
        exact tail_done (k:=q3) (w2 _ _ ⟨⟨hgq2,p.size.trans hs,p.defers.trans hd⟩,isV_int.2 (isV_int.1 m0),Pers.pers hsh.le (Pers.pers hle m1),isV_int.2 (isV_int.1 m6),by rw [j7]; exact jn⟩)
      clear i0 i1 i6 hg hs hd
      rintro a k ⟨⟨hg,hs,hd⟩,i0,i1,i6,i7⟩
      refine wp_seq ?_
      refine cut (fun a' k'=>Bs noF k0 68 a' k'∧IsV n (a'.get 0) k'∧IsV l (a'.get 1) k'∧IsV s1 (a'.get 6) k'∧IsV c (a'.get 61) k') ?_ hQ2 ?_
      · intro Q2 W2 w2
        refine region (a0:=a) (k0:=k) (n:=68) (m:=36) (⟨some (IsPtr x.Counter),[(7,none)]⟩::⟨some (IsV x.Counter),[(26,some 0)]⟩::_::⟨some (IsV (x.Counter != n)),[(27,some 1),(28,some 2)]⟩::_ ::
          ⟨some (Gd ((x.Counter != n) = false) (IsPtr x.Used)),[(7,none)]⟩::⟨some (Gd ((x.Counter != n) = false) (IsV x.Used)),[(31,some 5)]⟩::⟨some (Gd ((x.Counter != n) = false) (IsV (decide (x.Used < 0)))),[(32,some 6)]⟩::⟨some (IsV (x.Counter != n || decide (x.Used < 0))),[(30,some 4),(33,some 7)]⟩::_ ::
          ⟨some (Gd ((x.Counter != n || decide (x.Used < 0)) = false) (IsPtr x.Used)),[(7,none)]⟩::⟨some (Gd ((x.Counter != n || decide (x.Used < 0)) = false) (IsV x.Used)),[(36,some 10)]⟩::⟨some (Gd ((x.Counter != n || decide (x.Used < 0)) = false) (IsPtr x.Held)),[(7,none)]⟩::⟨some (Gd ((x.Counter != n || decide (x.Used < 0)) = false) (IsV x.Held)),[(38,some 12)]⟩::⟨some (Gd ((x.Counter != n || decide (x.Used < 0)) = false) (IsV (decide (x.Held < x.Used)))),[(37,some 11),(39,some 13)]⟩::⟨some (IsV ((x.Counter != n || decide (x.Used < 0)) || decide (x.Held < x.Used))),[(35,some 9),(40,some 14)]⟩::_ ::
          ⟨some (Gd (((x.Counter != n || decide (x.Used < 0)) || decide (x.Held < x.Used)) = false) (IsPtr x.Held)),[(7,none)]⟩::⟨some (Gd (((x.Counter != n || decide (x.Used < 0)) || decide (x.Held < x.Used)) = false) (IsV x.Held)),[(43,some 17)]⟩::⟨some (Gd (((x.Counter != n || decide (x.Used < 0)) || decide (x.Held < x.Used)) = false) (IsV (decide (1099511627776 < x.Held)))),[(44,some 18)]⟩::⟨some (IsV (refBad4 n x)),[(42,some 16),(45,some 19)]⟩::_ ::
          ⟨some (Gd (refBad4 n x = false) (IsV s1)),[(6,none)]⟩::⟨some (Gd (refBad4 n x = false) (IsV (decide (0 < s1)))),[(48,some 22)]⟩::⟨some (Gd (refBad4 n x = false) (IsV (decide (0 < s1)))),[(49,some 23)]⟩ ::
          ⟨some (Gd (refBad4 n x = false∧decide (0 < s1) = true) (IsV l)),[(1,none)]⟩::⟨some (Gd (refBad4 n x = false∧decide (0 < s1) = true) (IsV s1)),[(6,none)]⟩::⟨some (Gd (refBad4 n x = false∧decide (0 < s1) = true) (IsV y7)),[(52,some 26)]⟩::⟨some (Gd (refBad4 n x = false∧decide (0 < s1) = true) (IsPtr y8)),[(51,some 25),(53,some 27)]⟩::⟨some (Gd (refBad4 n x = false∧decide (0 < s1) = true) (IsPtr y8.Cap)),[(54,some 28)]⟩::⟨some (Gd (refBad4 n x = false∧decide (0 < s1) = true) (IsV y8.Cap)),[(55,some 29)]⟩::⟨some (Gd (refBad4 n x = false∧decide (0 < s1) = true) (IsPtr x.Cap)),[(7,none)]⟩::⟨some (Gd (refBad4 n x = false∧decide (0 < s1) = true) (IsV x.Cap)),[(57,some 31)]⟩::⟨some (Gd (refBad4 n x = false∧decide (0 < s1) = true) (IsV (!(Op.bytesLess y8.Cap.toList x.Cap.toList)))),[(56,some 30),(58,some 32)]⟩ ::
          ⟨some (Gd (refBad4 n x = false) (IsV (decide (0 < s1) && !(Op.bytesLess y8.Cap.toList x.Cap.toList)))),[(50,some 24),(59,some 33)]⟩::⟨some (IsV c),[(47,some 21),(60,some 34)]⟩::[]) hmix hs (by kernel_rfl)
          ⟨ob1 rfl fun _ _ h n=>ok_fieldAddr rfl fo43_1 (at_Lease_1 _) (up i7 h n.1).ptr,ob1 rfl fun _ _ h n=>ok_load rfl ty3 n.1,mu rfl i0,ob1 rfl fun _ _ h n=>ok_neI rfl n.1 n.2.1,cm 3 rfl rfl,
           gF [(7,none)] rfl rfl fun hp _ _ h n=>ok_fieldAddr rfl fo43_3 (at_Lease_3 _) (up i7 h n.1).ptr,gF [(31,some 5)] rfl rfl fun hp _ _ h n=>ok_load rfl ty3 (Gd.get n.1 hp),gF [(32,some 6)] rfl rfl fun hp _ _ h n=>ok_lss rfl (Gd.get n.1 hp) (Gb.cI rfl),o1 [(30,some 4),(33,some 7)] rfl fun _ _ h n=>ok_pickOr rfl n.1 (Gb.cB rfl) (Gd.get n.2.1),cm 8 rfl rfl,
           gF [(7,none)] rfl rfl fun hp _ _ h n=>ok_fieldAddr rfl fo43_3 (at_Lease_3 _) (up i7 h n.1).ptr,gF [(36,some 10)] rfl rfl fun hp _ _ h n=>ok_load rfl ty3 (Gd.get n.1 hp),gF [(7,none)] rfl rfl fun hp _ _ h n=>ok_fieldAddr rfl fo43_2 (at_Lease_2 _) (up i7 h n.1).ptr,gF [(38,some 12)] rfl rfl fun hp _ _ h n=>ok_load rfl ty3 (Gd.get n.1 hp),gF [(37,some 11),(39,some 13)] rfl rfl fun hp _ _ h n=>ok_gtr rfl (Gd.get n.1 hp) (Gd.get n.2.1 hp),o1 [(35,some 9),(40,some 14)] rfl fun _ _ h n=>ok_pickOr rfl n.1 (Gb.cB rfl) (Gd.get n.2.1),cm 15 rfl rfl,
           gF [(7,none)] rfl rfl fun hp _ _ h n=>ok_fieldAddr rfl fo43_2 (at_Lease_2 _) (up i7 h n.1).ptr,gF [(43,some 17)] rfl rfl fun hp _ _ h n=>ok_load rfl ty3 (Gd.get n.1 hp),gF [(44,some 18)] rfl rfl fun hp _ _ h n=>ok_gtr rfl (Gd.get n.1 hp) (Gb.cI rfl),o1 [(42,some 16),(45,some 19)] rfl fun _ _ h n=>ok_pickOr rfl n.1 (Gb.cB rfl) (Gd.get n.2.1),cm 20 rfl rfl,
           mF rfl rfl i6,gF [(48,some 22)] rfl rfl fun hp _ _ h n=>ok_gtr rfl (Gd.get n.1 hp) (Gb.cI rfl),gdF rfl rfl fun hp _ _ h n=>ok_move rfl (Gd.get n.1 hp),
           gdTT rfl rfl fun hp b q h n=>ok_move rfl (up i1 h n.1),gdTT rfl rfl fun hp b q h n=>ok_move rfl (up i6 h n.1),gdTT rfl rfl fun hp b q h n=>ok_sub rfl (Gd.get n.1 hp) (Gb.cI rfl) (hy7 hp),gdTT rfl rfl fun hp b q h n=>ok_indexAddr rfl Tryd.underlying32 ty43 (IsV.rd (Gd.get n.1 hp)) (Gd.get n.2.1 hp) (hy8 hp),gdTT rfl rfl fun hp b q h n=>ok_fieldAddr rfl fo43_0 (at_Lease_0 _) (Gd.get n.1 hp),gdTT rfl rfl fun hp b q h n=>ok_load rfl ty9 (Gd.get n.1 hp),gdTT rfl rfl fun hp b q h n=>ok_fieldAddr rfl fo43_0 (at_Lease_0 _) (up i7 h n.1).ptr,gdTT rfl rfl fun hp b q h n=>ok_load rfl ty9 (Gd.get n.1 hp),gdTT rfl rfl fun hp b q h n=>ok_geS rfl (Gd.get n.1 hp) (Gd.get n.2.1 hp),
           gF [(50,some 24),(59,some 33)] rfl rfl fun hp _ _ h n=>ok_pickAnd rfl (Gd.get n.1 hp) (fun hm=>Gd.get n.2.1 ⟨hp,hm⟩) (Gb.cB rfl),o1 [(47,some 21),(60,some 34)] rfl fun _ _ h n=>ok_cast hcc.symm (ok_pickOr rfl n.1 (Gb.cB rfl) (Gd.get n.2.1)),trivial⟩ W2 fun b q p=>?_
        exact tail_done (k:=q) (w2 _ _ ⟨Bs.post ⟨hg,hs,hd⟩ p,p.ke 0 rfl i0,p.ke 1 rfl i1,p.ke 6 rfl i6,p.ou 35 61 rfl⟩)
      clear i0 i1 i6 i7 hg hs hd
      rintro a k ⟨⟨hg,hs,hd⟩,i0,i1,i6,i61⟩
      refine wp_cond_split (isBool i61) (fun hc=>?_) (fun hc=>?_)
      · rw [if_pos hc] at hr
        refine stepL 2 (⟨some (Is (.pointer none)),[]⟩::⟨some (IsI 1),[]⟩::[]) rfl ⟨hg,hs,hd⟩ (by kernel_rfl) ⟨ob1 rfl fun _ _ g n=>ok_assign rfl rfl,aI rfl rfl,trivial⟩ [⟨4,Is (.pointer none)⟩,⟨5,IsI 1⟩] (fun b q p=>⟨p.ou 0 4 rfl,p.ou 1 5 rfl,trivial⟩) ?_
        rintro a k ⟨hB,i4,i5,_⟩
        refine wp_ret ?_
        exact hret _ _ _ (Option.some.inj hr).symm (stop hB i4 i5)
      rw [if_neg (by rw [hc]; decide)] at hr
      obtain ⟨j,hj,hr⟩:=bind_some hr
      refine wp_skip ?_
      refine gS 2 (_::⟨some (IsV j),[(20,some 0)]⟩::[]) hs (by kernel_rfl) ⟨mu rfl i6,ob1 rfl fun _ _ g n=>ok_add rfl n.1 (Gb.cI rfl) hj,trivial⟩ hQ2 fun b' q p=>?_
      have j21:IsV j (b'.get 21) q:=p.ou 1 21 rfl
      have m0:=p.ke 0 rfl i0
      have m1:=p.ke 1 rfl i1
      refine tail_assign (i:=2) (d:=6) rfl rfl (.inl rfl) rfl (by rw [p.size,hs]; decide) fun b3 hsz3 hdf3 e3 hoth3=>?_
      exact tail_done (k:=q) (hgo _ _ _ (Option.some.inj hr).symm ⟨⟨hg.then p.grow,hsz3.trans (p.size.trans hs),hdf3.trans (p.defers.trans hd)⟩,by rw [hoth3 0 (by decide)]; exact m0,by rw [hoth3 1 (by decide)]; exact m1,by rw [show b3.get 6 = b'.get 21 from e3]; exact j21⟩)
    · rw [if_neg (by rw [hc]; decide)] at hr
      refine wp_exit ?_
      exact hex _ _ _ _ (Option.some.inj hr).symm ⟨rfl,⟨hg,hs,hd⟩,i0,i1⟩
  · rintro r1 a k rfl hR
    dsimp only at hr
    obtain rfl:=Option.some.inj hr
    exact hR
  · rintro _ _ _ rfl _
    simp at hr
  clear hf1 i0 i1 i6 hg hs hd
  rintro _ s2 a k rfl ⟨rfl,⟨hg,hs,hd⟩,i0,i1⟩
  dsimp only at hr
  obtain ⟨l1,hl1,hr⟩:=bind_some hr
  obtain rfl:=Option.some.inj hr
  refine wp_seq ?_
  refine cut (fun a' k'=>Bs noF k0 68 a' k'∧NewRef k0 (some ⟨n,l1,[],0,[]⟩) (a'.get 4) k'∧IsV (0:Int) (a'.get 5) k') ?_ hQ ?_
  · intro Q1 W1 w1
    refine gS 4 (_::⟨some IsE0,[]⟩::_::⟨some (IsOwn k.w.heap.size 43 l1),[(63,some 1),(64,some 2)]⟩::[]) hs (by kernel_rfl) ⟨mu rfl i0,ob1 rfl fun _ _ g n=>ok_buildSlice0 rfl Tryd.underlying32 eo43,mu rfl i1,ob1 rfl fun a' _ g n=>ok_append0 rfl Tryd.underlying32 eo43 g.size n.1 (IsV.rd n.2.1) hl1,trivial⟩ W1 fun b1 q1 p=>?_
    have hgq:=hg.then p.grow
    have hsb:=p.size.trans hs
    have j62:IsV n (b1.get 62) q1:=p.ou 0 62 rfl
    have j65:IsOwn k.w.heap.size 43 l1 (b1.get 65) q1:=p.ou 3 65 rfl
    have lo65 : ∀ c,obF (b1.get 65) c → k.w.heap.size ≤ c:=fun c hc=>(j65.lt c hc).1
    have lt65 : ∀ c,obF (b1.get 65) c → c < q1.w.heap.size:=fun c hc=>(j65.weaken (Nat.zero_le _)).ltF c hc
    refine tail_does (i:=4) (d:=66) rfl rfl rfl (by rw [hsb]; decide) W1 (ok_build (ps:=[(0,.tmp 62),(1,.tmp 65)]) (x:=(⟨rcells ⟨n,[],[],0,[]⟩ (b1.get 65) (.slice none 0 0) (.slice none 0 0)⟩:RawC 5)) rfl (bld64 (isV_int.1 j62) (own_one j65))) fun b5 q5 hsz5 hdf5 hoth5 hgr5 h66=>?_
    refine tail_does (i:=5) (d:=67) rfl rfl rfl (by rw [hsz5,hsb]; decide) W1 (ok_box (x:=(⟨rcells ⟨n,[],[],0,[]⟩ (b1.get 65) (.slice none 0 0) (.slice none 0 0)⟩:RawC 5)) q5.w.heap.size (Nat.le_refl _) rfl h66) fun b6 q6 hsz6 hdf6 hoth6 hgr6 h67=>?_
    obtain ⟨b,e67,lob,zb⟩:=h67
    refine tail_assign (i:=6) (d:=4) rfl rfl (.inl rfl) rfl (by rw [hsz6,hsz5,hsb]; decide) fun b7 hsz7 hdf7 e4 hoth7=>?_
    refine tail_assign (i:=7) (d:=5) rfl rfl (.inl rfl) rfl (by rw [hsz7,hsz6,hsz5,hsb]; decide) fun b8 hsz8 hdf8 e5 hoth8=>?_
    have s15:=hgr5.size
    have s1:=hgq.size
    have s01:=hg.size
    have D:RefO ⟨n,l1,[],0,[]⟩ b (b1.get 65) (.slice none 0 0) (.slice none 0 0) q6:=
      ⟨zb,Mono.mono (hgr5.trans hgr6) (j65.weaken (Nat.zero_le _)),isV_list.2 (.inl ⟨rfl,rfl⟩),.inl ⟨rfl,rfl⟩,fun hc=>by have:=lt65 b hc; omega,fun hc=>by simp [obF,ob] at hc,fun c _ hc=>by simp [obF,ob] at hc⟩
    refine tail_done (k:=q6) (w1 _ _ ⟨⟨(hgq.then hgr5).then hgr6,by rw [hsz8,hsz7,hsz6,hsz5,hsb],by rw [hdf8,hdf7,hdf6,hdf5,p.defers,hd]⟩,⟨b,_,_,_,?_,D,fun c hc=>?_⟩,isV_int.2 e5⟩)
    · rw [hoth8 4 (by decide)]; exact e4.trans e67
    · rcases hc with rfl | hc | hc
      · omega
      · have:=lo65 c hc; omega
      · simp [obF,ob] at hc
  rintro a k ⟨⟨hg,hs,hd⟩,i4,i5⟩
  refine wp_ret ?_
  exact retC2 rfl hd hg (show ResOk _ _ _ (.tmp 4) (NewRef k0 (some _)) from i4) i5

end Go.Proofs.YtljfakcblkdhbaaDoor

namespace Go.Proofs.YtljfakcblkdhbaaDoor
open Go.Gb
set_option linter.unusedVariables false
set_option linter.unusedSimpArgs false
set_option linter.unusedSectionVars false
set_option maxRecDepth 100000
/-! The methods of the reference's desk, as the evaluator is told of them. -/
def fnRf (pm:List Pm) (cod:List Tp) (run:HL tb.S (valsP pm) → Ref46Desk → Option (Ref46Desk × HL tb.S cod)):FnR tb:=
  ⟨pm,.c 2,.n,.n,cod,Option Ref46Desk × HL tb.S cod,fun r=>(r.1,(),r.2),fun x (y:Option Ref46Desk) _=>y.bind fun c=>(run x c).bind fun r=>some (some r.1,r.2)⟩
theorem fnRf_ok {f:FuncId} {pm:List Pm} {cod:List Tp} {run:HL tb.S (valsP pm) → Ref46Desk → Option (Ref46Desk × HL tb.S cod)} (hc : ∀ args w,(callFunc f args).run Tryd.prog w = .ok (.enter f args) w)
    (ok : ∀ (k0:K) (vs:List Value) (u2:Value) (b:Nat) (lv ov iv:Value) (x:HL tb.S (valsP pm)) (c:Ref46Desk) (r:Ref46Desk × HL tb.S cod),GOk tb k0 → PIs pm x (ptrV b) u2 vs k0 → RefO c b lv ov iv k0 → run x c = some r →
      Calls Tryd.prog f vs.toArray k0.w (RetC (RFP b lv iv) k0 fun u k=>RefT r.1 b (RFP b lv iv) k0 k∧(resV cod r.2).is ⟨#[],[]⟩ u k)):FnROk Tryd.prog f (fnRf pm cod run):=by
  refine ⟨hc,fun k0 vs u1 u2 x y z q hG hi hy hz hap hr=>?_⟩
  obtain ⟨c,hyc,hr⟩:=bind_some (show Option.bind (y:Option Ref46Desk) _ = some q from hr)
  obtain ⟨r,hrun,hq⟩:=bind_some hr
  obtain rfl:=Option.some.inj hq
  obtain ⟨F,hF⟩:=hy
  have e1:=rp_fp (T:=tb) (m:=2) hF
  rw [hyc] at hF
  obtain ⟨b,lv,ov,iv,rfl,D,rfl⟩:RefS c F u1 k0:=hF
  refine callsRetC (ok k0 vs u2 b lv ov iv x c r hG hi D hrun) (fun b' => ?_) fun u k' hch ⟨⟨lv', ov', iv', hD, hw⟩, hv⟩ => ?_
  · show RFP b lv iv b' ↔ Rk.fp tb (.c 2) (ptrV b) k0 b' ∨ False
    rw [e1]; simp
  · have hD' : RefN (some r.1) (RFP b lv' iv') (ptrV b) k' := ⟨b, lv', ov', iv', rfl, hD, rfl⟩
    have e2:=rp_fp (T:=tb) (m:=2) (x:=some r.1) (F:=RFP b lv' iv') (v:=ptrV b) (k:=k') hD'
    refine ⟨⟨_,hD'⟩,hv,fun b _ hb=>resV_fp b hb,fun c hb=>?_,fun b hb=>absurd hb (resV_fp b)⟩
    have hb:Rk.fp tb (.c 2) (ptrV b) k' c:=hb
    rw [e2] at hb
    show (Rk.fp tb (.c 2) (ptrV b) k0 c ∨ False) ∨ _
    rw [e1]
    exact (hw c hb).imp .inl id
noncomputable def kr27:FkR tb Tryd.prog:=⟨27,fnRf [.tu,.v .str,.v .int] [.int] (fun x c=>refUse c x.1 x.2),fnRf_ok Tryd.call27 fun k0 vs u2 b lv ov iv x c r hG h hd hr=>by
  obtain ⟨vs0,rfl,h1⟩:=h.tu; obtain ⟨v1,vs1,rfl,i1,h2⟩:=h1.v; obtain ⟨v2,vs2,rfl,i2,h3⟩:=h2.v; obtain rfl:=h3.nil
  exact callsRetC (refUse_ok hd hG i1 i2 hr) (fun _=>Iff.rfl) fun v k' _ h=>⟨⟨lv,ov,iv,h.1,fun c hc=>.inl hc⟩,is1 h.2⟩⟩
noncomputable def kr30:FkR tb Tryd.prog:=⟨30,fnRf [.tu,.v .str,.v .int] [.int] (fun x c=>refFree c x.1 x.2),fnRf_ok Tryd.call30 fun k0 vs u2 b lv ov iv x c r hG h hd hr=>by
  obtain ⟨vs0,rfl,h1⟩:=h.tu; obtain ⟨v1,vs1,rfl,i1,h2⟩:=h1.v; obtain ⟨v2,vs2,rfl,i2,h3⟩:=h2.v; obtain rfl:=h3.nil
  exact callsRetC (refFree_ok hd hG i1 i2 hr) (fun _=>Iff.rfl) fun v k' _ h=>⟨⟨lv,ov,iv,h.1,fun c hc=>.inl hc⟩,is1 h.2⟩⟩
noncomputable def kr28:FkR tb Tryd.prog:=⟨28,fnRf [.tu,.v .str,.v .int,.v .int] [.st 1,.int] (fun x c=>refSend c x.1 x.2.1 x.2.2),fnRf_ok Tryd.call28 fun k0 vs u2 b lv ov iv x c r hG h hd hr=>by
  obtain ⟨vs0,rfl,h1⟩:=h.tu; obtain ⟨v1,vs1,rfl,i1,h2⟩:=h1.v; obtain ⟨v2,vs2,rfl,i2,h3⟩:=h2.v; obtain ⟨v3,vs3,rfl,i3,h4⟩:=h3.v; obtain rfl:=h4.nil
  exact callsRetC (refSend_ok hd hG i1 i2 i3 hr) (fun _=>Iff.rfl) fun v k' _ h=>⟨h.1,is2 h.2⟩⟩
noncomputable def kr32:FkR tb Tryd.prog:=⟨32,fnRf [.tu,.v (.st 1)] [.st 1,.bool,.int] (fun x c=>refHear c x),fnRf_ok Tryd.call32 fun k0 vs u2 b lv ov iv x c r hG h hd hr=>by
  obtain ⟨vs0,rfl,h1⟩:=h.tu; obtain ⟨v1,vs1,rfl,i1,h2⟩:=h1.v; obtain rfl:=h2.nil
  exact callsRetC (refHear_ok hd hG i1 hr) (fun _=>Iff.rfl) fun v k' _ h=>⟨h.1,is3 h.2⟩⟩
noncomputable def kr25:FkR tb Tryd.prog:=⟨25,⟨[.v .int,.v (.list (.st 0))],.n,.n,.c 2,[.int],Option Ref46Desk × Int,fun r=>((),r.1,r.2),fun x _ _=>refOpen x.1 x.2⟩,⟨Tryd.call25,fun k0 vs u1 u2 x y z q hG hi hy hz hap hr=>by
  obtain ⟨v1,vs1,rfl,i1,h1⟩:=hi.v; obtain ⟨v2,vs2,rfl,i2,h2⟩:=h1.v; obtain rfl:=h2.nil
  refine callsRetC (refOpen_ok hG i1 i2 hr) (fun b=>?_) fun u k' hch ⟨a,b,e,hD,hb⟩=>?_
  · show False ↔ False ∨ False
    simp
  · obtain ⟨G, hD, hL⟩ : ∃ G, RefN q.1 G a k' ∧ Lo k0 G := by
      cases hq:q.1 with
      | none=>rw [hq] at hD; exact ⟨noF,⟨hD,rfl⟩,fun b hb=>hb.elim⟩
      | some r=>rw [hq] at hD; obtain ⟨b,lv,ov,iv,e,D,hl⟩:=hD; exact ⟨_,⟨b,lv,ov,iv,e,D,rfl⟩,hl⟩
    have e3:=rp_fp (T:=tb) (m:=2) (x:=q.1) (F:=G) (v:=a) (k:=k') hD
    refine ⟨trivial,⟨a,[b],e,⟨G,hD⟩,hb,trivial⟩,fun b hb=>hb.elim,fun b hb=>hb.elim,fun b hb=>?_⟩
    subst e
    have hb:Rk.fp tb (.c 2) a k' b:=hb
    rw [e3] at hb
    exact .inr (hL b hb)⟩⟩
def fnQf (dom cod:List Tp) (run:HL tb.S dom → Ref46Desk → Option (HL tb.S cod)):FnQ tb:=⟨false,2,dom,cod,fun (y:Option Ref46Desk) x=>y.bind fun c=>run x c⟩
theorem fnQf_ok {f:FuncId} {dom cod:List Tp} {run:HL tb.S dom → Ref46Desk → Option (HL tb.S cod)} (hc : ∀ args w,(callFunc f args).run Tryd.prog w = .ok (.enter f args) w)
    (ok : ∀ (k0:K) (b:Nat) (lv ov iv:Value) (vs:List Value) (x:HL tb.S dom) (c:Ref46Desk) (r:HL tb.S cod),GOk tb k0 → RefO c b lv ov iv k0 → HIs dom x vs k0 → run x c = some r →
      Calls Tryd.prog f (ptrV b::vs).toArray k0.w (Ret k0 fun v k=>(resV cod r).is ⟨#[],[]⟩ v k)):FnQOk Tryd.prog f (fnQf dom cod run):=by
  refine ⟨hc,fun k0 u vs z F x r hG hF hx hr=>?_⟩
  obtain ⟨c,hyc,hr⟩:=bind_some (show Option.bind (z:Option Ref46Desk) _ = some r from hr)
  rw [hyc] at hF
  obtain ⟨b,lv,ov,iv,rfl,D,rfl⟩:RefS c F u k0:=hF
  exact ok k0 b lv ov iv vs x c r hG D hx hr
noncomputable def kq31:FkQ tb Tryd.prog:=⟨31,fnQf [.str] [.int] (fun x c=>refLeft c x),fnQf_ok Tryd.call31 fun k0 b lv ov iv vs x c r hG hd h hr=>by
  obtain ⟨v1,rfl,i1⟩:=h.one
  exact retImp (refLeft_ok hd hG i1 hr) fun v k h=>is1 h⟩
noncomputable def kq33:FkQ tb Tryd.prog:=⟨33,fnQf [.int,.int] [.bool] (fun x c=>refTook c x.1 x.2),fnQf_ok Tryd.call33 fun k0 b lv ov iv vs x c r hG hd h hr=>by
  obtain ⟨v1,vs,rfl,i1,h⟩:=h.cons; obtain ⟨v2,rfl,i2⟩:=h.one
  exact retImp (refTook_ok hd hG i1 i2 hr) fun v k h=>is1 h⟩

end Go.Proofs.YtljfakcblkdhbaaDoor

namespace Go.Proofs.YtljfakcblkdhbaaDoor
open Go.Gb
set_option linter.unusedVariables false
set_option linter.unusedSimpArgs false
set_option linter.unusedSectionVars false
set_option maxRecDepth 100000
/-! Regions that look into the reference's desk: it is a value meanwhile. -/
noncomputable def C6 (n:Nat):Cx tb:=⟨Tryd.prog,tid,eqs,depsOf [k14,k24,kd33],rdepsOf (P:=Tryd.prog) [],false,[],[],n,noHk,fun _=>True,qdepsOf [kq11,kq12,kq19]⟩
theorem C6_ok (n:Nat):CxOk (C6 n):=⟨depsOf_ok [k14,k24,kd33],rdepsOf_ok (P:=Tryd.prog) [],eqsOk.at,hmix,rfl,qdepsOf_ok [kq11,kq12,kq19]⟩
noncomputable def asRef:AV tb → Option (Option Ref46Desk)
  | .rs false 2 x=>some x
  | _=>none
theorem asRef_eq {x:AV tb} {r:Option Ref46Desk} (h:asRef x = some r):x = .rs false 2 r:=by
  unfold asRef at h
  split at h
  · rw [Option.some.inj h]
  · cases h
noncomputable def asBo (e:Env tb) (d:Nat):Option Bool:=match lk e d with | .v .bool b=>some b | _=>none
theorem asBo_eq {e:Env tb} {d:Nat} {b:Bool} (h:asBo e d = some b):lk e d = .v .bool b:=by
  unfold asBo at h
  split at h
  · rename_i hl; rw [hl,Option.some.inj h]
  · cases h
noncomputable def hkT (n:Nat):Nat → Code → Env tb → (R:Type) → (Env tb → Option R) → Option R:=fun d c e R K=>
  match c with
  | .region _ A draw => match asRef (lk e 16) with
    | some x=>bif topsE ((wrs c).filter fun t=>!Nat.beq t d) e && (wrs c).contains d && !(Nat.beq d 16) then
        x.bind fun r=>(evR (C6 n) A.toList draw (lockE [] ((16,.ref (.st 6) r)::mapE (klA 16) e)) fun e1=>asBo e1 d).bind fun b=>K ((d,.v .bool b)::mapE (klA d) e) else none
    | none=>none
  | _=>none
theorem FU_nil {e:Env tb} {a:Act} {k:K}:FU e a k [] = noF:=by
  funext b
  exact propext ⟨fun ⟨t,h,_⟩=>by simp at h,fun h=>h.elim⟩
theorem hkT_ok {C:Cx tb} (hP:C.P = Tryd.prog) {d:Nat} {c:Code} {e:Env tb} {R:Type} {K:Env tb → Option R} {r:R} (hk:hkT C.n d c e R K = some r):HkOk C c e K r:=by
  unfold hkT at hk
  split at hk
  rotate_left
  · cases hk
  rename_i id A draw
  split at hk
  rotate_left
  · cases hk
  rename_i x hx
  have hl16:=asRef_eq hx
  cases hb:(topsE ((wrs (.region id A draw)).filter fun t=>!Nat.beq t d) e && (wrs (.region id A draw)).contains d && !(Nat.beq d 16)) with
  | false=>rw [hb] at hk; cases hk
  | true=>
  rw [hb] at hk
  simp only [cond_true] at hk
  simp only [Bool.and_eq_true, Bool.not_eq_true', List.contains_eq_mem, decide_eq_true_eq] at hb
  obtain ⟨⟨htop,hdm⟩,hd16⟩:=hb
  cases x with
  | none=>cases hk
  | some rr=>
  have hk1:(evR (C6 C.n) A.toList draw (lockE [] ((16,.ref (.st 6) rr)::mapE (klA 16) e)) fun e1=>asBo e1 d).bind (fun b=>K ((d,.v .bool b)::mapE (klA d) e)) = some r:=hk
  obtain ⟨b,hev,hk⟩:=bind_some hk1
  intro F k0 W a0 a k Q hW hl hQ
  rw [hP]
  obtain ⟨G,hG16⟩ : ∃ G,RefN (some rr) G (a.get 16) k:=by
    have h:=hl.sl 16
    rw [hl16] at h
    exact h
  have efp:=rp_fp (T:=tb) (m:=2) (x:=some rr) (F:=G) (v:=a.get 16) (k:=k) hG16
  obtain ⟨bb,lv,ov,iv,ev,D,rfl⟩:RefS rr G (a.get 16) k:=hG16
  have hF : ∀ i,RFP bb lv iv i → i < k.w.heap.size:=fun i hi=>(D.lt i hi).1
  have hh:=handed_F k (RFP bb lv iv) hF
  have hs:unl (lk e 16) = true:=by rw [hl16]; rfl
  have h1:Hl C.n F k0 W a0 ((16,.ref (.st 6) rr)::mapE (klA 16) e) a (k.shareF (RFP bb lv iv) hF):=
    hl.hand hs hh (fun i hi=>by rw [hl16]; exact (efp ▸ hi:Rk.fp tb (.c 2) (a.get 16) k i)) (by rw [ev]; exact D.marked hF) (fun _=>rfl) rfl
  have h2:=h1.lock [] (wrs (.region id A draw))
  have hev' : evR (C6 C.n) A.toList draw (lockE [] ((16,.ref (.st 6) rr)::mapE (klA 16) e)) (fun e1=>asBo e1 d) = some b:=hev
  refine (evR_ok (C:=C6 C.n) (W:=wrs (.region id A draw)) (C6_ok C.n) (id:=id) (fun o ho d' hd'=>(List.mem_filterMap.2 ⟨o,ho,hd'⟩:d' ∈ A.toList.filterMap (·.dst))) h2 hev' fun e1 a1 k1 hK1 h3=>?_:(Code.region id A draw).wp Tryd.prog Q a (k.shareF (RFP bb lv iv) hF).w)
  have hdl:=asBo_eq hK1
  have hval:IsV (α:=Bool) b (a1.get d) k1:=by have h:=h3.sl d; rw [hdl] at h; exact h
  have hch:=h3.g
  rw [FU_nil] at hch
  have hgu:Grow k (k1.unmark k (RFP bb lv iv)):=Grow.unmark hch.grow
  refine hQ _ a1 (k1.unmark k (RFP bb lv iv)) hk (hl.redo (s:=d) (av:=.v .bool b) (G:=noF) (D:=(wrs (.region id A draw)).filter fun t=>!Nat.beq t d) htop (fun t ht=>hW t (List.mem_filter.1 ht).1) (.inl (hW d hdm)) (Chg.of hgu) (fun b hb=>hb.elim) (h3.s.trans hl.s.symm) (h3.d.trans hl.d.symm) (fun t ht hne=>?_) ?_ (fun _=>rfl) fun b hb=>absurd hb (fp_nonres rfl _ _ b))
  · refine h3.old t fun hm => ht (List.mem_filter.2 ⟨hm, ?_⟩)
    rw [beq_ne hne]; rfl
  · exact isV_bool.2 (isV_bool.1 hval)

end Go.Proofs.YtljfakcblkdhbaaDoor

namespace Go.Proofs.YtljfakcblkdhbaaDoor
open Go.Gb
set_option linter.unusedVariables false
set_option linter.unusedSimpArgs false
set_option linter.unusedSectionVars false
set_option maxRecDepth 100000
/-! The law LeaseTells: mirror. -/
def rUse (y:Option Ref46Desk) (cap:ByteArray) (n:Int):Option (Option Ref46Desk × Int):=y.bind fun c=>(refUse c cap n).bind fun r=>some (some r.1,r.2)
def rFree (y:Option Ref46Desk) (cap:ByteArray) (n:Int):Option (Option Ref46Desk × Int):=y.bind fun c=>(refFree c cap n).bind fun r=>some (some r.1,r.2)
def rSend (y:Option Ref46Desk) (cap:ByteArray) (to n:Int):Option (Option Ref46Desk × Portion × Int):=y.bind fun c=>(refSend c cap to n).bind fun r=>some (some r.1,r.2)
def rHear (y:Option Ref46Desk) (p:Portion):Option (Option Ref46Desk × Portion × Bool × Int):=y.bind fun c=>(refHear c p).bind fun r=>some (some r.1,r.2)
def rLeft (y:Option Ref46Desk) (cap:ByteArray):Option Int:=y.bind fun c=>refLeft c cap
def rTook (y:Option Ref46Desk) (f n:Int):Option Bool:=y.bind fun c=>refTook c f n
def look24 (d:Option DC) (rr:Ref46Desk):Option Bool:=
  (dLeases d).bind fun x=>(ref46_SameLeases x rr.L).bind fun y=>
  (if (!y) then some true else (dPend d).bind fun p=>(ref46_SamePortions p rr.Out).bind fun z=>some (!z)).bind fun b=>some b
def look31 (d:Option DC) (rr:Ref46Desk) (n:Int):Option Bool:=
  ((dLeases d).bind fun x=>(ref46_SameLeases x rr.L).bind fun y=>some y).bind fun z=>
  (if z then (addI n 1).bind fun a1=>(remI a1 8).bind fun a2=>(dTook d a2 77).bind fun u=>(addI n 1).bind fun a3=>(remI a3 8).bind fun a4=>(refTook rr a4 77).bind fun v=>some (u == v) else some false).bind fun w=>some w
def tellsE (d:Option DC) (r:Option Ref46Desk) (i:Int):Option (Flow (Option DC × Option Ref46Desk × Int) Bool):=
  r.bind fun rr=>(look24 d rr).bind fun b=>if b then some (.ret false) else (addI i 1).bind fun j=>some (.go (d,r,j))
def tellsH (m:List Portion) (d:Option DC) (r:Option Ref46Desk) (i:Int):Option (Flow (Option DC × Option Ref46Desk × Int) Bool):=
  if decide (i < (m.length:Int)) then
    (getI m i).bind fun x=>(dHear d x).bind fun h=>(getI m i).bind fun x'=>(rHear r x').bind fun k=>
    (if (((!decide (h.2.1 = k.2.1)) || (h.2.2.1 != k.2.2.1)) || (h.2.2.2 != k.2.2.2)) then some true else
      (getI m i).bind fun a1=>(getI m i).bind fun a2=>(dTook h.1 a1.From a2.Number).bind fun u=>(getI m i).bind fun a3=>(getI m i).bind fun a4=>(rTook k.1 a3.From a4.Number).bind fun v=>some (u != v)).bind fun t=>
    if t then some (.ret false) else tellsE h.1 k.1 i
  else tellsE d r i
def tellsL (m:List Portion) (cap:ByteArray) (d:Option DC) (r:Option Ref46Desk) (i:Int):Option (Flow (Option DC × Option Ref46Desk × Int) Bool):=
  (dLeft d cap).bind fun x=>(rLeft r cap).bind fun y=>if (x != y) then some (.ret false) else tellsH m d r i
def tellsB (m:List Portion) (cap:ByteArray) (to a:Int) (s:Option DC × Option Ref46Desk × Int):Option (Flow (Option DC × Option Ref46Desk × Int) Bool):=
  if decide (s.2.2 ≤ (m.length:Int)) then
    (dUse s.1 cap a).bind fun u=>(rUse s.2.1 cap a).bind fun v=>
    if (u.2 != v.2) then some (.ret false) else
    (dSend u.1 cap to a).bind fun p=>(rSend v.1 cap to a).bind fun q=>
    if ((!decide (p.2.1 = q.2.1)) || (p.2.2 != q.2.2)) then some (.ret false) else
    (remI s.2.2 2).bind fun k=>
    if (k == 1) then (dFree p.1 cap a).bind fun f=>(rFree q.1 cap a).bind fun g=>if (f.2 != g.2) then some (.ret false) else tellsL m cap f.1 g.1 s.2.2
    else tellsL m cap p.1 q.1 s.2.2
  else some (.ex 0 s)
def law46_LeaseTells (n:Int) (l:List Lease) (m:List Portion) (cap:ByteArray) (to a:Int):Option Bool:=
  if (decide (35 < (l.length:Int)) || decide (20 < (m.length:Int))) then some true else
  (refOpen n l).bind fun q=>
  if (((openC n l).2 != q.2) || ((openC n l).1.isNone != q.1.isNone)) then some false else
  if ((openC n l).1.isNone || q.1.isNone) then some true else
  (iterL (tellsB m cap to a) 30 ((openC n l).1,q.1,0)).bind fun f=>match f with
    | .go _=>none
    | .ex _ s =>
      (dCopy s.1).bind fun c=>
      if c.2.isNone then some false else
      (dUse c.2 cap 1).bind fun u=>
      (addI n 1).bind fun a1=>(remI a1 8).bind fun a2=>
      (dHear u.1 ⟨(⟨#[120]⟩:ByteArray),a2,n,77,1⟩).bind fun _=>
      s.2.1.bind fun rr=>(look31 c.1 rr n).bind fun b=>some b
    | .ret r=>some r
theorem hkT6 (ks:List (Fk tb Tryd.prog)) (rks:List (FkR tb Tryd.prog)) (qks:List (FkQ tb Tryd.prog)) (own:List Nat):HksOk ⟨Tryd.prog,tid,eqs,depsOf ks,rdepsOf rks,false,own,Tryd.f6.results.toList,Tryd.f6.ntmps,hkT 252,fun c=>c ∈ subs (body Tryd.f6),qdepsOf qks⟩:=by
  intro i c e R K r hc hk
  exact hkT_ok rfl hk
noncomputable def k6:Fk tb Tryd.prog:=⟨6,⟨[.int,.list (.st 0),.list (.st 1),.str,.int,.int],[.bool],fun x=>law46_LeaseTells x.1 x.2.1 x.2.2.1 x.2.2.2.1 x.2.2.2.2.1 x.2.2.2.2.2⟩,
  fnOkW [k8] [kr20,kr25,kr26,kr27,kr22,kr28,kr29,kr30,kr18,kr32,kr23] [kq17,kq31,kq19,kq33] false [] Tryd.f6 (hkT 252) (hkT6 _ _ _ _) (.s .n (.s .n (.s .n (.s .n (.s .n (.s .n (.s .n (.s (.s .n (.l [] [(14,.c 0),(16,.c 2),(18,.v .int)] [(0,[18],[])] (fun _=>30) (.s .n (.s (.s .n (.s .n (.s .n (.s .n (.s .n (.s (.h 214) .n)))))) .n)))) (.s .n (.s .n (.s .n (.s .n (.s (.h 12) .n))))))))))))) eqsOk hmix rfl Tryd.func6 Tryd.call6 rfl rfl fun x=>by kernel_rfl⟩

end Go.Proofs.YtljfakcblkdhbaaDoor

