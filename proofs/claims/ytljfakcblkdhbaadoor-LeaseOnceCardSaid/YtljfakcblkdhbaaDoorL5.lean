/- The general part of the proofs (no program in sight): worlds with shared blocks, regions, operations, calls, loops, what comes in as data, part 5 -/
import Derived.Test.YtljfakcblkdhbaaDoorL4
set_option linter.unusedVariables false
set_option linter.unusedSimpArgs false
/- General part of the proofs: each operation that writes to nothing does what the evaluator says. -/
namespace Go.Gb
variable {T:Tb} {R:Type}

/-! types and parts -/
theorem tyB_sz {P:Program} {t:TypeId} {u:Tp} (h:tyB P T t u = true):(P.info? t).map (·.size) = some (T.e u).sz:=by
  unfold tyB at h
  rw [Bool.and_eq_true] at h
  have h:=h.2
  cases hi:P.info? t with
  | none=>rw [hi] at h; simp at h
  | some i=>rw [hi] at h; simpa using h
theorem tyB_ok {P:Program} {t:TypeId} {u:Tp} (h:tyB P T t u = true):Ty P t (T.D u):=by
  refine ⟨?_,tyB_sz h⟩
  unfold tyB at h
  rw [Bool.and_eq_true] at h
  have h:=h.1
  cases hi:P.underlying t with
  | none=>rw [hi] at h; simp at h
  | some d=>rw [hi] at h; exact ⟨d,rfl,by simpa using h⟩
theorem slOf_ok {P:Program} {t e:TypeId} (h:slOf P t = some e):P.underlying t = some (.slice e):=by
  unfold slOf at h
  split at h
  · rename_i h'; rw [h', Option.some.inj h]
  · simp at h
theorem elB_ok {P:Program} {e:TypeId} {u:Tp} (h:elB P T e u = true):ElemOk P e (T.D u):=by
  unfold elB at h
  cases hi:P.info? e with
  | none=>rw [hi] at h; simp at h
  | some i =>
    rw [hi] at h
    simp only [Bool.and_eq_true] at h
    obtain ⟨⟨⟨h1,h2⟩,h3⟩,h4⟩:=h
    cases hz:i.zero with
    | none=>rw [hz] at h1; simp at h1
    | some z =>
      rw [hz] at h1
      exact ⟨i,z,hi,hz,by simpa [szT] using h2,by simpa [szT] using h1,Nat.lt_of_lt_of_le Nat.zero_lt_one (by simpa [szT] using Nat.le_of_ble_eq_true h3),Nat.le_of_ble_eq_true h4⟩
theorem fldOff_ok {P:Program} {s f off:Nat} (h:fldOff P s f = some off):FieldOk P s f off:=by
  unfold fldOff at h
  split at h
  · rename_i fs hu
    split at h
    · rename_i d hd
      split at h
      · rename_i i hi
        split at h
        · simp at h
        · rename_i m hm
          exact ⟨fs,d,m,hu,hd,Option.some.inj h,by rw [hi]; simp [hm]⟩
      · simp at h
    · simp at h
  · simp at h

theorem hlens_ok : ∀ {l:List Tp} {i:Nat} {u:Tp} {L:HLens T l u},hlens l i = some ⟨u,L⟩ →
    (∀ (x:HL T.S l) (ad:Addr) (k:K),At x ad k → At (L.get x) (ad.add L.off) k)∧Upd L.off L.set∧L.off + (T.e u).sz ≤ (T.h l).sz
  | [],_,_,_,h=>by simp [hlens] at h
  | [a], 0, u, L, h => by
    simp only [hlens,Option.some.injEq,Sigma.mk.injEq] at h
    obtain ⟨rfl,h⟩:=h
    have h:=eq_of_heq h
    subst h
    exact ⟨fun x ad k hx=>At.zero hx,Upd.self,Nat.le_of_eq (Nat.zero_add _)⟩
  | [a],_ + 1,_,_,h=>by simp [hlens] at h
  | a :: b :: l, 0, u, L, h => by
    simp only [hlens,Option.some.injEq,Sigma.mk.injEq] at h
    obtain ⟨rfl,h⟩:=h
    have h:=eq_of_heq h
    subst h
    exact ⟨fun x ad k hx=>At.zero (At.fst hx),Upd.fst Upd.self,by show 0 + (T.e a).sz ≤ (T.e a).sz + (T.h (b::l)).sz; omega⟩
  | a :: b :: l, i + 1, u, L, h => by
    simp only [hlens] at h
    split at h
    · rename_i u' L' hl
      obtain ⟨h1,h2,h3⟩:=hlens_ok hl
      simp only [Option.some.injEq,Sigma.mk.injEq] at h
      obtain ⟨rfl,h⟩:=h
      have h:=eq_of_heq h
      subst h
      refine ⟨fun x ad k hx=>?_,Upd.snd h2,by show (T.e a).sz + L'.off + (T.e u').sz ≤ (T.e a).sz + (T.h (b::l)).sz; omega⟩
      have:=h1 _ _ _ (At.snd hx)
      rw [add_add] at this
      exact this
    · simp at h
theorem at_st {n:Nat} {x:T.S n} {ad:Addr} {k:K} : @At (T.D (.st n)) (T.e (.st n)) x ad k ↔ At (T.to n x) ad k:=by
  show @At (T.S n) (T.enc n) x ad k ↔ _
  rw [T.enc_eq n]; exact Iff.rfl
theorem rep_st {n:Nat} {x:T.S n} {k:K} {cs:List Value} : @Enc.rep (T.D (.st n)) (T.e (.st n)) k cs x ↔ Enc.rep k cs (T.to n x):=by
  show @Enc.rep (T.S n) (T.enc n) k cs x ↔ _
  rw [T.enc_eq n]; exact Iff.rfl
theorem sz_st {n:Nat}:(T.e (.st n)).sz = (T.h (T.fs n)).sz:=by
  show (T.enc n).sz = _
  rw [T.enc_eq n]; rfl
theorem agg_st {n:Nat}:(T.e (.st n)).agg = true:=by
  show (T.enc n).agg = _
  rw [T.enc_eq n]; rfl
theorem cast?_eq' {S:Nat → Type} {a b:Tp} {x:a.den S} {y:b.den S} (h:cast? a b x = some y) : ∃ e:a = b,y = e ▸ x:=by
  unfold cast? at h
  split at h
  · rename_i q _; exact ⟨q.down,(Option.some.inj h).symm⟩
  · simp at h
theorem partsH_rep {k:K} {t:Tp} : ∀ {l:List Tp} {x:HL T.S l} {xs:List (T.D t)} {cs:List Value},partsH t l x = some xs → Enc.rep k cs x → ∀ j (hj:j < xs.length),Enc.rep k ((cs.drop (j * (T.e t).sz)).take (T.e t).sz) xs[j]
  | [], x, xs, cs, h, hr, j, hj => by
    simp only [partsH,Option.some.injEq] at h
    subst h; simp at hj
  | [a], x, xs, cs, h, hr, j, hj => by
    simp only [partsH] at h
    split at h
    · rename_i y hy
      obtain rfl:=Option.some.inj h
      obtain ⟨rfl,rfl⟩:=cast?_eq' hy
      have h0:j = 0:=by simp at hj; omega
      subst h0
      have hr' : Enc.rep (α:=T.D a) k cs _:=hr
      have hl:cs.length = (T.e a).sz:=Enc.len hr'
      rw [Nat.zero_mul,List.drop_zero,← hl,List.take_length]
      exact hr'
    · simp at h
  | a :: b :: l, x, xs, cs, h, hr, j, hj => by
    simp only [partsH] at h
    split at h
    · rename_i y r hy h1
      obtain rfl:=Option.some.inj h
      obtain ⟨rfl,rfl⟩:=cast?_eq' hy
      obtain ⟨hl,h2,h3⟩:=hr
      cases j with
      | zero =>
        rw [Nat.zero_mul,List.drop_zero]
        exact h2
      | succ j =>
        have:=partsH_rep (cs:=cs.drop (T.e a).sz) h1 h3 j (by simpa using hj)
        rw [List.drop_drop] at this
        rw [Nat.succ_mul,Nat.add_comm]
        exact this
    · simp at h
theorem partsN_rep {k:K} {t:Tp} {l:List Tp} {x:HL T.S l} {xs:List (T.D t)} {cs:List Value} (h:partsN l x = some ⟨t,xs⟩) (hr:Enc.rep k cs x) : ∀ j (hj:j < xs.length),Enc.rep k ((cs.drop (j * (T.e t).sz)).take (T.e t).sz) xs[j]:=by
  unfold partsN at h
  split at h
  · simp at h
  · split at h
    · rename_i r hr1
      simp only [Option.some.injEq,Sigma.mk.injEq] at h
      obtain ⟨rfl,h⟩:=h
      obtain rfl:=eq_of_heq h
      exact partsH_rep hr1 hr
    · simp at h
  · split at h
    · rename_i r hr1
      simp only [Option.some.injEq,Sigma.mk.injEq] at h
      obtain ⟨rfl,h⟩:=h
      obtain rfl:=eq_of_heq h
      exact partsH_rep hr1 hr
    · simp at h
theorem partsH_at {k:K} {t:Tp} : ∀ {l:List Tp} {x:HL T.S l} {xs:List (T.D t)} {ad:Addr},partsH t l x = some xs → At x ad k → ∀ j (hj:j < xs.length),At xs[j] (ad.add (j * (T.e t).sz)) k
  | [], x, xs, ad, h, hr, j, hj => by
    simp only [partsH,Option.some.injEq] at h
    subst h; simp at hj
  | [a], x, xs, ad, h, hr, j, hj => by
    simp only [partsH] at h
    split at h
    · rename_i y hy
      obtain rfl:=Option.some.inj h
      obtain ⟨rfl,rfl⟩:=cast?_eq' hy
      have h0:j = 0:=by simp at hj; omega
      subst h0
      rw [Nat.zero_mul]
      exact At.zero hr
    · simp at h
  | a :: b :: l, x, xs, ad, h, hr, j, hj => by
    simp only [partsH] at h
    split at h
    · rename_i y r hy h1
      obtain rfl:=Option.some.inj h
      obtain ⟨rfl,rfl⟩:=cast?_eq' hy
      cases j with
      | zero =>
        rw [Nat.zero_mul]
        exact At.zero (At.fst hr)
      | succ j =>
        have:=partsH_at h1 (At.snd hr) j (by simpa using hj)
        rw [add_add] at this
        have e1:(j + 1) * (T.e a).sz = (T.e a).sz + j * (T.e a).sz:=by rw [Nat.succ_mul,Nat.add_comm]
        rw [e1]
        exact this
    · simp at h
theorem partsN_at {k:K} {t:Tp} {l:List Tp} {x:HL T.S l} {xs:List (T.D t)} {ad:Addr} (h:partsN l x = some ⟨t,xs⟩) (hr:At x ad k) : ∀ j (hj:j < xs.length),At xs[j] (ad.add (j * (T.e t).sz)) k:=by
  unfold partsN at h
  split at h
  · simp at h
  · split at h
    · rename_i r hr1
      simp only [Option.some.injEq,Sigma.mk.injEq] at h
      obtain ⟨rfl,h⟩:=h
      obtain rfl:=eq_of_heq h
      exact partsH_at hr1 hr
    · simp at h
  · split at h
    · rename_i r hr1
      simp only [Option.some.injEq,Sigma.mk.injEq] at h
      obtain ⟨rfl,h⟩:=h
      obtain rfl:=eq_of_heq h
      exact partsH_at hr1 hr
    · simp at h
theorem flens_ok {n i:Nat} {u:Tp} {L:Lens T (.st n) u} (h:flens n i = some ⟨u,L⟩):L.ok:=by
  unfold flens at h
  split at h
  · rename_i u' L' hl
    obtain ⟨h1,h2,h5⟩:=hlens_ok hl
    simp only [Option.some.injEq,Sigma.mk.injEq] at h
    obtain ⟨rfl,h⟩:=h
    have h:=eq_of_heq h
    subst h
    refine ⟨fun x ad k hx=>h1 _ _ _ (at_st.1 hx),fun k cs cy x y hx hy=>?_,by rw [sz_st]; exact h5⟩
    obtain ⟨h3,h4⟩:=h2 k cs cy _ y (rep_st.1 hx) hy
    refine ⟨by rw [sz_st]; exact h3,rep_st.2 ?_⟩
    rw [T.to_of]; exact h4
  · simp at h
theorem Lens.id_ok {t:Tp}:(Lens.id (T:=T) t).ok:=⟨fun x ad k hx=>At.zero hx,Upd.self,Nat.le_of_eq (Nat.zero_add _)⟩
theorem Upd.comp {α β γ:Type} [Enc α] [Enc β] [Enc γ] {o p:Nat} {g:α → β} {s:α → β → α} {r:β → γ → β} (h:Upd o s) (hg : ∀ (k:K) (cs:List Value) (x:α),Enc.rep k cs x → Enc.rep k ((cs.drop o).take (Enc.sz β)) (g x))
    (h' : Upd p r):Upd (α:=α) (β:=γ) (o + p) (fun x y=>s x (r (g x) y)):=by
  intro k cs cy x y hx hy
  have hg:=hg k cs x hx
  obtain ⟨h1,h2⟩:=h' k _ cy _ y hg hy
  obtain ⟨h3,h4⟩:=h k cs _ x _ hx h2
  have l1:=Enc.len hx
  have l2:=Enc.len hy
  have l3:=Enc.len h2
  refine ⟨by omega,?_⟩
  have e:cs.take (o + p) ++ cy ++ cs.drop (o + p + cy.length) = cs.take o ++ (((cs.drop o).take (Enc.sz β)).take p ++ cy ++ ((cs.drop o).take (Enc.sz β)).drop (p + cy.length)) ++ cs.drop (o + (((cs.drop o).take (Enc.sz β)).take p ++ cy ++ ((cs.drop o).take (Enc.sz β)).drop (p + cy.length)).length):=by
    rw [l3,List.take_take,Nat.min_eq_left (by omega),List.take_add]
    simp only [List.append_assoc]
    congr 3
    rw [List.drop_take,List.drop_drop]
    have e2:cs.drop (o + Enc.sz β) = (cs.drop (o + p + cy.length)).drop (Enc.sz β - (p + cy.length)):=by
      rw [List.drop_drop]; congr 1; omega
    rw [e2,show o + (p + cy.length) = o + p + cy.length by omega,List.take_append_drop]
  rw [e]; exact h4
theorem lens_rep {α β:Type} [Enc α] [Enc β] {o:Nat} {g:α → β} (hsz : ∀ (k:K) (cs:List Value) (x:α),Enc.rep k cs x → o + Enc.sz β ≤ Enc.sz α) (h : ∀ (x:α) (ad:Addr) (k:K),At x ad k → At (g x) (ad.add o) k)
    (k:K) (cs:List Value) (x:α) (hx:Enc.rep k cs x):Enc.rep k ((cs.drop o).take (Enc.sz β)) (g x):=by
  let w' : World:={ k.w with heap:=k.w.heap.push (.cells cs.toArray 0 (0,0)) }
  have hlt : ∀ b,k.sh b → b < w'.heap.size:=fun b hb=>by have:=k.lt b hb; simp [w']; omega
  let k' : K := ⟨w', k.sh, hlt⟩
  have hle : Le k k' := ⟨fun b hb => by simp [k', w', Array.getElem?_push, Nat.ne_of_lt (k.lt b hb)], fun _ h => h⟩
  have hat : At x ⟨k.w.heap.size, 0, none⟩ k' := ⟨cs, Enc.mono hle hx, rfl, cs.toArray, 0, (0, 0), by simp [k', w'], by simp, fun j hj => by simp⟩
  obtain ⟨ds,hr,hc⟩:=h _ _ _ hat
  obtain ⟨_, arr, t, fr, hh, hsz', hj⟩ := hc
  have l:=Enc.len hr
  have lx:=Enc.len hx
  have hs:=hsz k cs x hx
  have ea:(Addr.add ⟨k.w.heap.size,0,none⟩ o).block = k.w.heap.size∧(Addr.add ⟨k.w.heap.size,0,none⟩ o).off = o:=by
    unfold Addr.add; split <;> simp_all
  rw [ea.1] at hh
  simp only [k', w', Array.getElem?_push, if_true, Option.some.injEq, Obj.cells.injEq] at hh
  obtain ⟨rfl,_⟩:=hh
  have ed:ds = (cs.drop o).take (Enc.sz β):=by
    refine List.ext_getElem? fun j=>?_
    by_cases hjl:j < ds.length
    · have := hj j hjl
      rw [ea.2] at this
      rw [List.getElem?_take,if_pos (by omega),List.getElem?_drop,← this]
      simp
    · rw [List.getElem?_eq_none (by omega),List.getElem?_eq_none (by simp; omega)]
  rw [← ed]
  refine Enc.mono (k:=k') (k':=k) ⟨fun b hb=>?_,fun _ h=>h⟩ hr
  have:=k.lt b hb
  simp [k', w', Array.getElem?_push, Nat.ne_of_lt this]
theorem Lens.comp_ok {t u w:Tp} {L:Lens T t u} {M:Lens T u w} (h:L.ok) (g:M.ok):(L.comp M).ok:=by
  have hs:=h.2.2; have hs':=g.2.2
  refine ⟨fun x ad k hx=>?_,Upd.comp h.2.1 (fun k cs x hx=>lens_rep (fun _ _ _ _=>hs) h.1 k cs x hx) g.2.1,by show L.off + M.off + _ ≤ _; omega⟩
  have:=g.1 _ _ _ (h.1 _ _ _ hx)
  rw [add_add] at this; exact this
end Go.Gb

/- General part of the proofs: each operation that writes to nothing does what the evaluator says. -/
namespace Go.Gb
variable {T:Tb} {R:Type}

def Opk (e:Env T) (a0 a:Act) (k:K):Operand → Prop
  | .tmp t=>(lk e t).is a0 (a.get t) k∧(isRes (lk e t) = true → a.get t = a0.get t)
  | .global _=>GOk T k
  | _=>True
/-- What is known of the operands. -/
structure Rd1 (e:Env T) (o:Oper) (a0 a:Act) (k:K):Prop where
  op : ∀ x ∈ o.op.operands.toList,Opk e a0 a k x
  rs : ∀ s,isRes (lk e s) = true → (lk e s).is a0 (a0.get s) k
  gl:GOk T k

theorem cast?_eq {S:Nat → Type} {a b:Tp} {x:a.den S} {y:b.den S} (h:cast? a b x = some y) : ∃ e:a = b,y = e ▸ x:=by
  unfold cast? at h
  split at h
  · rename_i e _; exact ⟨e.down,(Option.some.inj h).symm⟩
  · simp at h
section
variable {e:Env T} {a0 a:Act} {k:K} {P:Program} {o:Oper}
theorem nrm_is {av:AV T} {v:Value} (h:av.is a0 v k):(nrm av).is a0 v k:=by
  cases av with
  | fl t xs=>exact h.2
  | _=>exact h
theorem nrm_ment {av:AV T} {s:Nat} (h:(nrm av).ment s = true):av.ment s = true:=by
  cases av with
  | fl t xs=>simp [nrm,AV.ment] at h
  | _=>exact h
theorem opv_is {x:Operand} (h:Opk e a0 a k x):(opv e x).is a0 (a.eval x) k:=by
  cases x with
  | tmp t=>exact nrm_is h.1
  | const v =>
    unfold opv
    split
    all_goals try trivial
    all_goals rename_i heq; try (injection heq with heq)
    all_goals try (subst heq)
    · exact isV_int.2 rfl
    · exact isV_ik.2 rfl
    · exact isV_bool.2 rfl
    · exact isV_str.2 rfl
    · exact isE0_nil (k:=k)
  | global g =>
    unfold opv
    dsimp only
    split
    · rename_i t x e1; exact h.1 g t x e1
    · trivial
  | func f=>trivial
theorem opv_ment {x:Operand} (hi : ∀ t s,(lk e t).ment s = true → isRes (lk e s) = true) : ∀ s,(opv e x).ment s = true → isRes (lk e s) = true:=by
  intro s h
  cases x with
  | tmp t=>exact hi t s (nrm_ment h)
  | const v=>unfold opv at h; split at h <;> first | (simp [AV.ment] at h; done) | skip; rename_i heq; cases heq
  | global g=>unfold opv at h; dsimp only at h; split at h <;> simp [AV.ment] at h
  | func f=>simp [opv,AV.ment] at h
theorem mvv_is {x:Operand} (h:Opk e a0 a k x):(mvv e x).is a0 (a.eval x) k:=by
  cases x with
  | tmp t =>
    unfold mvv; dsimp only
    split
    · rename_i heq; exact h.2 (by rw [heq]; rfl)
    · rename_i heq; exact h.2 (by rw [heq]; rfl)
    · rename_i heq; exact h.2 (by rw [heq]; rfl)
    · rename_i heq; exact h.2 (by rw [heq]; rfl)
    · exact h.1
  | _=>exact opv_is h
theorem mvv_ment {x:Operand} (hi : ∀ t s,(lk e t).ment s = true → isRes (lk e s) = true) : ∀ s,(mvv e x).ment s = true → isRes (lk e s) = true:=by
  intro s h
  cases x with
  | tmp t =>
    unfold mvv at h; dsimp only at h
    split at h
    · rename_i heq; rw [← Nat.eq_of_beq_eq_true h,heq]; rfl
    · rename_i heq; rw [← Nat.eq_of_beq_eq_true h,heq]; rfl
    · rename_i heq; rw [← Nat.eq_of_beq_eq_true h,heq]; rfl
    · rename_i heq; rw [← Nat.eq_of_beq_eq_true h,heq]; rfl
    · exact hi t s h
  | const v=>exact opv_ment (x:=.const v) hi s h
  | global g=>exact opv_ment (x:=.global g) hi s h
  | func f=>exact opv_ment (x:=.func f) hi s h
theorem mvv_nonres {x:Operand}:isRes (mvv e x) = false:=by
  cases x with
  | tmp t =>
    unfold mvv; dsimp only
    split
    · rfl
    · rfl
    · rfl
    · rfl
    · rename_i h1 h2 h3 h4
      generalize hx:lk e t = y at *
      cases y with
      | own l el t xs=>exact absurd rfl (h1 l el t xs)
      | box l t x=>exact absurd rfl (h2 l t x)
      | rs l m x=>exact absurd rfl (h3 l m x)
      | tr lf κ x l=>exact absurd rfl (h4 lf κ x l)
      | _=>rfl
  | const v=>unfold mvv opv; dsimp only; split <;> first | rfl | (rename_i heq; cases heq)
  | global g=>unfold mvv opv; dsimp only; split <;> rfl
  | func f=>rfl
theorem asT_is {t:Tp} {av:AV T} {y:T.D t} {v:Value} (h:asT t av = some y) (hv:av.is a v k):IsV y v k:=by
  unfold asT at h
  split at h
  · obtain ⟨rfl,rfl⟩:=cast?_eq h; exact hv
  · split at h
    · obtain rfl:=Option.some.inj h; exact IsE0.isV hv
    · simp at h
  · split at h
    · rename_i t
      obtain ⟨rfl,rfl⟩:=cast?_eq h; exact isV_rfT.2 hv
    · simp at h
  · simp at h
theorem asI_is {av:AV T} {n:Int} {v:Value} (h:asI av = some n) (hv:av.is a v k):IsV n v k:=by
  unfold asI at h
  split at h
  · obtain rfl:=Option.some.inj h; exact hv
  · simp at h
theorem asB_is {av:AV T} {n:Bool} {v:Value} (h:asB av = some n) (hv:av.is a v k):IsV n v k:=by
  unfold asB at h
  split at h
  · obtain rfl:=Option.some.inj h; exact hv
  · simp at h
theorem res_is {av:AV T} {v:Value} (h:av.is a0 v k) (hm : ∀ s,av.ment s = true → isRes (lk e s) = true) (hr : ∀ s,isRes (lk e s) = true → (lk e s).is a0 (a0.get s) k):(res e av).is a0 v k:=by
  unfold res
  split
  · rename_i s
    rw [show v = a0.get s from h]
    exact hr s (hm s (Nat.beq_refl s))
  · exact h
theorem asL_is {av:AV T} {t:Tp} {xs:List (T.D t)} {v:Value} (hl:asL e av = some ⟨t,xs⟩) (h:av.is a0 v k) (hm : ∀ s,av.ment s = true → isRes (lk e s) = true) (hr : ∀ s,isRes (lk e s) = true → (lk e s).is a0 (a0.get s) k) :
    Readable xs v k:=by
  have hres:=res_is h hm hr
  unfold asL at hl
  split at hl
  · rename_i heq; rw [heq] at hres
    simp only [Option.some.injEq,Sigma.mk.injEq] at hl
    obtain ⟨rfl,hl⟩:=hl
    obtain rfl:=eq_of_heq hl
    exact IsV.rd hres
  · rename_i heq; rw [heq] at hres
    simp only [Option.some.injEq,Sigma.mk.injEq] at hl
    obtain ⟨rfl,hl⟩:=hl
    obtain rfl:=eq_of_heq hl
    exact IsOwn.rd hres
  · rename_i heq; rw [heq] at hres
    obtain ⟨F,hres⟩:=hres
    exact IsV.rd (T.RLok _ _ _ _ _ _ _ hres hl)
  · simp at hl
theorem ok_fieldRef {α β:Type} [Enc α] [Enc β] {s f off:Nat} {x:Operand} {y:α} {z:β} (ho:o.op = .fieldAddr s x f) (hf:FieldOk P s f off)
    (hp : ∀ ad k,At y ad k → At z (ad.add off) k) (h:IsRef y (a.eval x) k):Does P o a k (IsRef z):=by
  obtain ⟨ad,e,hs,hat⟩:=h
  refine does_pure (v:=.pointer (some (ad.add off))) ?_ ⟨_,rfl,by rw [add_block]; exact hs,hp _ _ hat⟩
  simp only [execOp,ho,e]
  simp [run_fieldAt hf]

/-- the operation gives this, whatever order -/
def Gives (P:Program) (e:Env T) (o:Oper) (av:AV T):Prop:=
  (∀ s,av.ment s = true → isRes (lk e s) = true)∧isRes av = false∧∀ a0 a k,Rd1 e o a0 a k → Does P o a k (av.is a0)
theorem gives_m {t:Tp} {x:T.D t} (h : ∀ a0 a k,Rd1 e o a0 a k → Does P o a k (IsV x)):Gives P e o (mkv t x):=
  ⟨fun s h=>by rw [mkv_ment] at h; simp at h,mkv_res,fun a0 a k g=>does_imp (h a0 a k g) fun v k' _ hv=>mkv_is.2 hv⟩
theorem gives_v {t:Tp} {x:T.D t} (h : ∀ a0 a k,Rd1 e o a0 a k → Does P o a k (IsV x)):Gives P e o (.v t x):=
  ⟨fun s h=>by simp [AV.ment] at h,rfl,h⟩

theorem binII_ok {wr:Bool} {op:BinOp} {ty uty:TypeId} {x y:Operand} {n m:Int} {K:AV T → Option R} {r:R} (ho:o.op = .binOp op ty x y uty)
    (hx:opv e x = .v .int n) (hy:opv e y = .v .int m) (h:binII wr op n m K = some r) : ∃ av,K av = some r∧Gives P e o av:=by
  have ix : ∀ a0 a k,Rd1 e o a0 a k → IsV n (a.eval x) k:=fun a0 a k g=>by
    have:=opv_is (g.op x (by rw [ho]; simp [Op.operands])); rw [hx] at this; exact this
  have iy : ∀ a0 a k,Rd1 e o a0 a k → IsV m (a.eval y) k:=fun a0 a k g=>by
    have:=opv_is (g.op y (by rw [ho]; simp [Op.operands])); rw [hy] at this; exact this
  cases op <;> simp only [binII] at h <;> first | (simp at h; done) | skip
  · cases wr with
    | false=>obtain ⟨z,hz,h⟩:=bind_some (show (addI n m).bind _ = _ from h); exact ⟨_,h,gives_v fun a0 a k g=>ok_add ho (ix _ _ _ g) (iy _ _ _ g) hz⟩
    | true=>obtain ⟨z,hz,h⟩:=bind_some (show (addW n m).bind _ = _ from h); exact ⟨_,h,gives_v fun a0 a k g=>ok_addW ho (ix _ _ _ g) (iy _ _ _ g) hz⟩
  · cases wr with
    | false=>obtain ⟨z,hz,h⟩:=bind_some (show (subI n m).bind _ = _ from h); exact ⟨_,h,gives_v fun a0 a k g=>ok_sub ho (ix _ _ _ g) (iy _ _ _ g) hz⟩
    | true=>obtain ⟨z,hz,h⟩:=bind_some (show (subW n m).bind _ = _ from h); exact ⟨_,h,gives_v fun a0 a k g=>ok_subW ho (ix _ _ _ g) (iy _ _ _ g) hz⟩
  · obtain ⟨z,hz,h⟩:=bind_some h; exact ⟨_,h,gives_v fun a0 a k g=>ok_mul ho (ix _ _ _ g) (iy _ _ _ g) hz⟩
  · obtain ⟨z,hz,h⟩:=bind_some h; exact ⟨_,h,gives_v fun a0 a k g=>ok_quo ho (ix _ _ _ g) (iy _ _ _ g) hz⟩
  · obtain ⟨z,hz,h⟩:=bind_some h; exact ⟨_,h,gives_v fun a0 a k g=>ok_rem ho (ix _ _ _ g) (iy _ _ _ g) hz⟩
  · exact ⟨_,h,gives_v fun a0 a k g=>ok_and ho (ix _ _ _ g) (iy _ _ _ g)⟩
  · exact ⟨_,h,gives_v fun a0 a k g=>ok_or ho (ix _ _ _ g) (iy _ _ _ g)⟩
  · exact ⟨_,h,gives_v fun a0 a k g=>ok_andn ho (ix _ _ _ g) (iy _ _ _ g)⟩
  · exact ⟨_,h,gives_v fun a0 a k g=>ok_eqI ho (ix _ _ _ g) (iy _ _ _ g)⟩
  · exact ⟨_,h,gives_v fun a0 a k g=>ok_neI ho (ix _ _ _ g) (iy _ _ _ g)⟩
  · exact ⟨_,h,gives_v fun a0 a k g=>ok_lss ho (ix _ _ _ g) (iy _ _ _ g)⟩
  · exact ⟨_,h,gives_v fun a0 a k g=>ok_leq ho (ix _ _ _ g) (iy _ _ _ g)⟩
  · exact ⟨_,h,gives_v fun a0 a k g=>ok_gtr ho (ix _ _ _ g) (iy _ _ _ g)⟩
  · exact ⟨_,h,gives_v fun a0 a k g=>ok_geq ho (ix _ _ _ g) (iy _ _ _ g)⟩
theorem ok_geS {P:Program} {o:Oper} {a:Act} {k:K} {t u:TypeId} {x y:Operand} {b c:ByteArray} (ho:o.op = .binOp .geq t x y u) (hx:IsV b (a.eval x) k) (hy:IsV c (a.eval y) k):Does P o a k (IsV (!(Op.bytesLess b.toList c.toList))):=by
  have hx:=isV_str.1 hx; have hy:=isV_str.1 hy
  refine does_pure (v:=.bool (!(Op.bytesLess b.toList c.toList))) ?_ (isV_bool.2 rfl)
  simp only [execOp,ho,hx,hy]
  simp [eqGuard,binOp,Op.stringOp]
theorem binV_ok {wr:Bool} {op:BinOp} {ty uty:TypeId} {x y:Operand} {isB:Bool} {eqn:Nat → Bool} {K:AV T → Option R} {r:R} (ho:o.op = .binOp op ty x y uty)
    (hB:isB = true → P.underlying ty = some .bool) (hE : ∀ n,eqn n = true → letI:=T.deq n; @EqOk P ty (T.S n) (T.enc n) (T.deq n))
    (h:binV wr op isB eqn (opv e x) (opv e y) K = some r) : ∃ av,K av = some r∧Gives P e o av:=by
  unfold binV at h
  split at h
  · rename_i hx hy; exact binII_ok ho hx hy h
  · rename_i n m hx hy
    have ix : ∀ a0 a k,Rd1 e o a0 a k → IsV n (a.eval x) k:=fun a0 a k g=>by
      have:=opv_is (g.op x (by rw [ho]; simp [Op.operands])); rw [hx] at this; exact this
    have iy : ∀ a0 a k,Rd1 e o a0 a k → IsV m (a.eval y) k:=fun a0 a k g=>by
      have:=opv_is (g.op y (by rw [ho]; simp [Op.operands])); rw [hy] at this; exact this
    cases isB with
    | false=>simp at h
    | true =>
      simp only [cond_true] at h
      split at h
      · exact ⟨_,h,gives_v fun a0 a k g=>ok_eqB ho (hB rfl) (ix _ _ _ g) (iy _ _ _ g)⟩
      · exact ⟨_,h,gives_v fun a0 a k g=>ok_neB ho (hB rfl) (ix _ _ _ g) (iy _ _ _ g)⟩
      · simp at h
  · rename_i n m hx hy
    have ix : ∀ a0 a k,Rd1 e o a0 a k → IsV n (a.eval x) k:=fun a0 a k g=>by
      have:=opv_is (g.op x (by rw [ho]; simp [Op.operands])); rw [hx] at this; exact this
    have iy : ∀ a0 a k,Rd1 e o a0 a k → IsV m (a.eval y) k:=fun a0 a k g=>by
      have:=opv_is (g.op y (by rw [ho]; simp [Op.operands])); rw [hy] at this; exact this
    split at h
    · exact ⟨_,h,gives_v fun a0 a k g=>ok_eqS ho (ix _ _ _ g) (iy _ _ _ g)⟩
    · exact ⟨_,h,gives_v fun a0 a k g=>ok_neS ho (ix _ _ _ g) (iy _ _ _ g)⟩
    · exact ⟨_,h,gives_v fun a0 a k g=>ok_geS ho (ix _ _ _ g) (iy _ _ _ g)⟩
    · simp at h
  · rename_i n p m q hx hy
    split at h
    · rename_i hs _
      obtain rfl:=hs.down
      have ix : ∀ a0 a k,Rd1 e o a0 a k → @IsV (T.S m) (T.enc m) p (a.eval x) k:=fun a0 a k g=>by
        have:=opv_is (g.op x (by rw [ho]; simp [Op.operands])); rw [hx] at this; exact this
      have iy : ∀ a0 a k,Rd1 e o a0 a k → @IsV (T.S m) (T.enc m) q (a.eval y) k:=fun a0 a k g=>by
        have:=opv_is (g.op y (by rw [ho]; simp [Op.operands])); rw [hy] at this; exact this
      cases hq:eqn m with
      | false=>rw [hq] at h; simp at h
      | true =>
        rw [hq] at h
        simp only [cond_true] at h
        have he:=hE m hq
        split at h
        · exact ⟨_,h,gives_v fun a0 a k g=>@ok_eqA P o a k (T.S m) (T.enc m) (T.deq m) _ _ _ _ _ _ ho he (ix _ _ _ g) (iy _ _ _ g)⟩
        · exact ⟨_,h,gives_v fun a0 a k g=>@ok_neA P o a k (T.S m) (T.enc m) (T.deq m) _ _ _ _ _ _ ho he (ix _ _ _ g) (iy _ _ _ g)⟩
        · simp at h
    · simp at h
  · rename_i κ p κ' q hx hy
    split at h
    · rename_i hs _
      obtain rfl:=hs.down
      have ix : ∀ a0 a k,Rd1 e o a0 a k → IsV p (a.eval x) k:=fun a0 a k g=>by
        have:=opv_is (g.op x (by rw [ho]; simp [Op.operands])); rw [hx] at this; exact this
      have iy : ∀ a0 a k,Rd1 e o a0 a k → IsV q (a.eval y) k:=fun a0 a k g=>by
        have:=opv_is (g.op y (by rw [ho]; simp [Op.operands])); rw [hy] at this; exact this
      split at h
      · exact ⟨_,h,gives_v fun a0 a k g=>ok_addK ho (ix _ _ _ g) (iy _ _ _ g)⟩
      · exact ⟨_,h,gives_v fun a0 a k g=>ok_subK ho (ix _ _ _ g) (iy _ _ _ g)⟩
      · exact ⟨_,h,gives_v fun a0 a k g=>ok_mulK ho (ix _ _ _ g) (iy _ _ _ g)⟩
      · exact ⟨_,h,gives_v fun a0 a k g=>ok_andK ho (ix _ _ _ g) (iy _ _ _ g)⟩
      · exact ⟨_,h,gives_v fun a0 a k g=>ok_gtrK ho (ix _ _ _ g) (iy _ _ _ g)⟩
      · simp at h
    · simp at h
  · simp at h
theorem run_eqP {t s:TypeId} (hu:P.underlying t = some (.pointer s)) (p:Option Addr) (k:K):(Op.equal t (.pointer p) (.pointer none)).run P k.w = .ok p.isNone k.w:=by
  show (Op.equalIn (9999 + 1) t _ _).run P k.w = _
  rw [Op.equalIn]
  cases p <;> simp [run_underlying hu]
theorem ok_eqNilP {t u s:TypeId} {x:Operand} {p:Option Addr} {b:Bool} (ho:o.op = .binOp .eql t x (.const (.pointer none)) u) (hu:P.underlying t = some (.pointer s)) (hx:a.eval x = .pointer p) (hb:p.isNone = b):Does P o a k (IsV b):=by
  have ev:a.eval (.const (.pointer none)) = .pointer none:=rfl
  refine does_pure (v:=.bool b) ?_ (isV_bool.2 rfl)
  simp only [execOp,ho,hx,ev]
  have:=run_eqP hu p k
  simp [eqGuard,binOp,this,hb]
theorem ok_neNilP {t u s:TypeId} {x:Operand} {p:Option Addr} {b:Bool} (ho:o.op = .binOp .neq t x (.const (.pointer none)) u) (hu:P.underlying t = some (.pointer s)) (hx:a.eval x = .pointer p) (hb:p.isNone = b):Does P o a k (IsV (!b)):=by
  have ev:a.eval (.const (.pointer none)) = .pointer none:=rfl
  refine does_pure (v:=.bool (!b)) ?_ (isV_bool.2 rfl)
  simp only [execOp,ho,hx,ev]
  have:=run_eqP hu p k
  simp [eqGuard,binOp,this,hb]
theorem nilT_ok {op:BinOp} {ty uty:TypeId} {x y:Operand} {b:Bool} (ho:o.op = .binOp op ty x y uty) (hi : ∀ t s,(lk e t).ment s = true → isRes (lk e s) = true) (h:nilT P ty e op x y = some b):Gives P e o (.v .bool b):=by
  unfold nilT at h
  split at h
  · rename_i s ps hx hu
    split at h
    · rename_i lck m z hl
      have hm:isRes (lk e s) = true:=by rw [hl]; rfl
      refine gives_v fun a0 a k g=>?_
      have h1:a.eval x = a0.get s:=by
        have:=mvv_is (g.op x (by rw [ho]; simp [Op.operands])); rw [hx] at this; exact this
      have h2:=g.rs s hm
      rw [hl] at h2
      obtain ⟨F,h2⟩:=h2
      split at h
      · rename_i b' hb
        obtain rfl:=Option.some.inj h
        obtain ⟨p,h3,h4⟩:=T.RNok _ _ _ _ _ _ h2 hb
        exact ok_eqNilP ho hu (h1.trans h3) h4
      · rename_i b' hb
        obtain rfl:=Option.some.inj h
        obtain ⟨p,h3,h4⟩:=T.RNok _ _ _ _ _ _ h2 hb
        exact ok_neNilP ho hu (h1.trans h3) h4
      · simp at h
    · simp at h
  · simp at h
theorem shAmt_is {av : AV T} {m : Int} {v : Value} (h : shAmt av = some m) (hv : av.is a v k) : ∃ κ', v = .int κ' m := by
  unfold shAmt at h
  split at h
  · obtain rfl:=Option.some.inj h; exact ⟨_,isV_int.1 hv⟩
  · obtain rfl:=Option.some.inj h; exact ⟨_,isV_ik.1 hv⟩
  · simp at h
theorem shiftV_ok {op:BinOp} {ty uty:TypeId} {x y:Operand} {m:Int} {K:AV T → Option R} {r:R} (ho:o.op = .binOp op ty x y uty) (hm:shAmt (opv e y) = some m)
    (h:shiftV op (opv e x) m K = some r) : ∃ av,K av = some r∧Gives P e o av:=by
  have iy : ∀ a0 a k, Rd1 e o a0 a k → ∃ κ', a.eval y = .int κ' m := fun a0 a k g => shAmt_is hm (opv_is (g.op y (by rw [ho]; simp [Op.operands])))
  unfold shiftV at h
  split at h
  · rename_i n hx
    have ix : ∀ a0 a k,Rd1 e o a0 a k → IsV n (a.eval x) k:=fun a0 a k g=>by
      have:=opv_is (g.op x (by rw [ho]; simp [Op.operands])); rw [hx] at this; exact this
    split at h
    · obtain ⟨z,hz,h⟩:=bind_some h; exact ⟨_,h,gives_v fun a0 a k g=>ok_shl ho (ix _ _ _ g) (iy _ _ _ g) hz⟩
    · obtain ⟨z,hz,h⟩:=bind_some h; exact ⟨_,h,gives_v fun a0 a k g=>ok_shr ho (ix _ _ _ g) (iy _ _ _ g) hz⟩
    · simp at h
  · rename_i κ p hx
    have ix : ∀ a0 a k,Rd1 e o a0 a k → IsV p (a.eval x) k:=fun a0 a k g=>by
      have:=opv_is (g.op x (by rw [ho]; simp [Op.operands])); rw [hx] at this; exact this
    cases hb:(decide (0 ≤ m) && Nat.ble m.toNat κ.bits) with
    | false=>rw [hb] at h; simp at h
    | true =>
      rw [hb] at h; simp only [cond_true] at h
      simp only [Bool.and_eq_true,decide_eq_true_eq] at hb
      have h1:=Nat.le_of_ble_eq_true hb.2
      split at h
      · exact ⟨_,h,gives_v fun a0 a k g=>ok_shrKI ho (ix _ _ _ g) (iy _ _ _ g) hb.1 h1⟩
      · exact ⟨_,h,gives_v fun a0 a k g=>ok_shlKI ho (ix _ _ _ g) (iy _ _ _ g) hb.1 h1⟩
      · simp at h
  · simp at h
end
end Go.Gb

/- General part of the proofs: each operation that writes to nothing does what the evaluator says, continued. -/
namespace Go.Gb
variable {T:Tb} {R:Type}
section
variable {e:Env T} {a0 a:Act} {k:K} {P:Program} {o:Oper}

theorem ok_fieldAb {s f off b m:Nat} {x:Operand} (ho:o.op = .fieldAddr s x f) (hf:FieldOk P s f off) (h:a.eval x = .pointer (some ⟨b,m,none⟩)):Does P o a k (fun v _=>v = .pointer (some ⟨b,m + off,none⟩)):=by
  refine does_pure (v:=.pointer (some ⟨b,m + off,none⟩)) ?_ rfl
  simp only [execOp,ho,h]
  have e:(Addr.add ⟨b,m,none⟩ off) = ⟨b,m + off,none⟩:=by unfold Addr.add; split <;> simp_all
  simp [run_fieldAt hf,e]
theorem fieldV_ok {s f:Nat} {x:Operand} {K:AV T → Option R} {r:R} (ho:o.op = .fieldAddr s x f) (hi : ∀ t s,(lk e t).ment s = true → isRes (lk e s) = true)
    (h:fieldV P s f (mvv e x) (lk e) K = some r) : ∃ av,K av = some r∧Gives P e o av:=by
  have ix : ∀ a0 a k,Rd1 e o a0 a k → (mvv e x).is a0 (a.eval x) k:=fun a0 a k g=>mvv_is (g.op x (by rw [ho]; simp [Op.operands]))
  have im:=mvv_ment (x:=x) hi
  generalize mvv e x = y at h ix im
  unfold fieldV at h
  cases hoff:fldOff P s f with
  | none=>rw [hoff] at h; simp at h
  | some off=>
  rw [hoff] at h
  have hf:=fldOff_ok hoff
  dsimp only at h
  cases hav:fieldO f off y (lk e) with
  | none=>rw [hav] at h; simp at h
  | some av=>
  rw [hav] at h
  refine ⟨av,h,?_⟩
  have ext : ∀ {u:Tp} {g:(w:Tp) → Lens T u w → AV T},extF f off u g = some av → ∃ w,∃ L:Lens T u w,L.ok∧L.off = off∧av = g w L:=by
    intro u g hg
    unfold extF at hg
    split at hg
    · split at hg
      · rename_i w L hl
        cases hb:Nat.beq L.off off with
        | false=>rw [hb] at hg; simp at hg
        | true =>
          rw [hb] at hg
          exact ⟨w,L,flens_ok hl,Nat.eq_of_beq_eq_true hb,(Option.some.inj hg).symm⟩
      · simp at hg
    · simp at hg
  unfold fieldO at hav
  split at hav
  · rename_i t z
    obtain ⟨w,L,hL,hLo,rfl⟩:=ext (g:=fun w L=>.ref w (L.get z)) hav
    exact ⟨fun s hs=>by simp [AV.ment] at hs,rfl,fun a0 a k g=>ok_fieldRef ho (by rw [← hLo] at hf; exact hf) (fun ad k' hx=>hL.1 _ _ _ hx) (ix _ _ _ g)⟩
  · rename_i s'
    split at hav
    · rename_i lck t z heq
      obtain ⟨w,L,hL,hLo,rfl⟩:=ext (g:=fun w L=>.ab s' t z w L) hav
      have hres:isRes (lk e s') = true:=im s' (Nat.beq_refl s')
      refine ⟨fun s hs=>by rw [← Nat.eq_of_beq_eq_true hs]; exact hres,rfl,fun a0 a k g=>?_⟩
      have h1:a.eval x = a0.get s':=ix _ _ _ g
      have h2:=g.rs s' hres
      rw [heq] at h2
      obtain ⟨b,h3,h4⟩:=h2
      refine does_imp (ok_fieldAb ho hf (h1.trans h3)) fun v k' hg hv=>⟨hL,b,h3,by rw [hv,hLo,Nat.zero_add],h4.grow hg⟩
    · simp at hav
  · rename_i s' t z u M
    obtain ⟨w,L,hL,hLo,rfl⟩:=ext (g:=fun w L=>.ab s' t z w (M.comp L)) hav
    refine ⟨fun s hs=>im s hs,rfl,fun a0 a k g=>?_⟩
    obtain ⟨h0,b,h1,h2,h3⟩:=ix _ _ _ g
    exact does_imp (ok_fieldAb ho hf h2) fun v k' hg hv=>⟨Lens.comp_ok h0 hL,b,h1,by rw [hv,← hLo]; rfl,h3.grow hg⟩
  · rename_i s' el t xs i z u M
    obtain ⟨w,L,hL,hLo,rfl⟩:=ext (g:=fun w L=>.ao s' el t xs i z w (M.comp L)) hav
    refine ⟨fun s hs=>im s hs,rfl,fun a0 a k g=>?_⟩
    obtain ⟨h0,h1,h2,h3⟩:=ix _ _ _ g
    refine does_imp (ok_fieldAdrO ho hf h1) fun v k' hg hv=>⟨Lens.comp_ok h0 hL,?_,Mono.mono hg h2,h3⟩
    rw [show i * (T.e t).sz + (M.comp L).off = i * (T.e t).sz + M.off + off by rw [← hLo]; show _ + (M.off + L.off) = _; omega]
    exact hv
  · simp at hav

theorem ab_ptr {s:Nat} {t u:Tp} {x:T.D t} {L:Lens T t u} {v:Value} (h:(AV.ab s t x u L).is a v k):IsPtr (L.get x) v k:=by
  obtain ⟨h0,b,_,h2,h3⟩:=h
  exact ⟨_,h2,by have:=h0.1 _ _ _ h3.at; simp only [Addr.add] at this; split at this <;> simp_all⟩
theorem ao_ptr {s i:Nat} {el:TypeId} {t u:Tp} {xs:List (T.D t)} {x:T.D t} {L:Lens T t u} {v:Value} (h:(AV.ao s el t xs i x u L).is a v k):IsPtr (L.get x) v k:=by
  obtain ⟨h0,h1,h2,h3⟩:=h
  obtain ⟨b,f,n,c,h4,h5⟩:=h1
  rw [h4] at h2
  rcases h2 with ⟨h6, _⟩ | ⟨_, h6, rfl⟩ | ⟨b', off, cap, cur, cs, h6, _, hns, hh, hc1, hc0, hcm, hsz, hcs, hr⟩
  · simp at h6
  · simp at h3
  · simp only [Value.slice.injEq, Option.some.injEq, Addr.mk.injEq] at h6
    obtain ⟨⟨rfl,rfl,_⟩,rfl,rfl⟩:=h6
    have hi:i < xs.length:=(List.getElem?_eq_some_iff.1 h3).1
    have hca:CellsAt k.w ⟨b,f,none⟩ cs:=by
      rw [← hcs]; refine cellsAt_row hh ?_
      have:=Nat.mul_le_mul_right (T.e t).sz hc1
      omega
    have hat:=hca.elem hr h3
    have:=h0.1 _ _ _ hat
    rw [add_add] at this
    refine ⟨_,h5,?_⟩
    have e:(Addr.add ⟨b,f,none⟩ (i * (T.e t).sz + L.off)) = ⟨b,f + (i * (T.e t).sz + L.off),none⟩:=by unfold Addr.add; split <;> simp_all
    rw [← e]; exact this
theorem loadV_ok {ty:TypeId} {x:Operand} {av:AV T} (ho:o.op = .load ty x) (hi : ∀ t s,(lk e t).ment s = true → isRes (lk e s) = true)
    (h:loadV P T ty (mvv e x) (lk e) = some av):Gives P e o av:=by
  have ix : ∀ a0 a k,Rd1 e o a0 a k → (mvv e x).is a0 (a.eval x) k:=fun a0 a k g=>mvv_is (g.op x (by rw [ho]; simp [Op.operands]))
  have im:=mvv_ment (x:=x) hi
  generalize mvv e x = y at h ix im
  unfold loadV at h
  dsimp only at h
  have fin : ∀ {u:Tp} {z:T.D u},(bif tyB P T ty u then some (mkv u z) else none) = some av → (∀ a0 a k,Rd1 e o a0 a k → IsPtr z (a.eval x) k) → Gives P e o av:=by
    intro u z h hp
    cases hb:tyB P T ty u with
    | false=>rw [hb] at h; simp at h
    | true =>
      rw [hb] at h
      obtain rfl:=Option.some.inj h
      exact gives_m fun a0 a k g=>ok_load ho (tyB_ok hb) (hp _ _ _ g)
  split at h
  · exact fin h fun a0 a k g=>(show IsRef _ _ _ from ix _ _ _ g).ptr
  · rename_i s'
    split at h
    · rename_i lck t z heq
      refine fin h fun a0 a k g=>?_
      have h1:a.eval x = a0.get s':=ix _ _ _ g
      have h2:=g.rs s' (im s' (Nat.beq_refl s'))
      rw [heq] at h2
      obtain ⟨b,h3,h4⟩:=h2
      exact ⟨_,h1.trans h3,h4.at⟩
    · simp at h
  · exact fin h fun a0 a k g=>ab_ptr (ix _ _ _ g)
  · exact fin h fun a0 a k g=>ao_ptr (ix _ _ _ g)
  · simp at h

/-! zero values -/
theorem vEq_ok {a b:Value} (h:vEq a b = true):a = b:=by
  unfold vEq at h
  split at h
  · simp only [Bool.and_eq_true,beq_iff_eq] at h; rw [h.1,h.2]
  · simp only [beq_iff_eq] at h; rw [h]
  · rename_i x y
    simp only [Bool.and_eq_true,beq_iff_eq] at h
    obtain ⟨h1,h2⟩:=h
    cases x with | mk dx=>cases y with | mk dy=>
    have e1:dx = #[]:=Array.size_eq_zero_iff.1 h1
    have e2:dy = #[]:=Array.size_eq_zero_iff.1 h2
    rw [e1,e2]
  · rfl
  · simp at h
theorem vsEq_ok : ∀ {l m:List Value},vsEq l m = true → l = m
  | [],[],_=>rfl
  | a :: l, b :: m, h => by
    simp only [vsEq,Bool.and_eq_true] at h
    rw [vEq_ok h.1,vsEq_ok h.2]
  | [],_::_,h=>by simp [vsEq] at h
  | _::_,[],h=>by simp [vsEq] at h
theorem zc_rep : ∀ (f:Nat) (t:Tp) (cs:List Value),zc T f t = some cs → ∀ k,Enc.rep k cs (T.dflt t)
  | 0,_,_,h,_=>by simp [zc] at h
  | _ + 1,.int,_,h,_=>(Option.some.inj h).symm
  | _ + 1,.bool,_,h,_=>(Option.some.inj h).symm
  | _ + 1,.str,_,h,_=>(Option.some.inj h).symm
  | _ + 1,.ik κ,_,h,_=>(Option.some.inj h).symm
  | _ + 1,.list t,_,h,_=>⟨_,(Option.some.inj h).symm,.inl ⟨rfl,rfl⟩⟩
  | _ + 1,.op,_,h,_=>⟨_,(Option.some.inj h).symm,rfl⟩
  | _ + 1,.rf _,_,h,_=>by simp [zc] at h
  | _ + 1,.f0 _,_,h,_=>by simp [zc] at h
  | _ + 1,.f1 _ _,_,h,_=>by simp [zc] at h
  | _ + 1,.f2 _ _ _,_,h,_=>by simp [zc] at h
  | _ + 1,.pv,_,h,_=>by simp [zc] at h
  | f + 1, .st n, cs, h, k => by
    refine rep_st.2 ?_
    show Enc.rep k cs (T.to n (T.zero n))
    rw [T.zero_eq]
    simp only [zc] at h
    have key : ∀ (l:List Tp) (cs:List Value),joinO (l.map (zc T f)) = some cs → Enc.rep k cs (dfltH T.zero l):=by
      intro l
      induction l with
      | nil=>intro cs h; exact (Option.some.inj h).symm
      | cons b l ih =>
        intro cs h
        simp only [List.map_cons,joinO] at h
        split at h
        · rename_i x y hx hy
          obtain rfl:=Option.some.inj h
          have h1:=zc_rep f b x hx k
          have h2:=ih y hy
          have hl:=Enc.len h1
          cases l with
          | nil =>
            have:y = []:=h2
            subst this
            rw [List.append_nil]; exact h1
          | cons c l =>
            refine ⟨?_,?_,?_⟩
            · rw [List.length_append,hl,Enc.len h2]
            · rw [List.take_left' hl]; exact h1
            · rw [List.drop_left' hl]; exact h2
        · simp at h
    exact key _ _ h
theorem zeroB_ok {ty:TypeId} {t:Tp} (h:zeroB P T ty t = true) : ∃ i z cs,P.info? ty = some i∧i.zero = some z∧z.cells = cs∧(∀ w,(zeroValue ty).run P w = .ok z w)∧(∀ k,Enc.rep k cs.toList (T.dflt t))∧∀ k,IsV (T.dflt t) z k:=by
  unfold zeroB at h
  split at h
  · rename_i i hi
    split at h
    · rename_i z cs hz hcs
      have hrep:=zc_rep 9 t cs hcs
      have hrun : ∀ w,(zeroValue ty).run P w = .ok z w:=fun w=>by simp [zeroValue,typeInfo,hi,hz]
      split at h
      · rename_i c
        simp only [Bool.and_eq_true] at h
        obtain ⟨h1,h2⟩:=h
        obtain rfl:=vsEq_ok h2
        exact ⟨i,_,_,hi,hz,rfl,hrun,hrep,fun k=>⟨c.toList,by rw [h1]; simp [mkV],hrep k⟩⟩
      · rename_i hne
        simp only [Bool.and_eq_true,Bool.not_eq_true'] at h
        obtain ⟨h1,h2⟩:=h
        obtain rfl:=vsEq_ok h2
        have hc:z.cells = #[z]:=by cases z <;> first | rfl | exact absurd rfl (hne _)
        exact ⟨i,z,#[z],hi,hz,hc,hrun,hrep,fun k=>⟨[z],by rw [h1]; rfl,hrep k⟩⟩
    · simp at h
  · simp at h
end
end Go.Gb

/- General part of the proofs: each operation that writes to nothing does what the evaluator says: structs, slices, calls; all of them. -/
namespace Go.Gb
variable {T:Tb} {R:Type}

theorem sem_mapM {P:Program} {w:World} {α β:Type} {f:α → Sem β} {g:α → β} : ∀ (l:List α),(∀ x ∈ l,(f x).run P w = .ok (g x) w) → (l.mapM f).run P w = .ok (l.map g) w
  | [],_=>by simp
  | x :: l, h => by
    have h1:=h x (by simp)
    have h2:=sem_mapM l fun y hy=>h y (by simp [hy])
    simp [List.mapM_cons,h1,h2]
theorem sem_mapMA {P:Program} {w:World} {α β:Type} {f:α → Sem β} {g:α → β} (A:Array α) (h : ∀ x ∈ A.toList,(f x).run P w = .ok (g x) w):(A.mapM f).run P w = .ok (A.map g) w:=by
  rw [Array.mapM_eq_mapM_toList]
  have:=sem_mapM (P:=P) (w:=w) A.toList h
  simp [this]
  apply Array.ext'
  simp

def HIs:(l:List Tp) → HL T.S l → List Value → K → Prop
  | [],_,[],_=>True
  | [_],x,[u],k=>IsV x u k
  | _::b::l,x,u::us,k=>IsV x.1 u k∧HIs (b::l) x.2 us k
  | _,_,_,_=>False
/-- A function computes what it is said to. -/
structure FnOk (P:Program) (f:FuncId) (d:FnE T):Prop where
  call : ∀ args w,(callFunc f args).run P w = .ok (.enter f args) w
  ok : ∀ (k0:K) (vs:List Value) (x:HL T.S d.dom) (r:HL T.S d.cod),GOk T k0 → HIs d.dom x vs k0 → d.run x = some r → Calls P f vs.toArray k0.w (Ret k0 fun u k=>(resV d.cod r).is ⟨#[],[]⟩ u k)
/-- The arguments: values, and what is turned (u1) and taken over (u2). -/
def PIs:(l:List Pm) → HL T.S (valsP l) → (u1 u2:Value) → List Value → K → Prop
  | [],_,_,_,[],_=>True
  | .v t::l,x,u1,u2,v::vs,k=>IsV (α:=T.D t) (hdH x) v k∧PIs l (tlH x) u1 u2 vs k
  | .tu::l,x,u1,u2,v::vs,k=>v = u1∧PIs l x u1 u2 vs k
  | .tk::l,x,u1,u2,v::vs,k=>v = u2∧PIs l x u1 u2 vs k
  | .fn g::l,x,u1,u2,v::vs,k=>v = .func (.func g) #[] #[]∧PIs l x u1 u2 vs k
  | _,_,_,_,_,_=>False
/-- What a function leaves that turns, takes over or makes things of its own. -/
structure PostF (d:FnR T) (F:FP) (u1:Value) (r:d.tu.D T × d.ro.D T × HL T.S d.cod) (k0:K) (u:Value) (k:K):Prop where
  tu:d.tu.is r.1 u1 k
  res:(resR d.ro d.cod r.2.1 r.2.2).is ⟨#[],[]⟩ u k
  ap:Apart (d.tu.fp T u1 k) ((resR d.ro d.cod r.2.1 r.2.2).fp u k)
  w1 : ∀ b,d.tu.fp T u1 k b → F b ∨ k0.w.heap.size ≤ b
  w2 : ∀ b,(resR d.ro d.cod r.2.1 r.2.2).fp u k b → F b ∨ k0.w.heap.size ≤ b
structure FnROk (P:Program) (f:FuncId) (d:FnR T):Prop where
  call : ∀ args w,(callFunc f args).run P w = .ok (.enter f args) w
  ok : ∀ (k0:K) (vs:List Value) (u1 u2:Value) (x:HL T.S (valsP d.pm)) (y:d.tu.D T) (z:d.tk.D T) (q:d.ρ),GOk T k0 → PIs d.pm x u1 u2 vs k0 → d.tu.is y u1 k0 → d.tk.is z u2 k0 →
    Apart (d.tu.fp T u1 k0) (d.tk.fp T u2 k0) → d.run x y z = some q →
    Calls P f vs.toArray k0.w (RetC (fun b=>d.tu.fp T u1 k0 b ∨ d.tk.fp T u2 k0 b) k0 (PostF d (fun b=>d.tu.fp T u1 k0 b ∨ d.tk.fp T u2 k0 b) u1 (d.inj q) k0))
structure FnQOk (P:Program) (f:FuncId) (d:FnQ T):Prop where
  call : ∀ args w,(callFunc f args).run P w = .ok (.enter f args) w
  ok : ∀ (k0:K) (u:Value) (vs:List Value) (z:T.RD d.m) (F:FP) (x:HL T.S d.dom) (r:HL T.S d.cod),GOk T k0 → T.RP d.m z F u k0 → HIs d.dom x vs k0 → d.run z x = some r →
    Calls P f (bif d.amb then vs else u::vs).toArray k0.w (Ret k0 fun v k=>(resV d.cod r).is ⟨#[],[]⟩ v k)
structure CxOk (C:Cx T):Prop where
  deps : ∀ f d,dep C.deps f = some d → FnOk C.P f d
  rdeps : ∀ f d,rdep C.rdeps f = some d → FnROk C.P f d
  eqs : ∀ t n,C.eqs.contains (t,n) = true → @EqOk C.P t (T.S n) (T.enc n) (T.deq n)
  mix:C.P.follows .mixedOrders = true
  pe:C.P = T.P
  qdeps : ∀ f d,qdep C.qdeps f = some d → FnQOk C.P f d

section
variable {e:Env T} {a0 a:Act} {k:K} {P:Program} {o:Oper}
theorem args_isF (ov:Operand → AV T) : ∀ {l:List Tp} {xs:List Operand} {z:HL T.S l},args l (xs.map ov) = some z → (∀ x ∈ xs,(ov x).is a0 (a.eval x) k) → HIs l z (xs.map a.eval) k
  | [],[],_,_,_=>trivial
  | [b],[x],z,h,g=>asT_is h (g x (by simp))
  | b :: c :: l, x :: xs, z, h, g => by
    simp only [List.map_cons,args] at h
    split at h
    · rename_i y ys hy hys
      obtain rfl:=Option.some.inj h
      exact ⟨asT_is hy (g x (by simp)),args_isF ov hys fun x' hx'=>g x' (by simp [hx'])⟩
    · simp at h
  | [],_::_,_,h,_=>by simp [args] at h
  | [_],[],_,h,_=>by simp [args] at h
  | [_],_::_::_,_,h,_=>by simp [args] at h
  | _::_::_,[],_,h,_=>by simp [args] at h
theorem HIs.le {k k' : K} (hl:Le k k') : ∀ {l:List Tp} {x:HL T.S l} {vs:List Value},HIs l x vs k → HIs l x vs k'
  | [],_,[],_=>trivial
  | [t],x,[_],h=>Pers.pers (R:=IsV (α:=T.D t) x) hl h
  | t::_::_,x,_::_,h=>⟨Pers.pers (R:=IsV (α:=T.D t) x.1) hl h.1,HIs.le hl h.2⟩
  | [],_,_::_,h=>h.elim
  | [_],_,[],h=>h.elim
  | [_],_,_::_::_,h=>h.elim
  | _::_::_,_,[],h=>h.elim
theorem callsImp {f : FuncId} {vs : Array Value} {w : World} {k : K} {R S : Pred} (h : Calls P f vs w (Ret k R)) (hi : ∀ v k', R v k' → S v k') : Calls P f vs w (Ret k S) := by
  refine Calls.mono h fun e w' he=>?_
  cases e with
  | returned v => obtain ⟨k', h1, h2, h3⟩ := he; exact ⟨k', h1, h2, hi _ _ h3⟩
  | panicked c=>exact he.elim
  | outgrown=>exact he.elim
theorem mkFn_shape : ∀ {dom cod:List Tp} {run:HL T.S dom → Option (HL T.S cod)} {cs:List (AV T)} {av:AV T},mkFn dom cod run cs = some av → (∀ s,av.ment s = false)∧isRes av = false:=by
  intro dom cod run cs av h
  unfold mkFn at h
  split at h
  · split at h
    · split at h
      · obtain rfl:=Option.some.inj h; exact ⟨fun _=>rfl,rfl⟩
      · simp at h
    · split at h
      · obtain rfl:=Option.some.inj h; exact ⟨fun _=>rfl,rfl⟩
      · split at h
        · obtain rfl:=Option.some.inj h; exact ⟨fun _=>rfl,rfl⟩
        · simp at h
      · simp at h
    · split at h
      · obtain rfl:=Option.some.inj h; exact ⟨fun _=>rfl,rfl⟩
      · split at h
        · obtain rfl:=Option.some.inj h; exact ⟨fun _=>rfl,rfl⟩
        · simp at h
      · simp at h
    · simp at h
  · simp at h
/-- a function together with what it holds is a function value -/
theorem mkFn_is {f:FuncId} {d:FnE T} (hP:P = T.P) (hf:FnOk P f d) {cs:List (AV T)} {us:List Value} {av:AV T} (h:mkFn d.dom d.cod d.run cs = some av) (hl:us.length = cs.length)
    (hc : ∀ (l:List Tp) (z:HL T.S l),args l cs = some z → HIs l z us k) (hG:GOk T k) :
    (∀ s,av.ment s = false)∧isRes av = false∧av.is a0 (.func (.func f) #[] us.toArray) k:=by
  subst hP
  obtain ⟨dom,cod,run⟩:=d
  dsimp only at h
  have one : ∀ (b:Tp) (r:T.D b) (vs:Array Value) (k' : K),Calls T.P f vs k'.w (Ret k' fun u k=>(resV [b] r).is ⟨#[],[]⟩ u k) → Calls T.P f vs k'.w (Ret k' (IsV r)):=fun b r vs k' h=>callsImp h fun v k h=>mkv_is.1 h
  unfold mkFn at h
  split at h
  · rename_i b run
    split at h
    · split at h
      · rename_i z hz
        obtain rfl:=Option.some.inj h
        refine ⟨fun _=>rfl,rfl,isV_f0T.2 ⟨f,#[],us.toArray,rfl,hf.call,fun k' hk y hy=>?_⟩⟩
        have:=one b y _ k' (hf.ok k' us z y (hG.le hk) ((hc _ _ hz).le hk) hy)
        simpa using this
      · simp at h
    · rename_i hn
      split at h
      · rename_i a run
        obtain rfl:=Option.some.inj h
        refine ⟨fun _=>rfl,rfl,isV_f1T.2 ⟨f,#[],us.toArray,rfl,hf.call,fun k' hk x vx y hx hy=>?_⟩⟩
        have hu:us = []:=by
          have:us.length = 0:=by rw [hl]; simp at hn; omega
          exact List.length_eq_zero_iff.1 this
        subst hu
        have:=one b y _ k' (hf.ok k' [vx] x y (hG.le hk) hx hy)
        simpa using this
      · rename_i a c l run
        split at h
        · rename_i z hz
          obtain rfl:=Option.some.inj h
          refine ⟨fun _=>rfl,rfl,isV_f1T.2 ⟨f,#[],us.toArray,rfl,hf.call,fun k' hk x vx y hx hy=>?_⟩⟩
          have:=one b y _ k' (hf.ok k' (vx::us) (x,z) y (hG.le hk) ⟨hx,(hc _ _ hz).le hk⟩ hy)
          simpa using this
        · simp at h
      · simp at h
    · rename_i hn
      split at h
      · rename_i a a' run
        obtain rfl:=Option.some.inj h
        refine ⟨fun _=>rfl,rfl,isV_f2T.2 ⟨f,#[],us.toArray,rfl,hf.call,fun k' hk x vx x' vx' y hx hx' hy=>?_⟩⟩
        have hu:us = []:=by
          have:us.length = 0:=by rw [hl]; simp at hn; omega
          exact List.length_eq_zero_iff.1 this
        subst hu
        have:=one b y _ k' (hf.ok k' [vx,vx'] (x,x') y (hG.le hk) ⟨hx,hx'⟩ hy)
        simpa using this
      · rename_i a a' c l run
        split at h
        · rename_i z hz
          obtain rfl:=Option.some.inj h
          refine ⟨fun _=>rfl,rfl,isV_f2T.2 ⟨f,#[],us.toArray,rfl,hf.call,fun k' hk x vx x' vx' y hx hx' hy=>?_⟩⟩
          have := one b y _ k' (hf.ok k' (vx :: vx' :: us) (x, x', z) y (hG.le hk) ⟨hx, hx', (hc _ _ hz).le hk⟩ hy)
          simpa using this
        · simp at h
      · simp at h
    · simp at h
  · simp at h
theorem args_is : ∀ {l:List Tp} {xs:List Operand} {z:HL T.S l},args l (xs.map (opv e)) = some z → (∀ x ∈ xs,(opv e x).is a0 (a.eval x) k) → HIs l z (xs.map a.eval) k:=
  args_isF (opv e)

theorem resV_ment {l:List Tp} {x:HL T.S l} {s:Nat}:(resV l x).ment s = false:=by
  match l,x with
  | [],_=>rfl
  | [_],_=>exact mkv_ment
  | _::_::_,_=>rfl
theorem resV_nonres {l:List Tp} {x:HL T.S l}:isRes (resV l x) = false:=by
  match l,x with
  | [],_=>rfl
  | [_],_=>exact mkv_res
  | _::_::_,_=>rfl
theorem is_act {av:AV T} (h : ∀ s,av.ment s = false) {a a' : Act} {v:Value} {k:K} (hv:av.is a v k):av.is a' v k:=
  av.congr (fun s hs=>by rw [h] at hs; simp at hs) hv

theorem partsL_ok {t:Tp} : ∀ {ps:List (Nat × Operand)} {i:Nat} {xs:List (T.D t)},partsL t e i ps = some xs → (∀ x ∈ ps.map (·.2),(opv e x).is a0 (a.eval x) k) → Parts a k i ps xs
  | [],_,_,h,_=>by obtain rfl:=Option.some.inj h; trivial
  | (j, x) :: l, i, xs, h, g => by
    simp only [partsL] at h
    cases hb:Nat.beq i j with
    | false=>rw [hb] at h; simp at h
    | true =>
      rw [hb] at h
      simp only [cond_true] at h
      split at h
      · rename_i y ys hy hys
        obtain rfl:=Option.some.inj h
        exact ⟨(Nat.eq_of_beq_eq_true hb).symm,asT_is hy (g x (by simp)),partsL_ok hys fun x' hx'=>g x' (by simp at hx' ⊢; exact .inr hx')⟩
      · simp at h

theorem fldPl_ok {ty j off sz:Nat} (h:fldPl P ty j = some (off,sz)) : ∃ fs d i,P.underlying ty = some (.struct fs)∧fs[j]? = some d∧P.info? d.type = some i∧d.offset = off∧i.size = sz:=by
  unfold fldPl at h
  split at h
  · rename_i fs hu
    split at h
    · rename_i d hd
      split at h
      · rename_i i hi
        simp only [Option.some.injEq,Prod.mk.injEq] at h
        exact ⟨fs,d,i,hu,hd,hi,h.1,h.2⟩
      · simp at h
    · simp at h
  · simp at h
theorem buildF_ok {ty n:Nat} {places:Nat → Option (Nat × Nat)} (hpl : ∀ j off sz,fldPl P ty j = some (off,sz) → places j = some (off,sz)) :
    ∀ {ps:List (Nat × Operand)} {x z:T.S n} {cs:List Value},buildF P ty n e ps x = some z → (∀ y ∈ ps.map (·.2),(opv e y).is a0 (a.eval y) k) → @Enc.rep (T.D (.st n)) (T.e (.st n)) k cs x →
    ∃ cs', Instr.fill places cs.toArray (ps.map fun p => (p.1, a.eval p.2)) = some cs'.toArray ∧ @Enc.rep (T.D (.st n)) (T.e (.st n)) k cs' z
  | [],x,z,cs,h,_,hr=>by obtain rfl:=Option.some.inj h; exact ⟨cs,rfl,hr⟩
  | (j, y) :: l, x, z, cs, h, g, hr => by
    simp only [buildF] at h
    split at h
    · rename_i u L off sz hL hp
      split at h
      · rename_i w hw
        cases hb:(Nat.beq off L.off && Nat.beq sz (szT T u)) with
        | false=>rw [hb] at h; simp at h
        | true =>
          rw [hb] at h
          simp only [cond_true] at h
          rw [Bool.and_eq_true] at hb
          have h1:=Nat.eq_of_beq_eq_true hb.1
          have h2:=Nat.eq_of_beq_eq_true hb.2
          have hok:=flens_ok hL
          obtain ⟨cy,hcy,hry,hly⟩:=isV_cellsL (asT_is hw (g y (by simp)))
          obtain ⟨hle,hset⟩:=hok.2.1 k cs cy x w hr hry
          have hlen:=Enc.len hr
          obtain ⟨cs', hf, hr'⟩ := buildF_ok hpl h (fun y' hy' => g y' (by simp at hy' ⊢; exact .inr hy')) hset
          refine ⟨cs', ?_, hr'⟩
          simp only [List.map_cons,Instr.fill,hpl _ _ _ hp]
          have hsz:cy.toArray.size = sz:=by rw [h2]; simpa [szT] using hly
          rw [hcy,if_neg (by
            have hly' : cy.length = (T.e u).sz:=hly
            have:sz = (T.e u).sz:=h2
            simp only [hsz,ne_eq,not_true,decide_false,Bool.false_or,decide_eq_true_eq,List.size_toArray]
            omega)]
          have hfold:=foldl_set cy cy off 0 (cs.take off) (cs.drop off) (by rw [List.length_take]; have hly' : cy.length = (T.e u).sz:=hly; omega) rfl (by
            rw [List.length_drop]; have hly' : cy.length = (T.e u).sz:=hly; omega)
          rw [List.take_append_drop,List.drop_drop] at hfold
          rw [h1] at hfold ⊢
          simp at hfold hf ⊢
          rw [hfold]
          exact hf
      · simp at h
    · simp at h
theorem run_build {ty n:Nat} {ps:List (Nat × Operand)} {z:T.S n} (hz:zeroB P T ty (.st n) = true) (hall:allFld P ty = true) (hb:buildF P ty n e ps (T.zero n) = some z)
    (g : ∀ y ∈ ps.map (·.2),(opv e y).is a0 (a.eval y) k) : ∃ v,(∀ w,(Instr.build ty (ps.map fun p=>(p.1,a.eval p.2)).toArray).run P w = .ok v w)∧@IsV (T.D (.st n)) (T.e (.st n)) z v k:=by
  obtain ⟨i,zv,cs,hi,hiz,hc,hrun,hrep,_⟩:=zeroB_ok hz
  unfold allFld at hall
  split at hall
  · rename_i fs hu
    rw [List.all_eq_true] at hall
    let pl:Field → Nat × Nat:=fun f=>(f.offset,((P.info? f.type).map (·.size)).getD 0)
    have hpl : ∀ w,(fs.mapM fun f=>Prod.mk f.offset <$> sizeOf f.type).run P w = .ok (fs.map pl) w:=fun w=>sem_mapMA fs fun f hf=>by
      have:=hall f hf
      cases hif:P.info? f.type with
      | none=>rw [hif] at this; simp at this
      | some i'=>simp [run_sizeOf (show (P.info? f.type).map (·.size) = some i'.size by rw [hif]; rfl),pl,hif]
    obtain ⟨cs', hf, hr'⟩ := buildF_ok (P := P) (ty := ty) (n := n) (e := e) (a0 := a0) (a := a) (k := k) (places := fun j => (fs.map pl)[j]?) (fun j off sz hp => by
      obtain ⟨fs', d, i', hu', hd, hi', h1, h2⟩ := fldPl_ok hp
      rw [hu] at hu'
      obtain rfl:fs = fs':=by simpa using hu'
      simp [hd, pl, hi', h1, h2]) hb g (hrep k)
    refine ⟨.agg cs'.toArray, fun w => ?_, ⟨cs', by rw [agg_st]; rfl, hr'⟩⟩
    have hc' : zv.cells = cs.toList.toArray:=by rw [hc]
    simp [Instr.build,hrun,run_underlying hu,hpl,hc']
    simp at hf
    rw [hf]
    simp
  · simp at hall
theorem buildAll_ok {ty:Nat} {places:Nat → Option (Nat × Nat)} {ov:Operand → AV T} (hpl : ∀ j p,plc P ty j = some p → places j = some p) :
    ∀ {l:List Tp} {i off:Nat} {ps:List (Nat × Operand)} {y:HL T.S l} {pre suf:List Value},buildAll P ty ov l i off ps = some y → (∀ x ∈ ps.map (·.2),(ov x).is a0 (a.eval x) k) → pre.length = off → suf.length = (T.h l).sz →
    ∃ cs:List Value,Instr.fill places (pre ++ suf).toArray (ps.map fun p=>(p.1,a.eval p.2)) = some (pre ++ cs).toArray∧Enc.rep k cs y
  | [], i, off, [], y, pre, suf, _, _, _, hs => by
    have hs:suf.length = 0:=hs
    obtain rfl:=List.length_eq_zero_iff.1 hs
    exact ⟨[],rfl,rfl⟩
  | [b], i, off, [(j, x)], y, pre, suf, h, g, hp, hs => by
    have hs:suf.length = (T.e b).sz:=hs
    simp only [buildAll] at h
    split at h
    · rename_i o s hpc
      cases hb:(Nat.beq j i && (Nat.beq o off && Nat.beq s (szT T b))) with
      | false=>rw [hb] at h; simp at h
      | true =>
        rw [hb] at h; simp only [cond_true] at h
        simp only [Bool.and_eq_true] at hb
        obtain rfl:=Nat.eq_of_beq_eq_true hb.1
        obtain rfl:=Nat.eq_of_beq_eq_true hb.2.1
        have hsz:=Nat.eq_of_beq_eq_true hb.2.2
        obtain ⟨cy,hcy,hry,hly⟩:=isV_cellsL (asT_is h (g x (by simp)))
        have hly' : cy.length = (T.e b).sz:=hly
        have hsz' : s = (T.e b).sz:=hsz
        have hfold:=foldl_set cy cy o 0 pre suf (by rw [hp]; omega) rfl (by omega)
        refine ⟨cy,?_,hry⟩
        simp only [List.map_cons,List.map_nil,Instr.fill,hpl _ _ hpc]
        rw [hcy, if_neg (by simp [hly', hsz', hp, hs])]
        rw [show suf.drop cy.length = [] from List.drop_eq_nil_of_le (by omega)] at hfold
        simp at hfold ⊢
        exact hfold
    · simp at h
  | b :: c :: l, i, off, (j, x) :: ps, y, pre, suf, h, g, hp, hs => by
    have hs:suf.length = (T.e b).sz + (T.h (c::l)).sz:=hs
    simp only [buildAll] at h
    split at h
    · rename_i o s hpc
      cases hb:(Nat.beq j i && (Nat.beq o off && Nat.beq s (szT T b))) with
      | false=>rw [hb] at h; simp at h
      | true =>
        rw [hb] at h; simp only [cond_true] at h
        simp only [Bool.and_eq_true] at hb
        obtain rfl:=Nat.eq_of_beq_eq_true hb.1
        obtain rfl:=Nat.eq_of_beq_eq_true hb.2.1
        have hsz:=Nat.eq_of_beq_eq_true hb.2.2
        split at h
        · rename_i z r hz hr
          obtain rfl:=Option.some.inj h
          obtain ⟨cy,hcy,hry,hly⟩:=isV_cellsL (asT_is hz (g x (by simp)))
          have hly' : cy.length = (T.e b).sz:=hly
          have hsz' : s = (T.e b).sz:=hsz
          have hfold:=foldl_set cy cy o 0 pre suf (by rw [hp]; omega) rfl (by omega)
          obtain ⟨cs,h1,h2⟩:=buildAll_ok (pre:=pre ++ cy) (suf:=suf.drop cy.length) hpl hr (fun x' hx'=>g x' (by simp at hx' ⊢; exact .inr hx')) (by rw [List.length_append,hp,hly']; rfl) (by rw [List.length_drop]; omega)
          refine ⟨cy ++ cs,?_,?_⟩
          · simp only [List.map_cons, Instr.fill, hpl _ _ hpc]
            rw [hcy, if_neg (by simp [hly', hsz', hp, hs] <;> omega)]
            simp at hfold h1 ⊢
            rw [hfold]
            exact h1
          · have hl2 := Enc.len h2
            exact ⟨by rw [List.length_append, hly', hl2], by show Enc.rep k ((cy ++ cs).take (T.e b).sz) z; rw [← hly', List.take_left]; exact hry, by show Enc.rep k ((cy ++ cs).drop (T.e b).sz) r; rw [← hly', List.drop_left]; exact h2⟩
        · simp at h
    · simp at h
  | [],_,_,_::_,_,_,_,h,_,_,_=>by simp [buildAll] at h
  | [_],_,_,[],_,_,_,h,_,_,_=>by simp [buildAll] at h
  | [_],_,_,_::_::_,_,_,_,h,_,_,_=>by simp [buildAll] at h
  | _::_::_,_,_,[],_,_,_,h,_,_,_=>by simp [buildAll] at h
theorem run_buildA {ty n:Nat} {ps:List (Nat × Operand)} {ov:Operand → AV T} {y:HL T.S (T.fs n)} (hz:zeroN P T ty n = true) (hall:allPl P ty = true) (hb:buildAll P ty ov (T.fs n) 0 0 ps = some y)
    (g : ∀ x ∈ ps.map (·.2),(ov x).is a0 (a.eval x) k) : ∃ v,(∀ w,(Instr.build ty (ps.map fun p=>(p.1,a.eval p.2)).toArray).run P w = .ok v w)∧@IsV (T.D (.st n)) (T.e (.st n)) (T.of n y) v k:=by
  unfold zeroN at hz
  split at hz
  · rename_i i hi
    split at hz
    · rename_i z hiz
      have hsz:=Nat.eq_of_beq_eq_true hz
      have hrun : ∀ w,(zeroValue ty).run P w = .ok (.agg z) w:=fun w=>by simp [zeroValue,typeInfo,hi,hiz]
      have hlen:z.toList.length = (T.h (T.fs n)).sz:=by
        have:z.size = (T.e (.st n)).sz:=hsz
        rw [sz_st] at this; simpa using this
      have fin : ∀ {cs:List Value},Enc.rep k cs y → @IsV (T.D (.st n)) (T.e (.st n)) (T.of n y) (.agg cs.toArray) k:=fun {cs} hr=>⟨cs,by rw [agg_st]; rfl,rep_st.2 (by rw [T.to_of]; exact hr)⟩
      unfold allPl at hall
      split at hall
      · rename_i fs hu
        unfold allFld at hall
        rw [hu] at hall
        dsimp only at hall
        rw [List.all_eq_true] at hall
        let pl:Field → Nat × Nat:=fun f=>(f.offset,((P.info? f.type).map (·.size)).getD 0)
        have hpl : ∀ w,(fs.mapM fun f=>Prod.mk f.offset <$> sizeOf f.type).run P w = .ok (fs.map pl) w:=fun w=>sem_mapMA fs fun f hf=>by
          have:=hall f hf
          cases hif:P.info? f.type with
          | none=>rw [hif] at this; simp at this
          | some i'=>simp [run_sizeOf (show (P.info? f.type).map (·.size) = some i'.size by rw [hif]; rfl),pl,hif]
        obtain ⟨cs,h1,h2⟩:=buildAll_ok (P:=P) (ty:=ty) (a0:=a0) (a:=a) (k:=k) (places:=fun j=>(fs.map pl)[j]?) (pre:=[]) (suf:=z.toList) (fun j p hp=>by
          unfold plc at hp
          rw [hu] at hp
          obtain ⟨off,sz⟩:=p
          obtain ⟨fs', d, i', hu', hd, hi', h1, h2⟩ := fldPl_ok hp
          rw [hu] at hu'
          obtain rfl:fs = fs':=by simpa using hu'
          simp [hd, pl, hi', h1, h2]) hb g rfl hlen
        refine ⟨.agg cs.toArray,fun w=>?_,fin h2⟩
        simp [Instr.build,hrun,run_underlying hu,hpl,Value.cells]
        simp at h1
        rw [h1]
        simp
      · rename_i m el hu
        cases hif:P.info? el with
        | none=>rw [hif] at hall; simp at hall
        | some i' =>
          have hs : ∀ w,(sizeOf el).run P w = .ok i'.size w:=fun w=>run_sizeOf (P:=P) (show (P.info? el).map (·.size) = some i'.size by rw [hif]; rfl)
          obtain ⟨cs,h1,h2⟩:=buildAll_ok (P:=P) (ty:=ty) (a0:=a0) (a:=a) (k:=k) (places:=fun j=>some (j * i'.size,i'.size)) (pre:=[]) (suf:=z.toList) (fun j p hp=>by
            unfold plc at hp
            rw [hu] at hp
            dsimp only at hp
            rw [hif] at hp
            exact hp) hb g rfl hlen
          refine ⟨.agg cs.toArray,fun w=>?_,fin h2⟩
          simp [Instr.build,hrun,run_underlying hu,hs,Value.cells]
          simp at h1
          rw [h1]
          simp
      · simp at hall
    · simp at hz
  · simp at hz
theorem okArrRef {ty m el n:Nat} {x y:Operand} {z:T.S n} {t:Tp} {xs:List (T.D t)} {i:Int} {r:T.D t} (ho:o.op = .indexAddr ty x y) (hu:P.underlying ty = some (.array m el)) (he:Ty P el (T.D t)) (hl:xs.length = m)
    (hxs:partsN (T.fs n) (T.to n z) = some ⟨t,xs⟩) (hx : @IsRef (T.D (.st n)) (T.e (.st n)) z (a.eval x) k) (hy:IsV i (a.eval y) k) (h:getI xs i = some r):Does P o a k (@IsRef (T.D t) (T.e t) r):=by
  obtain ⟨ad,e1,hs,cs,hrep,hc⟩:=hx
  have hat:At (T.to n z) ad k:=⟨cs,rep_st.1 hrep,hc⟩
  have hy:=isV_int.1 hy
  obtain ⟨h0,h1,h2,h3⟩:=getI_spec h
  have hz:xs[i.toNat] = r:=by
    rw [List.getElem?_eq_getElem h2] at h1; exact Option.some.inj h1
  refine does_pure (v:=.pointer (some (ad.add (i.toNat * (T.e t).sz)))) ?_ ⟨_,rfl,by rw [add_block]; exact hs,hz ▸ partsN_at hxs hat _ h2⟩
  simp only [execOp,ho,hy,e1]
  have hsz:(P.info? el).map (·.size) = some (T.e t).sz:=he.2
  simp [Instr.indexAt,asIntOf,run_underlying hu,run_sizeOf hsz,Instr.sureAddr,h0]
  omega
end
end Go.Gb

/- General part of the proofs: each operation that writes to nothing does what the evaluator says: all of them. -/
namespace Go.Gb
variable {T:Tb} {R:Type}
section
variable {e:Env T} {o:Oper} {C:Cx T}
theorem wrI_ok {κ:IntKind} {n:Int} {t u:TypeId} {x:Operand} {P:Program} (hg : ∀ a0 a k,Rd1 e o a0 a k → Does P o a k (IsV (IK.mk (κ.wrap n):IK κ))):Gives P e o (wrI (T:=T) κ n):=by
  have key : ∀ a0 a k,Rd1 e o a0 a k → Does P o a k ((wrI (T:=T) κ n).is a0):=by
    intro a0 a k g
    refine does_imp (hg a0 a k g) fun v k' _ hv=>?_
    have hv:=isV_ik.1 hv
    cases κ <;> first | exact isV_ik.2 hv | exact isV_int.2 hv
  refine ⟨fun s h=>?_,?_,key⟩
  · cases κ <;> simp [wrI,AV.ment] at h
  · cases κ <;> rfl
theorem ok_extS {a:Act} {k:K} {P:Program} {x:Operand} {i:Nat} {u0:Value} {vs:List Value} {l:List (Σ t,T.D t)} {t:Tp} {y:T.D t} (ho:o.op = .extract x (i + 1)) (e1:a.eval x = .tuple (u0::vs).toArray) (hf:Fa2 l vs k) (hl:l[i]? = some ⟨t,y⟩) :
    Does P o a k (IsV y):=by
  obtain ⟨u,hu,hv⟩:=hf.get hl
  refine does_pure (v:=u) ?_ hv
  simp only [execOp,ho,e1]
  simp [Instr.extract,hu]
theorem opvF_is (hC:CxOk C) {a0 a:Act} {k:K} {x:Operand} (h:(opv e x).is a0 (a.eval x) k) (hG:GOk T k):(opvF C e x).is a0 (a.eval x) k:=by
  cases x with
  | func f =>
    unfold opvF
    dsimp only
    split
    · rename_i d hd
      split
      · rename_i av hav
        exact (mkFn_is (us:=[]) hC.pe (hC.deps f d hd) hav rfl (fun l z hz=>by
          match l,z,hz with
          | [],_,_=>trivial
          | [_],_,hz=>simp [args] at hz
          | _::_::_,_,hz=>simp [args] at hz) hG).2.2
      · trivial
    · trivial
  | _=>exact h
theorem arr1 {α:Type} {A:Array α} {x:α} (h:A.toList = [x]):A = #[x]:=by cases A; simp at h; rw [h]
theorem arr2 {α:Type} {A:Array α} {x y:α} (h:A.toList = [x,y]):A = #[x,y]:=by cases A; simp at h; rw [h]
theorem arr3 {α:Type} {A:Array α} {x y z:α} (h:A.toList = [x,y,z]):A = #[x,y,z]:=by cases A; simp at h; rw [h]

theorem bslice_ok {ty n:Nat} {ps:Array (Nat × Operand)} {t:Tp} {el:TypeId} {xs:List (T.D t)} (h:bslice C e ty n ps = some ⟨t,(el,xs)⟩) :
    C.P.underlying ty = some (.slice el)∧ElemOk C.P el (T.D t)∧n = xs.length∧n * (T.e t).sz ≤ 16777216∧∀ a0 a k,(∀ y ∈ ps.toList.map (·.2),(opv e y).is a0 (a.eval y) k) → Parts a k 0 ps.toList xs:=by
  unfold bslice at h
  split at h
  · rename_i el' hel
    split at h
    · rename_i t' ht
      split at h
      · rename_i xs' hxs
        cases hb:(Nat.beq xs'.length n && elB C.P T el' t' && Nat.ble (n * szT T t') 16777216) with
        | false=>rw [hb] at h; simp at h
        | true =>
          rw [hb] at h
          simp only [cond_true,Option.some.injEq,Sigma.mk.injEq] at h
          obtain ⟨rfl,h⟩:=h
          have h:=eq_of_heq h
          simp only [Prod.mk.injEq] at h
          obtain ⟨rfl,rfl⟩:=h
          simp only [Bool.and_eq_true] at hb
          obtain ⟨⟨h1,h2⟩,h3⟩:=hb
          exact ⟨slOf_ok hel,elB_ok h2,(Nat.eq_of_beq_eq_true h1).symm,Nat.le_of_ble_eq_true h3,fun a0 a k g=>partsL_ok (a0:=a0) hxs g⟩
      · simp at h
    · simp at h
  · simp at h
theorem rsOf_ok {m s:Nat} {z:T.RD m} {a0:Act} {k:K} (h:rsOf e m (.al s) = some z) (hr : ∀ s,isRes (lk e s) = true → (lk e s).is a0 (a0.get s) k) : ∃ F,T.RP m z F (a0.get s) k:=by
  unfold rsOf at h
  dsimp only at h
  split at h
  · rename_i lck m' z' hl
    split at h
    · rename_i hm _
      obtain rfl:=hm.down
      obtain rfl:=Option.some.inj h
      have:=hr s (by rw [hl]; rfl)
      rw [hl] at this
      exact this
    · simp at h
  · simp at h
theorem qArgs_ok {amb:Bool} {m:Nat} {as_ xs:List Operand} {z:T.RD m} {a0 a:Act} {k:K} (hi : ∀ t s,(lk e t).ment s = true → isRes (lk e s) = true) (g:Rd1 e o a0 a k) (ho : ∀ x ∈ as_,x ∈ o.op.operands.toList) (h:qArgs e amb m as_ = some (z,xs)) :
    ∃ (u:Value) (F:FP),T.RP m z F u k∧as_.map a.eval = (bif amb then xs.map a.eval else u::xs.map a.eval)∧∀ x ∈ xs,x ∈ as_:=by
  unfold qArgs at h
  cases amb with
  | true =>
    simp only [cond_true] at h
    split at h
    · rename_i s hs
      split at h
      · rename_i z' hz
        simp only [Option.some.injEq,Prod.mk.injEq] at h
        obtain ⟨rfl,rfl⟩:=h
        obtain ⟨F,hF⟩:=rsOf_ok hz g.rs
        exact ⟨_,F,hF,rfl,fun x hx=>hx⟩
      · simp at h
    · simp at h
  | false =>
    simp only [cond_false] at h
    split at h
    · rename_i x xs'
      split at h
      · rename_i z' hz
        simp only [Option.some.injEq,Prod.mk.injEq] at h
        obtain ⟨rfl,rfl⟩:=h
        have hx:=g.op x (ho x (by simp))
        have hm:=mvv_is hx
        generalize hav:mvv e x = av at hz hm
        cases av with
        | al s =>
          obtain ⟨F,hF⟩:=rsOf_ok hz g.rs
          refine ⟨a0.get s,F,hF,?_,fun x hx=>by simp [hx]⟩
          simp only [cond_false,List.map_cons,List.cons.injEq,and_true]
          exact hm
        | _=>simp [rsOf] at hz
      · simp at h
    · simp at h
theorem step1_ok (hC:CxOk C) (hi : ∀ t s,(lk e t).ment s = true → isRes (lk e s) = true) {K:AV T → Option R} {r:R} (h:step1 C e o K = some r) : ∃ av,K av = some r∧Gives C.P e o av:=by
  have ix : ∀ x,x ∈ o.op.operands.toList → ∀ a0 a k,Rd1 e o a0 a k → (opv e x).is a0 (a.eval x) k:=fun x hx a0 a k g=>opv_is (g.op x hx)
  unfold step1 at h
  cases ho:o.op <;> rw [ho] at h ix <;> first | exact nomatch (show (none:Option R) = some r from h) | skip
  case move x=>exact ⟨_,h,mvv_ment hi,mvv_nonres,fun a0 a k g=>ok_move ho (mvv_is (g.op x (by rw [ho]; simp [Op.operands])))⟩
  case pick c x y=>
    try dsimp only at h
    split at h
    rotate_left
    · simp at h
    rename_i m hm
    have hc:=fun a0 a k g=>asB_is hm (ix c (by simp [Op.operands]) a0 a k g)
    cases m with
    | true =>
      simp only [if_true] at h
      split at h
      · rename_i b hb
        exact ⟨_,h,gives_v fun a0 a k g=>ok_pickB ho (hc _ _ _ g) (fun _=>asB_is hb (ix x (by simp [Op.operands]) _ _ _ g)) (fun e=>by simp at e)⟩
      · simp at h
    | false =>
      simp only [Bool.false_eq_true,if_false] at h
      split at h
      · rename_i b hb
        exact ⟨_,h,gives_v fun a0 a k g=>ok_pickB ho (hc _ _ _ g) (fun e=>by simp at e) (fun _=>asB_is hb (ix y (by simp [Op.operands]) _ _ _ g))⟩
      · simp at h
  case assign x=>exact ⟨_,h,mvv_ment hi,mvv_nonres,fun a0 a k g=>ok_assign ho (mvv_is (g.op x (by rw [ho]; simp [Op.operands])))⟩
  case binOp op ty x y uty=>
    try dsimp only at h
    cases hsh:isSh op with
    | true =>
      rw [hsh] at h; simp only [cond_true] at h
      split at h
      · rename_i m hm; exact shiftV_ok ho hm h
      · simp at h
    | false =>
      rw [hsh] at h; simp only [cond_false] at h
      split at h
      · rename_i b hb
        exact ⟨_,h,nilT_ok ho hi hb⟩
      refine binV_ok ho (fun hb=>?_) (fun n hn=>hC.eqs _ _ hn) h
      split at hb
      · assumption
      · simp at hb
  case unOp op ty x=>
    cases op
    case neg=>
      dsimp only at h
      split at h
      · rename_i n hn
        obtain ⟨z,hz,h⟩:=bind_some h
        exact ⟨_,h,gives_v fun a0 a k g=>ok_neg ho (asI_is hn (ix x (by simp [Op.operands]) _ _ _ g)) hz⟩
      · simp at h
    case not=>
      dsimp only at h
      split at h
      · rename_i b hb
        exact ⟨_,h,gives_v fun a0 a k g=>ok_not ho (asB_is hb (ix x (by simp [Op.operands]) _ _ _ g))⟩
      · simp at h
    all_goals exact nomatch (show (none:Option R) = some r from h)
  case convert s d x=>
    try dsimp only at h
    split at h
    · rename_i ds κ n hs hd hx
      refine ⟨_,h,wrI_ok (t:=s) (u:=d) (x:=x) fun a0 a k g=>ok_conv_ik ho (by rw [hs]; rfl) hd ?_⟩
      have:=ix x (by simp [Op.operands]) _ _ _ g; rw [hx] at this; exact this
    · rename_i ds κ κ' n hs hd hx
      refine ⟨_,h,wrI_ok (t:=s) (u:=d) (x:=x) fun a0 a k g=>ok_conv_kk ho (by rw [hs]; rfl) hd ?_⟩
      have:=ix x (by simp [Op.operands]) _ _ _ g; rw [hx] at this; exact this
    · simp at h
  case load ty x=>
    try dsimp only at h
    split at h
    · rename_i av hav; exact ⟨_,h,loadV_ok ho hi hav⟩
    · simp at h
  case fieldAddr s x f=>exact fieldV_ok ho hi h
  case indexAddr ty x y=>
    try dsimp only at h
    split at h
    · rename_i i el hI hel
      have hu:=slOf_ok hel
      split at h
      · rename_i s
        have hres : ∀ a0 a k,Rd1 e o a0 a k → (res e (nrm (lk e s))).is a0 (a.get s) k:=fun a0 a k g=>res_is (nrm_is (g.op (.tmp s) (by rw [ho]; simp [Op.operands])).1) (fun s' h'=>hi s s' (nrm_ment h')) g.rs
        split at h
        · rename_i t xs heq
          cases hb:tyB C.P T el t with
          | false=>rw [hb] at h; simp at h
          | true =>
            rw [hb] at h; simp only [cond_true] at h
            obtain ⟨z,hz,h⟩:=bind_some h
            refine ⟨_, h, fun s' hs' => by simp [AV.ment] at hs', rfl, fun a0 a k g => ok_indexRef ho hu (tyB_ok hb) ?_ (asI_is hI (ix y (by simp [Op.operands]) _ _ _ g)) hz⟩
            have:=hres _ _ _ g; rw [heq] at this; exact this
        · rename_i lck e' t xs heq
          cases hb:(tyB C.P T el t && Nat.beq el e') with
          | false=>rw [hb] at h; simp at h
          | true =>
            rw [hb] at h; simp only [cond_true] at h
            rw [Bool.and_eq_true] at hb
            obtain ⟨hb,he⟩:=hb
            obtain rfl:=Nat.eq_of_beq_eq_true he
            obtain ⟨z,hz,h⟩:=bind_some h
            have hsl:isRes (lk e (slotOf e s)) = true∧∀ a0 a k,Rd1 e o a0 a k → a.get s = a0.get (slotOf e s):=by
              unfold slotOf
              cases hl:lk e s with
              | al s'=>exact ⟨hi s s' (by rw [hl]; exact Nat.beq_refl s'),fun a0 a k g=>by have:=(g.op (.tmp s) (by rw [ho]; simp [Op.operands])).1; rw [hl] at this; exact this⟩
              | own _ _ _ _=>exact ⟨by dsimp only; rw [hl]; rfl,fun a0 a k g=>(g.op (.tmp s) (by rw [ho]; simp [Op.operands])).2 (by rw [hl]; rfl)⟩
              | _=>rw [hl] at heq; simp [nrm,res] at heq
            generalize slotOf e s = s0 at h hsl
            refine ⟨_,h,fun s' hs'=>by rw [← Nat.eq_of_beq_eq_true hs']; exact hsl.1,rfl,fun a0 a k g=>?_⟩
            have h1:IsOwn 0 el xs (a.get s) k:=by have:=hres _ _ _ g; rw [heq] at this; exact this
            have h2:=hsl.2 _ _ _ g
            rw [h2] at h1
            refine does_imp (ok_indexO (u:=a0.get s0) (B:=0) ho hu (tyB_ok hb) ⟨h2,by rw [show a.eval (.tmp s) = a0.get s0 from h2]; exact h1⟩ (asI_is hI (ix y (by simp [Op.operands]) _ _ _ g)) hz) fun v k' hg hv=>⟨Lens.id_ok,hv,Mono.mono (R:=IsOwn 0 el xs) hg h1,(getI_spec hz).2.1⟩
        · rename_i lck m z' heq
          split at h
          · rename_i t xs hRL
            cases hb:tyB C.P T el t with
            | false=>rw [hb] at h; simp at h
            | true =>
              rw [hb] at h; simp only [cond_true] at h
              obtain ⟨z,hz,h⟩:=bind_some h
              refine ⟨_, h, fun s' hs' => by simp [AV.ment] at hs', rfl, fun a0 a k g => ok_indexRef ho hu (tyB_ok hb) ?_ (asI_is hI (ix y (by simp [Op.operands]) _ _ _ g)) hz⟩
              have:=hres _ _ _ g; rw [heq] at this
              obtain ⟨F,this⟩:=this
              exact T.RLok _ _ _ _ _ _ _ this hRL
          · simp at h
        · simp at h
      · simp at h
    · rename_i i hI hel
      split at h
      · rename_i m el n z hu hx
        split at h
        · rename_i t xs hxs
          cases hb:(Nat.beq m xs.length && tyB C.P T el t) with
          | false=>rw [hb] at h; simp at h
          | true =>
            rw [hb] at h; simp only [cond_true] at h
            rw [Bool.and_eq_true] at hb
            obtain ⟨r1,hr,h⟩:=bind_some h
            have hlen:=Nat.eq_of_beq_eq_true hb.1
            refine ⟨_, h, fun s' hs' => by simp [AV.ment] at hs', rfl, fun a0 a k g => ?_⟩
            have h1:=ix x (by simp [Op.operands]) _ _ _ g; rw [hx] at h1
            exact okArrRef ho hu (tyB_ok (T:=T) (u:=t) hb.2) hlen.symm hxs h1 (asI_is hI (ix y (by simp [Op.operands]) _ _ _ g)) hr
        · simp at h
      · simp at h
    · simp at h
  case index ty x y=>
    try dsimp only at h
    split at h
    · rename_i n z i m el hx hi2 hu
      split at h
      · rename_i t xs hxs
        cases hb:(Nat.beq m xs.length && tyB C.P T el t) with
        | false=>rw [hb] at h; simp at h
        | true =>
          rw [hb] at h; simp only [cond_true] at h
          rw [Bool.and_eq_true] at hb
          obtain ⟨r1,hr,h⟩:=bind_some h
          have hlen:=Nat.eq_of_beq_eq_true hb.1
          refine ⟨_,h,gives_m fun a0 a k g=>?_⟩
          have h1:=ix x (by simp [Op.operands]) _ _ _ g; rw [hx] at h1
          exact ok_arrIndexG ho hu (tyB_ok (T:=T) (u:=t) hb.2) hlen (agg_st (T:=T) (n:=n)) (fun k cs hr=>partsN_rep hxs (rep_st.1 hr)) h1 (asI_is hi2 (ix y (by simp [Op.operands]) _ _ _ g)) hr
      · simp at h
    · simp at h
  case extract x i=>
    try dsimp only at h
    split at h
    · rename_i l hx
      split at h
      · rename_i t y hl
        refine ⟨_,h,gives_m fun a0 a k g=>?_⟩
        have:=ix x (by simp [Op.operands]) _ _ _ g; rw [hx] at this
        obtain ⟨vs,e1,hf⟩:=this
        obtain ⟨u,hu,hv⟩:=hf.get hl
        refine does_pure (v:=u) ?_ hv
        simp only [execOp,ho,e1]
        simp [Instr.extract,hu]
      · simp at h
    · rename_i l hx
      split at h
      · simp at h
      · rename_i i
        split at h
        · rename_i t y hl
          refine ⟨_,h,gives_m fun a0 a k g=>?_⟩
          have:=ix x (by simp [Op.operands]) _ _ _ g; rw [hx] at this
          obtain ⟨u0,vs,e1,hf⟩:=this
          exact ok_extS ho e1 hf hl
        · simp at h
    · rename_i lf κ w l hx
      split at h
      · simp at h
      · rename_i i
        split at h
        · rename_i t y hl
          refine ⟨_,h,gives_m fun a0 a k g=>?_⟩
          have:=ix x (by simp [Op.operands]) _ _ _ g; rw [hx] at this
          obtain ⟨u0,vs,e1,_,hf⟩:=this
          exact ok_extS ho e1 hf hl
        · simp at h
    · rename_i s hx
      split at h
      · rename_i lf κ w l hs
        split at h
        · simp at h
        · rename_i i
          split at h
          · rename_i t y hl
            refine ⟨_,h,gives_m fun a0 a k g=>?_⟩
            have h1:=ix x (by simp [Op.operands]) _ _ _ g; rw [hx] at h1
            have h2:=g.rs s (by rw [hs]; rfl)
            rw [hs] at h2
            obtain ⟨u0,vs,e1,_,hf⟩:=h2
            exact ok_extS ho ((show a.eval x = a0.get s from h1).trans e1) hf hl
          · simp at h
      · simp at h
    · simp at h
  case box ty x=>
    try dsimp only at h
    split at h
    · rename_i t y hx
      cases hb:tyB C.P T ty t with
      | false=>rw [hb] at h; simp at h
      | true =>
        rw [hb] at h; simp only [cond_true] at h
        refine ⟨_,h,fun s hs=>by simp [AV.ment] at hs,rfl,fun a0 a k g=>ok_boxR ho ?_⟩
        have:=ix x (by simp [Op.operands]) _ _ _ g; rw [hx] at this; exact this
    · rename_i t y hx
      cases hb:tyB C.P T ty (.rf t) with
      | false=>rw [hb] at h; simp at h
      | true =>
        rw [hb] at h; simp only [cond_true] at h
        refine ⟨_,h,fun s hs=>by simp [AV.ment] at hs,rfl,fun a0 a k g=>ok_boxR (α:=T.D (.rf t)) ho ?_⟩
        have:=ix x (by simp [Op.operands]) _ _ _ g; rw [hx] at this; exact isV_rfT.2 this
    · simp at h
  case nilCheck x=>
    try dsimp only at h
    have ixm : ∀ a0 a k,Rd1 e o a0 a k → (mvv e x).is a0 (a.eval x) k:=fun a0 a k g=>mvv_is (g.op x (by rw [ho]; simp [Op.operands]))
    split at h
    · rename_i t y hx
      refine ⟨_,h,fun s hs=>by simp [AV.ment] at hs,rfl,fun a0 a k g=>ok_nilCheckR ho ?_⟩
      have:=ixm _ _ _ g; rw [hx] at this; exact this
    · rename_i s hx
      split at h
      · rename_i lck t y hs
        have hres:isRes (lk e s) = true:=by rw [hs]; rfl
        refine ⟨_,h,fun s' hs'=>by rw [← Nat.eq_of_beq_eq_true hs']; exact hres,rfl,fun a0 a k g=>?_⟩
        have h1:=ixm _ _ _ g; rw [hx] at h1
        have h2:=g.rs s hres
        rw [hs] at h2
        obtain ⟨b,e1,_⟩:=h2
        refine ok_nilCheckV ho ⟨_,(show a.eval x = a0.get s from h1).trans e1⟩ ?_
        exact h1
      · simp at h
    · simp at h
  case makeFunc fn first caps=>
    cases fn with
    | func f =>
      try dsimp only at h
      split at h
      · rename_i y hfi
        split at h
        · rename_i s hca hy
          have hms:=mvv_ment (x:=y) hi
          rw [hy] at hms
          obtain rfl:=arr1 hfi
          obtain rfl:caps = #[]:=by cases caps; simp at hca; rw [hca]
          refine ⟨_,h,hms,rfl,fun a0 a k g=>?_⟩
          refine ok_makeFunc (fn:=.func f) (first:=[y]) (captured:=[]) ho ?_
          have h1:=mvv_is (g.op y (by rw [ho]; simp [Op.operands]))
          rw [hy] at h1
          show Value.func (.func f) [a.eval y].toArray [].toArray = _
          rw [show a.eval y = a0.get s from h1]
        · simp at h
      · rename_i hfi
        split at h
        · rename_i d hd
          split at h
          · rename_i av hav
            obtain ⟨h1,h2⟩:=mkFn_shape hav
            refine ⟨_,h,fun s hs=>by rw [h1] at hs; simp at hs,h2,fun a0 a k g=>?_⟩
            refine ok_makeFunc (fn:=.func f) (first:=[]) (captured:=caps.toList) (by rw [ho]; simp [← hfi]) ?_
            exact (mkFn_is (us:=caps.toList.map a.eval) hC.pe (hC.deps f d hd) hav (by simp) (fun l z hz=>args_is hz fun x hx=>ix x (by simp [Op.operands]; exact .inr (by simpa using hx)) _ _ _ g) g.gl).2.2
          · simp at h
        · simp at h
      · simp at h
    | _=>exact nomatch (show (none:Option R) = some r from h)
  case slice ty x lo hi' mx=>
    try dsimp only at h
    split at h
    · simp at h
    · rename_i el hel
      have hu:=slOf_ok hel
      have ixx:=ix x (by simp [Op.operands])
      split at h
      · split at h
        · rename_i t xs hlo hl
          cases hb:tyB C.P T el t with
          | false=>rw [hb] at h; simp at h
          | true =>
            rw [hb] at h; simp only [cond_true] at h
            refine ⟨_,h,fun s hs=>by simp [AV.ment] at hs,rfl,fun a0 a k g=>ok_slice00 (α:=T.D t) (xs:=xs) ho ?_ hu (tyB_sz hb) (asL_is hl (ixx _ _ _ g) (opv_ment hi) g.rs)⟩
            split at hlo
            · exact .inl rfl
            · exact .inr rfl
            · simp at hlo
        · simp at h
      · split at h
        · rename_i t xs hx
          cases hb:tyB C.P T el t with
          | false=>rw [hb] at h; simp at h
          | true =>
            rw [hb] at h; simp only [cond_true] at h
            have ix' : ∀ a0 a k,Rd1 e o a0 a k → IsV xs (a.eval x) k:=fun a0 a k g=>by
              have:=ixx _ _ _ g; rw [hx] at this; exact this
            split at h
            · rename_i l h'
              split at h
              · rename_i nl nh hl hh
                obtain ⟨z,hz,h⟩:=bind_some h
                exact ⟨_,h,gives_v fun a0 a k g=>ok_slice ho hu (tyB_sz hb) (ix' _ _ _ g) (asI_is hl (ix l (by simp [Op.operands]) _ _ _ g)) (asI_is hh (ix h' (by simp [Op.operands]) _ _ _ g)) hz⟩
              · simp at h
            · rename_i l
              split at h
              · rename_i nl hl
                obtain ⟨z,hz,h⟩:=bind_some h
                exact ⟨_,h,gives_v fun a0 a k g=>ok_slice_lo ho hu (tyB_sz hb) (ix' _ _ _ g) (asI_is hl (ix l (by simp [Op.operands]) _ _ _ g)) hz⟩
              · simp at h
            · rename_i h'
              split at h
              · rename_i nh hh
                obtain ⟨z,hz,h⟩:=bind_some h
                exact ⟨_,h,gives_v fun a0 a k g=>ok_slice_hi ho hu (tyB_sz hb) (ix' _ _ _ g) (asI_is hh (ix h' (by simp [Op.operands]) _ _ _ g)) hz⟩
              · simp at h
            · simp at h
        · simp at h
      · simp at h
  case build ty ps=>
    try dsimp only at h
    split at h
    · rename_i n hn
      cases hb:(zeroB C.P T ty (.st n) && allFld C.P ty) with
      | false =>
        rw [hb] at h; simp only [cond_false] at h
        cases hb2:(zeroN C.P T ty n && allPl C.P ty) with
        | false=>rw [hb2] at h; simp at h
        | true =>
          rw [hb2] at h; simp only [cond_true] at h
          rw [Bool.and_eq_true] at hb2
          split at h
          · rename_i z hz
            refine ⟨_,h,gives_v fun a0 a k g=>ok_build (ps:=ps.toList) (by rw [ho]) (run_buildA hb2.1 hb2.2 hz (a0:=a0) fun y hy=>opvF_is hC (ix y ?_ _ _ _ g) g.gl)⟩
            simpa [Op.operands] using hy
          · simp at h
      | true =>
        rw [hb] at h; simp only [cond_true] at h
        rw [Bool.and_eq_true] at hb
        split at h
        · rename_i z hz
          refine ⟨_,h,gives_v fun a0 a k g=>ok_build (ps:=ps.toList) (by rw [ho]) (run_build hb.1 hb.2 hz (a0:=a0) fun y hy=>ix y ?_ _ _ _ g)⟩
          simpa [Op.operands] using hy
        · simp at h
    · simp at h
  case buildSlice ty n ps=>
    try dsimp only at h
    split at h
    · split at h
      · rename_i el hps hel
        split at h
        · rename_i t ht
          cases hb:elB C.P T el t with
          | false=>rw [hb] at h; simp at h
          | true =>
            rw [hb] at h; simp only [cond_true] at h
            have:ps = #[]:=by cases ps; simp at hps; rw [hps]
            subst this
            exact ⟨_,h,fun s hs=>by simp [AV.ment] at hs,rfl,fun a0 a k g=>ok_buildSlice0 (α:=T.D t) ho (slOf_ok hel) (elB_ok hb)⟩
        · simp at h
      · simp at h
    · rename_i hn0
      split at h
      · rename_i t el xs hb
        obtain ⟨h1,h2,h3,h4,h5⟩:=bslice_ok hb
        refine ⟨_,h,fun s hs=>by simp [AV.ment] at hs,rfl,fun a0 a k g=>ok_buildSliceF (ps:=ps.toList) (by rw [ho]) h1 h2 h3 (Nat.pos_of_ne_zero fun e=>hn0 e) h4 (h5 a0 a k fun y hy=>ix y ?_ _ _ _ g)⟩
        simpa [Op.operands] using hy
      · simp at h
  case call c=>
    try dsimp only at h
    obtain ⟨cal,as_,ts⟩:=c
    have ixa : ∀ x,x ∈ as_.toList → ∀ a0 a k,Rd1 e o a0 a k → (opv e x).is a0 (a.eval x) k:=fun x hx=>ix x (by simp [Op.operands,Call.operands]; exact .inr (by simpa using hx))
    dsimp only at h
    split at h
    · -- len
      split at h
      · rename_i x ty hx hty
        obtain rfl:=arr1 hx
        split at h
        · rename_i el hel
          have hres : ∀ a0 a k,Rd1 e o a0 a k → (res e (opv e x)).is a0 (a.eval x) k:=fun a0 a k g=>res_is (ixa x (by simp) _ _ _ g) (opv_ment hi) g.rs
          split at h
          · rename_i t xs heq
            exact ⟨_,h,gives_v fun a0 a k g=>ok_len ho hty (slOf_ok hel) (IsV.rd (by have:=hres _ _ _ g; rw [heq] at this; exact this))⟩
          · rename_i l el' t xs heq
            exact ⟨_,h,gives_v fun a0 a k g=>ok_len ho hty (slOf_ok hel) (IsOwn.rd (by have:=hres _ _ _ g; rw [heq] at this; exact this))⟩
          · rename_i heq
            refine ⟨_,h,gives_v fun a0 a k g=>?_⟩
            have h1:=hres _ _ _ g; rw [heq] at h1
            exact ok_len (α:=Int) (xs:=[]) ho hty (slOf_ok hel) (IsV.rd (IsE0.isV h1))
          · rename_i lck m z' heq
            split at h
            · rename_i t xs hRL
              refine ⟨_,h,gives_v fun a0 a k g=>ok_len ho hty (slOf_ok hel) (IsV.rd (α:=T.D t) (xs:=xs) ?_)⟩
              have:=hres _ _ _ g; rw [heq] at this
              obtain ⟨F,this⟩:=this
              exact T.RLok _ _ _ _ _ _ _ this hRL
            · simp at h
          · simp at h
        · simp at h
      · simp at h
    · -- max
      split at h
      · rename_i x y hx
        obtain rfl:=arr2 hx
        split at h
        · rename_i n m hn hm
          exact ⟨_,h,gives_v fun a0 a k g=>ok_max2 ho (asI_is hn (ixa x (by simp) _ _ _ g)) (asI_is hm (ixa y (by simp) _ _ _ g))⟩
        · simp at h
      · rename_i x y z hx
        obtain rfl:=arr3 hx
        split at h
        · rename_i n m p hn hm hp
          exact ⟨_,h,gives_v fun a0 a k g=>ok_max3 ho (asI_is hn (ixa x (by simp) _ _ _ g)) (asI_is hm (ixa y (by simp) _ _ _ g)) (asI_is hp (ixa z (by simp) _ _ _ g))⟩
        · simp at h
      · rename_i x y z u w hx
        obtain rfl:=arr5 hx
        split at h
        · rename_i n m p q t hn hm hp hq ht
          exact ⟨_,h,gives_v fun a0 a k g=>ok_max5 ho (asI_is hn (ixa x (by simp) _ _ _ g)) (asI_is hm (ixa y (by simp) _ _ _ g)) (asI_is hp (ixa z (by simp) _ _ _ g)) (asI_is hq (ixa u (by simp) _ _ _ g)) (asI_is ht (ixa w (by simp) _ _ _ g))⟩
        · simp at h
      · simp at h
    · -- min
      split at h
      · rename_i x y hx
        obtain rfl:=arr2 hx
        split at h
        · rename_i n m hn hm
          exact ⟨_,h,gives_v fun a0 a k g=>ok_min2 ho (asI_is hn (ixa x (by simp) _ _ _ g)) (asI_is hm (ixa y (by simp) _ _ _ g))⟩
        · simp at h
      · rename_i x y z hx
        obtain rfl:=arr3 hx
        split at h
        · rename_i n m p hn hm hp
          exact ⟨_,h,gives_v fun a0 a k g=>ok_min3 ho (asI_is hn (ixa x (by simp) _ _ _ g)) (asI_is hm (ixa y (by simp) _ _ _ g)) (asI_is hp (ixa z (by simp) _ _ _ g))⟩
        · simp at h
      · rename_i x y z u hx
        obtain rfl:=arr4 hx
        split at h
        · rename_i n m p q hn hm hp hq
          exact ⟨_,h,gives_v fun a0 a k g=>ok_min4 ho (asI_is hn (ixa x (by simp) _ _ _ g)) (asI_is hm (ixa y (by simp) _ _ _ g)) (asI_is hp (ixa z (by simp) _ _ _ g)) (asI_is hq (ixa u (by simp) _ _ _ g))⟩
        · simp at h
      · simp at h
    · -- append
      split at h
      · rename_i x y ty ty' hx hty
        obtain rfl:=arr2 hx
        obtain rfl:=arr2 hty
        split at h
        · rename_i el hel
          split at h
          · -- .. to a slice without room
            rename_i t xs hF
            have hfull : ∀ a0 a k,Rd1 e o a0 a k → IsFull xs (a.eval x) k:=by
              intro a0 a k g
              unfold asF at hF
              split at hF
              · rename_i s
                split at hF
                · rename_i t' xs' hl
                  cases hF
                  have:=(g.op (.tmp s) (by rw [ho]; simp [Op.operands,Call.operands])).1
                  rw [hl] at this; exact this
                · simp at hF
              · simp at hF
            split at h
            · rename_i u ys hl
              split at h
              · rename_i ys' hcast
                cases hb:(Nat.beq ty ty' && elB C.P T el t) with
                | false=>rw [hb] at h; simp at h
                | true =>
                  rw [hb] at h; simp only [cond_true] at h
                  rw [Bool.and_eq_true] at hb
                  obtain rfl:=Nat.eq_of_beq_eq_true hb.1
                  obtain ⟨z,hz,h⟩:=bind_some h
                  obtain ⟨e1,e2⟩:=cast?_eq hcast
                  cases e1
                  subst e2
                  exact ⟨_,h,gives_v fun a0 a k g=>ok_appendF ho (slOf_ok hel) (elB_ok hb.2) (hfull _ _ _ g) (asL_is hl (ixa y (by simp) _ _ _ g) (opv_ment hi) g.rs) hz⟩
              · simp at h
            · simp at h
          split at h
          · rename_i t ys hres hl
            cases hb:(Nat.beq ty ty' && elB C.P T el t) with
            | false=>rw [hb] at h; simp at h
            | true =>
              rw [hb] at h; simp only [cond_true] at h
              rw [Bool.and_eq_true] at hb
              obtain rfl:=Nat.eq_of_beq_eq_true hb.1
              obtain ⟨z,hz,h⟩:=bind_some h
              refine ⟨_,h,gives_v fun a0 a k g=>ok_append0V ho (slOf_ok hel) (elB_ok hb.2) ?_ (asL_is hl (ixa y (by simp) _ _ _ g) (opv_ment hi) g.rs) hz⟩
              have:=res_is (ixa x (by simp) _ _ _ g) (opv_ment hi) g.rs
              rw [hres] at this; exact this
          · simp at h
        · simp at h
      · simp at h
    · -- a function
      rename_i f
      split at h
      · rename_i d hd
        split at h
        · rename_i z hz
          obtain ⟨y,hy,h⟩:=bind_some h
          have hf:=hC.deps f d hd
          refine ⟨_,h,fun s hs=>by rw [resV_ment] at hs; simp at hs,resV_nonres,fun a0 a k g=>?_⟩
          have:=hf.ok k (as_.toList.map a.eval) z y g.gl (args_isF (opvF C e) hz fun x hx=>opvF_is hC (ixa x hx _ _ _ g) g.gl) hy
          refine does_imp (ok_call (as_:=as_.toList) (by rw [ho]) hf.call this) fun v k' _ hv=>is_act (fun s=>resV_ment) hv
        · simp at h
      · -- .. that only looks at a thing
        split at h
        · rename_i d hd
          split at h
          · rename_i z xs hq
            split at h
            · rename_i y hy
              obtain ⟨r1,hr,h⟩:=bind_some h
              have hf:=hC.qdeps f d hd
              refine ⟨_,h,fun s hs=>by rw [resV_ment] at hs; simp at hs,resV_nonres,fun a0 a k g=>?_⟩
              obtain ⟨u,F,hRP,hv,hsub⟩:=qArgs_ok hi g (fun x hx=>by rw [ho]; simp [Op.operands,Call.operands]; exact .inr (by simpa using hx)) hq
              have:=hf.ok k u (xs.map a.eval) z F y r1 g.gl hRP (args_isF (opvF C e) hy fun x hx=>opvF_is hC (ixa x (hsub x hx) _ _ _ g) g.gl) hr
              rw [← hv] at this
              refine does_imp (ok_call (as_:=as_.toList) (by rw [ho]) hf.call this) fun v k' _ hv=>is_act (fun s=>resV_ment) hv
            · simp at h
          · simp at h
        · simp at h
    · -- a function value
      rename_i s
      have hpe:=hC.pe
      have ixs : ∀ a0 a k,Rd1 e o a0 a k → (lk e s).is a0 (a.get s) k:=fun a0 a k g=>(g.op (.tmp s) (by rw [ho]; simp [Op.operands,Call.operands])).1
      split at h
      · rename_i b f heq
        split at h
        · rename_i hx
          obtain rfl:as_ = #[]:=by cases as_; simp at hx; rw [hx]
          obtain ⟨y,hy,h⟩:=bind_some h
          refine ⟨_,h,gives_m fun a0 a k g=>?_⟩
          have hf:=ixs _ _ _ g; rw [heq] at hf
          exact ok_callF0 ho (by rw [hpe]; exact isV_f0T.1 hf) hy
        · simp at h
      · rename_i b c f heq
        split at h
        · rename_i x hx
          obtain rfl:=arr1 hx
          split at h
          · rename_i z hz
            obtain ⟨y,hy,h⟩:=bind_some h
            refine ⟨_,h,gives_m fun a0 a k g=>?_⟩
            have hf:=ixs _ _ _ g; rw [heq] at hf
            exact ok_callF1 ho (by rw [hpe]; exact isV_f1T.1 hf) (asT_is hz (ixa x (by simp) _ _ _ g)) hy
          · simp at h
        · simp at h
      · rename_i b b' c f heq
        split at h
        · rename_i x x' hx
          obtain rfl:=arr2 hx
          split at h
          · rename_i z z' hz hz'
            obtain ⟨y,hy,h⟩:=bind_some h
            refine ⟨_,h,gives_m fun a0 a k g=>?_⟩
            have hf:=ixs _ _ _ g; rw [heq] at hf
            exact ok_callF2 ho (by rw [hpe]; exact isV_f2T.1 hf) (asT_is hz (ixa x (by simp) _ _ _ g)) (asT_is hz' (ixa x' (by simp) _ _ _ g)) hy
          · simp at h
        · simp at h
      · simp at h
    · simp at h
end
end Go.Gb

/- General part of the proofs: the operations of a region that may run in any order. -/
namespace Go.Gb
variable {T:Tb} {R:Type}

theorem lastIdx_none {t:Nat} : ∀ {l:List Oper} {i:Nat} {r:Option Nat},lastIdx t l i r = none → r = none∧∀ o ∈ l,o.dst ≠ some t
  | [],_,_,h=>⟨h,by simp⟩
  | o :: l, i, r, h => by
    simp only [lastIdx] at h
    obtain ⟨h1,h2⟩:=lastIdx_none h
    cases hd:o.dst with
    | none=>rw [hd] at h1; exact ⟨h1,by simpa [hd] using h2⟩
    | some d =>
      rw [hd] at h1
      cases hb:Nat.beq d t with
      | true=>simp only [hb] at h1; simp at h1
      | false =>
        simp only [hb] at h1
        refine ⟨h1,?_⟩
        simp only [List.mem_cons,forall_eq_or_imp]
        exact ⟨by rw [hd]; intro e; rw [Option.some.inj e,Nat.beq_refl] at hb; simp at hb,h2⟩
theorem lastIdx_snoc {t:Nat} {o:Oper} : ∀ {l:List Oper} {i:Nat} {r:Option Nat},lastIdx t (l ++ [o]) i r = if o.dst = some t then some (i + l.length) else lastIdx t l i r
  | [], i, r => by
    simp only [List.nil_append,lastIdx]
    cases hd:o.dst with
    | none=>simp
    | some d =>
      cases hb:Nat.beq d t with
      | true=>simp [hb,Nat.eq_of_beq_eq_true hb]
      | false =>
        have:d ≠ t:=fun e=>by rw [e,Nat.beq_refl] at hb; simp at hb
        simp [hb,this]
  | x :: l, i, r => by
    simp only [List.cons_append,lastIdx,lastIdx_snoc,List.length_cons]
    congr 2
    omega
theorem lastIdx_spec {t:Nat} : ∀ {l:List Oper} {i:Nat} {r:Option Nat} {j:Nat},lastIdx t l i r = some j → r = some j ∨ ∃ o,i ≤ j∧nth l (j - i) = some o∧o.dst = some t
  | [],_,_,_,h=>.inl h
  | o :: l, i, r, j, h => by
    simp only [lastIdx] at h
    rcases lastIdx_spec h with h1 | ⟨o', h1, h2, h3⟩
    · cases hd : o.dst with
      | none=>rw [hd] at h1; exact .inl h1
      | some d =>
        rw [hd] at h1
        cases hb:Nat.beq d t with
        | true =>
          simp only [hb,cond_true,Option.some.injEq] at h1
          subst h1
          exact .inr ⟨o,Nat.le_refl _,by simp [nth],by rw [hd,Nat.eq_of_beq_eq_true hb]⟩
        | false=>simp only [hb] at h1; exact .inl h1
    · exact .inr ⟨o', by omega, by rw [show j - i = (j - (i + 1)) + 1 by omega]; exact h2, h3⟩

theorem known_mem {es:List Ent} {a0 a:Act} {k:K} : ∀ {need:List (Nat × Option Nat)},Known es a0 a k need → ∀ t s,(t,s) ∈ need →
    (match s with | some j=>(match nth es j with | some ⟨some R,_⟩=>R (a.get t) k | _=>True) | none=>a.get t = a0.get t)
  | [],_,_,_,h=>by simp at h
  | (t', none) :: l, h, t, s, hm => by
    rcases List.mem_cons.1 hm with e | hm
    · cases e; exact h.1
    · exact known_mem h.2 t s hm
  | (t', some j) :: l, h, t, s, hm => by
    rcases List.mem_cons.1 hm with e | hm
    · cases e; exact h.1
    · exact known_mem h.2 t s hm
theorem nth_app {α:Type} : ∀ {l m:List α} {i:Nat} {x:α},nth l i = some x → nth (l ++ m) i = some x
  | _::_,_,0,_,h=>h
  | _::l,m,i + 1,x,h=>nth_app (l:=l) h
  | [],_,_,_,h=>by simp [nth] at h
theorem nth_at {α:Type} : ∀ {l:List α} {x:α} {m:List α},nth (l ++ x::m) l.length = some x
  | [],_,_=>rfl
  | _::l,x,m=>nth_at (l:=l)
theorem mem_tmps {o:Oper} {t:Nat} (h:Operand.tmp t ∈ o.op.operands.toList):t ∈ tmpsOf o:=List.mem_filterMap.2 ⟨_,h,rfl⟩

section
variable {C:Cx T} {n:Nat} {F:FP} {kk:K} {W:List Nat} {aa:Act} {e0:Env T} {a0:Act} {k0:K}

/-- What is known when some operations of a region have run. -/
structure P1 (e0:Env T) (a0:Act) (pre:List Oper) (es:List Ent) (e:Env T):Prop where
  len:es.length = pre.length
  slot : ∀ t,(match lastIdx t pre 0 none with
    | some j => ∃ R nd, nth es j = some ⟨R, nd⟩ ∧ (lk e t = .top ∨ ∃ R', R = some R' ∧ ∀ v k, R' v k → (lk e t).is a0 v k)
    | none=>lk e t = lk e0 t)
  res : ∀ t,isRes (lk e t) = true → lastIdx t pre 0 none = none
  inv : ∀ t s,(lk e t).ment s = true → isRes (lk e s) = true

theorem P1.rd1 {pre:List Oper} {es es' : List Ent} {e:Env T} {o:Oper} {a:Act} {k:K} (p:P1 e0 a0 pre es e) (h:Hl n F kk W aa e0 a0 k0) (hk:Grow k0 k)
    (hn:Known (es ++ es') a0 a k (needOf pre o)):Rd1 e o a0 a k:=by
  have rs : ∀ s,isRes (lk e s) = true → (lk e s).is a0 (a0.get s) k:=fun s hs=>by
    have h1:=p.slot s
    rw [p.res s hs] at h1
    dsimp only at h1
    rw [h1]; exact (lk e0 s).mono hk (h.sl s)
  have gl:GOk T k:=h.gl.le hk.le
  refine ⟨fun x hx=>?_,rs,gl⟩
  cases x with
  | tmp t =>
    have h1:=known_mem hn t (lastIdx t pre 0 none) (List.mem_map.2 ⟨t,mem_tmps hx,rfl⟩)
    have h2:=p.slot t
    cases hl:lastIdx t pre 0 none with
    | some j =>
      rw [hl] at h1 h2
      dsimp only at h1 h2
      obtain ⟨R,nd,h3,h4⟩:=h2
      rw [nth_app h3] at h1
      refine ⟨?_,fun hr=>by rw [p.res t hr] at hl; simp at hl⟩
      rcases h4 with h4 | ⟨R', rfl, h4⟩
      · rw [h4]; trivial
      · exact h4 _ _ h1
    | none =>
      rw [hl] at h1 h2
      dsimp only at h1 h2
      refine ⟨?_,fun _=>h1⟩
      rw [h2,h1]; exact (lk e0 t).mono hk (h.sl t)
  | global _=>exact gl
  | _=>trivial

theorem P1.push {pre:List Oper} {es:List Ent} {e:Env T} {o:Oper} {d:Nat} {av:AV T} {R' : Pred} {nd:List (Nat × Option Nat)} (p:P1 e0 a0 pre es e) (hd:o.dst = some d) (hr:isRes (lk e d) = false)
    (hm : ∀ s, av.ment s = true → isRes (lk e s) = true) (hav : isRes av = false) (hR : ∀ v k, R' v k → av.is a0 v k) : P1 e0 a0 (pre ++ [o]) (es ++ [⟨some R', nd⟩]) ((d, av) :: e) := by
  refine ⟨by simp [p.len],fun t=>?_,fun t ht=>?_,fun t s hms=>?_⟩
  · rw [lastIdx_snoc, hd, lk_cons]
    by_cases e1:d = t
    · subst e1
      rw [if_pos rfl,if_pos rfl,Nat.zero_add]
      exact ⟨_,_,by rw [← p.len]; exact nth_at,.inr ⟨_,rfl,hR⟩⟩
    · rw [if_neg (fun e => e1 (Option.some.inj e)), if_neg e1]
      have:=p.slot t
      split
      · rename_i j hj
        rw [hj] at this
        obtain ⟨R,nd,h1,h2⟩:=this
        exact ⟨R,nd,nth_app h1,h2⟩
      · rename_i hj
        rw [hj] at this
        exact this
  · rw [lk_cons] at ht
    rw [lastIdx_snoc,hd]
    by_cases e1:d = t
    · rw [if_pos e1,hav] at ht; simp at ht
    · rw [if_neg e1] at ht
      rw [if_neg (fun e=>e1 (Option.some.inj e))]
      exact p.res t ht
  · rw [lk_cons] at hms
    have hs:isRes (lk e s) = true:=by
      by_cases e1:d = t
      · rw [if_pos e1] at hms; exact hm s hms
      · rw [if_neg e1] at hms; exact p.inv t s hms
    rw [lk_cons,if_neg (fun e=>by rw [e,hs] at hr; simp at hr)]
    exact hs

theorem tops_lk {e:Env T} : ∀ {gr:OpL} {t:Nat},(lk (tops gr e) t = .top∧∃ x ∈ gr,x.2.dst = some t) ∨ (lk (tops gr e) t = lk e t∧∀ x ∈ gr,x.2.dst ≠ some t)
  | [],t=>.inr ⟨rfl,by simp⟩
  | (i, o) :: l, t => by
    simp only [tops]
    cases hd:o.dst with
    | none =>
      rcases tops_lk (gr:=l) (t:=t) with ⟨h1,x,hx,h2⟩ | ⟨h1,h2⟩
      · exact .inl ⟨h1,x,by simp [hx],h2⟩
      · exact .inr ⟨h1,by simpa [hd] using h2⟩
    | some d =>
      dsimp only
      rw [lk_cons]
      by_cases e1:d = t
      · subst e1
        rw [if_pos rfl]
        exact .inl ⟨rfl,(i,o),by simp,hd⟩
      · rw [if_neg e1]
        rcases tops_lk (gr:=l) (t:=t) with ⟨h1,x,hx,h2⟩ | ⟨h1,h2⟩
        · exact .inl ⟨h1,x,by simp [hx],h2⟩
        · exact .inr ⟨h1,by simp only [List.mem_cons,forall_eq_or_imp]; exact ⟨by rw [hd]; intro e; exact e1 (Option.some.inj e),h2⟩⟩

theorem lastIdx_skip {t:Nat} : ∀ {m:List Oper} {i:Nat} {r:Option Nat},(∀ o ∈ m,o.dst ≠ some t) → lastIdx t m i r = r
  | [],_,_,_=>rfl
  | o :: m, i, r, h => by
    simp only [lastIdx]
    rw [lastIdx_skip fun o' ho'=>h o' (by simp [ho'])]
    have:=h o (by simp)
    cases hd:o.dst with
    | none=>rfl
    | some d =>
      rw [hd] at this
      have hne:d ≠ t:=fun e=>this (congrArg some e)
      simp only [beq_ne hne,cond_false]
theorem lastIdx_app {t:Nat} : ∀ {l m:List Oper} {i:Nat} {r:Option Nat},(∀ o ∈ m,o.dst ≠ some t) → lastIdx t (l ++ m) i r = lastIdx t l i r
  | [],m,i,r,h=>lastIdx_skip h
  | x::l,m,i,r,h=>by simp only [List.cons_append,lastIdx]; exact lastIdx_app h

/-- operations that do not count any more -/
theorem P1.tops {pre cs:List Oper} {es es1:List Ent} {e e' : Env T} {gr:OpL} (p:P1 e0 a0 pre es e) (hg:gr.map (·.2) = cs) (q:P1 e0 a0 (pre ++ cs) (es ++ es1) e' ∨ es1.length = cs.length)
    (hr : ∀ x ∈ gr,∀ d,x.2.dst = some d → isRes (lk e d) = false):P1 e0 a0 (pre ++ cs) (es ++ es1) (tops gr e):=by
  have hlen:es1.length = cs.length:=by
    rcases q with q | q
    · have:=q.len; have:=p.len; simp at *; omega
    · exact q
  have hin : ∀ t,(∃ x ∈ gr,x.2.dst = some t) ↔ ∃ o ∈ cs,o.dst = some t:=fun t=>by
    rw [← hg]
    constructor
    · rintro ⟨x,hx,hd⟩; exact ⟨x.2,List.mem_map.2 ⟨x,hx,rfl⟩,hd⟩
    · rintro ⟨o, ho, hd⟩
      obtain ⟨x,hx,rfl⟩:=List.mem_map.1 ho
      exact ⟨x,hx,hd⟩
  refine ⟨by simp [p.len,hlen],fun t=>?_,fun t ht=>?_,fun t s hms=>?_⟩
  · rcases tops_lk (e := e) (gr := gr) (t := t) with ⟨h1, h2⟩ | ⟨h1, h2⟩
    · rw [h1]
      obtain ⟨o,ho,hd⟩:=(hin t).1 h2
      cases hl:lastIdx t (pre ++ cs) 0 none with
      | none=>exact absurd hd ((lastIdx_none hl).2 o (by simp [ho]))
      | some j =>
        rcases lastIdx_spec hl with h3 | ⟨o', _, h3, _⟩
        · simp at h3
        · have hj := nth_lt h3
          have:j < (es ++ es1).length:=by simp [p.len,hlen] at *; omega
          refine ⟨((es ++ es1)[j]).R,((es ++ es1)[j]).need,?_,.inl rfl⟩
          rw [nth_eq,List.getElem?_eq_getElem this]
    · rw [h1]
      have h3 : ∀ o ∈ cs,o.dst ≠ some t:=fun o ho hd=>by
        obtain ⟨x,hx,hd'⟩:=(hin t).2 ⟨o,ho,hd⟩
        exact h2 x hx hd'
      rw [lastIdx_app h3]
      have:=p.slot t
      split
      · rename_i j hj
        rw [hj] at this
        obtain ⟨R,nd,h4,h5⟩:=this
        exact ⟨R,nd,nth_app h4,h5⟩
      · rename_i hj
        rw [hj] at this
        exact this
  · rcases tops_lk (e := e) (gr := gr) (t := t) with ⟨h1, h2⟩ | ⟨h1, h2⟩
    · rw [h1] at ht; simp [isRes] at ht
    · rw [h1] at ht
      rw [lastIdx_app fun o ho hd=>by
        obtain ⟨x,hx,hd'⟩:=(hin t).2 ⟨o,ho,hd⟩
        exact h2 x hx hd']
      exact p.res t ht
  · have h3 : isRes (lk e s) = true := by
      rcases tops_lk (e:=e) (gr:=gr) (t:=t) with ⟨h1,h2⟩ | ⟨h1,h2⟩
      · rw [h1] at hms; simp [AV.ment] at hms
      · rw [h1] at hms; exact p.inv t s hms
    rcases tops_lk (e:=e) (gr:=gr) (t:=s) with ⟨h1,x,hx,hd⟩ | ⟨h1,h2⟩
    · rw [hr x hx s hd] at h3; simp at h3
    · rw [h1]; exact h3

theorem spanG_eq {g:Option (Nat × Bool)} : ∀ {l gr l' : OpL},spanG g l = (gr,l') → l = gr ++ l'
  | [], gr, l', h => by simp only [spanG, Prod.mk.injEq] at h; rw [← h.1, ← h.2]; rfl
  | x :: l, gr, l', h => by
    simp only [spanG] at h
    split at h
    · simp at h; simp [← h.1,← h.2]
    · simp only [Prod.mk.injEq] at h
      obtain ⟨rfl,rfl⟩:=h
      have:=spanG_eq (g:=g) (l:=l) rfl
      simp only [List.cons_append]
      rw [← this]
theorem spanG_hd {g:Option (Nat × Bool)} : ∀ {l gr l' : OpL} {x:Nat × Oper},spanG g l = (gr,x::l') → x.2.guard = g
  | [], gr, l', x, h => by simp [spanG] at h
  | y :: l, gr, l', x, h => by
    simp only [spanG] at h
    split at h
    · rename_i hy; simp only [Prod.mk.injEq,List.cons.injEq] at h; rw [← h.2.1]; exact hy
    · simp only [Prod.mk.injEq] at h
      exact spanG_hd (g:=g) (l:=l) (gr:=(spanG g l).1) (l':=l') (by rw [← h.2])
theorem ixs_split : ∀ {rest:List Oper} {i:Nat} {a b:OpL},ixs i rest = a ++ b → ∃ r1 r2,rest = r1 ++ r2∧a = ixs i r1∧b = ixs (i + r1.length) r2
  | rest,i,[],b,h=>⟨[],rest,rfl,rfl,by simpa using h.symm⟩
  | [],i,x::a,b,h=>by simp [ixs] at h
  | o :: rest, i, x :: a, b, h => by
    simp only [ixs,List.cons_append,List.cons.injEq] at h
    obtain ⟨r1,r2,h1,h2,h3⟩:=ixs_split h.2
    exact ⟨o::r1,r2,by rw [h1]; rfl,by simp only [ixs]; rw [h.1,h2],by rw [h3,List.length_cons,show i + 1 + r1.length = i + (r1.length + 1) by omega]⟩
theorem ixs_map {l:List Oper} : ∀ {i:Nat},(ixs i l).map (·.2) = l:=by
  induction l with
  | nil=>intro i; rfl
  | cons x l ih=>intro i; simp only [ixs,List.map_cons,ih]
theorem ixs_mem {l:List Oper} : ∀ {i j:Nat} {o:Oper},(j,o) ∈ ixs i l → i ≤ j∧nth l (j - i) = some o:=by
  induction l with
  | nil=>intro i j o h; simp [ixs] at h
  | cons x l ih =>
    intro i j o h
    simp only [ixs,List.mem_cons,Prod.mk.injEq] at h
    rcases h with ⟨rfl,rfl⟩ | h
    · exact ⟨Nat.le_refl _,by simp [nth]⟩
    · obtain ⟨h1, h2⟩ := ih h
      exact ⟨by omega,by rw [show j - i = (j - (i + 1)) + 1 by omega]; exact h2⟩
theorem steps_app {P:Program} {es:List Ent} {a0:Act} {k0:K} : ∀ {l m:List Oper} {a b:List Ent},a.length = l.length → Steps P es a0 k0 l a → Steps P es a0 k0 m b → Steps P es a0 k0 (l ++ m) (a ++ b)
  | [],m,[],b,_,_,h=>h
  | o::l,m,x::a,b,hl,h,h'=>⟨h.1,steps_app (by simpa using hl) h.2 h'⟩
  | [],_,_::_,_,h,_,_=>by simp at h
  | _::_,_,[],_,h,_,_=>by simp at h
theorem needs_app : ∀ {l m pre:List Oper},needs pre (l ++ m) = needs pre l ++ needs (pre ++ l) m
  | [],m,pre=>by simp [needs]
  | x::l,m,pre=>by simp only [List.cons_append,needs,needs_app,List.append_assoc,List.singleton_append,List.nil_append]

theorem pickC_ok {tot w m:Bool} {run oth:Option Bool} {K:Bool → Option R} {r:R} (h:pickC tot w m run oth K = some r) : ∃ b,K b = some r∧(m = w → run = some b)∧(m ≠ w → oth = some b):=by
  unfold pickC at h
  cases tot with
  | true =>
    cases run with
    | none=>simp at h
    | some b =>
      cases oth with
      | none=>simp at h
      | some d =>
        cases d <;> cases w <;> simp at h <;> (refine ⟨_,h,?_,?_⟩ <;> cases m <;> simp)
  | false =>
    simp only [cond_false] at h
    split at h <;> (obtain ⟨b,hb,h⟩:=bind_some h; refine ⟨b,h,?_,?_⟩ <;> cases m <;> simp at hb ⊢ <;> exact hb)
end
end Go.Gb

/- General part of the proofs: the operations of a region that may run in any order, continued. -/
namespace Go.Gb
variable {T:Tb} {R:Type}
section
variable {C:Cx T} {n:Nat} {F:FP} {kk:K} {W:List Nat} {aa:Act} {e0:Env T} {a0:Act} {k0:K}

theorem grp_none {P:Program} {es es' : List Ent} : ∀ {l:List Oper} {nds:List (List (Nat × Option Nat))},nds.length = l.length → (∀ o ∈ l,GuardIs (es ++ es') o false) →
    Steps P (es ++ es') a0 k0 l (nds.map fun nd=>⟨none,nd⟩)
  | [],[],_,_=>trivial
  | o::l,nd::nds,hl,h=>⟨h o (by simp),grp_none (by simpa using hl) fun o' ho'=>h o' (by simp [ho'])⟩
  | [],_::_,h,_=>by simp at h
  | _::_,[],h,_=>by simp at h
theorem needs_len : ∀ {l pre:List Oper},(needs pre l).length = l.length
  | [],_=>rfl
  | _::l,pre=>by simp [needs,needs_len (l:=l)]
theorem nth_mid {α:Type} : ∀ {l m r:List α} {i:Nat},l.length ≤ i → i < l.length + m.length → nth (l ++ (m ++ r)) i = nth m (i - l.length)
  | [], m, r, i, _, h => by
    simp only [List.nil_append,List.length_nil,Nat.sub_zero]
    rw [nth_eq,nth_eq,List.getElem?_append_left (by simpa using h)]
  | x::l,m,r,0,h,_=>by simp at h
  | x :: l, m, r, i + 1, h, h' => by
    simp only [List.cons_append,nth,List.length_cons]
    rw [nth_mid (by simpa using h) (by simp at h'; omega)]
    congr 1
    omega

theorem notDst_spec {s:Nat} {ops:List Oper} (h:notDst s ops = true) : ∀ i o,nth ops i = some o → o.dst ≠ some s:=by
  intro i o ho hd
  rw [nth_eq] at ho
  have:=List.all_eq_true.1 h o (List.mem_of_getElem? ho)
  rw [hd] at this
  simp [Nat.beq_refl] at this
theorem notDst_last {s:Nat} {cs rest:List Oper} (h:notDst s (cs ++ rest) = true):lastIdx s cs 0 none = none:=by
  cases hl:lastIdx s cs 0 none with
  | none=>rfl
  | some j =>
    rcases lastIdx_spec hl with h1 | ⟨o,_,h1,h2⟩
    · simp at h1
    · exact absurd h2 (notDst_spec h _ o (nth_app h1))
def hidP (T:Tb) (bH B:Nat):Hv → Pred
  | .adr off=>IsAdr bH off
  | .box t=>IsBoxS (T.D t) B
instance {bH B:Nat} : ∀ y:Hv,Mono (hidP T bH B y)
  | .adr off=>inferInstanceAs (Mono (IsAdr bH off))
  | .box t=>inferInstanceAs (Mono (IsBoxS (T.D t) B))
theorem hidO_adr {hid:Hd} {o:Oper} {off:Nat} (h:hidO C hid o = some (.adr off)) : ∃ s st f,hid = .old s∧o.op = .fieldAddr st (.tmp s) f∧fldOff C.P st f = some off:=by
  unfold hidO at h
  split at h
  · rename_i s st s' f hop
    cases hb:Nat.beq s s' with
    | false=>rw [hb] at h; simp at h
    | true =>
      rw [hb] at h
      obtain rfl:=Nat.eq_of_beq_eq_true hb
      simp only [cond_true] at h
      split at h
      · rename_i off' ho
        injection h with h; injection h with h
        subst h
        exact ⟨s,st,f,rfl,hop,ho⟩
      · simp at h
  · split at h
    · rename_i s t ty hopx _ d hdx
      cases hb:(Nat.beq s d && zeroB C.P T ty t) with
      | false=>rw [hb] at h; simp at h
      | true=>rw [hb] at h; simp at h
    · simp at h
  · simp at h
theorem hidO_box {hid:Hd} {o:Oper} {t:Tp} (h:hidO C hid o = some (.box t)) : ∃ s ty,hid = .new s t∧o.op = .alloc ty∧o.dst = some s∧zeroB C.P T ty t = true:=by
  unfold hidO at h
  split at h
  · rename_i s st s' f hop
    cases hb:Nat.beq s s' with
    | false=>rw [hb] at h; simp at h
    | true =>
      rw [hb] at h
      simp only [cond_true] at h
      split at h <;> simp at h
  · rename_i s t' ty hop
    split at h
    · rename_i d hd
      cases hb:(Nat.beq s d && zeroB C.P T ty t') with
      | false=>rw [hb] at h; simp at h
      | true =>
        rw [hb] at h
        rw [Bool.and_eq_true] at hb
        obtain rfl:=Nat.eq_of_beq_eq_true hb.1
        simp only [cond_true,Option.some.injEq,Hv.box.injEq] at h
        subst h
        exact ⟨s,ty,rfl,hop,hd,hb.2⟩
    · simp at h
  · simp at h
/-- All that is said of the operations is said by plain values. -/
def Plain (C:Cx T) (hid:Hd) (e0:Env T) (a0:Act) (bH B:Nat) (es:List Ent):Prop:=∀ x ∈ es,∀ R,x.R = some R → (∃ av:AV T,R = av.is a0∧isRes av = false∧∀ s,av.ment s = true → isRes (lk e0 s) = true) ∨ ∃ o y,hidO C hid o = some y∧R = hidP T bH B y
/-- What is known of the pointers into the box of which nothing else is told. -/
def Hidden (C:Cx T) (hid:Hd) (bH B:Nat) (g:Option (Nat × Bool)) (cs:List Oper) (es:List Ent):Prop:=
  g = none → ∀ j o y,nth cs j = some o → o.guard = none → hidO C hid o = some y → ∃ nd,nth es j = some ⟨some (hidP T bH B y),nd⟩
theorem Hidden.cons {hid:Hd} {bH B:Nat} {g:Option (Nat × Bool)} {cs:List Oper} {es:List Ent} {o:Oper} {x:Ent} (h:Hidden C hid bH B g cs es)
    (h0 : ∀ y,hidO C hid o = some y → o.guard = none → ∃ nd,x = ⟨some (hidP T bH B y),nd⟩):Hidden C hid bH B g (o::cs) (x::es):=by
  intro hg j o' y hj hgd ho
  cases j with
  | zero =>
    simp only [nth,Option.some.injEq] at hj
    subst hj
    obtain ⟨nd,h1⟩:=h0 y ho hgd
    exact ⟨nd,by simp [nth,h1]⟩
  | succ j=>exact h hg j o' y (by simpa [nth] using hj) hgd ho
theorem Hidden.skip {hid:Hd} {bH B:Nat} {g:Option (Nat × Bool)} : ∀ {gs cs:List Oper} {es1 es:List Ent},es1.length = gs.length → (∀ o ∈ gs,o.guard ≠ none) → Hidden C hid bH B g cs es → Hidden C hid bH B g (gs ++ cs) (es1 ++ es)
  | [],_,[],_,_,_,h=>h
  | o::gs,_,x::es1,_,hl,hn,h=>Hidden.cons (Hidden.skip (by simpa using hl) (fun o' ho'=>hn o' (by simp [ho'])) h) fun _ _ hg=>absurd hg (hn o (by simp))
  | [],_,_::_,_,hl,_,_=>by simp at hl
  | _::_,_,[],_,hl,_,_=>by simp at hl
theorem P1.res0 {pre:List Oper} {es:List Ent} {e:Env T} (p:P1 e0 a0 pre es e) {s:Nat} (h:isRes (lk e s) = true):isRes (lk e0 s) = true:=by
  have h1:=p.res s h
  have h2:=p.slot s
  rw [h1] at h2
  exact (show lk e s = lk e0 s from h2) ▸ h
theorem ev1_ok (hC:CxOk C) {hid:Hd} {bH B:Nat} (ops:List Oper) (hH : ∀ s,hid = .old s → a0.get s = .pointer (some ⟨bH,0,none⟩)∧notDst s ops = true) : ∀ (f:Nat) (R:Type) (g:Option (Nat × Bool)) (pre rest rr:List Oper) (e:Env T) (K:OpL → Env T → Option R) (r:R) (es:List Ent),
    ops = pre ++ (rest ++ rr) → P1 e0 a0 pre es e → (∀ es' o,o.guard = g → GuardIs (es ++ es') o true) → ev1 C hid ops f R g (ixs pre.length rest) e K = some r →
    ∃ (cs rest' : List Oper) (es1:List Ent) (e' : Env T),rest = cs ++ rest'∧es1.length = cs.length∧(g ≠ none → rest' = [])∧es1.map (·.need) = needs pre cs ∧
      K (ixs (pre ++ cs).length rest') e' = some r ∧ P1 e0 a0 (pre ++ cs) (es ++ es1) e' ∧ (∀ k0, Hl n F kk W aa e0 a0 k0 → B ≤ k0.w.heap.size → ∀ es', Steps C.P (es ++ (es1 ++ es')) a0 k0 cs es1) ∧ Plain C hid e0 a0 bH B es1 ∧ Hidden C hid bH B g cs es1
  | 0,_,_,_,_,_,_,_,_,_,_,_,_,h=>by simp [ev1] at h
  | f + 1, R, g, pre, [], rr, e, K, r, es, hops, p, hg, h => by
    simp only [ixs,ev1] at h
    exact ⟨[],[],[],e,rfl,rfl,fun _=>rfl,rfl,by simpa [ixs] using h,by simpa using p,fun _ _ _ _=>trivial,fun x hx=>by simp at hx,fun _ j o off hj=>by simp [nth] at hj⟩
  | f + 1, R, g, pre, o :: rest, rr, e, K, r, es, hops, p, hg, h => by
    simp only [ixs,ev1] at h
    split at h
    · rename_i hgo
      split at h
      · rename_i y d hho hd
        cases hrd:isRes (lk e d) with
        | true=>rw [hrd] at h; simp at h
        | false=>
        rw [hrd] at h
        simp only [cond_false] at h
        have p':=p.push (R':=hidP T bH B y) (nd:=needOf pre o) (av:=.top) hd hrd (fun s hs=>by simp [AV.ment] at hs) rfl (fun _ _ _=>trivial)
        have hops' : ops = (pre ++ [o]) ++ (rest ++ rr):=by rw [hops]; simp
        obtain ⟨cs, rest', es1, e', h1, h2, h3, h4, h5, h6, h7, h8, h9⟩ := ev1_ok hC ops hH f R g (pre ++ [o]) rest rr _ K r _ hops' p' (fun es' o' ho' => by
          have:=hg ([⟨some (hidP T bH B y),needOf pre o⟩] ++ es') o' ho'
          rwa [← List.append_assoc] at this) (by simpa using h)
        refine ⟨o :: cs, rest', ⟨some (hidP T bH B y), needOf pre o⟩ :: es1, e', by rw [h1]; rfl, by simp [h2], h3, by simp [needs, h4], by simpa using h5, by simpa using h6, fun k0 h0 hB es' => ⟨?_, ?_⟩, fun x hx R hR => ?_, h9.cons fun y' ho _ => (by rw [hho] at ho; exact ⟨_, by rw [Option.some.inj ho]⟩)⟩
        · refine ⟨inferInstance, .inl ⟨fun a k hk' hn' => ?_, hg _ o hgo⟩⟩
          cases y with
          | adr off =>
            obtain ⟨s, st, f', hs1, hop, hfo⟩ := hidO_adr hho
            obtain ⟨hbs,hnd⟩:=hH s hs1
            have hls:lastIdx s pre 0 none = none:=notDst_last (rest:=o::rest ++ rr) (by rw [hops] at hnd; simpa using hnd)
            refine ok_fieldAdr hop (fldOff_ok hfo) ?_
            have:=known_mem hn' s none (List.mem_map.2 ⟨s,mem_tmps (by rw [hop]; simp [Op.operands]),by rw [hls]⟩)
            exact (show a.get s = a0.get s from this).trans hbs
          | box t =>
            obtain ⟨s, ty, hs1, hop, hd', hz⟩ := hidO_box hho
            obtain ⟨_,zv,_,_,_,_,hrun,_,hv⟩:=zeroB_ok hz
            exact does_imp (ok_alloc B (Nat.le_trans hB hk'.size) hop ⟨zv,hrun,hv⟩) fun v k' _ hb=>⟨_,hb⟩
        · have := h7 k0 h0 hB es'
          simpa using this
        · rcases List.mem_cons.1 hx with rfl | hx
          · obtain rfl := Option.some.inj hR
            exact .inr ⟨o,y,hho,rfl⟩
          · exact h8 x hx R hR
      · rename_i hno
        cases hm:isMut C e o with
        | true =>
          rw [hm] at h
          simp only [cond_true] at h
          split at h
          · exact ⟨[],o::rest,[],e,rfl,rfl,fun hn=>absurd rfl hn,rfl,by simpa [ixs] using h,by simpa using p,fun _ _ _ _=>trivial,fun x hx=>by simp at hx,fun _ j o off hj=>by simp [nth] at hj⟩
          · simp at h
        | false =>
          rw [hm] at h
          simp only [cond_false] at h
          split at h
          · rename_i d hd
            have hho:hidO C hid o = none:=by
              cases hh:hidO C hid o with
              | none=>rfl
              | some y=>exact (hno y d hh hd).elim
            obtain ⟨av,hk,hgv⟩:=step1_ok hC p.inv h
            have hrd:isRes (lk e d) = false:=by
              unfold isMut at hm
              rw [hd] at hm
              simp only [Bool.or_eq_false_iff] at hm
              exact hm.1
            have p':=p.push (R':=av.is a0) (nd:=needOf pre o) hd hrd hgv.1 hgv.2.1 (fun _ _ h=>h)
            have hops' : ops = (pre ++ [o]) ++ (rest ++ rr):=by rw [hops]; simp
            obtain ⟨cs, rest', es1, e', h1, h2, h3, h4, h5, h6, h7, h8, h9⟩ := ev1_ok hC ops hH f R g (pre ++ [o]) rest rr _ K r _ hops' p' (fun es' o' ho' => by
              have:=hg ([⟨some (av.is a0),needOf pre o⟩] ++ es') o' ho'
              rwa [← List.append_assoc] at this) (by simpa using hk)
            refine ⟨o :: cs, rest', ⟨some (av.is a0), needOf pre o⟩ :: es1, e', by rw [h1]; rfl, by simp [h2], h3, by simp [needs, h4], by simpa using h5, by simpa using h6, fun k0 h0 hB es' => ⟨?_, ?_⟩, fun x hx R hR => ?_, h9.cons fun off ho _ => (by rw [hho] at ho; simp at ho)⟩
            · refine ⟨inferInstance,.inl ⟨fun a k hk' hn'=>hgv.2.2 a0 a k (p.rd1 h0 hk' hn'),hg _ o hgo⟩⟩
            · have := h7 k0 h0 hB es'
              simpa using this
            · rcases List.mem_cons.1 hx with rfl | hx
              · obtain rfl := Option.some.inj hR
                exact .inl ⟨av,rfl,hgv.2.1,fun s hs=>p.res0 (hgv.1 s hs)⟩
              · exact h8 x hx R hR
          · simp at h
    · rename_i hgo
      split at h
      · simp at h
      · rename_i j w hjw
        cases hst:(g.isNone && (spanG g ((pre.length,o)::ixs (pre.length + 1) rest)).1.any (fun x=>isMut C e x.2)) with
        | true =>
          rw [hst] at h
          simp only [cond_true] at h
          rw [Bool.and_eq_true] at hst
          obtain rfl:g = none:=by simpa using hst.1
          exact ⟨[],o::rest,[],e,rfl,rfl,fun hn=>absurd rfl hn,rfl,by simpa [ixs] using h,by simpa using p,fun _ _ _ _=>trivial,fun x hx=>by simp at hx,fun _ j o off hj=>by simp [nth] at hj⟩
        | false=>
        rw [hst] at h
        simp only [cond_false] at h
        clear hst
        split at h
        · rename_i gr ip p' l' hsp
          split at h
          · rename_i c x y d tj hpo hpd hdj
            split at h
            · rename_i m hmm
              cases hchk:(Nat.beq tj c && lastIs c (ops.take pre.length) j && grpOk e c j w gr && !(isRes (lk e d))) with
              | false=>rw [hchk] at h; simp at h
              | true =>
                rw [hchk] at h
                simp only [cond_true] at h
                simp only [Bool.and_eq_true,Bool.not_eq_true'] at hchk
                obtain ⟨⟨⟨hc1,hc2⟩,hc3⟩,hc4⟩:=hchk
                obtain ⟨b,hk,hrun,hoth⟩:=pickC_ok h
                -- the group
                have hl:=spanG_eq hsp
                have hl:ixs pre.length (o::rest) = gr ++ (ip,p')::l':=hl
                obtain ⟨g1,g2,he1,he2,he3⟩:=ixs_split hl
                obtain ⟨q,rest2,rfl,rfl,rfl⟩ : ∃ q rest2,g2 = q::rest2∧p' = q∧l' = ixs (pre.length + g1.length + 1) rest2:=by
                  cases g2 with
                  | nil=>simp [ixs] at he3
                  | cons q rest2=>simp only [ixs,List.cons.injEq,Prod.mk.injEq] at he3; exact ⟨q,rest2,rfl,he3.1.2,he3.2⟩
                have htake:ops.take pre.length = pre:=by rw [hops,List.take_left']; rfl
                rw [htake] at hc2
                unfold lastIs at hc2
                -- the condition's entry
                have hslot:=p.slot c
                obtain ⟨Rj,ndj,hej,hRj⟩ : ∃ Rj nd,nth es j = some ⟨some Rj,nd⟩∧∀ v k,Rj v k → v = .bool m:=by
                  cases hli:lastIdx c pre 0 none with
                  | none=>rw [hli] at hc2; simp at hc2
                  | some j' =>
                    rw [hli] at hc2 hslot
                    obtain rfl:=Nat.eq_of_beq_eq_true hc2
                    obtain ⟨R1,nd,h1,h2⟩:=hslot
                    rcases h2 with h2 | ⟨R', rfl, h2⟩
                    · rw [h2] at hmm; simp [asB] at hmm
                    · exact ⟨R', nd, h1, fun v k hv => isV_bool.1 (asB_is hmm (h2 v k hv))⟩
                have hjl:j < es.length:=by have:=nth_lt hej; simpa using this
                have hgr : ∀ x ∈ gr, (∃ d, x.2.dst = some d ∧ isRes (lk e d) = false ∧ d ≠ c) ∧ ∃ j' w', x.2.guard = some (j', w') ∧ ((j' = j ∧ w' = w) ∨ ∃ y ∈ gr, y.1 = j') := by
                  intro x hx
                  have:=List.all_eq_true.1 hc3 x hx
                  rw [Bool.and_eq_true] at this
                  obtain ⟨h1,h2⟩:=this
                  constructor
                  · cases hxd : x.2.dst with
                    | none=>rw [hxd] at h2; simp at h2
                    | some dx =>
                      rw [hxd] at h2
                      simp only [Bool.and_eq_true,Bool.not_eq_true'] at h2
                      exact ⟨dx,rfl,h2.1,fun e=>by rw [e,Nat.beq_refl] at h2; simp at h2⟩
                  · cases hxg : x.2.guard with
                    | none=>rw [hxg] at h1; simp at h1
                    | some jw =>
                      obtain ⟨j', w'⟩ := jw
                      rw [hxg] at h1
                      simp only [Bool.or_eq_true,Bool.and_eq_true,beq_iff_eq,List.any_eq_true] at h1
                      refine ⟨j', w', rfl, ?_⟩
                      rcases h1 with h1 | ⟨y,hy,h1⟩
                      · exact .inl ⟨Nat.eq_of_beq_eq_true h1.1,h1.2⟩
                      · exact .inr ⟨y,hy,Nat.eq_of_beq_eq_true h1⟩
                have hcs:gr.map (·.2) = g1:=by rw [he2,ixs_map]
                have hnr : ∀ x ∈ gr,∀ d,x.2.dst = some d → isRes (lk e d) = false:=fun x hx d hd=>by
                  obtain ⟨⟨d', h1, h2, _⟩, _⟩ := hgr x hx
                  rw [hd] at h1; obtain rfl:=Option.some.inj h1; exact h2
                have hg1:ops = pre ++ (g1 ++ (p'::rest2 ++ rr)):=by rw [hops,he1]; simp
                -- the entries of the group, and what is picked
                obtain ⟨es1, q1, q2, q3, q4, q6, q5⟩ : ∃ es1 : List Ent, es1.length = g1.length ∧ es1.map (·.need) = needs pre g1 ∧ (∀ k0, Hl n F kk W aa e0 a0 k0 → B ≤ k0.w.heap.size → ∀ es', Steps C.P (es ++ (es1 ++ es')) a0 k0 g1 es1) ∧
                    P1 e0 a0 (pre ++ g1) (es ++ es1) (tops gr e)∧Plain C hid e0 a0 bH B es1 ∧
                    (m = w → ∃ e', P1 e0 a0 (pre ++ g1) (es ++ es1) e' ∧ asB (opv e' (if w then x else y)) = some b) := by
                  by_cases hmw:m = w
                  · have hr := hrun hmw
                    rw [he2] at hr
                    obtain ⟨cs, rest', es1, e', h1, h2, h3, h4, h5, h6, h7, h8, _⟩ := ev1_ok hC ops hH f Bool (some (j, w)) pre g1 (p' :: rest2 ++ rr) e _ b es hg1 p (fun es' o' ho' => by
                      unfold GuardIs
                      rw [ho']
                      dsimp only
                      rw [nth_app hej]
                      intro v k hv
                      rw [hRj v k hv,hmw]; rfl) hr
                    obtain rfl:=h3 (by simp)
                    rw [List.append_nil] at h1
                    subst h1
                    exact ⟨es1, h2, h4, h7, p.tops hcs (.inl h6) hnr, h8, fun _ => ⟨e', h6, h5⟩⟩
                  · refine ⟨(needs pre g1).map fun nd => ⟨none, nd⟩, by simp [needs_len], by simp [List.map_map, Function.comp_def], fun k0 h0 hB es' => ?_, p.tops (e' := e) hcs (.inr (by simp [needs_len])) hnr, fun x hx R hR => (by obtain ⟨nd, _, rfl⟩ := List.mem_map.1 hx; simp at hR), fun h => absurd h hmw⟩
                    refine grp_none (by simp [needs_len]) fun o' ho'=>?_
                    rw [← hcs] at ho'
                    obtain ⟨x', hx', rfl⟩ := List.mem_map.1 ho'
                    obtain ⟨_, j', w', hg', hor⟩ := hgr x' hx'
                    unfold GuardIs
                    rw [hg']
                    dsimp only
                    rcases hor with ⟨rfl, rfl⟩ | ⟨y', hy', rfl⟩
                    · rw [nth_app hej]
                      intro v k hv
                      rw [hRj v k hv]
                      cases m <;> cases w' <;> simp_all
                    · rw [he2] at hy'
                      obtain ⟨z1,z2⟩:=ixs_mem (i:=pre.length) (show (y'.1,y'.2) ∈ ixs pre.length g1 from hy')
                      have hlt:=nth_lt z2
                      rw [nth_mid (by rw [p.len]; exact z1) (by simp [needs_len,p.len]; omega),p.len,nth_eq,List.getElem?_map]
                      rw [List.getElem?_eq_getElem (by rw [needs_len]; exact hlt)]
                      rfl
                -- the pick itself
                have hlk:lk (tops gr e) c = lk e c:=by
                  rcases tops_lk (e := e) (gr := gr) (t := c) with ⟨_, x', hx', hd'⟩ | ⟨h1, _⟩
                  · obtain ⟨⟨d', h1, _, h2⟩, _⟩ := hgr x' hx'
                    rw [hd'] at h1; exact absurd (Option.some.inj h1).symm h2
                  · exact h1
                have hrd:isRes (lk (tops gr e) d) = false:=by
                  rcases tops_lk (e:=e) (gr:=gr) (t:=d) with ⟨h1,_⟩ | ⟨h1,_⟩
                  · rw [h1]; rfl
                  · rw [h1]; exact hc4
                have p2:=q4.push (o:=p') (R':=(AV.v (T:=T) .bool b).is a0) (nd:=needOf (pre ++ g1) p') hpd hrd (av:=.v .bool b) (fun s hs=>by simp [AV.ment] at hs) rfl (fun _ _ h=>h)
                have hgp:p'.guard = g:=by
                  have:=spanG_hd hsp
                  exact this
                have hops2:ops = ((pre ++ g1) ++ [p']) ++ (rest2 ++ rr):=by rw [hops,he1]; simp
                have hob : ∀ k0, Hl n F kk W aa e0 a0 k0 → ∀ es', Ob C.P (es ++ (es1 ++ es')) a0 k0 p' ⟨some ((AV.v (T := T) .bool b).is a0), needOf (pre ++ g1) p'⟩ := by
                  intro k0 h0 es'
                  refine ⟨inferInstance,.inl ⟨fun a k hk' hn'=>?_,hg _ p' hgp⟩⟩
                  rw [← List.append_assoc] at hn'
                  have rd:=q4.rd1 h0 hk' hn'
                  have hmc:c ∈ p'.op.operands.toList.filterMap (fun | .tmp t=>some t | _=>none):=by rw [hpo]; simp [Op.operands]
                  have hx1:x ∈ p'.op.operands.toList:=by rw [hpo]; simp [Op.operands]
                  have hy1:y ∈ p'.op.operands.toList:=by rw [hpo]; simp [Op.operands]
                  have hcv:IsV m (a.eval (.tmp c)) k:=by
                    have:=(rd.op (.tmp c) (by rw [hpo]; simp [Op.operands])).1
                    rw [hlk] at this
                    exact asB_is hmm this
                  refine ok_pickB (m:=m) (r:=b) hpo hcv (fun hm1=>?_) (fun hm1=>?_)
                  · cases w with
                    | true =>
                      obtain ⟨e', p', hb⟩ := q5 hm1
                      exact asB_is hb (opv_is ((p'.rd1 h0 hk' hn').op x hx1))
                    | false =>
                      have hb:=hoth (by rw [hm1]; simp)
                      exact asB_is hb (opv_is (rd.op x hx1))
                  · cases w with
                    | true =>
                      have hb:=hoth (by rw [hm1]; simp)
                      exact asB_is hb (opv_is (rd.op y hy1))
                    | false =>
                      obtain ⟨e', p', hb⟩ := q5 hm1
                      exact asB_is hb (opv_is ((p'.rd1 h0 hk' hn').op y hy1))
                obtain ⟨cs, rest', es2, e', h1, h2, h3, h4, h5, h6, h7, h8, h9⟩ := ev1_ok hC ops hH f R g ((pre ++ g1) ++ [p']) rest2 rr _ K r _ hops2 p2 (fun es' o' ho' => by
                  have:=hg (es1 ++ ([⟨some ((AV.v (T:=T) .bool b).is a0),needOf (pre ++ g1) p'⟩] ++ es')) o' ho'
                  simpa using this) (by simpa [Nat.add_assoc] using hk)
                refine ⟨g1 ++ p' :: cs, rest', es1 ++ ⟨some ((AV.v (T := T) .bool b).is a0), needOf (pre ++ g1) p'⟩ :: es2, e', by rw [he1, h1]; simp, by simp [q1, h2], h3, ?_, by simpa using h5, by simpa using h6, fun k0 h0 hB es' => ?_, fun x' hx R hR => ?_, Hidden.skip q1 (fun o' ho' => ?_) (h9.cons fun off ho _ => ?_)⟩
                · rw [needs_app]
                  simp [q2,needs,h4]
                · refine steps_app q1 ?_ ⟨?_, ?_⟩
                  · have := q3 k0 h0 hB (⟨some ((AV.v (T := T) .bool b).is a0), needOf (pre ++ g1) p'⟩ :: es2 ++ es')
                    simpa using this
                  · have := hob k0 h0 (⟨some ((AV.v (T := T) .bool b).is a0), needOf (pre ++ g1) p'⟩ :: es2 ++ es')
                    simpa using this
                  · have := h7 k0 h0 hB es'
                    simpa using this
                · rcases List.mem_append.1 hx with hx | hx
                  · exact q6 x' hx R hR
                  · rcases List.mem_cons.1 hx with rfl | hx
                    · obtain rfl := Option.some.inj hR
                      exact .inl ⟨.v .bool b,rfl,rfl,fun s hs=>by simp [AV.ment] at hs⟩
                    · exact h8 x' hx R hR
                · rw [← hcs] at ho'
                  obtain ⟨x', hx', rfl⟩ := List.mem_map.1 ho'
                  obtain ⟨_, j', w', hg', _⟩ := hgr x' hx'
                  rw [hg']; simp
                · cases off with
                  | adr off =>
                    obtain ⟨_, _, _, _, hop', _⟩ := hidO_adr ho
                    rw [hpo] at hop'; simp at hop'
                  | box t =>
                    obtain ⟨_, _, _, hop', _⟩ := hidO_box ho
                    rw [hpo] at hop'; simp at hop'
            · simp at h
          · simp at h
        · simp at h
end
end Go.Gb


