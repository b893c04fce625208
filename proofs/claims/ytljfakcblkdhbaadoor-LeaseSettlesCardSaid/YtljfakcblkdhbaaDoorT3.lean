/- What the functions compute that the law reaches, and that the law holds of it, part 3 -/
import Derived.Test.YtljfakcblkdhbaaDoorT2
namespace Go.Proofs.YtljfakcblkdhbaaDoor
open Go.Gb
set_option linter.unusedVariables false
set_option linter.unusedSimpArgs false
set_option linter.unusedSectionVars false
set_option maxRecDepth 100000
/-! LeaseCovers -/
/-- what using does -/
theorem use_cases {c:DC} (h:Inv c) (s:ByteArray) (n:Int):(1 ≤ n∧n ≤ leftC c s∧∃ x,getC c.L s = some x∧useC c s n = ({ c with L:=setC c.L s { x with Used:=x.Used + n } },0)) ∨ (¬ (1 ≤ n∧n ≤ leftC c s)∧(useC c s n).1 = c∧¬ (useC c s n).2 = 0):=by
  unfold useC leftC
  by_cases hn:1 ≤ n∧n ≤ 1099511627776
  · rw [if_pos hn]
    cases hx:getC c.L s with
    | none=>exact .inr ⟨by dsimp only; omega,rfl,by show ¬ (4:Int) = 0; omega⟩
    | some x =>
      dsimp only
      by_cases hl:x.Held - x.Used < n
      · rw [if_pos hl]; exact .inr ⟨by omega,rfl,by show ¬ (26:Int) = 0; omega⟩
      · rw [if_neg hl]; exact .inl ⟨hn.1,by omega,x,rfl,rfl⟩
  · rw [if_neg hn]
    refine .inr ⟨?_,rfl,by show ¬ (1:Int) = 0; omega⟩
    cases hx:getC c.L s with
    | none=>dsimp only; omega
    | some x =>
      dsimp only
      obtain ⟨_,h1,h2,h3⟩:=h.le x (getC_mem hx).1
      omega
end Go.Proofs.YtljfakcblkdhbaaDoor

namespace Go.Proofs.YtljfakcblkdhbaaDoor
open Go.Gb
set_option linter.unusedVariables false
set_option linter.unusedSimpArgs false
set_option linter.unusedSectionVars false
set_option maxRecDepth 100000
/-! LeaseOnce -/
theorem getK_setK_ne {γ κ:Type} [DecidableEq κ] : ∀ (l:List (κ × γ)) {n m:κ} (x:γ),¬ m = n → getK (setK l n x) m = getK l m
  | [],n,m,x,h=>by simp only [setK,getK,if_neg h]
  | (a, u) :: l, n, m, x, h => by
    simp only [setK]
    split
    · rename_i e; subst e; simp only [getK,if_neg h]
    · simp only [getK]
      split
      · rfl
      · exact getK_setK_ne l x h
theorem took_set (c:DC) (f n:Int) (L:List Lease):tookC { c with L:=L,taken:=setK c.taken ⟨f,n⟩ true } f n = true:=by
  unfold tookC; dsimp only; rw [getK_setK']; rfl
theorem took_ne (c:DC) {f n f' n' : Int} (L:List Lease) (h : ¬ (f = f'∧n = n')):tookC { c with L:=L,taken:=setK c.taken ⟨f,n⟩ true } f' n' = tookC c f' n':=by
  unfold tookC
  dsimp only
  rw [getK_setK_ne]
  intro e
  simp only [LeaseKey.mk.injEq] at e
  exact h ⟨e.1.symm,e.2.symm⟩
/-- the lease of a cap with n more -/
def addL (L:List Lease) (k:Int) (cap:ByteArray) (n:Int):List Lease:=match getC L cap with
  | none=>insC ⟨cap,k,n,0⟩ L
  | some x=>setC L cap { x with Held:=x.Held + n }
theorem took_eq {c c' : DC} (h:c.taken = c'.taken) (f n:Int):tookC c f n = tookC c' f n:=by unfold tookC; rw [h]
end Go.Proofs.YtljfakcblkdhbaaDoor

namespace Go.Proofs.YtljfakcblkdhbaaDoor
open Go.Gb
set_option linter.unusedVariables false
set_option linter.unusedSimpArgs false
set_option linter.unusedSectionVars false
set_option maxRecDepth 100000
/-! Three desks: plain facts. -/
def sumP {α:Type} (f:α → Int):List α → Int
  | []=>0
  | a::l=>f a + sumP f l
section
variable {α:Type} {f g:α → Int}
theorem sumP_append : ∀ (l l' : List α),sumP f (l ++ l') = sumP f l + sumP f l'
  | [],l'=>by simp [sumP]
  | a::l,l'=>by simp only [List.cons_append,sumP,sumP_append l l']; omega
theorem sumP_nonneg : ∀ {l:List α},(∀ a ∈ l,0 ≤ f a) → 0 ≤ sumP f l
  | [],_=>Int.le_refl 0
  | a :: l, h => by
    have h1:=h a (by simp)
    have h2:=sumP_nonneg (l:=l) fun b hb=>h b (by simp [hb])
    simp only [sumP]; omega
theorem sumP_congr : ∀ {l:List α},(∀ a ∈ l,f a = g a) → sumP f l = sumP g l
  | [],_=>rfl
  | a :: l, h => by
    simp only [sumP]
    rw [h a (by simp),sumP_congr (l:=l) fun b hb=>h b (by simp [hb])]
theorem sumP_mem : ∀ {l:List α},(∀ a ∈ l,0 ≤ f a) → ∀ a ∈ l,f a ≤ sumP f l
  | [],_,a,ha=>by simp at ha
  | b :: l, h, a, ha => by
    have h1:=h b (by simp)
    have h2:=sumP_nonneg (l:=l) fun b hb=>h b (by simp [hb])
    simp only [sumP]
    rcases List.mem_cons.1 ha with rfl | ha
    · omega
    · have:=sumP_mem (l:=l) (fun b hb=>h b (by simp [hb])) a ha; omega
theorem sumP_take {l:List α} {i:Nat} {y:α} (h:l[i]? = some y):sumP f (l.take (i + 1)) = sumP f (l.take i) + f y:=by
  rw [List.take_add_one,h,sumP_append]
  simp [sumP]
theorem sumP_take_le {l:List α} (h : ∀ a ∈ l,0 ≤ f a) (i:Nat):sumP f (l.take i) ≤ sumP f l:=by
  have e:sumP f l = sumP f (l.take i) + sumP f (l.drop i):=by rw [← sumP_append,List.take_append_drop]
  have:=sumP_nonneg (f:=f) (l:=l.drop i) fun a ha=>h a (List.mem_of_mem_drop ha)
  omega
/-- one element is counted otherwise -/
theorem sumP_one {κ:Type} {key:α → κ} {p:α} : ∀ {l:List α},l.Pairwise (fun a b=>¬ key a = key b) → p ∈ l → (∀ q ∈ l,¬ key q = key p → f q = g q) → sumP f l = sumP g l + (f p - g p)
  | [],_,hp,_=>by simp at hp
  | a :: l, hw, hp, h => by
    obtain ⟨h1,h2⟩:=List.pairwise_cons.1 hw
    simp only [sumP]
    rcases List.mem_cons.1 hp with rfl | hp
    · have : sumP f l = sumP g l := sumP_congr fun q hq => h q (by simp [hq]) fun e => h1 q hq e.symm
      omega
    · have e1 := h a (by simp) (h1 p hp)
      have e2:=sumP_one h2 hp fun q hq=>h q (by simp [hq])
      omega
/-- those that count nothing may go -/
theorem sumP_filter {b:α → Bool} : ∀ {l:List α},(∀ a ∈ l,b a = false → f a = 0) → sumP f (l.filter b) = sumP f l
  | [],_=>rfl
  | a :: l, h => by
    have ih:=sumP_filter (l:=l) fun c hc=>h c (by simp [hc])
    cases hb:b a with
    | true=>rw [List.filter_cons_of_pos hb]; simp only [sumP,ih]
    | false=>rw [List.filter_cons_of_neg (by simp [hb]),ih]; simp only [sumP]; rw [h a (by simp) hb]; omega
theorem sum_loop {ρ:Type} {body:Int × Int → Option (Flow (Int × Int) ρ)} {xs:List α} {j:Nat} {n0:Int} (hnn : ∀ y ∈ xs,0 ≤ f y) (hb:0 ≤ n0) (hb' : n0 + sumP f xs ≤ 1000000) (hl:xs.length ≤ 1000000)
    (step : ∀ (i:Nat) (n:Int) (y:α),i < xs.length → xs[i]? = some y → 0 ≤ n → n + f y ≤ 1000000 → body (n,(i:Int)) = some (.go (n + f y,(i:Int) + 1))) (fin : ∀ n,body (n,(xs.length:Int)) = some (.ex j (n,(xs.length:Int)))) :
    iterL body (xs.length + 1) (n0,0) = some (.ex j (n0 + sumP f xs,(xs.length:Int))):=by
  obtain ⟨r,h1,h2,h3⟩:=loop_up (body:=body) (fun i s=>s = (n0 + sumP f (xs.take i),(i:Int))) xs.length (fun r=>r = .ex j (n0 + sumP f xs,(xs.length:Int)))
    (fun i s hi e=>by
      subst e
      have hx:xs[i]? = some xs[i]:=List.getElem?_eq_getElem hi
      have h1:=sumP_take (f:=f) hx
      have h2:=sumP_take_le hnn (i + 1)
      have h3:=sumP_nonneg (f:=f) (l:=xs.take i) fun a ha=>hnn a (List.mem_of_mem_take ha)
      refine .inl ⟨_,step i _ _ hi hx (by omega) (by omega),?_⟩
      rw [h1]
      simp only [Prod.mk.injEq]
      omega)
    (fun s e=>by
      subst e
      rw [List.take_length]
      exact ⟨_,fin _,trivial,rfl⟩) (n0,0) (by simp [sumP]) (xs.length + 1) (by omega)
  rw [h1,h3]
end
def IsCap (s:ByteArray):Prop:=s = cap0 ∨ s = cap1 ∨ s = cap2
def R3 (i:Int):Prop:=i = 0 ∨ i = 1 ∨ i = 2
theorem md_r3 (n:Int):R3 (md n):=md_range n
theorem md_of {i:Int} (h:R3 i):md i = i:=by rcases h with rfl | rfl | rfl <;> rfl
theorem capN_cap (n:Int):IsCap (capN n):=by
  unfold capN IsCap
  rcases md_range n with h | h | h <;> rw [h] <;> simp
abbrev St3:=Int → DC
def upd (x:St3) (i:Int) (y:DC):St3:=fun j=>if j = i then y else x j
theorem upd_at (x:St3) (i:Int) (y:DC):upd x i y i = y:=if_pos rfl
theorem upd_ne (x:St3) {i j:Int} (y:DC) (h : ¬ j = i):upd x i y j = x j:=if_neg h
theorem upd_self (x:St3) (i:Int):upd x i (x i) = x:=by
  funext j; unfold upd; split
  · rename_i e; rw [e]
  · rfl
def LD (a b c:Nat) (x:St3):DL:=[(a,x 0),(b,x 1),(c,x 2)]
structure Ds (a b c:Nat):Prop where
  ab : ¬ a = b
  ac : ¬ a = c
  bc : ¬ b = c
def bk (a b c:Nat) (i:Int):Nat:=if i = 0 then a else if i = 1 then b else c
section
variable {a b c:Nat} {x:St3} {i:Int} {γ:Type}
theorem pts_get (hi:R3 i):getI (ptsD (LD a b c x)) i = some (ptP (bk a b c i)):=by
  rcases hi with rfl | rfl | rfl <;> rfl
theorem look_get (h:Ds a b c) (hi:R3 i):lookB (LD a b c x) (bk a b c i) = some (x i):=by
  have h1:=beq_ne h.ab
  have h2:=beq_ne h.ac
  have h3:=beq_ne h.bc
  rcases hi with rfl | rfl | rfl
  · show lookB (LD a b c x) a = _
    simp [lookB,LD]
  · show lookB (LD a b c x) b = _
    simp [lookB,LD,h1]
  · show lookB (LD a b c x) c = _
    simp [lookB,LD,h2,h3]
theorem set_get (h:Ds a b c) (hi:R3 i) (y:DC):setB (LD a b c x) (bk a b c i) y = LD a b c (upd x i y):=by
  have h1:=beq_ne h.ab
  have h2:=beq_ne h.ac
  have h3:=beq_ne h.bc
  rcases hi with rfl | rfl | rfl
  · show setB (LD a b c x) a y = _
    simp [setB,LD,upd]
  · show setB (LD a b c x) b y = _
    simp [setB,LD,upd,h1]
  · show setB (LD a b c x) c y = _
    simp [setB,LD,upd,h2,h3]
theorem aD_eq (h:Ds a b c) (hi:R3 i) (run:DC → Option (DC × γ)):aD (LD a b c x) (ptP (bk a b c i)) run = (run (x i)).bind fun r=>some (LD a b c (upd x i r.1),r.2):=by
  unfold aD
  rw [show blkP (ptP (bk a b c i)) = some (bk a b c i) from rfl,Option.bind_some,look_get h hi,Option.bind_some]
  cases run (x i) with
  | none=>rfl
  | some r=>rw [Option.bind_some,Option.bind_some,set_get h hi]
theorem qD_eq (h:Ds a b c) (hi:R3 i) (run:DC → Option γ):qD (LD a b c x) (ptP (bk a b c i)) run = run (x i):=by
  unfold qD
  rw [show blkP (ptP (bk a b c i)) = some (bk a b c i) from rfl,Option.bind_some,look_get h hi,Option.bind_some]
end
/-! what is held, and what is under way -/
def hF (cap:ByteArray) (y:Lease):Int:=if y.Cap = cap then y.Held else 0
def fF (x:St3) (cap:ByteArray) (p:Portion):Int:=if p.Cap = cap∧tookC (x p.To) p.From p.Number = false then p.N else 0
def tot (x:St3) (cap:ByteArray) (i:Int):Int:=sumP (hF cap) (x i).L + sumP (fF x cap) (x i).out
def tot3 (x:St3) (cap:ByteArray):Int:=tot x cap 0 + tot x cap 1 + tot x cap 2
/-- what is asked of the desks for counting -/
structure Cnt (x:St3):Prop where
  hn : ∀ i,R3 i → ∀ y ∈ (x i).L,0 ≤ y.Held
  pn : ∀ i,R3 i → ∀ p ∈ (x i).out,0 ≤ p.N
  pt : ∀ i,R3 i → ∀ p ∈ (x i).out,R3 p.To
  ll : ∀ i,R3 i → (x i).L.length ≤ 1000000
  ol : ∀ i,R3 i → (x i).out.length ≤ 1000000
theorem hF_nn {cap:ByteArray} {l:List Lease} (h : ∀ y ∈ l,0 ≤ y.Held) : ∀ y ∈ l,0 ≤ hF cap y:=fun y hy=>by
  unfold hF; split
  · exact h y hy
  · omega
theorem fF_nn {x:St3} {cap:ByteArray} {l:List Portion} (h : ∀ y ∈ l,0 ≤ y.N) : ∀ y ∈ l,0 ≤ fF x cap y:=fun y hy=>by
  unfold fF; split
  · exact h y hy
  · omega
section
variable {a b c:Nat} {x:St3} {i:Int} {cap:ByteArray}
theorem tot_nn (hc:Cnt x) (hi:R3 i):0 ≤ sumP (hF cap) (x i).L∧0 ≤ sumP (fF x cap) (x i).out:=
  ⟨sumP_nonneg (hF_nn (hc.hn i hi)),sumP_nonneg (fF_nn (hc.pn i hi))⟩
end

end Go.Proofs.YtljfakcblkdhbaaDoor

namespace Go.Proofs.YtljfakcblkdhbaaDoor
open Go.Gb
set_option linter.unusedVariables false
set_option linter.unusedSimpArgs false
set_option linter.unusedSectionVars false
set_option maxRecDepth 100000
/-! What holds of three desks at all times. -/
theorem sumP_perm {α:Type} {f:α → Int} {l l' : List α} (h:l.Perm l'):sumP f l = sumP f l':=by
  induction h with
  | nil=>rfl
  | cons a _ ih=>simp only [sumP,ih]
  | swap a b l=>simp only [sumP]; omega
  | trans _ _ h1 h2=>exact h1.trans h2
theorem sumP_map {α β:Type} {f:β → Int} (g:α → β) : ∀ l:List α,sumP f (l.map g) = sumP (fun a=>f (g a)) l
  | []=>rfl
  | a::l=>by simp only [List.map_cons,sumP,sumP_map g l]
theorem sor_key {l:List Lease} (h:Sor l):l.Pairwise (fun a b=>¬ a.Cap = b.Cap):=List.Pairwise.imp (fun {a b} h e=>by rw [e,bLt_irrefl] at h; cases h) (show List.Pairwise (fun a b:Lease=>bLt a.Cap b.Cap = true) l from h)
theorem sum_setC {l:List Lease} {cap cap' : ByteArray} {x y:Lease} (hs:Sor l) (hx:getC l cap = some x) (hy:y.Cap = cap):sumP (hF cap') (setC l cap y) = sumP (hF cap') l + (if cap' = cap then y.Held - x.Held else 0):=by
  obtain ⟨hm,hc⟩:=getC_mem hx
  unfold setC
  rw [sumP_map,sumP_one (g:=hF cap') (key:=fun a:Lease=>a.Cap) (p:=x) (sor_key hs) hm fun q _ hq=>by rw [if_neg (by rw [← hc]; exact hq)]]
  rw [if_pos hc]
  unfold hF
  rw [hy,hc]
  by_cases h:cap' = cap
  · subst h; simp
  · rw [if_neg (fun e=>h e.symm),if_neg (fun e=>h e.symm),if_neg h]; rfl
theorem sum_addL {L:List Lease} {k:Int} {cap cap' : ByteArray} {n:Int} (hs:Sor L):sumP (hF cap') (addL L k cap n) = sumP (hF cap') L + (if cap' = cap then n else 0):=by
  unfold addL
  cases hx:getC L cap with
  | none =>
    dsimp only
    rw [← sumP_perm (perm_ins _ L),sumP_append]
    simp only [sumP,hF]
    by_cases h:cap' = cap
    · rw [if_pos h.symm,if_pos h]; omega
    · rw [if_neg (fun e=>h e.symm),if_neg h]; omega
  | some x =>
    dsimp only
    rw [sum_setC hs hx (y:={ x with Held:=x.Held + n }) (getC_mem hx).2]
    split <;> dsimp only <;> omega
theorem caps_setC {l:List Lease} {cap:ByteArray} {y:Lease} (h : ∀ z ∈ l,IsCap z.Cap) (hy:IsCap y.Cap) : ∀ z ∈ setC l cap y,IsCap z.Cap:=fun z hz=>by
  rcases mem_setC hz with ⟨rfl,_⟩ | ⟨hz,_⟩
  · exact hy
  · exact h z hz
theorem caps_addL {L:List Lease} {k:Int} {cap:ByteArray} {n:Int} (h : ∀ z ∈ L,IsCap z.Cap) (hc:IsCap cap) : ∀ z ∈ addL L k cap n,IsCap z.Cap:=fun z hz=>by
  unfold addL at hz
  cases hx:getC L cap with
  | none =>
    rw [hx] at hz
    rcases List.mem_append.1 ((perm_ins _ L).mem_iff.2 hz) with hz | hz
    · exact h z hz
    · rw [List.mem_singleton.1 hz]; exact hc
  | some x =>
    rw [hx] at hz
    exact caps_setC h (by rw [show ({ x with Held:=x.Held + n }:Lease).Cap = x.Cap from rfl,(getC_mem hx).2]; exact hc) z hz
def rkC (s:ByteArray):Int:=if s = cap0 then 0 else if s = cap1 then 1 else 2
theorem rk_lt {s t:ByteArray} (hs:IsCap s) (ht:IsCap t) (h:bLt s t = true):rkC s < rkC t∧0 ≤ rkC s∧rkC t ≤ 2:=by
  have n01:=ne01
  have n12:=ne12
  have n02:=ne02
  have r0:rkC cap0 = 0:=if_pos rfl
  have r1:rkC cap1 = 1:=by unfold rkC; rw [if_neg (fun e=>n01 e.symm),if_pos rfl]
  have r2:rkC cap2 = 2:=by unfold rkC; rw [if_neg (fun e=>n02 e.symm),if_neg (fun e=>n12 e.symm)]
  rcases hs with rfl | rfl | rfl <;> rcases ht with rfl | rfl | rfl
  · rw [bLt_irrefl] at h; cases h
  · rw [r0,r1]; omega
  · rw [r0,r2]; omega
  · rw [bLt_asymm lt01] at h; cases h
  · rw [bLt_irrefl] at h; cases h
  · rw [r1,r2]; omega
  · rw [bLt_asymm lt02] at h; cases h
  · rw [bLt_asymm lt12] at h; cases h
  · rw [bLt_irrefl] at h; cases h
theorem len3 {l:List Lease} (hs:Sor l) (hc : ∀ z ∈ l,IsCap z.Cap):l.length ≤ 3:=by
  match l,hs,hc with
  | [],_,_=>simp
  | [_],_,_=>simp
  | [_,_],_,_=>simp
  | [_,_,_],_,_=>simp
  | p :: q :: r :: s :: l, hs, hc =>
    exfalso
    have hs:List.Pairwise (fun a b:Lease=>bLt a.Cap b.Cap = true) (p::q::r::s::l):=hs
    simp only [List.pairwise_cons] at hs
    have h1:=rk_lt (hc p (by simp)) (hc q (by simp)) (hs.1 q (by simp))
    have h2:=rk_lt (hc q (by simp)) (hc r (by simp)) (hs.2.1 r (by simp))
    have h3:=rk_lt (hc r (by simp)) (hc s (by simp)) (hs.2.2.1 s (by simp))
    omega
/-- A message that was sent. -/
structure Msg (x:St3) (p:Portion):Prop where
  cap:IsCap p.Cap
  fr:R3 p.From
  to:R3 p.To
  ne : ¬ p.From = p.To
  nb:1 ≤ p.Number
  n0:0 ≤ p.N
  n1:p.N ≤ 1099511627776
  ack:p.N = 0 → p.Number ≤ (x p.To).sent∧tookC (x p.From) p.To p.Number = true∧∀ q ∈ (x p.To).out,q.Number = p.Number → q.To = p.From
  por : ¬ p.N = 0 → p.Number ≤ (x p.From).sent∧(p ∈ (x p.From).out ∨ tookC (x p.To) p.From p.Number = true)∧∀ q ∈ (x p.From).out,q.Number = p.Number → q.To = p.To
structure Good (x:St3) (sent:List Portion) (W:ByteArray → Int):Prop where
  inv : ∀ i,R3 i → Inv (x i)
  num : ∀ i,R3 i → (x i).counter = i
  caps : ∀ i,R3 i → ∀ y ∈ (x i).L,IsCap y.Cap
  oc : ∀ i,R3 i → ∀ p ∈ (x i).out,IsCap p.Cap∧R3 p.To
  tk : ∀ i j n,R3 i → R3 j → tookC (x i) j n = true → n ≤ (x j).sent
  ms : ∀ p ∈ sent,Msg x p
  al : ∀ cap,IsCap cap → tot3 x cap = W cap
  wb : ∀ cap,IsCap cap → W cap ≤ 765
section
variable {x x' : St3} {sent:List Portion} {W:ByteArray → Int} {i j:Int} {cap:ByteArray}
theorem Good.cnt (h:Good x sent W):Cnt x where
  hn:=fun i hi y hy=>by have:=(h.inv i hi).le y hy; omega
  pn:=fun i hi p hp=>by have:=(h.inv i hi).ou p hp; omega
  pt:=fun i hi p hp=>(h.oc i hi p hp).2
  ll:=fun i hi=>by have:=(h.inv i hi).len; omega
  ol:=fun i hi=>by have h1:=(h.inv i hi).ol; have h2:=(h.inv i hi).se; omega
theorem out_key {c:DC} (h:Inv c):c.out.Pairwise (fun a b=>¬ a.Number = b.Number):=List.Pairwise.imp (fun {a b} h e=>by omega) h.os
theorem out_one {l:List Portion} (h:l.Pairwise (fun a b=>a.Number < b.Number)) {p q:Portion} (hp:p ∈ l) (hq:q ∈ l) (e:p.Number = q.Number):p = q:=by
  induction l with
  | nil=>simp at hp
  | cons a l ih =>
    obtain ⟨h1,h2⟩:=List.pairwise_cons.1 h
    rcases List.mem_cons.1 hp with e1 | hp'
    · rcases List.mem_cons.1 hq with e2 | hq'
      · rw [e1,e2]
      · have:=h1 q hq'; rw [e1] at e; omega
    · rcases List.mem_cons.1 hq with e2 | hq'
      · have:=h1 p hp'; rw [e2] at e; omega
      · exact ih h2 hp' hq'
/-- what is pending may be sent once more -/
theorem Good.pend (h:Good x sent W) (hi:R3 i) : ∀ p ∈ (x i).out,Msg x p:=fun p hp=>by
  obtain ⟨h1,h2,h3,h4,h5,h6,h7,h8⟩:=(h.inv i hi).ou p hp
  obtain ⟨g1,g2⟩:=h.oc i hi p hp
  have hf:p.From = i:=h1.trans (h.num i hi)
  refine ⟨g1,by rw [hf]; exact hi,g2,fun e=>h8 (by rw [← e,h1]),h2,by omega,h5,fun e=>by omega,fun _=>?_⟩
  rw [hf]
  exact ⟨h3,.inl hp,fun q hq e=>by rw [out_one (h.inv i hi).os hq hp e]⟩
theorem Good.more (h:Good x sent W) {ps:List Portion} (hp : ∀ p ∈ ps,Msg x p):Good x (sent ++ ps) W:={ h with ms:=fun p hm=>(List.mem_append.1 hm).elim (h.ms p) (hp p) }
theorem tot3_one {d:Int} (hi:R3 i) (h : ∀ k,R3 k → ¬ k = i → tot x' cap k = tot x cap k) (hd:tot x' cap i = tot x cap i + d):tot3 x' cap = tot3 x cap + d:=by
  unfold tot3
  rcases hi with rfl | rfl | rfl
  · have h1 := h 1 (.inr (.inl rfl)) (by omega)
    have h2:=h 2 (.inr (.inr rfl)) (by omega)
    omega
  · have h1 := h 0 (.inl rfl) (by omega)
    have h2:=h 2 (.inr (.inr rfl)) (by omega)
    omega
  · have h1 := h 0 (.inl rfl) (by omega)
    have h2:=h 1 (.inr (.inl rfl)) (by omega)
    omega
theorem tot3_two {d e:Int} (hi:R3 i) (hj:R3 j) (hij : ¬ i = j) (h : ∀ k,R3 k → ¬ k = i → ¬ k = j → tot x' cap k = tot x cap k) (hd:tot x' cap i = tot x cap i + d) (he:tot x' cap j = tot x cap j + e):tot3 x' cap = tot3 x cap + d + e:=by
  unfold tot3
  have h0:=h 0 (.inl rfl)
  have h1:=h 1 (.inr (.inl rfl))
  have h2:=h 2 (.inr (.inr rfl))
  rcases hi with rfl | rfl | rfl <;> rcases hj with rfl | rfl | rfl
  · exact absurd rfl hij
  · have:=h2 (by omega) (by omega); omega
  · have:=h1 (by omega) (by omega); omega
  · have:=h2 (by omega) (by omega); omega
  · exact absurd rfl hij
  · have:=h0 (by omega) (by omega); omega
  · have:=h1 (by omega) (by omega); omega
  · have:=h0 (by omega) (by omega); omega
  · exact absurd rfl hij
theorem fF_congr (h : ∀ k,(x' k).taken = (x k).taken) (cap:ByteArray):fF x' cap = fF x cap:=by
  funext p
  unfold fF
  rw [took_eq (h p.To)]
/-- used, or freed -/
theorem Good.upd1 (h:Good x sent W) (hi:R3 i) {y:DC} (hy:Inv y) (hn:y.counter = i) (ho:y.out = (x i).out) (hs:y.sent = (x i).sent) (ht:y.taken = (x i).taken) (hc : ∀ z ∈ y.L,IsCap z.Cap)
    (hsum : ∀ cap,sumP (hF cap) y.L = sumP (hF cap) (x i).L):Good (upd x i y) sent W:=by
  have eo : ∀ k,(upd x i y k).out = (x k).out:=fun k=>by
    by_cases e:k = i
    · rw [e,upd_at,ho]
    · rw [upd_ne x y e]
  have es : ∀ k,(upd x i y k).sent = (x k).sent:=fun k=>by
    by_cases e:k = i
    · rw [e,upd_at,hs]
    · rw [upd_ne x y e]
  have et : ∀ k,(upd x i y k).taken = (x k).taken:=fun k=>by
    by_cases e:k = i
    · rw [e,upd_at,ht]
    · rw [upd_ne x y e]
  have etk : ∀ k f n,tookC (upd x i y k) f n = tookC (x k) f n:=fun k f n=>took_eq (et k) f n
  refine ⟨fun k hk=>?_,fun k hk=>?_,fun k hk=>?_,fun k hk=>?_,fun k l n hk hl=>?_,fun p hp=>?_,fun cap hcap=>?_,h.wb⟩
  · unfold upd; split
    · exact hy
    · exact h.inv k hk
  · unfold upd; split
    · rename_i e; rw [hn,e]
    · exact h.num k hk
  · unfold upd; split
    · exact hc
    · exact h.caps k hk
  · rw [eo]; exact h.oc k hk
  · rw [etk,es]; exact h.tk k l n hk hl
  · obtain ⟨m1, m2, m3, m4, m5, m6, m7, m8, m9⟩ := h.ms p hp
    refine ⟨m1,m2,m3,m4,m5,m6,m7,fun e=>?_,fun e=>?_⟩
    · rw [es,etk,eo]; exact m8 e
    · rw [es,etk,eo]; exact m9 e
  · rw [tot3_one (x := x) (d := 0) hi (fun k hk hne => ?_) ?_, Int.add_zero, h.al cap hcap]
    · unfold tot; rw [fF_congr et,upd_at,ho,hsum,Int.add_zero]
    · unfold tot; rw [fF_congr et,upd_ne x y hne]
end

end Go.Proofs.YtljfakcblkdhbaaDoor

namespace Go.Proofs.YtljfakcblkdhbaaDoor
open Go.Gb
set_option linter.unusedVariables false
set_option linter.unusedSimpArgs false
set_option linter.unusedSectionVars false
set_option maxRecDepth 100000
/-! Sending and hearing. -/
section
variable {x:St3} {sent:List Portion} {W:ByteArray → Int} {i:Int} {cap:ByteArray}
theorem Good.send (h:Good x sent W) (hi:R3 i) {to n:Int} (ht:R3 to) (hne : ¬ to = i) (hc:IsCap cap) {z:Lease} (hz:getC (x i).L cap = some z) (hn:1 ≤ n) (hn' : n ≤ 1099511627776) {y:DC} {p:Portion} (hp:p = ⟨cap,(x i).counter,to,(x i).sent + 1,n⟩)
    (hy:y = { x i with L:=setC (x i).L cap { z with Held:=z.Held - n },sent:=(x i).sent + 1,out:=(x i).out ++ [p] }) (hinv:Inv y):Good (upd x i y) sent W∧Msg (upd x i y) p:=by
  have yo:y.out = (x i).out ++ [p]:=by rw [hy]
  have ys:y.sent = (x i).sent + 1:=by rw [hy]
  have yt:y.taken = (x i).taken:=by rw [hy]
  have yn:y.counter = i:=by rw [hy]; exact h.num i hi
  have yL:y.L = setC (x i).L cap { z with Held:=z.Held - n }:=by rw [hy]
  have pf:p.From = i:=by rw [hp]; exact h.num i hi
  have pt:p.To = to:=by rw [hp]
  have pc:p.Cap = cap:=by rw [hp]
  have pn:p.Number = (x i).sent + 1:=by rw [hp]
  have pN:p.N = n:=by rw [hp]
  clear hp hy
  have et : ∀ k,(upd x i y k).taken = (x k).taken:=fun k=>by
    by_cases e:k = i
    · rw [e,upd_at,yt]
    · rw [upd_ne x y e]
  have etk : ∀ k f m,tookC (upd x i y k) f m = tookC (x k) f m:=fun k f m=>took_eq (et k) f m
  have es : ∀ k,(x k).sent ≤ (upd x i y k).sent:=fun k=>by
    by_cases e:k = i
    · rw [e,upd_at,ys]; omega
    · rw [upd_ne x y e]; omega
  have o1 : ∀ k q,q ∈ (upd x i y k).out → q ∈ (x k).out ∨ (k = i∧q = p):=fun k q hq=>by
    by_cases e:k = i
    · rw [e, upd_at, yo] at hq
      rcases List.mem_append.1 hq with hq | hq
      · exact .inl (by rw [e]; exact hq)
      · exact .inr ⟨e,List.mem_singleton.1 hq⟩
    · rw [upd_ne x y e] at hq; exact .inl hq
  have o2 : ∀ k q,q ∈ (x k).out → q ∈ (upd x i y k).out:=fun k q hq=>by
    by_cases e:k = i
    · rw [e,upd_at,yo]; rw [e] at hq; exact List.mem_append.2 (.inl hq)
    · rw [upd_ne x y e]; exact hq
  have tkp:tookC (x to) i ((x i).sent + 1) = false:=by
    cases hb:tookC (x to) i ((x i).sent + 1) with
    | false=>rfl
    | true=>have:=h.tk to i _ ht hi hb; omega
  have hzc:=(getC_mem hz).2
  refine ⟨⟨fun k hk=>?_,fun k hk=>?_,fun k hk=>?_,fun k hk q hq=>?_,fun k l m hk hl hb=>?_,fun q hq=>?_,fun cap' hcap=>?_,h.wb⟩,?_⟩
  · unfold upd; split
    · exact hinv
    · exact h.inv k hk
  · unfold upd; split
    · rename_i e; rw [yn,e]
    · exact h.num k hk
  · unfold upd; split
    · rw [yL]; exact caps_setC (h.caps i hi) (by rw [show ({ z with Held:=z.Held - n }:Lease).Cap = z.Cap from rfl,hzc]; exact hc)
    · exact h.caps k hk
  · rcases o1 k q hq with hq | ⟨_, rfl⟩
    · exact h.oc k hk q hq
    · rw [pc,pt]; exact ⟨hc,ht⟩
  · rw [etk] at hb
    have:=h.tk k l m hk hl hb; have:=es l; omega
  · obtain ⟨m1, m2, m3, m4, m5, m6, m7, m8, m9⟩ := h.ms q hq
    refine ⟨m1,m2,m3,m4,m5,m6,m7,fun e=>?_,fun e=>?_⟩
    · obtain ⟨g1, g2, g3⟩ := m8 e
      refine ⟨by have:=es q.To; omega,by rw [etk]; exact g2,fun q' hq' e'=>?_⟩
      rcases o1 _ q' hq' with hq' | ⟨e1,rfl⟩
      · exact g3 q' hq' e'
      · rw [pn] at e'; rw [e1] at g1; omega
    · obtain ⟨g1, g2, g3⟩ := m9 e
      refine ⟨by have:=es q.From; omega,?_,fun q' hq' e'=>?_⟩
      · rw [etk]; exact g2.imp (o2 _ _) id
      · rcases o1 _ q' hq' with hq' | ⟨e1, rfl⟩
        · exact g3 q' hq' e'
        · rw [pn] at e'; rw [e1] at g1; omega
  · rw [tot3_one (x := x) (d := 0) hi ?_ ?_, Int.add_zero, h.al cap' hcap]
    · intro k hk hne; unfold tot; rw [fF_congr et,upd_ne x y hne]
    · unfold tot
      rw [fF_congr et,upd_at,yo,yL,sum_setC (h.inv i hi).so hz (y:={ z with Held:=z.Held - n }) hzc,sumP_append]
      simp only [sumP,fF,pc,pt,pf,pn,pN,tkp]
      by_cases e:cap' = cap
      · rw [if_pos e,if_pos ⟨e.symm,trivial⟩]; omega
      · rw [if_neg e,if_neg (fun hh=>e hh.1.symm)]; omega
  · refine ⟨by rw [pc]; exact hc, by rw [pf]; exact hi, by rw [pt]; exact ht, by rw [pf, pt]; exact fun e => hne e.symm, by rw [pn]; have := (h.inv i hi).se; omega, by rw [pN]; omega, by rw [pN]; exact hn', fun e => by rw [pN] at e; omega, fun _ => ?_⟩
    rw [pf,upd_at]
    refine ⟨by rw [pn,ys]; omega,.inl (by rw [yo]; simp),fun q hq e=>?_⟩
    rw [yo] at hq
    rcases List.mem_append.1 hq with hq | hq
    · have:=(h.inv i hi).ou q hq; omega
    · rw [List.mem_singleton.1 hq]
theorem Good.take (h:Good x sent W) {p:Portion} (hm:Msg x p) (hN : ¬ p.N = 0) (ht:tookC (x p.To) p.From p.Number = false) {y:DC}
    (hy:y = { x p.To with L:=addL (x p.To).L (x p.To).counter p.Cap p.N,taken:=setK (x p.To).taken ⟨p.From,p.Number⟩ true }) (hinv:Inv y):Good (upd x p.To y) sent W:=by
  obtain ⟨g1,g2,g3⟩:=hm.por hN
  have hpo:p ∈ (x p.From).out:=g2.resolve_right fun e=>by rw [ht] at e; cases e
  have yo:y.out = (x p.To).out:=by rw [hy]
  have ys:y.sent = (x p.To).sent:=by rw [hy]
  have yn:y.counter = p.To:=by rw [hy]; exact h.num _ hm.to
  have yL:y.L = addL (x p.To).L (x p.To).counter p.Cap p.N:=by rw [hy]
  have yt1:tookC y p.From p.Number = true:=by rw [hy]; exact took_set _ _ _ _
  have yt2 : ∀ f m,¬ (f = p.From∧m = p.Number) → tookC y f m = tookC (x p.To) f m:=fun f m hne=>by rw [hy]; exact took_ne _ _ fun e=>hne ⟨e.1.symm,e.2.symm⟩
  clear hy
  have eo : ∀ k,(upd x p.To y k).out = (x k).out:=fun k=>by
    by_cases e:k = p.To
    · rw [e,upd_at,yo]
    · rw [upd_ne x y e]
  have es : ∀ k,(upd x p.To y k).sent = (x k).sent:=fun k=>by
    by_cases e:k = p.To
    · rw [e,upd_at,ys]
    · rw [upd_ne x y e]
  have t1 : ∀ k f m,tookC (x k) f m = true → tookC (upd x p.To y k) f m = true:=fun k f m hb=>by
    by_cases e:k = p.To
    · rw [e, upd_at]
      by_cases e2:f = p.From∧m = p.Number
      · rw [e2.1,e2.2]; exact yt1
      · rw [yt2 f m e2,← e]; exact hb
    · rw [upd_ne x y e]; exact hb
  have t2 : ∀ k f m,¬ (k = p.To∧f = p.From∧m = p.Number) → tookC (upd x p.To y k) f m = tookC (x k) f m:=fun k f m hne=>by
    by_cases e:k = p.To
    · rw [e,upd_at,yt2 f m fun e2=>hne ⟨e,e2⟩]
    · rw [upd_ne x y e]
  refine ⟨fun k hk=>?_,fun k hk=>?_,fun k hk=>?_,fun k hk=>?_,fun k l m hk hl hb=>?_,fun q hq=>?_,fun cap' hcap=>?_,h.wb⟩
  · unfold upd; split
    · exact hinv
    · exact h.inv k hk
  · unfold upd; split
    · rename_i e; rw [yn,e]
    · exact h.num k hk
  · unfold upd; split
    · rw [yL]; exact caps_addL (h.caps _ hm.to) hm.cap
    · exact h.caps k hk
  · rw [eo]; exact h.oc k hk
  · rw [es]
    by_cases e:k = p.To∧l = p.From∧m = p.Number
    · obtain ⟨rfl,rfl,rfl⟩:=e; exact g1
    · rw [t2 k l m e] at hb; exact h.tk k l m hk hl hb
  · obtain ⟨m1, m2, m3, m4, m5, m6, m7, m8, m9⟩ := h.ms q hq
    refine ⟨m1,m2,m3,m4,m5,m6,m7,fun e=>?_,fun e=>?_⟩
    · rw [es,eo]; exact ⟨(m8 e).1,t1 _ _ _ (m8 e).2.1,(m8 e).2.2⟩
    · rw [es,eo]; exact ⟨(m9 e).1,(m9 e).2.1.imp id (t1 _ _ _),(m9 e).2.2⟩
  · have hf0 : ∀ q : Portion, ¬ (q.To = p.To ∧ q.From = p.From ∧ q.Number = p.Number) → fF (upd x p.To y) cap' q = fF x cap' q := fun q hq => by
      unfold fF; rw [t2 _ _ _ hq]
    rw [tot3_two (x:=x) (i:=p.To) (j:=p.From) (d:=if cap' = p.Cap then p.N else 0) (e:=- (if cap' = p.Cap then p.N else 0)) hm.to hm.fr (fun e=>hm.ne e.symm) ?_ ?_ ?_,h.al cap' hcap]
    · omega
    · intro k hk h1 h2
      unfold tot
      rw [upd_ne x y h1]
      congr 1
      refine sumP_congr fun q hq=>hf0 q fun e=>h2 ?_
      rw [← e.2.1,((h.inv k hk).ou q hq).1,h.num k hk]
    · unfold tot
      rw [upd_at,yo,yL,sum_addL (h.inv _ hm.to).so]
      have:sumP (fF (upd x p.To y) cap') (x p.To).out = sumP (fF x cap') (x p.To).out:=sumP_congr fun q hq=>hf0 q fun e=>hm.ne (by rw [← e.2.1,((h.inv _ hm.to).ou q hq).1,h.num _ hm.to])
      rw [this]; omega
    · unfold tot
      rw [upd_ne x y hm.ne,sumP_one (f:=fF (upd x p.To y) cap') (g:=fF x cap') (key:=fun q:Portion=>q.Number) (out_key (h.inv _ hm.fr)) hpo fun q hq hne=>hf0 q fun e=>hne e.2.2]
      have e1:fF (upd x p.To y) cap' p = 0:=by unfold fF; rw [if_neg]; rw [upd_at,yt1]; simp
      have e2:fF x cap' p = if cap' = p.Cap then p.N else 0:=by
        unfold fF
        by_cases e:cap' = p.Cap
        · rw [if_pos ⟨e.symm,ht⟩,if_pos e]
        · rw [if_neg (fun hh=>e hh.1.symm),if_neg e]
      rw [e1,e2]; omega
theorem Good.ack (h:Good x sent W) {p:Portion} (hm:Msg x p) (hN:p.N = 0) {y:DC}
    (hy:y = { x p.To with out:=(x p.To).out.filter fun q=>!(decide (q.Cap = p.Cap) && q.Number == p.Number && q.To == p.From) }) (hinv:Inv y):Good (upd x p.To y) sent W:=by
  obtain ⟨g1,g2,g3⟩:=hm.ack hN
  have yo:y.out = (x p.To).out.filter fun q=>!(decide (q.Cap = p.Cap) && q.Number == p.Number && q.To == p.From):=by rw [hy]
  have ys:y.sent = (x p.To).sent:=by rw [hy]
  have yt:y.taken = (x p.To).taken:=by rw [hy]
  have yn:y.counter = p.To:=by rw [hy]; exact h.num _ hm.to
  have yL:y.L = (x p.To).L:=by rw [hy]
  clear hy
  have et : ∀ k,(upd x p.To y k).taken = (x k).taken:=fun k=>by
    by_cases e:k = p.To
    · rw [e,upd_at,yt]
    · rw [upd_ne x y e]
  have etk : ∀ k f m,tookC (upd x p.To y k) f m = tookC (x k) f m:=fun k f m=>took_eq (et k) f m
  have es : ∀ k,(upd x p.To y k).sent = (x k).sent:=fun k=>by
    by_cases e:k = p.To
    · rw [e,upd_at,ys]
    · rw [upd_ne x y e]
  have o1 : ∀ k q,q ∈ (upd x p.To y k).out → q ∈ (x k).out:=fun k q hq=>by
    by_cases e:k = p.To
    · rw [e,upd_at,yo] at hq; rw [e]; exact (List.mem_filter.1 hq).1
    · rw [upd_ne x y e] at hq; exact hq
  have o2 : ∀ k q,q ∈ (x k).out → q ∈ (upd x p.To y k).out ∨ (k = p.To∧q.Number = p.Number∧q.To = p.From):=fun k q hq=>by
    by_cases e:k = p.To
    · rw [e] at hq
      cases hb:(decide (q.Cap = p.Cap) && q.Number == p.Number && q.To == p.From) with
      | false=>exact .inl (by rw [e,upd_at,yo]; exact List.mem_filter.2 ⟨hq,by rw [hb]; rfl⟩)
      | true =>
        simp only [Bool.and_eq_true,decide_eq_true_eq,beq_iff_eq] at hb
        exact .inr ⟨e,hb.1.2,hb.2⟩
    · rw [upd_ne x y e]; exact .inl hq
  refine ⟨fun k hk=>?_,fun k hk=>?_,fun k hk=>?_,fun k hk q hq=>h.oc k hk q (o1 k q hq),fun k l m hk hl hb=>?_,fun q hq=>?_,fun cap' hcap=>?_,h.wb⟩
  · unfold upd; split
    · exact hinv
    · exact h.inv k hk
  · unfold upd; split
    · rename_i e; rw [yn,e]
    · exact h.num k hk
  · unfold upd; split
    · rw [yL]; exact h.caps _ hm.to
    · exact h.caps k hk
  · rw [es]; rw [etk] at hb; exact h.tk k l m hk hl hb
  · obtain ⟨m1, m2, m3, m4, m5, m6, m7, m8, m9⟩ := h.ms q hq
    refine ⟨m1,m2,m3,m4,m5,m6,m7,fun e=>?_,fun e=>?_⟩
    · obtain ⟨f1, f2, f3⟩ := m8 e
      exact ⟨by rw [es]; exact f1,by rw [etk]; exact f2,fun q' hq' e'=>f3 q' (o1 _ _ hq') e'⟩
    · obtain ⟨f1, f2, f3⟩ := m9 e
      refine ⟨by rw [es]; exact f1,?_,fun q' hq' e'=>f3 q' (o1 _ _ hq') e'⟩
      rw [etk]
      rcases f2 with f2 | f2
      · rcases o2 _ _ f2 with f2 | ⟨e1, e2, e3⟩
        · exact .inl f2
        · exact .inr (by rw [e3,e1,e2]; exact g2)
      · exact .inr f2
  · rw [tot3_one (x := x) (d := 0) hm.to ?_ ?_, Int.add_zero, h.al cap' hcap]
    · intro k hk hne; unfold tot; rw [fF_congr et,upd_ne x y hne]
    · unfold tot
      rw [fF_congr et,upd_at,yL,yo,sumP_filter,Int.add_zero]
      intro q hq hb
      simp only [Bool.not_eq_false', Bool.and_eq_true, decide_eq_true_eq, beq_iff_eq] at hb
      unfold fF
      rw [if_neg]
      rw [hb.2,((h.inv _ hm.to).ou q hq).1,h.num _ hm.to,hb.1.2,g2]
      simp
/-- The answer to a portion that was taken. -/
theorem Good.answer (h:Good x sent W) {p:Portion} (hm:Msg x p) (hN : ¬ p.N = 0) (ht:tookC (x p.To) p.From p.Number = true):Msg x ⟨p.Cap,(x p.To).counter,p.From,p.Number,0⟩:=by
  obtain ⟨g1,g2,g3⟩:=hm.por hN
  have e:=h.num _ hm.to
  refine ⟨hm.cap,?_,hm.fr,?_,hm.nb,Int.le_refl 0,by show (0:Int) ≤ _; omega,fun _=>?_,fun hne=>absurd rfl hne⟩
  · show R3 (x p.To).counter
    rw [e]; exact hm.to
  · show ¬ (x p.To).counter = p.From
    rw [e]; exact fun e'=>hm.ne e'.symm
  · show p.Number ≤ (x p.From).sent ∧ tookC (x (x p.To).counter) p.From p.Number = true ∧ ∀ q ∈ (x p.From).out, q.Number = p.Number → q.To = (x p.To).counter
    rw [e]; exact ⟨g1,ht,g3⟩
end

end Go.Proofs.YtljfakcblkdhbaaDoor

namespace Go.Proofs.YtljfakcblkdhbaaDoor
open Go.Gb
set_option linter.unusedVariables false
set_option linter.unusedSimpArgs false
set_option linter.unusedSectionVars false
set_option maxRecDepth 100000
/-! What an operation does. -/
section
variable {x:St3} {sent:List Portion} {W:ByteArray → Int} {i:Int} {cap:ByteArray} {a b c:Nat}
theorem Good.len30 (h:Good x sent W) (hi:R3 i):(x i).L.length ≤ 3:=len3 (h.inv i hi).so (h.caps i hi)
theorem use_good (h:Good x sent W) (hi:R3 i) (cap:ByteArray) (n:Int):Good (upd x i (useC (x i) cap n).1) sent W∧(useC (x i) cap n).1.sent = (x i).sent∧(¬ (useC (x i) cap n).2 = 0 → (useC (x i) cap n).1 = x i):=by
  have hiv:=(h.inv i hi).use cap n
  rcases use_cases (h.inv i hi) cap n with ⟨_,_,z,hz,e⟩ | ⟨_,e1,e2⟩
  · rw [e] at hiv ⊢
    have hzc:=(getC_mem hz).2
    have hzm:=(getC_mem hz).1
    refine ⟨h.upd1 hi hiv (h.num i hi) rfl rfl rfl (caps_setC (h.caps i hi) (h.caps i hi z hzm)) fun cap'=>?_,rfl,fun hne=>absurd rfl hne⟩
    show sumP (hF cap') (setC (x i).L cap { z with Used:=z.Used + n }) = _
    rw [sum_setC (h.inv i hi).so hz (y:={ z with Used:=z.Used + n }) hzc]
    split <;> (try dsimp only) <;> omega
  · rw [e1,upd_self]; exact ⟨h,rfl,fun _=>rfl⟩
theorem free_cases (d:DC) (cap:ByteArray) (n:Int):(∃ z,getC d.L cap = some z∧freeC d cap n = ({ d with L:=setC d.L cap { z with Used:=z.Used - n } },0)) ∨ ((freeC d cap n).1 = d):=by
  unfold freeC
  split
  · cases hz : getC d.L cap with
    | none=>exact .inr rfl
    | some z =>
      dsimp only
      split
      · exact .inr rfl
      · exact .inl ⟨z,rfl,rfl⟩
  · exact .inr rfl
theorem free_good (h:Good x sent W) (hi:R3 i) (cap:ByteArray) (n:Int):Good (upd x i (freeC (x i) cap n).1) sent W∧(freeC (x i) cap n).1.sent = (x i).sent∧(¬ (freeC (x i) cap n).2 = 0 → (freeC (x i) cap n).1 = x i):=by
  have hiv:=(h.inv i hi).free cap n
  rcases free_cases (x i) cap n with ⟨z,hz,e⟩ | e1
  · rw [e] at hiv ⊢
    have hzc:=(getC_mem hz).2
    have hzm:=(getC_mem hz).1
    refine ⟨h.upd1 hi hiv (h.num i hi) rfl rfl rfl (caps_setC (h.caps i hi) (h.caps i hi z hzm)) fun cap'=>?_,rfl,fun hne=>absurd rfl hne⟩
    show sumP (hF cap') (setC (x i).L cap { z with Used:=z.Used - n }) = _
    rw [sum_setC (h.inv i hi).so hz (y:={ z with Used:=z.Used - n }) hzc]
    split <;> (try dsimp only) <;> omega
  · rw [e1,upd_self]; exact ⟨h,rfl,fun _=>rfl⟩
theorem send_good (h:Good x sent W) (hi:R3 i) {to:Int} (ht:R3 to) (hc:IsCap cap) (n:Int) (hs:(x i).sent < 1000000) : ∃ r,sendC (x i) cap to n = some r∧Good (upd x i r.1) sent W∧r.1.sent ≤ (x i).sent + 1 ∧
    ((r.2.2 = 0∧Msg (upd x i r.1) r.2.1) ∨ (¬ r.2.2 = 0∧r.1 = x i)):=by
  have same : ∀ (e:Int),¬ e = 0 → ∃ r:DC × Portion × Int,some (x i,zP,e) = some r∧Good (upd x i r.1) sent W∧r.1.sent ≤ (x i).sent + 1∧((r.2.2 = 0∧Msg (upd x i r.1) r.2.1) ∨ (¬ r.2.2 = 0∧r.1 = x i)):=fun e he=>
    ⟨_,rfl,by rw [upd_self]; exact h,by show (x i).sent ≤ _; omega,.inr ⟨he,rfl⟩⟩
  by_cases h1:(0 ≤ to∧to ≤ 7)∧¬ to = (x i).counter
  rotate_left
  · rw [show sendC (x i) cap to n = some (x i,zP,1) by unfold sendC; rw [if_neg h1]]; exact same 1 (by omega)
  by_cases h2:1 ≤ n∧n ≤ 1099511627776
  rotate_left
  · rw [show sendC (x i) cap to n = some (x i,zP,1) by unfold sendC; rw [if_pos h1,if_neg h2]]; exact same 1 (by omega)
  cases hz:getC (x i).L cap with
  | none=>rw [show sendC (x i) cap to n = some (x i,zP,4) by unfold sendC; rw [if_pos h1,if_pos h2,hz]]; exact same 4 (by omega)
  | some z =>
    by_cases h3:z.Held - z.Used < n
    · rw [show sendC (x i) cap to n = some (x i,zP,26) by unfold sendC; rw [if_pos h1,if_pos h2,hz]; dsimp only; rw [if_pos h3]]; exact same 26 (by omega)
    have he:sendC (x i) cap to n = some ({ (x i) with L:=setC (x i).L cap { z with Held:=z.Held - n },sent:=(x i).sent + 1,out:=(x i).out ++ [⟨cap,(x i).counter,to,(x i).sent + 1,n⟩] },⟨cap,(x i).counter,to,(x i).sent + 1,n⟩,0):=by
      unfold sendC; rw [if_pos h1,if_pos h2,hz]; dsimp only; rw [if_neg h3,if_pos hs]
    have hiv:=(h.inv i hi).send he
    obtain ⟨g1,g2⟩:=h.send hi ht (fun e=>h1.2 (by rw [e,h.num i hi])) hc hz h2.1 h2.2 rfl rfl hiv
    exact ⟨_,he,g1,by show (x i).sent + 1 ≤ _; omega,.inl ⟨rfl,g2⟩⟩
/-- A message that was sent is always accepted. -/
theorem hear_good (h:Good x sent W) {p:Portion} (hm:Msg x p) : ∃ y m is_,hearC (x p.To) p = (y,m,is_,0)∧Good (upd x p.To y) sent W∧y.sent = (x p.To).sent ∧
    ((p.N = 0∧is_ = false∧y.out = (x p.To).out.filter fun q=>!(decide (q.Cap = p.Cap) && q.Number == p.Number && q.To == p.From)) ∨
     (¬ p.N = 0∧is_ = true∧m = ⟨p.Cap,p.To,p.From,p.Number,0⟩∧y.out = (x p.To).out∧Msg (upd x p.To y) m∧tookC y p.From p.Number = true)):=by
  have hn:=h.num _ hm.to
  have hv:validC p = true:=by
    have e : ∀ {j:Int},R3 j → 0 ≤ j∧j ≤ 7:=fun {j} hj=>by rcases hj with rfl | rfl | rfl <;> omega
    unfold validC
    simp only [Bool.and_eq_true,decide_eq_true_eq,bne_iff_ne,ne_eq]
    exact ⟨⟨⟨⟨⟨(e hm.fr).1,(e hm.fr).2⟩,e hm.to⟩,hm.ne⟩,hm.nb⟩,hm.n0,hm.n1⟩
  have hiv:=(h.inv _ hm.to).hear p
  by_cases hN:p.N = 0
  · have he : hearC (x p.To) p = ({ (x p.To) with out := (x p.To).out.filter fun q => !(decide (q.Cap = p.Cap) && q.Number == p.Number && q.To == p.From) }, zP, false, 0) := by
      unfold hearC; rw [if_pos hv,if_pos hn.symm,if_pos hN]
    rw [he] at hiv
    exact ⟨_,_,_,he,h.ack hm hN rfl hiv,rfl,.inl ⟨hN,rfl,rfl⟩⟩
  cases ht:tookC (x p.To) p.From p.Number with
  | true =>
    have he:hearC (x p.To) p = (x p.To,ackC (x p.To) p,true,0):=by
      unfold hearC; rw [if_pos hv,if_pos hn.symm,if_neg hN,if_pos ht]
    refine ⟨_,_,_,he,by rw [upd_self]; exact h,rfl,.inr ⟨hN,rfl,by unfold ackC; rw [hn],rfl,?_,ht⟩⟩
    rw [upd_self]
    exact h.answer hm hN ht
  | false =>
    -- it fits
    obtain ⟨g1,g2,g3⟩:=hm.por hN
    have hpo:p ∈ (x p.From).out:=g2.resolve_right fun e=>by rw [ht] at e; cases e
    have hb:=h.al p.Cap hm.cap
    have hw:=h.wb p.Cap hm.cap
    have hcn:=h.cnt
    have fly:p.N ≤ sumP (fF x p.Cap) (x p.From).out:=by
      have:=sumP_mem (fF_nn (x:=x) (cap:=p.Cap) (hcn.pn _ hm.fr)) p hpo
      unfold fF at this
      rw [if_pos ⟨rfl,ht⟩] at this
      exact this
    have fit : ∀ z,getC (x p.To).L p.Cap = some z → z.Held + p.N ≤ 765:=fun z hz=>by
      have h1:=sumP_mem (hF_nn (cap:=p.Cap) (hcn.hn _ hm.to)) z (getC_mem hz).1
      unfold hF at h1
      rw [if_pos (getC_mem hz).2] at h1
      have h1:z.Held ≤ sumP (hF p.Cap) (x p.To).L:=h1
      have t0:=tot_nn (cap:=p.Cap) hcn (i:=0) (.inl rfl)
      have t1:=tot_nn (cap:=p.Cap) hcn (i:=1) (.inr (.inl rfl))
      have t2:=tot_nn (cap:=p.Cap) hcn (i:=2) (.inr (.inr rfl))
      have hb' : (sumP (hF p.Cap) (x 0).L + sumP (fF x p.Cap) (x 0).out) + (sumP (hF p.Cap) (x 1).L + sumP (fF x p.Cap) (x 1).out) + (sumP (hF p.Cap) (x 2).L + sumP (fF x p.Cap) (x 2).out) = W p.Cap:=hb
      have hne:=hm.ne
      rcases hm.fr with e1 | e1 | e1 <;> rcases hm.to with e2 | e2 | e2 <;> rw [e1] at fly <;> rw [e2] at h1 <;> omega
    have he:hearC (x p.To) p = ({ (x p.To) with L:=addL (x p.To).L (x p.To).counter p.Cap p.N,taken:=setK (x p.To).taken ⟨p.From,p.Number⟩ true },ackC (x p.To) p,true,0):=by
      unfold hearC addL
      rw [if_pos hv,if_pos hn.symm,if_neg hN,if_neg (by rw [ht]; simp)]
      cases hz:getC (x p.To).L p.Cap with
      | none=>dsimp only; rw [if_neg (by have:=h.len30 hm.to; omega)]
      | some z=>dsimp only; rw [if_neg (by have:=fit z hz; omega)]
    rw [he] at hiv
    have hg:=h.take hm hN ht rfl hiv
    refine ⟨_,_,_,he,hg,rfl,.inr ⟨hN,rfl,by unfold ackC; rw [hn],rfl,?_,took_set _ _ _ _⟩⟩
    -- the answer
    have hm' : Msg (upd x p.To { (x p.To) with L:=addL (x p.To).L (x p.To).counter p.Cap p.N,taken:=setK (x p.To).taken ⟨p.From,p.Number⟩ true }) p:=by
      obtain ⟨m1,m2,m3,m4,m5,m6,m7,_,_⟩:=hm
      refine ⟨m1,m2,m3,m4,m5,m6,m7,fun e=>absurd e hN,fun _=>?_⟩
      rw [upd_ne x _ m4,upd_at]
      exact ⟨g1,.inl hpo,g3⟩
    have:=hg.answer hm' hN (by rw [upd_at]; exact took_set _ _ _ _)
    rw [upd_at] at this
    exact this
theorem do_step (hd:Ds a b c) (h:Good x sent W) {k:Int} (hk : ∀ i,R3 i → (x i).sent ≤ k) (hk' : k ≤ 1000) (hl:sent.length ≤ 400) (o:Ref46Op) :
    ∃ x' sent' e, doM (LD a b c x) sent o = some (LD a b c x', sent', e) ∧ Good x' sent' W ∧ (∀ i, R3 i → (x' i).sent ≤ k + 1) ∧ (¬ e = 0 → ¬ o.Kind = 3 ∧ x' = x) := by
  have hi:=md_r3 o.Desk
  have up : ∀ {j:Int} {y:DC},R3 j → y.sent ≤ k + 1 → ∀ i,R3 i → (upd x j y i).sent ≤ k + 1:=fun {j y} _ hy i hi=>by
    unfold upd; split
    · exact hy
    · have:=hk i hi; omega
  unfold doM
  rw [desk_eq,Option.bind_some,pts_get hi,Option.bind_some,cap_eq,Option.bind_some]
  by_cases k0:o.Kind = 0
  · rw [if_pos (by simp [k0]), aD_eq hd hi, Option.bind_some, Option.bind_some]
    obtain ⟨g1,g2,g3⟩:=use_good h hi (capN o.Cap) o.N
    exact ⟨_,_,_,rfl,g1,up hi (by rw [g2]; have:=hk _ hi; omega),fun e=>⟨by omega,by dsimp only at e ⊢; rw [g3 e,upd_self]⟩⟩
  rw [if_neg (by simp [k0])]
  by_cases k1:o.Kind = 1
  · rw [if_pos (by simp [k1]), aD_eq hd hi, Option.bind_some, Option.bind_some]
    obtain ⟨g1,g2,g3⟩:=free_good h hi (capN o.Cap) o.N
    exact ⟨_,_,_,rfl,g1,up hi (by rw [g2]; have:=hk _ hi; omega),fun e=>⟨by omega,by dsimp only at e ⊢; rw [g3 e,upd_self]⟩⟩
  rw [if_neg (by simp [k1])]
  by_cases k2:o.Kind = 2
  · rw [if_pos (by simp [k2]), desk_eq, Option.bind_some, aD_eq hd hi]
    obtain ⟨r,e,g1,g2,g3⟩:=send_good h hi (md_r3 o.To) (capN_cap o.Cap) o.N (by have:=hk _ hi; omega)
    rw [e,Option.bind_some,Option.bind_some]
    dsimp only
    have hs:=up hi (y:=r.1) (by have:=hk _ hi; omega)
    rcases g3 with ⟨e0,gm⟩ | ⟨e0,es⟩
    · rw [if_pos (by simp [e0]), appI_some (by simp; omega), Option.bind_some]
      exact ⟨_,_,_,rfl,g1.more (fun q hq=>by rw [List.mem_singleton.1 hq]; exact gm),hs,fun e=>absurd e0 e⟩
    · rw [if_neg (by simp [e0])]
      exact ⟨_,_,_,rfl,g1,hs,fun _=>⟨by omega,by rw [es,upd_self]⟩⟩
  rw [if_neg (by simp [k2])]
  by_cases k3:o.Kind = 3
  · rw [if_pos (by simp [k3])]
    by_cases hz:sent = []
    · subst hz
      rw [if_pos (by simp)]
      exact ⟨_,_,_,rfl,h,fun i hi=>by have:=hk i hi; omega,fun e=>absurd rfl e⟩
    · have hpos : 0 < sent.length := List.length_pos_iff.2 hz
      rw [if_neg (by simp [hz])]
      unfold remI
      rw [if_pos (by omega),Option.bind_some]
      have hL:(0:Int) < sent.length:=by omega
      have t1:o.N.tmod sent.length < sent.length:=Int.tmod_lt_of_pos _ hL
      have t2 : -(sent.length:Int) < o.N.tmod sent.length:=Int.lt_tmod_of_pos _ hL
      rw [addI_of (by omega),Option.bind_some,if_pos (by omega),Option.bind_some]
      have t3:0 ≤ (o.N.tmod sent.length + sent.length).tmod sent.length:=Int.tmod_nonneg _ (by omega)
      have t4:(o.N.tmod sent.length + sent.length).tmod sent.length < sent.length:=Int.tmod_lt_of_pos _ hL
      generalize (o.N.tmod sent.length + sent.length).tmod sent.length = m at t3 t4
      obtain ⟨m,rfl⟩:=Int.eq_ofNat_of_zero_le t3
      have hm:m < sent.length:=by omega
      rw [getI_nat (List.getElem?_eq_getElem hm),Option.bind_some]
      have hmsg:=h.ms _ (List.getElem_mem hm)
      generalize sent[m] = p at hmsg
      rw [desk_eq,Option.bind_some,md_of hmsg.to,pts_get hmsg.to,Option.bind_some,aD_eq hd hmsg.to,Option.bind_some,Option.bind_some]
      obtain ⟨y,q,is_,e,g1,g2,g3⟩:=hear_good h hmsg
      rw [e]
      dsimp only
      have hs:=up hmsg.to (y:=y) (by rw [g2]; have:=hk _ hmsg.to; omega)
      rcases g3 with ⟨_,rfl,_⟩ | ⟨_,rfl,_,_,gm,_⟩
      · rw [if_neg (by simp)]
        exact ⟨_,_,_,rfl,g1,hs,fun e=>absurd rfl e⟩
      · rw [if_pos rfl, appI_some (by simp; omega), Option.bind_some]
        exact ⟨_,_,_,rfl,g1.more (fun q' hq=>by rw [List.mem_singleton.1 hq]; exact gm),hs,fun e=>absurd rfl e⟩
  rw [if_neg (by simp [k3])]
  by_cases k4:o.Kind = 4
  · rw [if_pos (by simp [k4]), qD_eq hd hi, Option.bind_some, appI_some (by have h1 := (h.inv _ hi).ol; have := hk _ hi; omega), Option.bind_some]
    exact ⟨_,_,_,rfl,h.more (h.pend hi),fun i hi=>by have:=hk i hi; omega,fun e=>absurd rfl e⟩
  · rw [if_neg (by simp [k4])]
    exact ⟨_,_,_,rfl,h,fun i hi=>by have:=hk i hi; omega,fun e=>absurd rfl e⟩
end

end Go.Proofs.YtljfakcblkdhbaaDoor

namespace Go.Proofs.YtljfakcblkdhbaaDoor
open Go.Gb
set_option linter.unusedVariables false
set_option linter.unusedSimpArgs false
set_option linter.unusedSectionVars false
set_option maxRecDepth 100000
/-! The start of three desks. -/
abbrev H9:=H3 × H3 × H3
def ok9 (h:H9):Prop:=okH h.1∧okH h.2.1∧okH h.2.2
def h9 (h:H9) (i:Int):H3:=if i = 0 then h.1 else if i = 1 then h.2.1 else h.2.2
def x0 (h:H9):St3:=fun i=>⟨i,stL i (h9 h i),[],0,[]⟩
def c9 (h:H3) (j:Int):Int:=if j = 0 then h.1.n else if j = 1 then h.2.1.n else h.2.2.n
def wn9 (h:H9) (j:Int):Int:=c9 h.1 j + c9 h.2.1 j + c9 h.2.2 j
def W9c (h:H9) (cap:ByteArray):Int:=if cap = cap0 then wn9 h 0 else if cap = cap1 then wn9 h 1 else wn9 h 2
theorem capN0:capN 0 = cap0:=rfl
theorem capN1:capN 1 = cap1:=rfl
theorem capN2:capN 2 = cap2:=rfl
theorem W9c_at (h:H9) {j:Int} (hj:R3 j):W9c h (capN j) = wn9 h j:=by
  have n01:=ne01
  have n12:=ne12
  have n02:=ne02
  unfold W9c
  rcases hj with rfl | rfl | rfl
  · rw [capN0,if_pos rfl]
  · rw [capN1,if_neg (fun e=>n01 e.symm),if_pos rfl]
  · rw [capN2,if_neg (fun e=>n02 e.symm),if_neg (fun e=>n12 e.symm)]
theorem ok9_at {h:H9} (hh:ok9 h) {i:Int} (hi:R3 i):okH (h9 h i):=by
  rcases hi with rfl | rfl | rfl
  · exact hh.1
  · exact hh.2.1
  · exact hh.2.2
theorem sum_lz {n:Int} {s cap:ByteArray} {x:U8} (h:0 ≤ x.n):sumP (hF cap) (lz n s x) = if s = cap then x.n else 0:=by
  unfold lz
  by_cases h0:0 < x.n
  · rw [if_pos h0]; simp only [sumP,hF]; split <;> omega
  · rw [if_neg h0]; simp only [sumP]; split <;> omega
theorem sum_stL {n:Int} {h:H3} (hh:okH h) {j:Int} (hj:R3 j):sumP (hF (capN j)) (stL n h) = c9 h j:=by
  obtain ⟨h1,h2,h3⟩:=hh
  have n01:=ne01
  have n12:=ne12
  have n02:=ne02
  unfold stL
  rw [sumP_append,sumP_append,sum_lz h1.1,sum_lz h2.1,sum_lz h3.1]
  rcases hj with rfl | rfl | rfl
  · rw [capN0,if_pos rfl,if_neg (fun e=>n01 e.symm),if_neg (fun e=>n02 e.symm)]; show _ = h.1.n; omega
  · rw [capN1,if_neg n01,if_pos rfl,if_neg (fun e=>n12 e.symm)]; show _ = h.2.1.n; omega
  · rw [capN2,if_neg n02,if_neg n12,if_pos rfl]; show _ = h.2.2.n; omega
theorem cap_capN {s:ByteArray} (h:IsCap s) : ∃ j,R3 j∧s = capN j:=by
  rcases h with rfl | rfl | rfl
  · exact ⟨0,.inl rfl,rfl⟩
  · exact ⟨1,.inr (.inl rfl),rfl⟩
  · exact ⟨2,.inr (.inr rfl),rfl⟩
theorem c9_le {h:H3} (hh:okH h) {j:Int}:0 ≤ c9 h j∧c9 h j ≤ 255:=by
  obtain ⟨h1,h2,h3⟩:=hh
  unfold c9
  split
  · exact h1
  · split
    · exact h2
    · exact h3
theorem good_start {h:H9} (hh:ok9 h):Good (x0 h) [] (W9c h):=by
  refine ⟨fun i hi=>inv_stL (by rcases hi with rfl | rfl | rfl <;> omega) (ok9_at hh hi),fun i _=>rfl,fun i hi y hy=>?_,fun i _ p hp=>by simp [x0] at hp,fun i j n _ _ hb=>by simp [x0,tookC,getK] at hb,fun p hp=>by simp at hp,fun cap hc=>?_,fun cap hc=>?_⟩
  · obtain ⟨_, _, g⟩ := mem_stL (show y ∈ stL i (h9 h i) from hy)
    rcases g with ⟨g,_⟩ | ⟨g,_⟩ | ⟨g,_⟩ <;> rw [g] <;> simp [IsCap]
  · obtain ⟨j, hj, rfl⟩ := cap_capN hc
    rw [W9c_at h hj]
    have e : ∀ i,R3 i → tot (x0 h) (capN j) i = c9 (h9 h i) j:=fun i hi=>by
      show sumP (hF (capN j)) (stL i (h9 h i)) + 0 = _
      rw [sum_stL (ok9_at hh hi) hj,Int.add_zero]
    unfold tot3
    rw [e 0 (.inl rfl),e 1 (.inr (.inl rfl)),e 2 (.inr (.inr rfl))]
    rfl
  · obtain ⟨j, hj, rfl⟩ := cap_capN hc
    rw [W9c_at h hj]
    have h1:=c9_le hh.1 (j:=j)
    have h2:=c9_le hh.2.1 (j:=j)
    have h3:=c9_le hh.2.2 (j:=j)
    unfold wn9; omega
theorem run9_eq {h:H9} (hh:ok9 h) {i:Int} (hi:R3 i):run9 h i = some (some (x0 h i)):=by
  unfold run9
  have e:getI [h.1,h.2.1,h.2.2] i = some (h9 h i):=by rcases hi with rfl | rfl | rfl <;> rfl
  rw [e,Option.bind_some,start_eq i (ok9_at hh hi),Option.bind_some,open_stL (by rcases hi with rfl | rfl | rfl <;> omega) (ok9_at hh hi)]
  rfl
theorem run3_eq {h:H9} (hh:ok9 h):run3 h = some [x0 h 0,x0 h 1,x0 h 2]:=by
  unfold run3
  rw [run9_eq hh (.inl rfl),run9_eq hh (.inr (.inl rfl)),run9_eq hh (.inr (.inr rfl))]
  rfl
section
variable {x:St3} {sent:List Portion} {W:ByteArray → Int} {i:Int} {cap:ByteArray} {a b c:Nat} {h:H9}
theorem want_eq {β:Type} (hh:ok9 h) {j:Int} (hj:R3 j) (f:Int → Option β):((getI [h.1.1,h.1.2.1,h.1.2.2] j).bind fun x=>(getI [h.2.1.1,h.2.1.2.1,h.2.1.2.2] j).bind fun y=>(addI (IntKind.i64.wrap x.n) (IntKind.i64.wrap y.n)).bind fun s'=>
    (getI [h.2.2.1,h.2.2.2.1,h.2.2.2.2] j).bind fun z=>(addI s' (IntKind.i64.wrap z.n)).bind f) = f (wn9 h j):=by
  obtain ⟨⟨a1,a2,a3⟩,⟨b1,b2,b3⟩,⟨c1,c2,c3⟩⟩:=hh
  have fin : ∀ (x y z:U8),(0 ≤ x.n∧x.n ≤ 255) → (0 ≤ y.n∧y.n ≤ 255) → (0 ≤ z.n∧z.n ≤ 255) → ((addI (IntKind.i64.wrap x.n) (IntKind.i64.wrap y.n)).bind fun s'=>(some z).bind fun z=>(addI s' (IntKind.i64.wrap z.n)).bind f) = f (x.n + y.n + z.n):=fun x y z hx hy hz=>by
    rw [wrap_u8 hx,wrap_u8 hy,addI_of (by omega),Option.bind_some,Option.bind_some,wrap_u8 hz,addI_of (by omega),Option.bind_some]
  rcases hj with rfl | rfl | rfl
  · exact fin _ _ _ a1 b1 c1
  · exact fin _ _ _ a2 b2 c2
  · exact fin _ _ _ a3 b3 c3
end
end Go.Proofs.YtljfakcblkdhbaaDoor

namespace Go.Proofs.YtljfakcblkdhbaaDoor
open Go.Gb
set_option linter.unusedVariables false
set_option linter.unusedSimpArgs false
set_option linter.unusedSectionVars false
set_option maxRecDepth 100000
/-! LeaseSettles. -/
section
variable {x:St3} {sent:List Portion} {W:ByteArray → Int} {i:Int} {cap:ByteArray} {a b c:Nat} {h:H9}
theorem setlA_loop (hd : Ds a b c) (hh : ok9 h) {l : List Ref46Op} (hl : l.length ≤ 60) : ∃ x' sent' j, iterL (setlA l) (l.length + 1) (LD a b c (x0 h), [], 0) = some (.ex 0 (LD a b c x', sent', j)) ∧ Good x' sent' (W9c h) ∧ (∀ i, R3 i → (x' i).sent ≤ 1000) := by
  obtain ⟨r,h1,h2,h3⟩:=loop_up (body:=setlA l) (fun k s=>∃ x sent,s = (LD a b c x,sent,(k:Int))∧Good x sent (W9c h)∧(∀ i,R3 i → (x i).sent ≤ k)) l.length
    (fun r=>∃ x sent j,r = .ex 0 (LD a b c x,sent,j)∧Good x sent (W9c h)∧(∀ i,R3 i → (x i).sent ≤ 1000))
    (fun k s hk ⟨x,sent,e,g1,g2⟩=>by
      subst e
      have ho:l[k]? = some l[k]:=List.getElem?_eq_getElem hk
      generalize l[k] = o at ho
      by_cases hn:sent.length ≤ 400
      · obtain ⟨x', sent', e, he, f1, f2, _⟩ := do_step hd g1 g2 (by omega) hn o
        refine .inl ⟨(LD a b c x', sent', (k : Int) + 1), ?_, x', sent', rfl, f1, f2⟩
        unfold setlA
        dsimp only
        rw [if_pos (by simp; omega),getI_nat ho,Option.bind_some,he,Option.bind_some]
        dsimp only
        rw [addI_of (by omega),Option.bind_some]
      · refine .inr ⟨.ex 0 (LD a b c x, sent, (k : Int)), ?_, trivial, x, sent, _, rfl, g1, fun i hi => by have := g2 i hi; omega⟩
        unfold setlA
        dsimp only
        rw [if_neg (by simp; omega)])
    (fun s ⟨x,sent,e,g1,g2⟩=>by
      subst e
      exact ⟨.ex 0 (LD a b c x,sent,(l.length:Int)),(by unfold setlA; dsimp only; rw [if_neg (by simp)]),trivial,x,sent,_,rfl,g1,fun i hi=>by have:=g2 i hi; omega⟩) (LD a b c (x0 h),[],0) ⟨x0 h,[],rfl,good_start hh,fun i _=>by show (0:Int) ≤ _; omega⟩ (l.length + 1) (by omega)
  obtain ⟨x', sent', j, e, g1, g2⟩ := h3
  exact ⟨x', sent', j, by rw [h1, e], g1, g2⟩
/-- a portion that was sent is dealt with -/
theorem ack_gone {l:List Portion} {p:Portion} (hw:(p::l).Pairwise fun a b=>a.Number < b.Number) {f:Portion → Bool} (hp:f p = false) (hl : ∀ q ∈ l,¬ q.Number = p.Number → f q = true):(p::l).filter f = l:=by
  obtain ⟨h1,_⟩:=List.pairwise_cons.1 hw
  rw [List.filter_cons_of_neg (by rw [hp]; simp)]
  exact List.filter_eq_self.2 fun q hq=>hl q hq (by have:=h1 q hq; omega)
/-- The pending portions of a desk arrive, one after the other. -/
structure Arr (x0 x:St3) (sent:List Portion) (W:ByteArray → Int) (i:Int) (k:Nat):Prop where
  g:Good x sent W
  o:(x i).out = (x0 i).out.drop k
  e : ∀ j,R3 j → ¬ j = i → (x j).out = (x0 j).out
theorem setlP_step (hd : Ds a b c) {y : St3} (hy : Good y [] W) (hi : R3 i) {k : Nat} (hk : k < (y i).out.length) (hA : Arr y x [] W i k) : ∃ x', setlP i (y i).out (LD a b c x, (k : Int)) = some (.go (LD a b c x', (k : Int) + 1)) ∧ Arr y x' [] W i (k + 1) := by
  obtain ⟨hg,ho,he⟩:=hA
  have hL:(y i).out.length ≤ 1000000:=hy.cnt.ol i hi
  have hp:(y i).out[k]? = some (y i).out[k]:=List.getElem?_eq_getElem hk
  have hdrop:(y i).out.drop k = (y i).out[k]::(y i).out.drop (k + 1):=List.drop_eq_getElem_cons hk
  generalize hpe:(y i).out[k] = p at hp hdrop
  rw [hdrop] at ho
  have hpm:p ∈ (x i).out:=by rw [ho]; simp
  obtain ⟨u1,u2,u3,u4,u5,u6,u7,u8⟩:=(hg.inv i hi).ou p hpm
  have hm:=hg.pend hi p hpm
  have hf:p.From = i:=u1.trans (hg.num i hi)
  have hN : ¬ p.N = 0:=by omega
  have hr : ∀ {j:Int},R3 j → 0 ≤ j∧j ≤ 2:=fun {j} hj=>by rcases hj with rfl | rfl | rfl <;> omega
  have hto:=hr hm.to
  -- the checks
  have c1:((if decide (0 < (k:Int)) = true then (subI (k:Int) 1).bind fun j=>(getI (y i).out j).bind fun a=>(getI (y i).out (k:Int)).bind fun b=>some (decide (b.Number ≤ a.Number)) else some false)) = some false:=by
    by_cases h0:k = 0
    · subst h0; rw [if_neg (by simp)]
    · rw [if_pos (by simp; omega), subI_of (by omega), Option.bind_some]
      have hk1:k - 1 < (y i).out.length:=by omega
      have e1:(y i).out[k - 1]? = some (y i).out[k - 1]:=List.getElem?_eq_getElem hk1
      rw [show ((k:Int) - 1) = ((k - 1:Nat):Int) by omega,getI_nat e1,Option.bind_some,getI_nat hp,Option.bind_some]
      have:=List.pairwise_iff_getElem.1 (hy.inv i hi).os (k - 1) k hk1 hk (by omega)
      rw [hpe] at this
      rw [decide_eq_false (by omega)]
  obtain ⟨z,m,is_,eh,g1,g2,g3⟩:=hear_good hg hm
  obtain ⟨hz0,_,_⟩ | ⟨_,rfl,rfl,gz,gm,gt⟩:=g3
  · omega
  -- the answer
  have hne : ¬ i = p.To:=fun e=>hm.ne (hf.trans e)
  have gx:upd x p.To z i = x i:=upd_ne x z hne
  obtain ⟨z2,m2,is2,eh2,f1,f2,f3⟩:=hear_good g1 gm
  dsimp only at eh2 f1 f2 f3
  rw [hf] at eh2 f1 f2 f3
  rw [gx] at eh2 f2 f3
  obtain ⟨_,hr2,fo⟩ | ⟨hr2,_⟩:=f3
  rotate_left
  · exact absurd rfl hr2
  subst hr2
  refine ⟨upd (upd x p.To z) i z2,?_,f1,?_,fun j hj hji=>?_⟩
  · unfold setlP
    dsimp only
    rw [if_pos (decide_eq_true (by omega)),c1,Option.bind_some,if_neg (by simp),getI_nat hp,Option.bind_some,Option.bind_some,show (p.From != i) = false by simp [hf],if_neg (by simp),Option.bind_some,Option.bind_some,decide_eq_false (by omega),if_neg (by simp),Option.bind_some,Option.bind_some,decide_eq_false (by omega),if_neg (by simp),Option.bind_some,Option.bind_some,decide_eq_false (by omega),if_neg (by simp),Option.bind_some]
    rw [desk_eq,Option.bind_some,md_of hm.to,pts_get hm.to,Option.bind_some,Option.bind_some,aD_eq hd hm.to,Option.bind_some,eh,Option.bind_some]
    dsimp only
    rw [if_neg (by simp),Option.bind_some,desk_eq,Option.bind_some,md_of hm.to,pts_get hm.to,Option.bind_some,Option.bind_some,qD_eq hd hm.to,upd_at,Option.bind_some,← hf,gt,Option.bind_some,if_neg (by simp),hf,pts_get hi,Option.bind_some,aD_eq hd hi,Option.bind_some,gx,eh2,Option.bind_some]
    dsimp only
    rw [if_neg (by simp),addI_of (by omega),Option.bind_some]
  · rw [upd_at, fo, ho]
    refine ack_gone (by rw [← ho]; exact (hg.inv i hi).os) (by simp) fun q _ hq=>?_
    simp only [Bool.not_eq_true', Bool.and_eq_false_iff, beq_eq_false_iff_ne, ne_eq]
    exact .inl (.inr hq)
  · rw [upd_ne _ z2 hji]
    by_cases e:j = p.To
    · rw [e,upd_at,gz,← e]; exact he j hj hji
    · rw [upd_ne x z e]; exact he j hj hji
theorem setlP_loop (hd : Ds a b c) {y : St3} (hy : Good y [] W) (hi : R3 i) : ∃ x', iterL (setlP i (y i).out) ((y i).out.length + 1) (LD a b c y, 0) = some (.ex 4 (LD a b c x', ((y i).out.length : Int))) ∧ Arr y x' [] W i (y i).out.length := by
  obtain ⟨r,h1,h2,h3⟩:=loop_up (body:=setlP i (y i).out) (fun k s=>∃ x,s = (LD a b c x,(k:Int))∧Arr y x [] W i k) (y i).out.length (fun r=>∃ x,r = .ex 4 (LD a b c x,((y i).out.length:Int))∧Arr y x [] W i (y i).out.length)
    (fun k s hk ⟨x,e,hA⟩=>by
      subst e
      obtain ⟨x', e, hA'⟩ := setlP_step hd hy hi hk hA
      exact .inl ⟨_, e, x', rfl, hA'⟩)
    (fun s ⟨x,e,hA⟩=>by
      subst e
      exact ⟨.ex 4 (LD a b c x,((y i).out.length:Int)),(by unfold setlP; dsimp only; rw [if_neg (by simp)]),trivial,x,rfl,hA⟩) (LD a b c y,0) ⟨y,rfl,hy,by simp,fun _ _ _=>rfl⟩ ((y i).out.length + 1) (by omega)
  obtain ⟨x', e, hA⟩ := h3
  exact ⟨x', by rw [h1, e], hA⟩
theorem setlI_step (hd : Ds a b c) {y : St3} (hy : Good y [] W) (hi : R3 i) : ∃ x', setlI (LD a b c y, i) = some (.go (LD a b c x', i + 1)) ∧ Good x' [] W ∧ (x' i).out = [] ∧ ∀ j, R3 j → ¬ j = i → (x' j).out = (y j).out := by
  have hlt:i < 3∧0 ≤ i:=by rcases hi with rfl | rfl | rfl <;> omega
  obtain ⟨x', e, hA⟩ := setlP_loop hd hy hi
  refine ⟨x', ?_, hA.g, by rw [hA.o, List.drop_length], hA.e⟩
  unfold setlI
  rw [if_pos (decide_eq_true hlt.1)]
  dsimp only
  rw [pts_get hi,Option.bind_some,qD_eq hd hi,Option.bind_some,e,Option.bind_some]
  dsimp only
  rw [addI_of (by omega),Option.bind_some]
theorem setlI_loop (hd : Ds a b c) {y : St3} (hy : Good y [] W) : ∃ x', iterL setlI 4 (LD a b c y, 0) = some (.ex 2 (LD a b c x', 3)) ∧ Good x' [] W ∧ ∀ j, R3 j → (x' j).out = [] := by
  obtain ⟨x1,e1,g1,o1,s1⟩:=setlI_step hd hy (i:=0) (.inl rfl)
  obtain ⟨x2,e2,g2,o2,s2⟩:=setlI_step hd g1 (i:=0 + 1) (.inr (.inl rfl))
  obtain ⟨x3,e3,g3,o3,s3⟩:=setlI_step hd g2 (i:=0 + 1 + 1) (.inr (.inr rfl))
  refine ⟨x3,?_,g3,fun j hj=>?_⟩
  · rw [iterL, e1]
    dsimp only
    rw [iterL,e2]
    dsimp only
    rw [iterL,e3]
    dsimp only
    rw [iterL]
    rfl
  · rcases hj with rfl | rfl | rfl
    · rw [s3 0 (.inl rfl) (by omega),s2 0 (.inl rfl) (by omega),o1]
    · rw [s3 1 (.inr (.inl rfl)) (by omega)]; exact o2
    · exact o3
theorem setlE_loop (hd:Ds a b c) (ho : ∀ j,R3 j → (x j).out = []):iterL (setlE (LD a b c x)) 4 0 = some (.ex 6 3):=by
  have step : ∀ j,R3 j → setlE (LD a b c x) j = some (.go (j + 1)):=fun j hj=>by
    have hlt:j < 3∧0 ≤ j:=by rcases hj with rfl | rfl | rfl <;> omega
    unfold setlE
    rw [if_pos (decide_eq_true hlt.1),pts_get hj,Option.bind_some,qD_eq hd hj,Option.bind_some,ho j hj,if_neg (by simp),addI_of (by omega),Option.bind_some]
  rw [iterL,step 0 (.inl rfl)]
  dsimp only
  rw [iterL,step (0 + 1) (.inr (.inl rfl))]
  dsimp only
  rw [iterL,step (0 + 1 + 1) (.inr (.inr rfl))]
  dsimp only
  rw [iterL]
  rfl
theorem setlY_step (hd:Ds a b c) (hg:Good x sent W) (hi:R3 i) {j n:Int} (h0:0 ≤ n) (hb:n + sumP (hF (capN j)) (x i).L ≤ 1000000):setlY (LD a b c x) j (n,i) = some (.go (n + sumP (hF (capN j)) (x i).L,i + 1)):=by
  have hlt:i < 3∧0 ≤ i:=by rcases hi with rfl | rfl | rfl <;> omega
  have hc:=hg.cnt
  unfold setlY
  rw [if_pos (decide_eq_true hlt.1)]
  dsimp only
  rw [pts_get hi,Option.bind_some,qD_eq hd hi,Option.bind_some]
  rw [sum_loop (f:=hF (capN j)) (j:=12) (hF_nn (hc.hn i hi)) h0 hb (hc.ll i hi) (fun k m y hk hy hm hs=>by
      unfold setlX
      dsimp only
      rw [if_pos (decide_eq_true (by omega)),getI_nat hy,Option.bind_some,cap_eq,Option.bind_some,toList_beq]
      unfold hF at hs ⊢
      by_cases he:y.Cap = capN j
      · rw [if_pos he] at hs
        have:=hc.hn i hi y (List.mem_of_getElem? hy)
        rw [if_pos (show decide (y.Cap = capN j) = true by simp [he]),if_pos he,Option.bind_some,addI_of (by omega),Option.bind_some,Option.bind_some,addI_nat (Nat.le_of_lt hk) (hc.ll i hi),Option.bind_some]
      · rw [if_neg (show ¬ decide (y.Cap = capN j) = true by simp [he]),if_neg he,Option.bind_some,addI_nat (Nat.le_of_lt hk) (hc.ll i hi),Option.bind_some,Int.add_zero])
    (fun m=>by unfold setlX; rw [if_neg (by simp)])]
  rw [Option.bind_some]
  dsimp only
  rw [addI_of (by omega),Option.bind_some]
theorem setlC_step (hd:Ds a b c) (hh:ok9 h) (hg:Good x [] (W9c h)) (ho : ∀ j,R3 j → (x j).out = []) {j:Int} (hj:R3 j):setlC h (LD a b c x) j = some (.go (j + 1)):=by
  have hlt:j < 3∧0 ≤ j:=by rcases hj with rfl | rfl | rfl <;> omega
  have hal:=hg.al _ (capN_cap j)
  have hw:=hg.wb _ (capN_cap j)
  rw [W9c_at h hj] at hal hw
  have et : ∀ i,R3 i → tot x (capN j) i = sumP (hF (capN j)) (x i).L:=fun i hi=>by
    unfold tot; rw [ho i hi]; exact Int.add_zero _
  unfold tot3 at hal
  rw [et 0 (.inl rfl),et 1 (.inr (.inl rfl)),et 2 (.inr (.inr rfl))] at hal
  have t0:=tot_nn (cap:=capN j) hg.cnt (i:=0) (.inl rfl)
  have t1:=tot_nn (cap:=capN j) hg.cnt (i:=1) (.inr (.inl rfl))
  have t2:=tot_nn (cap:=capN j) hg.cnt (i:=2) (.inr (.inr rfl))
  have hloop:iterL (setlY (LD a b c x) j) 4 (0,0) = some (.ex 10 (wn9 h j,3)):=by
    rw [iterL,setlY_step hd hg (i:=0) (.inl rfl) (Int.le_refl 0) (by omega)]
    dsimp only
    rw [iterL,setlY_step hd hg (i:=0 + 1) (.inr (.inl rfl)) (by omega) (by show 0 + sumP (hF (capN j)) (x 0).L + sumP (hF (capN j)) (x 1).L ≤ _; omega)]
    dsimp only
    rw [iterL,setlY_step hd hg (i:=0 + 1 + 1) (.inr (.inr rfl)) (by show 0 ≤ 0 + sumP (hF (capN j)) (x 0).L + sumP (hF (capN j)) (x 1).L; omega) (by show 0 + sumP (hF (capN j)) (x 0).L + sumP (hF (capN j)) (x 1).L + sumP (hF (capN j)) (x 2).L ≤ _; omega)]
    dsimp only
    rw [iterL]
    have e:(0 + sumP (hF (capN j)) (x 0).L + sumP (hF (capN j)) (x (0 + 1)).L + sumP (hF (capN j)) (x (0 + 1 + 1)).L,(0 + 1 + 1 + 1:Int)) = (wn9 h j,3):=by
      rw [← hal,Int.zero_add]; rfl
    rw [e]
    rfl
  unfold setlC
  rw [if_pos (decide_eq_true hlt.1),hloop,Option.bind_some]
  dsimp only
  rw [want_eq hh hj,if_neg (by simp),addI_of (by omega),Option.bind_some]
theorem setlC_loop (hd:Ds a b c) (hh:ok9 h) (hg:Good x [] (W9c h)) (ho : ∀ j,R3 j → (x j).out = []):iterL (setlC h (LD a b c x)) 4 0 = some (.ex 8 3):=by
  rw [iterL,setlC_step hd hh hg ho (.inl rfl)]
  dsimp only
  rw [iterL,setlC_step hd hh hg ho (j:=0 + 1) (.inr (.inl rfl))]
  dsimp only
  rw [iterL,setlC_step hd hh hg ho (j:=0 + 1 + 1) (.inr (.inr rfl))]
  dsimp only
  rw [iterL]
  rfl
theorem setlL_eq (hd:Ds a b c) (hh:ok9 h) (l:List Ref46Op):setlL h l (LD a b c (x0 h)) = some true:=by
  unfold setlL
  by_cases hl:l.length ≤ 60
  rotate_left
  · rw [if_pos (by simp; omega)]
  rw [if_neg (by simp; omega),if_neg (by simp [ptsD,LD])]
  obtain ⟨x1,s1,j,e1,g1,_⟩:=setlA_loop hd hh hl
  rw [e1,Option.bind_some]
  dsimp only
  obtain ⟨x2,e2,g2,o2⟩:=setlI_loop hd (y:=x1) (W:=W9c h) { g1 with ms:=fun p hp=>by simp at hp }
  rw [e2,Option.bind_some]
  dsimp only
  rw [setlE_loop hd o2,Option.bind_some]
  dsimp only
  rw [setlC_loop hd hh g2 o2,Option.bind_some]
end
theorem law_LeaseSettles (h:H9) (l:List Ref46Op) (hh:ok9 h):law46_LeaseSettles h l = some true:=by
  unfold law46_LeaseSettles
  rw [run3_eq hh,Option.bind_some]
  exact anyL_eq fun a b c h1 h2 h3=>setlL_eq ⟨h1,h2,h3⟩ hh l

end Go.Proofs.YtljfakcblkdhbaaDoor

