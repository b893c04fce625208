/- The general part of the proofs (no program in sight): worlds with shared blocks, regions, operations, calls, loops, what comes in as data, part 4 -/
import Derived.Test.YtljfakcblkdhbaaDoorL3
set_option linter.unusedVariables false
set_option linter.unusedSimpArgs false
/- General part of the proofs: a slice of the call's own, of numbers with slices of the call's own. -/
namespace Go.Gb
set_option linter.unusedSectionVars false
section
variable {α:Type} [Enc α] {P:Program} {o:Oper} {a:Act} {k k' k0:K} {F G:FP} {E e:TypeId} {v:Value}

def rawP (t:Int × Value × List α):Int × RawV:=(t.1,⟨t.2.1⟩)
def cntP (t:Int × Value × List α):Int × List α:=(t.1,t.2.2)
structure PartsOk (e:TypeId) (T:List (Int × Value × List α)) (k:K):Prop where
  own : ∀ (i:Nat) t,T[i]? = some t → IsOwn 0 e t.2.2 t.2.1 k
  ap : ∀ (i j:Nat) s t,T[i]? = some s → T[j]? = some t → i ≠ j → Apart (obF s.2.1) (obF t.2.1)
def partsF (T:List (Int × Value × List α)):FP:=fun c=>∃ (i:Nat) (t:_),T[i]? = some t∧obF t.2.1 c
theorem PartsOk.keep {T:List (Int × Value × List α)} (h:PartsOk e T k) (g:Chg G k k') (hs:Apart (partsF T) G) (hn : ∀ b,G b → ¬ k.sh b):PartsOk e T k':=
  ⟨fun i t ht=>(h.own i t ht).keep g (fun c hc=>hs c ⟨i,t,ht,hc⟩) hn,h.ap⟩
theorem PartsOk.handed {T:List (Int × Value × List α)} (h:PartsOk e T k) (g:Handed k k' G) (hs:Apart (partsF T) G):PartsOk e T k':=
  ⟨fun i t ht=>(h.own i t ht).handed g (fun c hc=>hs c ⟨i,t,ht,hc⟩),h.ap⟩
/-- A slice of the call's own, of numbers with slices of the call's own. -/
def PilR (E e:TypeId) (m:List (Int × List α)):FP → Pred:=fun F v k=>
  E ≠ e∧∃ T:List (Int × Value × List α),m = T.map cntP∧IsOwn 0 E (T.map rawP) v k∧PartsOk e T k∧F = fun c=>obF v c ∨ partsF T c
instance (m:List (Int × List α)):Rsc (PilR E e m) where
  keep:=fun ⟨hne,T,e1,ho,hp,eF⟩ g hs hn=>⟨hne,T,e1,ho.keep g (fun c hc=>hs c (by rw [eF]; exact .inl hc)) hn,hp.keep g (fun c hc=>hs c (by rw [eF]; exact .inr hc)) hn,eF⟩
  handed:=fun ⟨hne,T,e1,ho,hp,eF⟩ g hs=>⟨hne,T,e1,ho.handed g (fun c hc=>hs c (by rw [eF]; exact .inl hc)),hp.handed g (fun c hc=>hs c (by rw [eF]; exact .inr hc)),eF⟩
  lt:=fun ⟨hne,T,e1,ho,hp,eF⟩ c hc=>by
    rw [eF] at hc
    rcases hc with hc | ⟨i,t,ht,hc⟩
    · exact ho.ltF c hc
    · exact (hp.own i t ht).ltF c hc
  nsh:=fun ⟨hne,T,e1,ho,hp,eF⟩ c hc=>by
    rw [eF] at hc
    rcases hc with hc | ⟨i,t,ht,hc⟩
    · exact ho.nshF c hc
    · exact (hp.own i t ht).nshF c hc
theorem PilR.nil (hne:E ≠ e):PilR (α:=α) E e [] noF (.slice none 0 0) k:=by
  refine ⟨hne,[],rfl,.inl ⟨rfl,rfl⟩,⟨fun i t h=>by simp at h,fun i j s t h=>by simp at h⟩,?_⟩
  funext c
  refine propext ⟨False.elim,?_⟩
  rintro (h | ⟨i,t,h,_⟩)
  · simp [obF,ob] at h
  · simp at h
/-- One slice is another one now. -/
theorem PilR.set {T:List (Int × Value × List α)} {i:Nat} {t:Int × Value × List α} {u:Value} {xs:List α} (hne:E ≠ e) (hi:T[i]? = some t) (ho:IsOwn 0 E ((T.map rawP).set i (t.1,⟨u⟩)) v k)
    (hp : ∀ (j:Nat) s,T[j]? = some s → j ≠ i → IsOwn 0 e s.2.2 s.2.1 k) (hpa : ∀ (i j:Nat) s t,T[i]? = some s → T[j]? = some t → i ≠ j → Apart (obF s.2.1) (obF t.2.1)) (hu:IsOwn 0 e xs u k) (ha : ∀ (j:Nat) s,T[j]? = some s → j ≠ i → Apart (obF s.2.1) (obF u)) :
    PilR E e ((T.map cntP).set i (t.1,xs)) (fun c=>obF v c ∨ partsF (T.set i (t.1,u,xs)) c) v k:=by
  have hlt:i < T.length:=(List.getElem?_eq_some_iff.1 hi).1
  have get : ∀ (j:Nat) s,(T.set i (t.1,u,xs))[j]? = some s → (j = i∧s = (t.1,u,xs)) ∨ (j ≠ i∧T[j]? = some s):=by
    intro j s h
    by_cases hj:j = i
    · subst hj; rw [List.getElem?_set_self hlt] at h; exact .inl ⟨rfl,(Option.some.inj h).symm⟩
    · rw [List.getElem?_set_ne (fun e=>hj e.symm)] at h; exact .inr ⟨hj,h⟩
  refine ⟨hne,T.set i (t.1,u,xs),by rw [List.map_set]; rfl,by rw [List.map_set]; exact ho,⟨fun j s h=>?_,fun j l s s' h h' hjl=>?_⟩,rfl⟩
  · rcases get j s h with ⟨_, rfl⟩ | ⟨hj, h⟩
    · exact hu
    · exact hp j s h hj
  · rcases get j s h with ⟨rfl, rfl⟩ | ⟨hj, h1⟩
    · rcases get l s' h' with ⟨rfl, rfl⟩ | ⟨hl, h2⟩
      · exact absurd rfl hjl
      · exact (ha l s' h2 hl).symm
    · rcases get l s' h' with ⟨rfl, rfl⟩ | ⟨hl, h2⟩
      · exact ha j s h1 hj
      · exact hpa j l s s' h1 h2 hjl
/-- One more. -/
theorem PilR.push {T:List (Int × Value × List α)} {n:Int} {u:Value} {xs:List α} (hne:E ≠ e) (ho:IsOwn 0 E (T.map rawP ++ [(n,⟨u⟩)]) v k) (hp:PartsOk e T k) (hu:IsOwn 0 e xs u k) (ha:Apart (partsF T) (obF u)) :
    PilR E e (T.map cntP ++ [(n,xs)]) (fun c=>obF v c ∨ partsF (T ++ [(n,u,xs)]) c) v k:=by
  have get : ∀ (j:Nat) s,(T ++ [(n,u,xs)])[j]? = some s → (j = T.length∧s = (n,u,xs)) ∨ (j < T.length∧T[j]? = some s):=by
    intro j s h
    rcases Nat.lt_trichotomy j T.length with hj | hj | hj
    · rw [List.getElem?_append_left hj] at h; exact .inr ⟨hj,h⟩
    · subst hj; simp at h; exact .inl ⟨rfl,h.symm⟩
    · rw [List.getElem?_eq_none (by simp; omega)] at h; simp at h
  refine ⟨hne,T ++ [(n,u,xs)],by simp [cntP],by simpa [rawP] using ho,⟨fun j s h=>?_,fun j l s s' h h' hjl=>?_⟩,rfl⟩
  · rcases get j s h with ⟨_, rfl⟩ | ⟨hj, h⟩
    · exact hu
    · exact hp.own j s h
  · rcases get j s h with ⟨rfl, rfl⟩ | ⟨hj, h1⟩
    · rcases get l s' h' with ⟨rfl, rfl⟩ | ⟨hl, h2⟩
      · exact absurd rfl hjl
      · exact fun c hc hc' => ha c ⟨l, s', h2, hc'⟩ hc
    · rcases get l s' h' with ⟨rfl, rfl⟩ | ⟨hl, h2⟩
      · exact fun c hc=>ha c ⟨j,s,h1,hc⟩
      · exact hp.ap j l s s' h1 h2 hjl
/-- One slice was changed in place. -/
theorem PartsOk.turn {T:List (Int × Value × List α)} {i:Nat} {t:Int × Value × List α} (h:PartsOk e T k) (hi:T[i]? = some t) (g:Chg (obF t.2.1) k k') : ∀ (j:Nat) s,T[j]? = some s → j ≠ i → IsOwn 0 e s.2.2 s.2.1 k':=
  fun j s hs hj=>(h.own j s hs).keep g (h.ap j i s t hs hi hj) (h.own i t hi).nshF
/-- The slice u, whose parts are told by T. -/
def PilAt (u:Value) (E e:TypeId) (T:List (Int × Value × List α)):Pred:=fun v k=>v = u∧IsOwn 0 E (T.map rawP) u k∧PartsOk e T k
theorem PartsOk.grow {T:List (Int × Value × List α)} (h:PartsOk e T k) (g:Grow k k'):PartsOk e T k':=h.keep (Chg.of (F:=noF) g) (fun _ _ f=>f) (fun _ f=>f.elim)
instance {u:Value} {T:List (Int × Value × List α)}:Mono (PilAt u E e T):=⟨fun g ⟨h,h1,h2⟩=>⟨h,Mono.mono g h1,h2.grow g⟩⟩
theorem PilR.open {m:List (Int × List α)} (h:PilR E e m F v k):E ≠ e∧∃ T:List (Int × Value × List α),m = T.map cntP∧PilAt v E e T v k∧F = fun c=>obF v c ∨ partsF T c:=
  let ⟨hne,T,e1,ho,hp,eF⟩:=h; ⟨hne,T,e1,⟨rfl,ho,hp⟩,eF⟩
section
variable {u:Value} {T:List (Int × Value × List α)} {i:Int} {s:Int × Value × List α} {t st:TypeId} {x y:Operand}
theorem PilAt.own (h:PilAt u E e T v k) (hi:getI T i = some s):IsOwn 0 e s.2.2 s.2.1 k:=h.2.2.own _ _ (getI_spec hi).2.1
end
end
end Go.Gb

/- General part of the proofs: maps that are ranged over, keys that are structs, boxes whose cells are looked at one by one. -/
namespace Go.Gb
open Go.ChangeMaps (setBlock)

/-- A loop whose rounds make a number less. -/
theorem loop_less {P:Program} {c:Code} {Q:Exit → Act → World → Prop} (I:Nat → Act → K → Prop) {a:Act} {k:K} (h0 : ∃ n,I n a k)
    (round : ∀ n a k, I n a k → c.wp P (Exit.then (fun a' w' => ∃ m k', k'.w = w' ∧ m < n ∧ I m a' k') Q) a k.w) : (Code.loop c).wp P Q a k.w := by
  let J:Nat → Act → World → Prop:=fun n a w=>∃ k,k.w = w∧I n a k
  let μ:Act → World → Nat:=fun a w=>open Classical in if h : ∃ n,J n a w then Classical.choose (exists_min h) else 0
  have hμ : ∀ n a w,J n a w → J (μ a w) a w∧μ a w ≤ n:=by
    intro n a w hJ
    have h : ∃ n,J n a w:=⟨n,hJ⟩
    have:=Classical.choose_spec (exists_min h)
    simp only [μ,dif_pos h]
    exact ⟨this.1,this.2 n hJ⟩
  obtain ⟨n0,h0⟩:=h0
  refine wp_loop (fun a w=>∃ n,J n a w) μ ⟨n0,k,rfl,h0⟩ ?_
  rintro a₁ w₁ ⟨n₁,hJ⟩
  obtain ⟨⟨k₁,rfl,hI⟩,_⟩:=hμ n₁ a₁ w₁ hJ
  refine wp_mono (round _ a₁ k₁ hI) fun e a' w' h=>?_
  cases e with
  | normal =>
    obtain ⟨m, k', rfl, hm, hI'⟩ := h
    have hJ' : J m a' k'.w := ⟨k', rfl, hI'⟩
    exact ⟨⟨m,hJ'⟩,Nat.lt_of_le_of_lt (hμ m a' k'.w hJ').2 hm⟩
  | _=>exact h

/-- Block b is a map of the call's own with these entries, which can be ranged over. -/
structure MapC {κ:Type} (kv:κ → Value) (b:Nat) (l:List (κ × Value)) (k:K):Prop where
  own : ¬ k.sh b
  is : ∃ es clk,k.w.heap[b]? = some (.map es clk)∧es.toList.map (fun e=>(e.key,e.val)) = l.map (fun p=>(kv p.1,p.2))∧(∀ e ∈ es.toList,e.born < clk)∧(es.toList.map (·.born)).Nodup
section
variable {P:Program} {o:Oper} {a a0:Act} {k k' k0:K} {R S T:Pred} {κ:Type} {kv:κ → Value} {F G:FP} {b:Nat} {l:List (κ × Value)}
theorem MapC.m (h:MapC kv b l k):MapB kv b l k:=let ⟨es,clk,h1,h2,_⟩:=h.is; ⟨h.own,es,clk,h1,h2⟩
theorem MapC.lt (h:MapC kv b l k):b < k.w.heap.size:=h.m.lt
theorem MapC.keep (h:MapC kv b l k) (g:Chg G k k') (hG : ¬ G b):MapC kv b l k':=by
  have hlt:=h.lt
  obtain ⟨ho,es,clk,h,r⟩:=h
  exact ⟨fun hs=>ho (g.new' b hlt hG hs),es,clk,by rw [g.blk b hlt hG]; exact h,r⟩
theorem MapC.handed (h:MapC kv b l k) (g:Handed k k' G) (hG : ¬ G b):MapC kv b l k':=by
  obtain ⟨ho,es,clk,h,r⟩:=h
  exact ⟨fun hs=>(g.sh b hs).elim ho hG,es,clk,by rw [g.w]; exact h,r⟩
theorem MapC.grow (h:MapC kv b l k) (g:Grow k k'):MapC kv b l k':=h.keep (Chg.of (F:=noF) g) fun f=>f

theorem tail_mapUpdateC [DecidableEq κ] {A:Array Oper} {i:Nat} {rest:List Nat} {Q:Exit → Act → World → Prop} {t kt et:TypeId} {x y z:Operand} {n:κ}
    (ho:nth A.toList i = some o) (hg:o.guard = none) (hop:o.op = .mapUpdate t x y z) (hd:o.dst = none) (KO:KeyOk P kt kv) (hu:P.underlying t = some (.map kt et))
    (hx:a.eval x = .map (some b)) (hy:a.eval y = kv n) (h:MapC kv b l k)
    (next : ∀ k', Chg (Eq b) k k' → k'.w.heap.size = k.w.heap.size → MapC kv b (setK l n (a.eval z)) k' → wpOps P A Q rest a k'.w) : wpOps P A Q (i :: rest) a k.w := by
  obtain ⟨hown,es,clk,hh,hr,hb1,hb2⟩:=h
  have hf:=KO.find l es.toList n k.w hr
  have hlt:b < k.w.heap.size:=(Array.getElem?_eq_some_iff.1 hh).1
  have fin : ∀ (es' : Array MapEntry) (clk' : Nat),es'.toList.map (fun e=>(e.key,e.val)) = (setK l n (a.eval z)).map (fun p=>(kv p.1,p.2)) → (∀ e ∈ es'.toList,e.born < clk') → (es'.toList.map (·.born)).Nodup →
      wpOps P A Q rest a { k.w with heap:=k.w.heap.setIfInBounds b (.map es' clk') }:=by
    intro es' clk' he h1 h2
    let k' : K:=⟨{ k.w with heap:=k.w.heap.setIfInBounds b (.map es' clk') },k.sh,fun i hi=>by have:=k.lt i hi; simpa using this⟩
    refine next k' ⟨rfl, rfl, rfl, by simp [k'], fun c _ hc => (MapKept.heap_set hh).2 c (fun e => hc e.symm), fun _ h => h, fun _ _ h => .inl h, Nat.le_refl _⟩ (by simp [k']) ⟨hown, es', clk', (MapKept.heap_set hh).1, he, h1, h2⟩
  rw [wpOps_cons]
  rw [nth_toList] at ho
  unfold wpOp
  simp only [ho,Region.wanted,hg,if_true]
  refine .inl ?_
  unfold Oper.wp
  have hgo:=MapKept.run_getObj_map (P:=P) hh
  cases hfd:fnd l n 0 with
  | none =>
    rw [hfd] at hf
    have hx' : (execOp a.eval o).run P k.w = .ok .skip { k.w with heap:=k.w.heap.setIfInBounds b (.map (es.push { key:=kv n,val:=a.eval z,born:=clk }) (clk + 1)) }:=by
      simp only [execOp,hop,hx,hy]
      simp [Instr.mapUpdate,run_underlying hu,hgo,KO.check,hf,MapKept.run_setObj_map (P:=P) _ hh]
    rw [hx']
    have:=fin (es.push { key:=kv n,val:=a.eval z,born:=clk }) (clk + 1) (by rw [fnd_none _ _ _ _ hfd]; simp [hr])
      (by
        intro e he
        simp only [Array.toList_push,List.mem_append,List.mem_singleton] at he
        rcases he with he | rfl
        · have:=hb1 e he; omega
        · simp)
      (by
        simp only [Array.toList_push,List.map_append,List.map_cons,List.map_nil]
        rw [List.nodup_append]
        refine ⟨hb2,by simp,fun x hx y hy hxy=>?_⟩
        simp only [List.mem_singleton] at hy
        obtain ⟨e,he,rfl⟩:=List.mem_map.1 hx
        have:=hb1 e he
        omega)
    simpa [Oper.upon,hd,Act.put] using this
  | some p =>
    obtain ⟨j,u⟩:=p
    rw [hfd] at hf
    obtain ⟨_,h2,h3,h4⟩:=fnd_some l n 0 j u (a.eval z) hfd
    simp only [Nat.sub_zero] at h2 h3 h4
    have hkey:((es[j]?).map (·.key)).getD (kv n) = kv n:=by
      have h5:(es.toList.map (fun e=>(e.key,e.val)))[j]? = some (kv n,u):=by rw [hr]; simp [h3]
      simp only [List.getElem?_map,Array.getElem?_toList,Option.map_eq_some_iff,Prod.mk.injEq] at h5
      obtain ⟨e,he,hk,_⟩:=h5
      simp [he,hk]
    have hx' : (execOp a.eval o).run P k.w = .ok .skip { k.w with heap:=k.w.heap.setIfInBounds b (.map (es.modify j fun e=>{ e with key:=kv n,val:=a.eval z }) clk) }:=by
      simp only [execOp,hop,hx,hy]
      simp [Instr.mapUpdate,run_underlying hu,hgo,KO.check,hf,hkey,Instr.keyThatStays,KO.same,MapKept.run_setObj_map (P:=P) _ hh]
    rw [hx']
    have hbm:(es.modify j fun e=>{ e with key:=kv n,val:=a.eval z }).toList.map (·.born) = es.toList.map (·.born):=by
      rw [Array.toList_modify]
      refine List.ext_getElem? fun i=>?_
      simp only [List.getElem?_map,List.getElem?_modify]
      cases hi:es.toList[i]? with
      | none=>simp
      | some e=>by_cases hij:j = i <;> simp [hij]
    have:=fin (es.modify j fun e=>{ e with key:=kv n,val:=a.eval z }) clk (by rw [h4]; exact map_modify hr)
      (by
        intro e he
        have:e.born ∈ (es.modify j fun e=>{ e with key:=kv n,val:=a.eval z }).toList.map (·.born):=List.mem_map_of_mem he
        rw [hbm] at this
        obtain ⟨e', he', h'⟩ := List.mem_map.1 this
        have:=hb1 e' he'
        omega) (by rw [hbm]; exact hb2)
    simpa [Oper.upon,hd,Act.put] using this
theorem ok_makeMapC {t:TypeId} {b0:Nat} (hb0:b0 ≤ k.w.heap.size) (ho:o.op = .makeMap t none):Does P o a k (fun v k=>∃ b,v = .map (some b)∧b0 ≤ b∧MapC kv b [] k):=by
  refine does_run (v:=.map (some k.w.heap.size)) (k':=k.alloc (.map #[] 0)) ?_ (K.alloc_grow k _) ⟨_,rfl,hb0,fun hs=>Nat.lt_irrefl _ (k.lt _ hs),#[],0,heap_alloc_new k.w _,rfl,by simp,by simp⟩
  simp only [execOp,ho]
  simp [Instr.makeMap]
  rfl
instance {b0:Nat}:Mono (fun v k=>∃ b,v = Value.map (some b)∧b0 ≤ b∧MapC kv b [] k):=⟨fun g ⟨b,e,h,m⟩=>⟨b,e,h,m.grow g⟩⟩

/-- The iterator in block r. -/
structure ItAt (r bm since:Nat) (seen:Array Nat) (last:Nat) (k:K):Prop where
  own : ¬ k.sh r
  is:k.w.heap[r]? = some (.mapIter (some bm) since seen last)
theorem ItAt.lt {r bm since:Nat} {seen:Array Nat} {last:Nat} (h:ItAt r bm since seen last k):r < k.w.heap.size:=(Array.getElem?_eq_some_iff.1 h.is).1
theorem ItAt.keep {r bm since:Nat} {seen:Array Nat} {last:Nat} (h:ItAt r bm since seen last k) (g:Chg G k k') (hG : ¬ G r):ItAt r bm since seen last k':=
  ⟨fun hs=>h.own (g.new' r h.lt hG hs),by rw [g.blk r h.lt hG]; exact h.is⟩
theorem ItAt.grow {r bm since:Nat} {seen:Array Nat} {last:Nat} (h:ItAt r bm since seen last k) (g:Grow k k'):ItAt r bm since seen last k':=h.keep (Chg.of (F:=noF) g) fun f=>f
theorem ItAt.handed {r bm since:Nat} {seen:Array Nat} {last:Nat} (h:ItAt r bm since seen last k) (g:Handed k k' G) (hG : ¬ G r):ItAt r bm since seen last k':=
  ⟨fun hs=>(g.sh r hs).elim h.own hG,by rw [g.w]; exact h.is⟩
def IsIt (B bm clk:Nat):Pred:=fun v k=>∃ r,v = .pointer (some ⟨r,0,none⟩)∧B ≤ r∧ItAt r bm clk #[] clk k
instance {B bm clk:Nat}:Mono (IsIt B bm clk):=⟨fun g ⟨r,e,h,m⟩=>⟨r,e,h,m.grow g⟩⟩
theorem ok_range {t kt et:TypeId} {x:Operand} {bm clk B:Nat} {es:Array MapEntry} (hB:B ≤ k.w.heap.size) (ho:o.op = .range t x) (hu:P.underlying t = some (.map kt et)) (hx:a.eval x = .map (some bm)) (hb:k.w.heap[bm]? = some (.map es clk)):Does P o a k (IsIt B bm clk):=by
  refine does_run (v:=.pointer (some ⟨k.w.heap.size,0,none⟩)) (k':=k.alloc (.mapIter (some bm) clk #[] clk)) ?_ (K.alloc_grow k _) ⟨_,rfl,hB,fun hs=>Nat.lt_irrefl _ (k.lt _ hs),heap_alloc_new k.w _⟩
  simp only [execOp,ho,hx]
  simp [run_range_map k.w t kt et bm es clk hu hb,K.alloc]
theorem tail_next {A:Array Oper} {i d r bm since c0 clk:Nat} {seen:Array Nat} {es:Array MapEntry} {rest:List Nat} {Q:Exit → Act → World → Prop} {ty:TypeId} {x:Operand}
    (ho:nth A.toList i = some o) (hg:o.guard = none) (hop:o.op = .next x false) (hd:o.dst = some d) (hda:d < a.tmps.size)
    (hx:a.eval x = .pointer (some ⟨r,0,none⟩)) (hr:ItAt r bm since seen c0 k) (hb:k.w.heap[bm]? = some (.map es clk)) (hold : ∀ e ∈ es.toList,e.born < since) (hsc:since ≤ c0)
    (h1:(leftOf es seen).size = 0 → ∀ a' : Act,a'.tmps.size = a.tmps.size → a'.defers = a.defers → a'.get d = .tuple #[.bool false] → (∀ t,t ≠ d → a'.get t = a.get t) → wpOps P A Q rest a' k.w)
    (h2 : ∀ e ∈ (leftOf es seen).toList,∀ (a' : Act) (k' : K),a'.tmps.size = a.tmps.size → a'.defers = a.defers → a'.get d = .tuple #[.bool true,e.key,e.val] → (∀ t,t ≠ d → a'.get t = a.get t) → Chg (Eq r) k k' → ItAt r bm since (seen.push e.born) clk k' → wpOps P A Q rest a' k'.w) :
    wpOps P A Q (i::rest) a k.w:=by
  rw [wpOps_cons]
  rw [nth_toList] at ho
  unfold wpOp
  simp only [ho,Region.wanted,hg,if_true]
  refine .inl ?_
  unfold Oper.wp
  have put : ∀ v,((a.put (some d) v).tmps.size = a.tmps.size∧(a.put (some d) v).defers = a.defers∧(a.put (some d) v).get d = v∧∀ t,t ≠ d → (a.put (some d) v).get t = a.get t):=fun v=>
    ⟨put_size _ _ _,put_defers' _ _ _,by rw [get_put _ _ _ _ hda]; simp,fun t ht=>by rw [get_put _ _ _ _ hda,if_neg (Ne.symm ht)]⟩
  rcases run_next_at (P:=P) k.w o.type r bm since c0 seen es clk hr.is hb hold hsc with ⟨h0,hrun⟩ | ⟨e,he,w1,hw1,hrun⟩
  · have hx' : (execOp a.eval o).run P k.w = .ok (.value (.tuple #[.bool false])) k.w := by
      simp only [execOp,hop,hx]
      simp [hrun]
    rw [hx']
    simp only [Oper.upon_value,hd]
    obtain ⟨p1,p2,p3,p4⟩:=put (.tuple #[.bool false])
    exact h1 h0 _ p1 p2 p3 p4
  · have hx' : (execOp a.eval o).run P k.w = .ok (.value (.tuple #[.bool true, e.key, e.val])) (setBlock w1 r (.mapIter (some bm) since (seen.push e.born) clk)) := by
      simp only [execOp,hop,hx]
      simp [hrun]
    rw [hx']
    simp only [Oper.upon_value,hd]
    obtain ⟨p1,p2,p3,p4⟩:=put (.tuple #[.bool true,e.key,e.val])
    have hlt:=hr.lt
    have e1:w1.heap = k.w.heap∧w1.tape = k.w.tape∧w1.os = k.w.os∧w1.output = k.w.output∧k.w.drawn ≤ w1.drawn:=by
      rcases hw1 with rfl | rfl
      · exact ⟨rfl,rfl,rfl,rfl,Nat.le_refl _⟩
      · exact ⟨rfl,rfl,rfl,rfl,Nat.le_succ _⟩
    let k' : K:=⟨setBlock w1 r (.mapIter (some bm) since (seen.push e.born) clk),k.sh,fun i hi=>by have:=k.lt i hi; simp [setBlock,e1.1]; exact this⟩
    refine h2 e he _ k' p1 p2 p3 p4 ⟨e1.2.1, e1.2.2.1, e1.2.2.2.1, by simp [k', setBlock, e1.1], fun c hc hcr => ?_, fun _ h => h, fun _ _ h => .inl h, e1.2.2.2.2⟩ ⟨hr.own, ?_⟩
    · simp only [k', setBlock, e1.1]
      rw [Array.getElem?_setIfInBounds_ne (fun e=>hcr e)]
    · simp only [k', setBlock, e1.1]
      rw [Array.getElem?_setIfInBounds_self_of_lt hlt]
theorem ok_entry {x:Operand} {r bm since clk:Nat} {seen:Array Nat} {es:Array MapEntry} {e:MapEntry} (ho:o.op = .entry x) (hx:a.eval x = .pointer (some ⟨r,0,none⟩)) (hr:ItAt r bm since (seen.push e.born) clk k) (hb:k.w.heap[bm]? = some (.map es clk)) (he:e ∈ es.toList) (hn:(es.toList.map (·.born)).Nodup) :
    Does P o a k (Is (.tuple #[e.key,e.val])):=by
  refine does_pure (v:=.tuple #[e.key,e.val]) ?_ rfl
  simp only [execOp,ho,hx]
  simp [run_entry_at k.w r bm since seen es clk e hr.is hb he hn]
theorem ok_extIs {x:Operand} {vs:Array Value} {j:Nat} {w:Value} (ho:o.op = .extract x j) (hx:a.eval x = .tuple vs) (hw:vs[j]? = some w):Does P o a k (Is w):=by
  refine does_pure (v:=w) ?_ rfl
  simp only [execOp,ho,hx]
  simp [Instr.extract,hw]

/-- One cell of a box. -/
theorem ok_loadC {n off:Nat} {cs:List Value} {w:Value} {t:TypeId} {p:Operand} (ho:o.op = .load t p) (ht:Ty P t RawV) (hp:IsAdr b off (a.eval p) k) (hb:Box b (⟨cs⟩:RawC n) k) (hw:cs[off]? = some w):Does P o a k (Is w):=by
  obtain ⟨ho', arr, t', hh, e1, hlen, h1⟩ := hb
  have e1:arr.toList = cs:=e1
  have hlt:off < arr.toList.length:=by rw [e1]; exact (List.getElem?_eq_some_iff.1 hw).1
  have hone:w.oneCell' = true:=h1 w (by rw [e1]; exact List.mem_of_getElem? hw)
  have hat:At (RawV.mk w) ⟨b,off,none⟩ k:=by
    refine ⟨[w], ⟨rfl, hone⟩, rfl, arr, t', (0, 0), hh, by simp at hlt ⊢; omega, fun j hj => ?_⟩
    obtain rfl:j = 0:=by simpa using hj
    rw [← e1] at hw
    simpa using hw
  exact does_weak (ok_load ho ht ⟨_,hp,hat⟩) fun u k' hk hu=>raw_val hu
theorem tail_storeC {A:Array Oper} {i n off:Nat} {cs:List Value} {w:Value} {rest:List Nat} {Q:Exit → Act → World → Prop} {t:TypeId} {p y:Operand}
    (ho:nth A.toList i = some o) (hg:o.guard = none) (hop:o.op = .store t p y) (hd:o.dst = none) (hs:(P.info? t).map (·.size) = some (Enc.sz RawV)) (hoff:off < n)
    (hp:IsAdr b off (a.eval p) k) (hb:Box b (⟨cs⟩:RawC n) k) (hv:a.eval y = w) (h1:w.oneCell' = true)
    (h : ∀ k', Chg (Eq b) k k' → Box b (⟨cs.set off w⟩ : RawC n) k' → wpOps P A Q rest a k'.w) : wpOps P A Q (i :: rest) a k.w :=
  tail_storeB (z:=(⟨w⟩:RawV)) ho hg hop hd hs (updRaw hoff) hp hb (by rw [hv]; exact raw_self h1) h

/-- Keys that are structs. -/
theorem keyEq {kt:TypeId} {α:Type} [Enc α] [DecidableEq α] {kv:α → Value} (hwide:(match P.underlying kt with | some (.array _ _) | some (.struct _)=>true | _=>false) = true) (E:EqOk P kt α) (hv : ∀ x k,IsV x (kv x) k)
    (hc : ∀ (e:Bool) (n:α) (w:World),(Instr.checkKey e 10000 kt (kv n)).run P w = .ok () w) (hs : ∀ n,Instr.sameBits 10000 (kv n) (kv n) = true):KeyOk P kt kv where
  find l es n w h:=by
    rw [run_findKey_eq w hwide]
    have key : ∀ (l:List (α × Value)) (es:List MapEntry) (i:Nat),es.map (fun e=>(e.key,e.val)) = l.map (fun p=>(kv p.1,p.2)) → (Instr.findAsking kt (kv n) es i).run P w = .ok (fnd l n i) w:=by
      intro l
      induction l with
      | nil=>intro es i h; simp at h; subst h; rfl
      | cons p l ih =>
        intro es i h
        cases es with
        | nil=>simp at h
        | cons e es =>
          simp only [List.map_cons,List.cons.injEq,Prod.mk.injEq] at h
          obtain ⟨⟨h1,h2⟩,h3⟩:=h
          obtain ⟨x,v⟩:=p
          have hk:K:=⟨w,fun _=>False,fun _ f=>f.elim⟩
          obtain ⟨_,_,hr⟩:=E.2 hk n x _ _ (hv n hk) (hv x hk)
          simp only [Instr.findAsking,h1,Sem.run_bind,hr,Result.andThen,fnd,h2]
          by_cases hnx:n = x
          · simp [hnx,Sem.run]
          · simp [hnx,ih es (i + 1) h3]
    exact key l es 0 h
  check e n w:=hc e n w
  same n:=hs n
end
end Go.Gb

/- General part of the proofs: the end of an own slice is cleared. -/
namespace Go.Gb
open Go.Proofs Go.RowKit Go.Lib Go.Sort Go.Shelf
section
variable {P:Program} {o:Oper} {a a0:Act} {k k' k0:K} {α:Type} [Enc α] {F G:FP}

/-- The part from m on of a slice in use. -/
def CutAt (u:Value) (m s:Nat):Pred:=fun v _=>∃ b off n c,u = .slice (some ⟨b,off,none⟩) n c∧v = .slice (some ⟨b,off + m * s,none⟩) (n - m) (c - m)
instance (u:Value) (m s:Nat):Pers (CutAt u m s):=⟨fun _ h=>h⟩
theorem ok_sliceCut {t e:TypeId} {x y:Operand} {xs:List α} {u:Value} {B m:Nat} (ho:o.op = .slice t x (some y) none none) (hu:P.underlying t = some (.slice e)) (ht:(P.info? e).map (·.size) = some (Enc.sz α))
    (hx:OwnAt u B e xs (a.eval x) k) (hy:IsV (m:Int) (a.eval y) k) (hm:m < xs.length):Does P o a k (CutAt u m (Enc.sz α)):=by
  have hy:=isV_int.1 hy
  obtain ⟨rfl,hx⟩:=hx
  rcases hx with ⟨_, rfl⟩ | ⟨_, _, rfl⟩ | ⟨b, off, cap, cur, cs, e1, hB, ho', hh, hc, h0', hmx, hcs, hcells, hr⟩
  · simp at hm
  · simp at hm
  · have hsz : ∀ w, (sizeOf e).run P w = .ok (Enc.sz α) w := fun w => run_sizeOf ht
    have b3:=run_sliceBound (P:=P) (i:=(m:Int)) (y:=xs.length) (c:=.sliceB) (w:=k.w) (by omega) (by omega)
    have hbb:(Instr.sliceBounds true xs.length cap (some (.int .i64 (m:Int))) none none).run P k.w = .ok (m,xs.length,cap) k.w:=by
      simp [Instr.sliceBounds,b3]
    have hadd:(⟨b,off,none⟩:Addr).add (m * Enc.sz α) = ⟨b,off + m * Enc.sz α,none⟩:=by
      unfold Addr.add
      split
      · rename_i h; rw [h]; simp
      · rfl
    have hcl : ¬ cap = m:=by omega
    refine does_pure (v:=.slice (some ⟨b,off + m * Enc.sz α,none⟩) (xs.length - m) (cap - m)) ?_ ⟨b,off,xs.length,cap,e1,rfl⟩
    simp [execOp,ho,hy,e1,Instr.sliceAt,Instr.slice,run_underlying hu,hbb,hsz,hcl,hadd]

theorem zeroCells_flat (c:Array Value) (n:Nat):(Builtin.zeroCells c n).toList = (List.replicate n c.toList).flatten:=by
  have h:=flatK_toList (α:=Unit) (enc:=fun _=>c.toList) (n:=c.size) (fun _=>Array.length_toList) (Array.replicate n ())
  have e:flatK (fun _:Unit=>c.toList) c.size (Array.replicate n ()) = Builtin.zeroCells c n:=by
    unfold flatK Builtin.zeroCells
    simp
    intro i _
    rw [getElem!_def]
    cases c[i % c.size]? <;> rfl
  rw [e] at h
  rw [h]
  simp
theorem zero_repL {k:K} {z:α} {cs:List Value} (h:Enc.rep k cs z) : ∀ n,RepL k (List.replicate n cs).flatten (List.replicate n z)
  | 0=>rfl
  | n + 1 => by
    rw [List.replicate_succ,List.replicate_succ,List.flatten_cons]
    exact RepL.cons h (zero_repL h n)

theorem tail_clear {A:Array Oper} {i:Nat} {rest:List Nat} {Q:Exit → Act → World → Prop} {t e:TypeId} {x:Operand} {z:α} {xs:List α} {u:Value} {m:Nat}
    (ho:nth A.toList i = some o) (hg:o.guard = none) (hop:o.op = .call { callee:=.builtin .clear,args:=#[x],argTypes:=#[t] }) (hd:o.dst = none)
    (hu:P.underlying t = some (.slice e)) (hz:Zero P e z) (hm:m < xs.length) (hx:CutAt u m (Enc.sz α) (a.eval x) k) (hv:IsOwn 0 e xs u k)
    (h : ∀ k' : K,Chg (obF u) k k' → IsOwn 0 e (xs.take m ++ List.replicate (xs.length - m) z) u k' → wpOps P A Q rest a k'.w):wpOps P A Q (i::rest) a k.w:=by
  obtain ⟨b,fo,n,c,rfl,e2⟩:=hx
  rcases hv with ⟨e1, rfl⟩ | ⟨ad, e1, rfl⟩ | ⟨b', off, cap, cur, cs, e1, hB, ho', hh, hc, h0, hmx, hcs, hcells, hr⟩
  · simp at hm
  · simp at hm
  · simp only [Value.slice.injEq, Option.some.injEq, Addr.mk.injEq, and_true] at e1
    obtain ⟨⟨rfl,rfl⟩,rfl,rfl⟩:=e1
    obtain ⟨zv,hzv,hzi⟩:=hz
    obtain ⟨cz,hcz,hzr⟩:=isV_cells (hzi k)
    have hzl:cz.toList.length = Enc.sz α:=Enc.len hzr
    have hzs:cz.size = Enc.sz α:=by simpa using hzl
    have hmul:m * Enc.sz α + (xs.length - m) * Enc.sz α = xs.length * Enc.sz α:=by rw [← Nat.add_mul,Nat.add_sub_cancel' (by omega)]
    have hcur:fo + xs.length * Enc.sz α ≤ cur.size:=by have:=Nat.mul_le_mul_right (Enc.sz α) hc; omega
    generalize hzc:(Builtin.zeroCells cz (xs.length - m)).toList = Z
    have hZ:Z = (List.replicate (xs.length - m) cz.toList).flatten:=by rw [← hzc,zeroCells_flat]
    have hZr:RepL k Z (List.replicate (xs.length - m) z):=hZ ▸ zero_repL hzr _
    have hZl:Z.length = (xs.length - m) * Enc.sz α:=by have:=hZr.len; simpa using this
    have hst:=run_storeCells_at P b (fo + m * Enc.sz α) e Z 0 cur k.w hh (by omega) hZr.one
    simp only [Nat.add_zero] at hst
    let k' : K:=⟨_,k.sh,fun j hj=>by
      have:=k.lt j hj
      show j < (k.w.setRow b (cur.toList.take (fo + m * Enc.sz α) ++ Z ++ cur.toList.drop (fo + m * Enc.sz α + Z.length)).toArray).heap.size
      simpa using this⟩
    have honly:Only b k k':=⟨rfl,rfl,rfl,by simp [k'],fun j hj=>setRow_other k.w b j _ hj,rfl,Nat.le_refl _⟩
    rw [wpOps_cons]
    rw [nth_toList] at ho
    unfold wpOp
    simp only [ho,Region.wanted,hg,if_true]
    refine .inl ?_
    unfold Oper.wp
    have hx:(execOp a.eval o).run P k.w = .ok (.value (.tuple #[])) k'.w:=by
      obtain ⟨q,hq⟩ : ∃ q,xs.length - m = q + 1:=⟨xs.length - m - 1,by omega⟩
      rw [hq] at e2 hzc
      simp [execOp,hop,e2,resolve,invoke,builtin,Builtin.clear_,run_underlying hu,hzv,hcz,hzc,hst,k']
    rw [hx]
    have hob:obF (.slice (some ⟨b,fo,none⟩) xs.length c) b:=by simp [obF,ob,Nat.ne_of_gt h0]
    have hl:(xs.take m ++ List.replicate (xs.length - m) z).length = xs.length:=by simp; omega
    have := h k' ⟨honly.tape, honly.os, honly.out, Nat.le_of_eq honly.size.symm, fun c' _ hc' => honly.blk c' (fun e => hc' (by rw [e]; exact hob)), fun c' hc' => hc', fun c' _ hc' => .inl hc', honly.drawn⟩
      (.inr (.inr ⟨b, fo, c, _, _, by rw [hl], hB, ho', setRow_heap k.w b cur _ e _ hh, by rw [hl]; exact hc, h0, hmx, ?_, rfl, ?_⟩))
    · simpa [Oper.upon,hd,Act.put] using this
    · simp only [List.size_toArray, List.length_append, List.length_take, List.length_drop, Array.length_toList]
      omega
    · rw [hl]
      have e3:((cur.toList.take (fo + m * Enc.sz α) ++ Z ++ cur.toList.drop (fo + m * Enc.sz α + Z.length)).drop fo).take (xs.length * Enc.sz α) = cs.take (m * Enc.sz α) ++ Z:=by
        rw [List.append_assoc,List.drop_append_of_le_length (by simp; omega),List.drop_take,Nat.add_sub_cancel_left,← List.append_assoc,List.take_append_of_le_length (by simp; omega)]
        rw [← hcells,List.take_take,Nat.min_eq_left (by omega)]
        rw [List.take_of_length_le (by simp; omega)]
      rw [List.toList_toArray,e3]
      exact ((RepL.take m hr).append hZr).mono (honly.le ho')
end
end Go.Gb

/- General part of the proofs: the order of strings; what is left of a map that is ranged over. -/
namespace Go.Gb
open Go.Proofs Go.RowKit Go.Lib Go.Sort Go.Shelf
section
variable {P:Program} {o:Oper} {a:Act} {k:K}
/-- The order of strings. -/
def bLt (x y:ByteArray):Bool:=Op.bytesLess x.toList y.toList
theorem bLt_iff {x y:ByteArray}:bLt x y = true ↔ x.toList < y.toList:=by
  unfold bLt; rw [bytesLess_eq,decide_eq_true_iff]
theorem ok_ltS {t u:TypeId} {x y:Operand} {b c:ByteArray} (ho:o.op = .binOp .lss t x y u) (hx:IsV b (a.eval x) k) (hy:IsV c (a.eval y) k):Does P o a k (IsV (bLt b c)):=by
  have hx:=isV_str.1 hx; have hy:=isV_str.1 hy
  refine does_pure (v:=.bool (bLt b c)) ?_ (isV_bool.2 rfl)
  simp only [execOp,ho,hx,hy]
  simp [eqGuard,binOp,Op.stringOp,bLt]
theorem ok_gtS {t u:TypeId} {x y:Operand} {b c:ByteArray} (ho:o.op = .binOp .gtr t x y u) (hx:IsV b (a.eval x) k) (hy:IsV c (a.eval y) k):Does P o a k (IsV (!(bLt b c || b.toList == c.toList))):=by
  have hx:=isV_str.1 hx; have hy:=isV_str.1 hy
  refine does_pure (v:=.bool (!(bLt b c || b.toList == c.toList))) ?_ (isV_bool.2 rfl)
  simp only [execOp,ho,hx,hy]
  simp [eqGuard,binOp,Op.stringOp,bLt]
end
theorem bLt_irrefl (x:ByteArray):bLt x x = false:=by
  rw [Bool.eq_false_iff,ne_eq,bLt_iff]; exact List.lt_irrefl _
theorem bLt_trans {x y z:ByteArray} (h:bLt x y = true) (g:bLt y z = true):bLt x z = true:=by
  rw [bLt_iff] at *; exact List.lt_trans h g
theorem toList_inj {x y:ByteArray} (h:x.toList = y.toList):x = y:=by
  have e:=Lib.toList_data x; have e':=Lib.toList_data y
  rw [e,e'] at h
  cases x; cases y
  simp only [Array.toList_inj] at h
  rw [h]
theorem bLt_total {x y:ByteArray} (h:bLt x y = false) (g:bLt y x = false):x = y:=by
  rw [Bool.eq_false_iff,ne_eq,bLt_iff,List.not_lt] at h g
  exact toList_inj (List.le_antisymm g h)
theorem bLt_asymm {x y:ByteArray} (h:bLt x y = true):bLt y x = false:=by
  cases g:bLt y x with
  | false=>rfl
  | true=>have:=bLt_trans h g; rw [bLt_irrefl] at this; cases this
theorem bGt_eq (x y:ByteArray):(!(bLt x y || x.toList == y.toList)) = bLt y x:=by
  cases h:bLt x y with
  | true=>rw [bLt_asymm h]; rfl
  | false =>
    cases g:bLt y x with
    | true =>
      have : ¬ x.toList = y.toList:=fun e=>by rw [toList_inj e,bLt_irrefl] at g; cases g
      simp [this]
    | false=>simp [bLt_total h g]

theorem exit_inBlockE {Q:Exit → Act → World → Prop} {id:Nat} {a:Act} {w:World} (h:Q .normal a w):Exit.inBlock id Q (.exit id) a w:=by
  unfold Exit.inBlock; simp [h]
theorem exit_thenN {K:Act → World → Prop} {Q:Exit → Act → World → Prop} {i:Nat} {a:Act} {w:World} (h:Q (.exit i) a w):Exit.then K Q (.exit i) a w:=h

theorem filter_erase {α:Type} (f:α → Nat) : ∀ (l:List α) (i:Nat) (hi:i < l.length),(l.map f).Nodup → l.filter (fun x=>!(f x == f l[i])) = l.eraseIdx i
  | [],i,hi,_=>absurd hi (Nat.not_lt_zero i)
  | x :: l, 0, _, h => by
    simp only [List.map_cons,List.nodup_cons,List.mem_map,not_exists,not_and] at h
    simp only [List.getElem_cons_zero,List.eraseIdx_cons_zero]
    rw [List.filter_cons_of_neg (by simp)]
    refine List.filter_eq_self.2 fun y hy=>?_
    have:=h.1 y hy
    simp [this]
  | x :: l, i + 1, hi, h => by
    simp only [List.map_cons,List.nodup_cons,List.mem_map,not_exists,not_and] at h
    have hi' : i < l.length:=by simpa using hi
    simp only [List.getElem_cons_succ,List.eraseIdx_cons_succ]
    have hx : ¬ f x = f l[i]:=fun e=>h.1 l[i] (List.getElem_mem hi') e.symm
    rw [List.filter_cons_of_pos (by simp [hx]),filter_erase f l i hi' h.2]
theorem left_push (es:Array MapEntry) (seen:Array Nat) (i:Nat) (hi:i < (leftOf es seen).toList.length) (hn:(es.toList.map (·.born)).Nodup) :
    (leftOf es (seen.push ((leftOf es seen).toList[i]).born)).toList = (leftOf es seen).toList.eraseIdx i:=by
  have h1:((leftOf es seen).toList.map (·.born)).Nodup:=by
    unfold leftOf
    rw [Array.toList_filter]
    exact List.Nodup.sublist (List.Sublist.map _ List.filter_sublist) hn
  rw [← filter_erase (·.born) _ i hi h1]
  generalize (leftOf es seen).toList[i].born = b
  unfold leftOf
  rw [Array.toList_filter,Array.toList_filter,List.filter_filter]
  congr 1
  funext e
  rw [Array.contains_push]
  cases h:seen.contains e.born <;> simp
end Go.Gb

/- General part of the proofs: an empty map that is marked while a region runs in any order, and unmarked behind it; copies of maps. -/
namespace Go.Gb
open Go.Proofs Go.RowKit Go.Lib Go.Sort Go.Shelf
section
variable {P:Program} {o:Oper} {a:Act} {k k' k0:K} {α:Type} [Enc α] {b:Nat}
/-- The same world, with block b not shared. -/
def K.unsh (k:K) (b:Nat):K:=⟨k.w,fun c=>k.sh c∧c ≠ b,fun c h=>k.lt c h.1⟩
theorem Grow.unsh (h:Grow k0 k) (hb:k0.w.heap.size ≤ b):Grow k0 (k.unsh b):=
  ⟨h.tape,h.os,h.out,h.size,h.blk,fun c hc=>⟨h.up c hc,fun e=>by have:=k0.lt c hc; omega⟩,fun c hl hc=>h.new c hl hc.1,h.drawn⟩
theorem IsOwn.unsh [FlatE α] {B:Nat} {e:TypeId} {xs:List α} {v:Value} (h:IsOwn B e xs v k):IsOwn B e xs v (k.unsh b):=by
  rcases h with h | h | ⟨c,off,cap,cur,cs,e1,hB,ho,hh,hc,h0,hm,hf,hcs,hr⟩
  · exact .inl h
  · exact .inr (.inl h)
  · exact .inr (.inr ⟨c,off,cap,cur,cs,e1,hB,fun hs=>ho hs.1,hh,hc,h0,hm,hf,hcs,repL_flat.2 (repL_flat.1 hr)⟩)
theorem MapB.unsh {κ:Type} {kv:κ → Value} {c:Nat} {l:List (κ × Value)} (h:MapB kv c l k):MapB kv c l (k.unsh b):=⟨fun hs=>h.own hs.1,h.is⟩
/-- An empty map, made, and marked as shared. -/
def MarkM (B:Nat):Pred:=fun v k=>∃ b,v = .map (some b)∧B ≤ b∧k.sh b∧k.w.heap[b]? = some (.map #[] 0)
instance {B:Nat}:Mono (MarkM B):=⟨fun g ⟨b,e,h,m,hh⟩=>⟨b,e,h,g.up b m,by rw [g.blk b (K.lt _ b m)]; exact hh⟩⟩
theorem ok_makeMapM {t:TypeId} {B:Nat} (hB:B ≤ k.w.heap.size) (ho:o.op = .makeMap t none):Does P o a k (MarkM B):=by
  have hlt:k.w.heap.size < (k.alloc (.map #[] 0)).w.heap.size:=by simp [K.alloc]
  have hg:=K.alloc_grow k (.map #[] 0)
  refine does_run (v:=.map (some k.w.heap.size)) (k':=(k.alloc (.map #[] 0)).share k.w.heap.size hlt) ?_
    ⟨hg.tape,hg.os,hg.out,hg.size,hg.blk,fun b hs=>(K.share_le _ _ hlt).up b (hg.up b hs),fun b hl hs=>hs.elim (hg.new b hl) (fun e=>absurd e (by omega)),hg.drawn⟩
    ⟨_,rfl,hB,.inr rfl,heap_alloc_new k.w _⟩
  simp only [execOp,ho]
  simp [Instr.makeMap,K.alloc,K.share]
theorem MarkM.free {κ:Type} (kv:κ → Value) (hh:k.w.heap[b]? = some (.map #[] 0)):MapC kv b [] (k.unsh b):=⟨fun hs=>hs.2 rfl,#[],0,hh,rfl,by simp,by simp⟩
end
end Go.Gb

/- General part of the proofs: ints of other kinds, and arrays of three, that come in as data. -/
namespace Go.Gb
instance {κ:IntKind}:Rg (IK κ):=⟨fun x=>κ.min ≤ x.n∧x.n ≤ κ.max,fun _=>0⟩
section
variable {P:Program} {t e:TypeId} {α:Type} [Enc α] [Rg α]
theorem rd_ik {κ:IntKind} (hu:P.underlying t = some (.int κ)):Rd P t (IK κ) where
  rd {H} enc W fuel cs x h _:=by
    obtain ⟨n,rfl,_,hw⟩:=DataW.trod_int hu h
    simp only [Lit.wf,Bool.and_eq_true,decide_eq_true_eq] at hw
    exact ⟨⟨n⟩,rfl,hw,bulk1 _⟩
  sh W r base v h:=by
    obtain ⟨n,rfl⟩:=WideShapes.okWide_int hu h
    rfl
theorem rd_arr3 (hu:P.underlying t = some (.array 3 e)) (hz:P.cellsOf t = 3 * Enc.sz α) (hc:P.cellsOf e = Enc.sz α) (hr:Rd P e α):Rd P t (α × α × α) where
  rd {H} enc W fuel cs x h hwt:=by
    obtain ⟨xs,m,_,rfl,hl,hlen,hel⟩:=DataW.trod_array hu h
    simp only [DataW.weights,hu] at hwt
    obtain ⟨x0,x1,x2,rfl⟩ : ∃ a b c,xs = [a,b,c]:=by
      match xs,hlen with
      | [a,b,c],_=>exact ⟨a,b,c,rfl⟩
    rw [hz] at hl
    have h0:=hel 0 (by omega)
    have h1:=hel 1 (by omega)
    have h2:=hel 2 (by omega)
    rw [hc] at h0 h1 h2
    simp only [Nat.zero_mul,List.drop_zero,Nat.one_mul,List.getElem?_cons_zero,List.getElem?_cons_succ] at h0 h1 h2
    rw [List.take_of_length_le (by simp; omega)] at h2
    obtain ⟨y0,a0,b0,c0⟩:=hr.rd enc W m _ _ h0 fun n hn=>hwt n (weights_all hn (by simp))
    obtain ⟨y1,a1,b1,c1⟩:=hr.rd enc W m _ _ h1 fun n hn=>hwt n (weights_all hn (by simp))
    obtain ⟨y2,a2,b2,c2⟩:=hr.rd enc W m _ _ h2 fun n hn=>hwt n (weights_all hn (by simp))
    refine ⟨(y0,y1,y2),⟨by show cs.length = Enc.sz α + (Enc.sz α + Enc.sz α); omega,a0,by show (cs.drop _).length = _ + _; simp; omega,a1,?_⟩,⟨b0,b1,b2⟩,?_⟩
    · rw [List.drop_drop,show Enc.sz α + Enc.sz α = 2 * Enc.sz α by omega]; exact a2
    · show Rg.bk y0 + (Rg.bk y1 + Rg.bk y2) + 1 ≤ bulkDs [x0.1, x1.1, x2.1] + 1
      have c0:Rg.bk y0 + 1 ≤ bulkD x0.1:=c0
      have c1:Rg.bk y1 + 1 ≤ bulkD x1.1:=c1
      have c2:Rg.bk y2 + 1 ≤ bulkD x2.1:=c2
      simp only [bulkDs]
      omega
  sh W r base v h:=by
    simp only [Value.okWide,hu] at h
    obtain ⟨cs,rfl,_⟩:=h
    show _ = mkV true _
    simp [mkV,Value.cells]
end
end Go.Gb

/- General part of the proofs: an evaluator of the code of functions over typed values (no program in sight). -/
namespace Go.Gb

/-- A pointer of which nothing is told but where it points to. -/
structure Ptr where
  a:Option Addr
  deriving Inhabited
instance:Enc Ptr where
  sz:=1
  agg:=false
  rep _ cs x:=cs = [.pointer x.a]
  len h:=by simp [h]
  mono _ h:=h
  one h:=by subst h; simp [Value.oneCell']
  agg1 _:=rfl
/-- The types of the values that the evaluator knows. -/
inductive Tp where
  | int | bool | str
  | ik (κ:IntKind)
  | list (t:Tp)
  | st (n:Nat)
  | op
  | rf (t:Tp)
  | f0 (b:Tp)
  | f1 (a b:Tp)
  | f2 (a b c:Tp)
  | pv

@[reducible] def Tp.den (S:Nat → Type):Tp → Type
  | int=>Int | bool=>Bool | str=>ByteArray | ik κ=>IK κ | list t=>List (t.den S) | st n=>S n | op=>Opq
  | rf t=>t.den S | f0 b=>Unit → Option (b.den S) | f1 a b=>a.den S → Option (b.den S) | f2 a b c=>a.den S → b.den S → Option (c.den S) | pv=>Ptr

def IntKind.same:(a b:IntKind) → Option (PLift (a = b))
  | .i8,.i8=>some ⟨rfl⟩ | .i16,.i16=>some ⟨rfl⟩ | .i32,.i32=>some ⟨rfl⟩ | .i64,.i64=>some ⟨rfl⟩
  | .u8,.u8=>some ⟨rfl⟩ | .u16,.u16=>some ⟨rfl⟩ | .u32,.u32=>some ⟨rfl⟩ | .u64,.u64=>some ⟨rfl⟩
  | _,_=>none

def natSame (a b:Nat):Option (PLift (a = b)):=if h:a = b then some ⟨h⟩ else none

def Tp.same:(a b:Tp) → Option (PLift (a = b))
  | int,int=>some ⟨rfl⟩
  | bool,bool=>some ⟨rfl⟩
  | str,str=>some ⟨rfl⟩
  | ik a,ik b=>(IntKind.same a b).map fun h=>⟨congrArg ik h.down⟩
  | list a,list b=>(Tp.same a b).map fun h=>⟨congrArg list h.down⟩
  | st a,st b=>(natSame a b).map fun h=>⟨congrArg st h.down⟩
  | op,op=>some ⟨rfl⟩
  | pv,pv=>some ⟨rfl⟩
  | rf a,rf b=>(Tp.same a b).map fun h=>⟨congrArg rf h.down⟩
  | f0 a,f0 b=>(Tp.same a b).map fun h=>⟨congrArg f0 h.down⟩
  | f1 a b, f1 a' b' => match Tp.same a a', Tp.same b b' with
    | some h,some i=>some ⟨by rw [h.down,i.down]⟩
    | _,_=>none
  | f2 a b c, f2 a' b' c' => match Tp.same a a', Tp.same b b', Tp.same c c' with
    | some h,some i,some j=>some ⟨by rw [h.down,i.down,j.down]⟩
    | _,_,_=>none
  | _,_=>none

/-- Some values, one after the other. -/
@[reducible] def HL (S:Nat → Type):List Tp → Type
  | []=>Unit
  | [a]=>a.den S
  | a::b::l=>a.den S × HL S (b::l)

section
variable {S:Nat → Type}
@[reducible] def encT (P:Program) (E : ∀ n,Enc (S n)):(t:Tp) → Enc (t.den S)
  | .int=>inferInstanceAs (Enc Int)
  | .bool=>inferInstanceAs (Enc Bool)
  | .str=>inferInstanceAs (Enc ByteArray)
  | .ik κ=>inferInstanceAs (Enc (IK κ))
  | .list t=>letI:=encT P E t; inferInstanceAs (Enc (List (t.den S)))
  | .st n=>E n
  | .op=>inferInstanceAs (Enc Opq)
  | .pv=>inferInstanceAs (Enc Ptr)
  | .rf t=>@rfEnc (t.den S) (encT P E t)
  | .f0 b=>@f0Enc P (b.den S) (encT P E b)
  | .f1 a b=>@f1Enc P (a.den S) (b.den S) (encT P E a) (encT P E b)
  | .f2 a b c=>@f2Enc P (a.den S) (b.den S) (c.den S) (encT P E a) (encT P E b) (encT P E c)
instance:Enc Unit where
  sz:=0
  agg:=true
  rep _ cs _:=cs = []
  len h:=by simp [h]
  mono _ h:=h
  one h:=by subst h; simp
  agg1 h:=by simp at h
@[reducible] def encH (P:Program) (E : ∀ n,Enc (S n)):(l:List Tp) → Enc (HL S l)
  | []=>inferInstanceAs (Enc Unit)
  | [a]=>encT P E a
  | a::b::l=>letI:=encT P E a; letI:=encH P E (b::l); inferInstanceAs (Enc (a.den S × HL S (b::l)))
end

def dfltT {S:Nat → Type} (z : ∀ n,S n):(t:Tp) → t.den S
  | .int=>(0:Int) | .bool=>false | .str=>(⟨#[]⟩:ByteArray) | .ik _=>⟨0⟩ | .list _=>[] | .st n=>z n | .op=>(⟨⟩:Opq)
  | .rf t=>dfltT z t | .f0 _=>fun _=>none | .f1 _ _=>fun _=>none | .f2 _ _ _=>fun _ _=>none | .pv=>(⟨none⟩:Ptr)
def dfltH {S:Nat → Type} (z : ∀ n,S n):(l:List Tp) → HL S l
  | []=>()
  | [a]=>dfltT z a
  | a::b::l=>(dfltT z a,dfltH z (b::l))
/-- The structs of a program. -/
structure Tb where
  P:Program
  S:Nat → Type
  fs:Nat → List Tp
  to : ∀ n,S n → HL S (fs n)
  of : ∀ n,HL S (fs n) → S n
  zero : ∀ n,S n
  deq : ∀ n,DecidableEq (S n)
  enc : ∀ n,Enc (S n)
  to_of : ∀ n y,to n (of n y) = y
  zero_eq : ∀ n,to n (zero n) = dfltH zero (fs n)
  enc_eq : ∀ n,enc n = (letI:=encH P enc (fs n); Enc.ofMap (to n))
  /-- kinds of things that are a call's own, of any shape -/
  RD:Nat → Type:=fun _=>Unit
  RP : ∀ n,RD n → FP → Pred:=fun _ _ _ _ _=>False
  RPok : ∀ n x,Rsc (RP n x):=by exact fun _ _=>⟨fun h=>h.elim,fun h=>h.elim,fun h=>h.elim,fun h=>h.elim⟩
  RPone : ∀ n x y F G v k,RP n x F v k → RP n y G v k → F = G:=by exact fun _ _ _ _ _ _ _ h=>h.elim
  RZ : ∀ n,RD n:=by exact fun _=>()
  RProot : ∀ n x F v k b,RP n x F v k → (v = .pointer (some ⟨b,0,none⟩) ∨ obF v b) → F b:=by exact fun _ _ _ _ _ _ h=>h.elim
  /-- is it nil? -/
  RN : ∀ n,RD n → Option Bool:=fun _ _=>none
  RNok : ∀ n x F v k b,RP n x F v k → RN n x = some b → ∃ p,v = .pointer p∧p.isNone = b:=by exact fun _ _ _ _ _ _ h=>h.elim
  /-- such a thing as a list that can be read -/
  RL : ∀ n,RD n → Option (Σ t:Tp,List (t.den S)):=fun _ _=>none
  RLok : ∀ n x F v k (t:Tp) (xs:List (t.den S)),RP n x F v k → RL n x = some ⟨t,xs⟩ → @IsV ((Tp.list t).den S) (encT P enc (.list t)) xs v k:=by exact fun _ _ _ _ _ _ _ _ h=>by cases h
  /-- what the package-level variables hold -/
  gl:Nat → Option (Σ t:Tp,t.den S):=fun _=>none
  /-- a variable of the library that holds some int -/
  gi:Option Nat:=none

variable {T:Tb}
abbrev Tb.D (T:Tb) (t:Tp):Type:=t.den T.S
@[reducible] def Tb.e (T:Tb) (t:Tp):Enc (T.D t):=encT T.P T.enc t
attribute [instance] Tb.e
@[reducible] def Tb.ei (T:Tb) (n:Nat):Enc (T.S n):=T.enc n
attribute [instance] Tb.ei
@[reducible] def Tb.h (T:Tb) (l:List Tp):Enc (HL T.S l):=encH T.P T.enc l
attribute [instance] Tb.h

def Tb.dflt (T:Tb) (t:Tp):T.D t:=dfltT T.zero t

/-- A part of a value. -/
structure Lens (T:Tb) (t u:Tp) where
  off:Nat
  get:T.D t → T.D u
  set:T.D t → T.D u → T.D t

/-- Kinds of things that are a call's own. -/
inductive Rk where
  | n | o (e:TypeId) (t:Tp) | b (t:Tp) | c (m:Nat)
@[reducible] def Rk.D (T:Tb):Rk → Type
  | .n=>Unit | .o _ t=>List (T.D t) | .b t=>T.D t | .c m=>T.RD m
/-- What is known of a slot. -/
inductive AV (T:Tb) where
  | top | any | nil
  | v (t:Tp) (x:T.D t)
  | fl (t:Tp) (xs:List (T.D t))
  | e0
  | tup (l:List (Σ t,T.D t))
  | ref (t:Tp) (x:T.D t)
  | own (lk:Bool) (e:TypeId) (t:Tp) (xs:List (T.D t))
  | box (lk:Bool) (t:Tp) (x:T.D t)
  | al (s:Nat)
  | ab (s:Nat) (t:Tp) (x:T.D t) (u:Tp) (L:Lens T t u)
  | ao (s:Nat) (e:TypeId) (t:Tp) (xs:List (T.D t)) (i:Nat) (x:T.D t) (u:Tp) (L:Lens T t u)
  | rs (lk:Bool) (n:Nat) (x:T.RD n)
  | tr (lk:Bool) (κ:Rk) (x:κ.D T) (l:List (Σ t,T.D t))
  | tq (l:List (Σ t,T.D t))
  | mv (f:Nat) (s:Nat)

abbrev Env (T:Tb):=List (Nat × AV T)

def lk:Env T → Nat → AV T
  | [],_=>.top
  | (s,a)::e,t=>bif Nat.beq s t then a else lk e t

def cast? {S:Nat → Type} (a b:Tp) (x:a.den S):Option (b.den S):=
  match Tp.same a b with
  | some h=>some (h.down ▸ x)
  | none=>none

/-- what is known of a slot with this value -/
def mkv:(t:Tp) → T.D t → AV T
  | .rf t,x=>.ref t x
  | t,x=>.v t x
/-- a slice without room to spare, as a value -/
def nrm:AV T → AV T
  | .fl t xs=>.v (.list t) xs
  | a=>a
/-- the value of an operand -/
def opv (e:Env T):Operand → AV T
  | .tmp t=>nrm (lk e t)
  | .const (.int .i64 n)=>.v .int n
  | .const (.int κ n)=>.v (.ik κ) (⟨n⟩:IK κ)
  | .const (.bool b)=>.v .bool b
  | .const (.string s)=>.v .str s
  | .const (.slice none 0 0)=>.e0
  | .const (.pointer none)=>.nil
  | .global g=>match T.gl g with | some ⟨t,x⟩=>.ref t x | none=>.top
  | _=>.top
def res (e:Env T):AV T → AV T
  | .al s=>lk e s
  | a=>a
def slotOf (e:Env T) (s:Nat):Nat:=match lk e s with | .al s'=>s' | _=>s
/-- .. for a move: a resource stays where it is -/
def mvv (e:Env T) (x:Operand):AV T:=
  match x with
  | .tmp t => match lk e t with
    | .own _ _ _ _=>.al t
    | .box _ _ _=>.al t
    | .rs _ _ _=>.al t
    | .tr _ _ _ _=>.al t
    | a=>a
  | x=>opv e x
def asT (t:Tp):AV T → Option (T.D t)
  | .v u x=>cast? u t x
  | .e0=>match t with | .list _=>some [] | _=>none
  | .ref u x=>match t with | .rf t=>cast? u t x | _=>none
  | _=>none
/-- a slice without room to spare -/
def asF (e:Env T):Operand → Option (Σ t,List (T.D t))
  | .tmp t => match lk e t with
    | .fl t xs=>some ⟨t,xs⟩
    | _=>none
  | _=>none
def asI:AV T → Option Int
  | .v .int n=>some n
  | _=>none
def asB:AV T → Option Bool
  | .v .bool n=>some n
  | _=>none
/-- a list that can be read -/
def asL (e:Env T) (a:AV T):Option (Σ t,List (T.D t)):=
  match res e a with
  | .v (.list t) xs=>some ⟨t,xs⟩
  | .own _ _ t xs=>some ⟨t,xs⟩
  | .rs _ m x=>T.RL m x
  | _=>none

def szT (T:Tb) (t:Tp):Nat:=(T.e t).sz
def Lens.id (t:Tp):Lens T t t:=⟨0,fun x=>x,fun _ y=>y⟩
/-- a part of a list of parts -/
structure HLens (T:Tb) (l:List Tp) (u:Tp) where
  off:Nat
  get:HL T.S l → T.D u
  set:HL T.S l → T.D u → HL T.S l
def hlens:(l:List Tp) → Nat → Option (Σ u,HLens T l u)
  | [],_=>none
  | [a],0=>some ⟨a,0,fun x=>x,fun _ y=>y⟩
  | [_],_ + 1=>none
  | a::_::_,0=>some ⟨a,0,fun x=>x.1,fun x y=>(y,x.2)⟩
  | a :: b :: l, i + 1 => match hlens (b :: l) i with
    | some ⟨u,L⟩=>some ⟨u,szT T a + L.off,fun x=>L.get x.2,fun x y=>(x.1,L.set x.2 y)⟩
    | none=>none
def flens (n i:Nat):Option (Σ u,Lens T (.st n) u):=
  match hlens (T:=T) (T.fs n) i with
  | some ⟨u,L⟩=>some ⟨u,L.off,fun x=>L.get (T.to n x),fun x y=>T.of n (L.set (T.to n x) y)⟩
  | none=>none
def Lens.comp {t u w:Tp} (L:Lens T t u) (M:Lens T u w):Lens T t w:=
  ⟨L.off + M.off,fun x=>M.get (L.get x),fun x y=>L.set x (M.set (L.get x) y)⟩

/-- the offset of a field, if the program has it so -/
def fldOff (P:Program) (s f:Nat):Option Nat:=
  match P.underlying s with
  | some (.struct fs) => match fs[f]? with
    | some d => match P.info? d.type with
      | some i => match i.size with
        | 0=>none
        | _ + 1=>some d.offset
      | none=>none
    | none=>none
  | _=>none
def tyB (P:Program) (T:Tb) (t:TypeId) (u:Tp):Bool:=
  (match P.underlying t with | some d=>aggOf d == (T.e u).agg | none=>false) &&
  (match P.info? t with | some i=>i.size == (T.e u).sz | none=>false)
def elB (P:Program) (T:Tb) (e:TypeId) (u:Tp):Bool:=
  match P.info? e with
  | some i=>(match i.zero with | some z=>z.cells.size == szT T u | none=>false) && i.size == szT T u && Nat.ble 1 (szT T u) && Nat.ble i.bytes 65536
  | none=>false
def slOf (P:Program) (t:TypeId):Option TypeId:=
  match P.underlying t with | some (.slice e)=>some e | _=>none

def joinO:List (Option (List Value)) → Option (List Value)
  | []=>some []
  | a :: l => match a, joinO l with
    | some x,some y=>some (x ++ y)
    | _,_=>none
def zc (T:Tb):Nat → Tp → Option (List Value)
  | 0,_=>none
  | _ + 1,.int=>some [.int .i64 0]
  | _ + 1,.bool=>some [.bool false]
  | _ + 1,.str=>some [.string ⟨#[]⟩]
  | _ + 1,.ik κ=>some [.int κ 0]
  | _ + 1,.list _=>some [.slice none 0 0]
  | _ + 1,.op=>some [.slice none 0 0]
  | _ + 1,.rf _=>none
  | _ + 1,.f0 _=>none
  | _ + 1,.f1 _ _=>none
  | _ + 1,.f2 _ _ _=>none
  | _ + 1,.pv=>none
  | f + 1,.st n=>joinO ((T.fs n).map (zc T f))
def vEq:Value → Value → Bool
  | .int κ n,.int κ' n'=>κ == κ' && n == n'
  | .bool a,.bool b=>a == b
  | .string a,.string b=>a.data.size == 0 && b.data.size == 0
  | .slice none 0 0,.slice none 0 0=>true
  | _,_=>false
def vsEq:List Value → List Value → Bool
  | [],[]=>true
  | a::l,b::m=>vEq a b && vsEq l m
  | _,_=>false
def zeroB (P:Program) (T:Tb) (ty:TypeId) (t:Tp):Bool:=
  match P.info? ty with
  | some i => match i.zero, zc T 9 t with
    | some z,some cs=>(match z with | .agg a=>(T.e t).agg && vsEq a.toList cs | z=>!(T.e t).agg && vsEq [z] cs)
    | _,_=>false
  | none=>false
/-- A function, as it is known to those that call it. -/
structure FnE (T:Tb) where
  dom:List Tp
  cod:List Tp
  run:HL T.S dom → Option (HL T.S cod)
def args:(l:List Tp) → List (AV T) → Option (HL T.S l)
  | [],[]=>some ()
  | [a],[x]=>asT a x
  | a :: b :: l, x :: xs => match asT a x, args (b :: l) xs with
    | some y,some ys=>some (y,ys)
    | _,_=>none
  | _,_=>none
def unH:(l:List Tp) → HL T.S l → List (Σ t,T.D t)
  | [],_=>[]
  | [a],x=>[⟨a,x⟩]
  | a::b::l,x=>⟨a,x.1⟩::unH (b::l) x.2
def resV (l:List Tp) (x:HL T.S l):AV T:=
  match l,x with
  | [],_=>.any
  | [a],x=>mkv a x
  | a::b::l,x=>.tup (unH (a::b::l) x)
/-- Parameters: values, and what is turned, or taken over. -/
inductive Pm where
  | v (t:Tp) | tu | tk | fn (g:Nat)
def valsP:List Pm → List Tp
  | []=>[]
  | .v t::l=>t::valsP l
  | _::l=>valsP l
def hdH {S:Nat → Type}:{t:Tp} → {l:List Tp} → HL S (t::l) → t.den S
  | _,[],x=>x
  | _,_::_,x=>x.1
def tlH {S:Nat → Type}:{t:Tp} → {l:List Tp} → HL S (t::l) → HL S l
  | _,[],_=>()
  | _,_::_,x=>x.2
def consH {S:Nat → Type}:{t:Tp} → {l:List Tp} → t.den S → HL S l → HL S (t::l)
  | _,[],x,_=>x
  | _,_::_,x,y=>(x,y)
/-- A function that turns, takes over or makes things that are a call's own. -/
structure FnR (T:Tb) where
  pm:List Pm
  tu:Rk
  tk:Rk
  ro:Rk
  cod:List Tp
  ρ:Type
  inj:ρ → tu.D T × ro.D T × HL T.S cod
  run:HL T.S (valsP pm) → tu.D T → tk.D T → Option ρ
def Rk.av:(κ:Rk) → κ.D T → AV T
  | .n,_=>.any
  | .o e t,xs=>.own false e t xs
  | .b t,x=>.box false t x
  | .c m,x=>.rs false m x
def isN:Rk → Bool
  | .n=>true
  | _=>false
/-- what is known of the results of such a function -/
def resR (ro:Rk) (cod:List Tp) (w:ro.D T) (r:HL T.S cod):AV T:=
  bif isN ro then resV cod r else match cod,r with
    | [],_=>ro.av w
    | c::l,r=>.tr false ro w (unH (c::l) r)
/-- A function that only looks at a thing of a custom kind (its first parameter). -/
structure FnQ (T:Tb) where
  /-- is it no parameter? -/
  amb:Bool
  m:Nat
  dom:List Tp
  cod:List Tp
  run:T.RD m → HL T.S dom → Option (HL T.S cod)
abbrev QDeps (T:Tb):=List (FuncId × FnQ T)
def qdep:QDeps T → FuncId → Option (FnQ T)
  | [],_=>none
  | (g,d)::l,f=>bif Nat.beq g f then some d else qdep l f
/-- the thing that is looked at -/
def rsOf (e:Env T) (m:Nat):AV T → Option (T.RD m)
  | .al s => match lk e s with
    | .rs _ m' z => match natSame m' m with
      | some h=>some (h.down ▸ z)
      | none=>none
    | _=>none
  | _=>none
/-- .. the one of its kind that there is -/
def ambS (m:Nat) (e:Env T):Env T → Option Nat
  | []=>none
  | (s,.rs _ m' _)::l=>bif Nat.beq m' m && (match lk e s with | .rs _ m' _=>Nat.beq m' m | _=>false) then some s else ambS m e l
  | _::l=>ambS m e l
def qArgs (e:Env T) (amb:Bool) (m:Nat) (xs:List Operand):Option (T.RD m × List Operand):=
  bif amb then (match ambS m e e with
    | some s => match rsOf e m (.al s) with
      | some z=>some (z,xs)
      | none=>none
    | none=>none)
  else match xs with
    | x :: xs => match rsOf e m (mvv e x) with
      | some z=>some (z,xs)
      | none=>none
    | []=>none
abbrev Deps (T:Tb):=List (FuncId × FnE T)
abbrev RDeps (T:Tb):=List (FuncId × FnR T)
def rdep:RDeps T → FuncId → Option (FnR T)
  | [],_=>none
  | (g,d)::l,f=>bif Nat.beq g f then some d else rdep l f
def dep:Deps T → FuncId → Option (FnE T)
  | [],_=>none
  | (g,d)::l,f=>bif Nat.beq g f then some d else dep l f

section
variable {R:Type}
def binII (wr:Bool) (op:BinOp) (n m:Int) (k:AV T → Option R):Option R:=
  match op with
  | .add=>(bif wr then addW n m else addI n m).bind fun r=>k (.v .int r)
  | .sub=>(bif wr then subW n m else subI n m).bind fun r=>k (.v .int r)
  | .mul=>(mulI n m).bind fun r=>k (.v .int r)
  | .quo=>(quoI n m).bind fun r=>k (.v .int r)
  | .rem=>(remI n m).bind fun r=>k (.v .int r)
  | .lss=>k (.v .bool (decide (n < m)))
  | .leq=>k (.v .bool (decide (n ≤ m)))
  | .gtr=>k (.v .bool (decide (m < n)))
  | .geq=>k (.v .bool (decide (m ≤ n)))
  | .eql=>k (.v .bool (n == m))
  | .neq=>k (.v .bool (n != m))
  | .and=>k (.v .int (andI n m))
  | .andNot=>k (.v .int (andnI n m))
  | .or=>k (.v .int (orI n m))
  | _=>none
def isSh (op:BinOp):Bool:=match op with | .shl=>true | .shr=>true | _=>false
def shAmt:AV T → Option Int
  | .v .int n=>some n
  | .v (.ik _) q=>some q.n
  | _=>none
def shiftV (op:BinOp) (x:AV T) (m:Int) (k:AV T → Option R):Option R:=
  match x with
  | .v .int n => match op with
    | .shl=>(shlI n m).bind fun r=>k (.v .int r)
    | .shr=>(shrI n m).bind fun r=>k (.v .int r)
    | _=>none
  | .v (.ik a) p => bif decide (0 ≤ m) && Nat.ble m.toNat a.bits then (match op with
    | .shr=>k (.v (.ik a) (p.shr m))
    | .shl=>k (.v (.ik a) (p.shl m))
    | _=>none) else none
  | _=>none
def binV (wr:Bool) (op:BinOp) (isB:Bool) (eqn:Nat → Bool) (x y:AV T) (k:AV T → Option R):Option R:=
  match x,y with
  | .v .int n,.v .int m=>binII wr op n m k
  | .v .bool n, .v .bool m => bif isB then (match op with
    | .eql=>k (.v .bool (n == m))
    | .neq=>k (.v .bool (n != m))
    | _=>none) else none
  | .v .str n, .v .str m => match op with
    | .eql=>k (.v .bool (n.toList == m.toList))
    | .neq=>k (.v .bool (!(n.toList == m.toList)))
    | .geq=>k (.v .bool (!(Op.bytesLess n.toList m.toList)))
    | _=>none
  | .v (.st n) p, .v (.st m) q => match natSame m n with
    | some h => letI := T.deq n; bif eqn n then (match op with
      | .eql=>k (.v .bool (decide (p = h.down ▸ q)))
      | .neq=>k (.v .bool (!decide (p = h.down ▸ q)))
      | _=>none) else none
    | none=>none
  | .v (.ik a) p, .v (.ik b) q => match IntKind.same b a with
    | some h => match op with
      | .add=>k (.v (.ik a) (p.add (h.down ▸ q)))
      | .sub=>k (.v (.ik a) (p.sub (h.down ▸ q)))
      | .mul=>k (.v (.ik a) (p.mul (h.down ▸ q)))
      | .and=>k (.v (.ik a) (p.and (h.down ▸ q)))
      | .gtr=>k (.v .bool (decide ((h.down ▸ q:IK a).n < p.n)))
      | _=>none
    | none=>none
  | _,_=>none
def wrI (κ:IntKind) (n:Int):AV T:=match κ with
  | .i64=>.v .int (IntKind.i64.wrap n)
  | κ=>.v (.ik κ) ⟨κ.wrap n⟩
def extF (f off:Nat) (u:Tp) (g:(w:Tp) → Lens T u w → AV T):Option (AV T):=
  match u,g with
  | .st n, g => match flens (T := T) n f with
    | some ⟨w,L⟩=>bif Nat.beq L.off off then some (g w L) else none
    | none=>none
  | _,_=>none
def fieldO (f off:Nat) (a:AV T) (own:Nat → AV T):Option (AV T):=
  match a with
  | .ref t x=>extF f off t fun w L=>.ref w (L.get x)
  | .al s => match own s with
    | .box _ t x=>extF f off t fun w L=>.ab s t x w L
    | _=>none
  | .ab s t x u M=>extF f off u fun w L=>.ab s t x w (M.comp L)
  | .ao s e t xs i x u M=>extF f off u fun w L=>.ao s e t xs i x w (M.comp L)
  | _=>none
def fieldV (P:Program) (s f:Nat) (a:AV T) (own:Nat → AV T) (k:AV T → Option R):Option R:=
  match fldOff P s f with
  | none=>none
  | some off => match fieldO f off a own with
    | some r=>k r
    | none=>none
def loadV (P:Program) (T:Tb) (ty:TypeId) (a:AV T) (own:Nat → AV T):Option (AV T):=
  let g:=fun (u:Tp) (x:T.D u)=>bif tyB P T ty u then some (mkv u x) else none
  match a with
  | .ref t x=>g t x
  | .al s=>match own s with | .box _ t x=>g t x | _=>none
  | .ab _ _ x u L=>g u (L.get x)
  | .ao _ _ _ _ _ x u L=>g u (L.get x)
  | _=>none
/-- the values of the parts of a slice -/
def partsL (t:Tp) (e:Env T):Nat → List (Nat × Operand) → Option (List (T.D t))
  | _,[]=>some []
  | i, (j, x) :: l => bif Nat.beq i j then (match asT t (opv e x), partsL t e (i + 1) l with
    | some y,some ys=>some (y::ys)
    | _,_=>none) else none
/-- offset and size of a field -/
def fldPl (P:Program) (s f:Nat):Option (Nat × Nat):=
  match P.underlying s with
  | some (.struct fs) => match fs[f]? with
    | some d => match P.info? d.type with
      | some i=>some (d.offset,i.size)
      | none=>none
    | none=>none
  | _=>none
def allFld (P:Program) (s:Nat):Bool:=
  match P.underlying s with
  | some (.struct fs)=>fs.toList.all fun f=>(P.info? f.type).isSome
  | _=>false
def buildF (P:Program) (ty n:Nat) (e:Env T):List (Nat × Operand) → T.S n → Option (T.S n)
  | [],x=>some x
  | (j, y) :: l, x => match flens (T := T) n j, fldPl P ty j with
    | some ⟨u, L⟩, some (off, sz) => match asT u (opv e y) with
      | some z=>bif Nat.beq off L.off && Nat.beq sz (szT T u) then buildF P ty n e l (L.set x z) else none
      | none=>none
    | _,_=>none

/-- offset and size of a part -/
def plc (P:Program) (ty j:Nat):Option (Nat × Nat):=
  match P.underlying ty with
  | some (.struct _)=>fldPl P ty j
  | some (.array _ el) => match P.info? el with
    | some i=>some (j * i.size,i.size)
    | none=>none
  | _=>none
def allPl (P:Program) (ty:Nat):Bool:=
  match P.underlying ty with
  | some (.struct _)=>allFld P ty
  | some (.array _ el)=>(P.info? el).isSome
  | _=>false
/-- all parts, one after the other -/
def buildAll (P:Program) (ty:Nat) (ov:Operand → AV T):(l:List Tp) → (i off:Nat) → List (Nat × Operand) → Option (HL T.S l)
  | [],_,_,[]=>some ()
  | [a], i, off, [(j, y)] => match plc P ty i with
    | some (o,s)=>bif Nat.beq j i && (Nat.beq o off && Nat.beq s (szT T a)) then asT a (ov y) else none
    | none=>none
  | a :: b :: l, i, off, (j, y) :: ps => match plc P ty i with
    | some (o, s) => bif Nat.beq j i && (Nat.beq o off && Nat.beq s (szT T a)) then (match asT a (ov y), buildAll P ty ov (b :: l) (i + 1) (off + szT T a) ps with
      | some z,some r=>some (z,r)
      | _,_=>none) else none
    | none=>none
  | _,_,_,_=>none
def zeroN (P:Program) (T:Tb) (ty n:Nat):Bool:=
  match P.info? ty with
  | some i => match i.zero with
    | some (.agg z)=>Nat.beq z.size (szT T (.st n))
    | _=>false
  | none=>false

/-- What the evaluator is told of the program: the types of the numbers of types, and which boxes are written to. -/
structure Cx (T:Tb) where
  P:Program
  tid:TypeId → Option Tp
  eqs:List (TypeId × Nat)
  deps:Deps T
  rdeps:RDeps T
  wr:Bool
  own:List Nat
  rs:List ResultVar
  n:Nat
  /-- pieces of code of which it is told from elsewhere what they do; and the pieces that there are -/
  hk:Nat → Code → Env T → (R:Type) → (Env T → Option R) → Option R
  rg:Code → Prop
  qdeps:QDeps T

/-- a function value of a function and what it holds -/
def mkFn:(dom cod:List Tp) → (HL T.S dom → Option (HL T.S cod)) → List (AV T) → Option (AV T)
  | dom, [b], run, cs => match Nat.sub dom.length cs.length with
    | 0 => match args dom cs with
      | some z=>some (.v (.f0 b) fun _=>run z)
      | none=>none
    | 1 => match dom, run with
      | [a],run=>some (.v (.f1 a b) fun x=>run x)
      | a :: c :: l, run => match args (c :: l) cs with
        | some z=>some (.v (.f1 a b) fun x=>run (x,z))
        | none=>none
      | [],_=>none
    | 2 => match dom, run with
      | [a,a'],run=>some (.v (.f2 a a' b) fun x y=>run (x,y))
      | a :: a' :: c :: l, run => match args (c :: l) cs with
        | some z=>some (.v (.f2 a a' b) fun x y=>run (x,y,z))
        | none=>none
      | _,_=>none
    | _=>none
  | _,_,_,_=>none
/-- the value of an operand, functions too -/
def opvF (C:Cx T) (e:Env T):Operand → AV T
  | .func f => match dep C.deps f with
    | some d => match mkFn d.dom d.cod d.run [] with
      | some a=>a
      | none=>.top
    | none=>.top
  | x=>opv e x
def bslice (C:Cx T) (e:Env T) (ty:TypeId) (n:Nat) (ps:Array (Nat × Operand)):Option (Σ t,TypeId × List (T.D t)):=
  match slOf C.P ty with
  | some el => match C.tid el with
    | some t => match partsL t e 0 ps.toList with
      | some xs=>bif Nat.beq xs.length n && elB C.P T el t && Nat.ble (n * szT T t) 16777216 then some ⟨t,(el,xs)⟩ else none
      | none=>none
    | none=>none
  | none=>none
/-- the parts of an array -/
def partsH {S:Nat → Type} (t:Tp):(l:List Tp) → HL S l → Option (List (t.den S))
  | [],_=>some []
  | [a], x => match cast? a t x with
    | some y=>some [y]
    | none=>none
  | a :: b :: l, x => match cast? a t x.1, partsH t (b :: l) x.2 with
    | some y,some r=>some (y::r)
    | _,_=>none
def partsN {S:Nat → Type}:(l:List Tp) → HL S l → Option (Σ t:Tp,List (t.den S))
  | [],_=>none
  | [t], x => match partsH t [t] x with
    | some r=>some ⟨t,r⟩
    | none=>none
  | t :: b :: l, x => match partsH t (t :: b :: l) x with
    | some r=>some ⟨t,r⟩
    | none=>none
/-- a test whether something that is a call's own is nil -/
def nilT (P:Program) (ty:TypeId) (e:Env T) (op:BinOp) (x y:Operand):Option Bool:=
  match y,mvv e x,P.underlying ty with
  | .const (.pointer none), .al s, some (.pointer _) => match lk e s with
    | .rs _ n z => match op, T.RN n z with
      | .eql,some b=>some b
      | .neq,some b=>some (!b)
      | _,_=>none
    | _=>none
  | _,_,_=>none
/-- One operation that writes to nothing that was there. -/
def step1 (C:Cx T) (e:Env T) (o:Oper) (k:AV T → Option R):Option R:=
  match o.op with
  | .move x=>k (mvv e x)
  | .assign x=>k (mvv e x)
  | .pick c x y => match asB (opv e c) with
    | some m=>if m then (match asB (opv e x) with | some b=>k (.v .bool b) | none=>none) else (match asB (opv e y) with | some b=>k (.v .bool b) | none=>none)
    | none=>none
  | .binOp op ty x y _=>bif isSh op then (match shAmt (opv e y) with | some m=>shiftV op (opv e x) m k | none=>none) else match nilT C.P ty e op x y with | some b=>k (.v .bool b) | none=>binV C.wr op (match C.P.underlying ty with | some .bool=>true | _=>false) (fun n=>C.eqs.contains (ty,n)) (opv e x) (opv e y) k
  | .unOp .not _ x => match asB (opv e x) with
    | some b=>k (.v .bool (!b))
    | none=>none
  | .unOp .neg _ x => match asI (opv e x) with
    | some n=>(subI 0 n).bind fun r=>k (.v .int r)
    | none=>none
  | .convert s d x => match C.P.underlying s, C.P.underlying d, opv e x with
    | some _,some (.int κ),.v .int n=>k (wrI κ n)
    | some _,some (.int κ),.v (.ik _) n=>k (wrI κ n.n)
    | _,_,_=>none
  | .load ty x => match loadV C.P T ty (mvv e x) (lk e) with
    | some a=>k a
    | none=>none
  | .fieldAddr s x f=>fieldV C.P s f (mvv e x) (lk e) k
  | .indexAddr ty x y => match asI (opv e y), slOf C.P ty with
    | some i, some el => match x with
      | .tmp s => match res e (nrm (lk e s)) with
        | .v (.list t) xs=>bif tyB C.P T el t then (getI xs i).bind fun z=>k (.ref t z) else none
        | .own _ e' t xs=>bif tyB C.P T el t && Nat.beq el e' then (getI xs i).bind fun z=>k (.ao (slotOf e s) e' t xs i.toNat z t (Lens.id t)) else none
        | .rs _ m x => match T.RL m x with
          | some ⟨t,xs⟩=>bif tyB C.P T el t then (getI xs i).bind fun z=>k (.ref t z) else none
          | none=>none
        | _=>none
      | _=>none
    | some i, none => match C.P.underlying ty, opv e x with
      | some (.array m el), .ref (.st n) z => match partsN (T.fs n) (T.to n z) with
        | some ⟨t,xs⟩=>bif Nat.beq m xs.length && tyB C.P T el t then (getI xs i).bind fun r=>k (.ref t r) else none
        | none=>none
      | _,_=>none
    | _,_=>none
  | .index ty x y => match opv e x, asI (opv e y), C.P.underlying ty with
    | .v (.st n) z, some i, some (.array m el) => match partsN (T.fs n) (T.to n z) with
      | some ⟨t,xs⟩=>bif Nat.beq m xs.length && tyB C.P T el t then (getI xs i).bind fun r=>k (mkv t r) else none
      | none=>none
    | _,_,_=>none
  | .extract x i => match opv e x with
    | .tup l => match l[i]? with
      | some ⟨t,y⟩=>k (mkv t y)
      | none=>none
    | .tq l => match i with
      | 0=>none
      | i + 1 => match l[i]? with
        | some ⟨t,y⟩=>k (mkv t y)
        | none=>none
    | .tr _ _ _ l => match i with
      | 0=>none
      | i + 1 => match l[i]? with
        | some ⟨t,y⟩=>k (mkv t y)
        | none=>none
    | .al s => match lk e s with
      | .tr _ _ _ l => match i with
        | 0=>none
        | i + 1 => match l[i]? with
          | some ⟨t,y⟩=>k (mkv t y)
          | none=>none
      | _=>none
    | _=>none
  | .box ty x => match opv e x with
    | .v t y=>bif tyB C.P T ty t then k (.ref t y) else none
    | .ref t y=>bif tyB C.P T ty (.rf t) then k (.ref (.rf t) y) else none
    | _=>none
  | .nilCheck x => match mvv e x with
    | .ref t y=>k (.ref t y)
    | .al s=>match lk e s with | .box _ _ _=>k (.al s) | _=>none
    | _=>none
  | .makeFunc (.func f) first caps => match first.toList with
    | [x] => match caps.toList, mvv e x with
      | [],.al s=>k (.mv f s)
      | _,_=>none
    | [] => match dep C.deps f with
     | some d=>match mkFn d.dom d.cod d.run (caps.toList.map (opv e)) with
      | some a=>k a
      | none=>none
     | none=>none
    | _=>none
  | .slice ty x lo hi mx => match slOf C.P ty with
    | none=>none
    | some el => match mx with
      | some (.const (.int .i64 0)) => match hi, (match lo with | none => true | some (.const (.int .i64 0)) => true | _ => false), asL e (opv e x) with
        | some (.const (.int .i64 0)),true,some ⟨t,_⟩=>bif tyB C.P T el t then k .e0 else none
        | _,_,_=>none
      | none => match opv e x with
        | .v (.list t) xs=>bif tyB C.P T el t then
            (match lo,hi with
            | some l, some h => match asI (opv e l), asI (opv e h) with
              | some l,some h=>(sliceI xs l h).bind fun r=>k (.v (.list t) r)
              | _,_=>none
            | some l, none => match asI (opv e l) with
              | some l=>(sliceI xs l (xs.length:Int)).bind fun r=>k (.v (.list t) r)
              | none=>none
            | none, some h => match asI (opv e h) with
              | some h=>(sliceI xs 0 h).bind fun r=>k (.v (.list t) r)
              | none=>none
            | none,none=>none) else none
        | _=>none
      | _=>none
  | .build ty ps => match C.tid ty with
    | some (.st n) => bif zeroB C.P T ty (.st n) && allFld C.P ty then (match buildF C.P ty n e ps.toList (T.zero n) with
      | some x=>k (.v (.st n) x)
      | none=>none) else bif zeroN C.P T ty n && allPl C.P ty then (match buildAll C.P ty (opvF C e) (T.fs n) 0 0 ps.toList with
      | some y=>k (.v (.st n) (T.of n y))
      | none=>none) else none
    | _=>none
  | .buildSlice ty n ps => match n with
    | 0 => match ps.toList, slOf C.P ty with
      | [], some el => match C.tid el with
        | some t=>bif elB C.P T el t then k .e0 else none
        | none=>none
      | _,_=>none
    | _ => match bslice C e ty n ps with
      | some ⟨t,(_,xs)⟩=>k (.fl t xs)
      | none=>none
  | .call c => match c.callee with
    | .builtin .len => match c.args.toList, c.argTypes[0]? with
      | [x], some ty => match slOf C.P ty with
        | some _ => match res e (opv e x) with
          | .v (.list _) xs=>k (.v .int (xs.length:Int))
          | .own _ _ _ xs=>k (.v .int (xs.length:Int))
          | .e0=>k (.v .int ((0:Nat):Int))
          | .rs _ m x => match T.RL m x with
            | some ⟨_,xs⟩=>k (.v .int (xs.length:Int))
            | none=>none
          | _=>none
        | none=>none
      | _,_=>none
    | .builtin .max => match c.args.toList with
      | [x, y] => match asI (opv e x), asI (opv e y) with
        | some a,some b=>k (.v .int (max a b))
        | _,_=>none
      | [x, y, z] => match asI (opv e x), asI (opv e y), asI (opv e z) with
        | some a,some b,some c=>k (.v .int (max (max a b) c))
        | _,_,_=>none
      | [x, y, z, u, w] => match asI (opv e x), asI (opv e y), asI (opv e z), asI (opv e u), asI (opv e w) with
        | some a,some b,some c,some d,some f=>k (.v .int (max (max (max (max a b) c) d) f))
        | _,_,_,_,_=>none
      | _=>none
    | .builtin .min => match c.args.toList with
      | [x, y] => match asI (opv e x), asI (opv e y) with
        | some a,some b=>k (.v .int (min a b))
        | _,_=>none
      | [x, y, z] => match asI (opv e x), asI (opv e y), asI (opv e z) with
        | some a,some b,some c=>k (.v .int (min (min a b) c))
        | _,_,_=>none
      | [x, y, z, u] => match asI (opv e x), asI (opv e y), asI (opv e z), asI (opv e u) with
        | some a,some b,some c,some d=>k (.v .int (min (min (min a b) c) d))
        | _,_,_,_=>none
      | _=>none
    | .builtin .append => match c.args.toList, c.argTypes.toList with
      | [x, y], [ty, ty'] => match slOf C.P ty with
        | some el => match asF e x with
          | some ⟨t, xs⟩ => match asL e (opv e y) with
            | some ⟨u, ys⟩ => match cast? (.list u) (.list t) ys with
              | some ys=>bif Nat.beq ty ty' && elB C.P T el t then (appI xs ys).bind fun r=>k (.v (.list t) r) else none
              | none=>none
            | none=>none
          | none => match res e (opv e x), asL e (opv e y) with
            | .e0,some ⟨t,ys⟩=>bif Nat.beq ty ty' && elB C.P T el t then (appI [] ys).bind fun r=>k (.v (.list t) r) else none
            | _,_=>none
        | none=>none
      | _,_=>none
    | .value (.func f) => match dep C.deps f with
      | some d => match args d.dom (c.args.toList.map (opvF C e)) with
        | some a=>(d.run a).bind fun r=>k (resV d.cod r)
        | none=>none
      | none => match qdep C.qdeps f with
        | some d => match qArgs e d.amb d.m c.args.toList with
          | some (z, xs) => match args d.dom (xs.map (opvF C e)) with
            | some a=>(d.run z a).bind fun r=>k (resV d.cod r)
            | none=>none
          | none=>none
        | none=>none
    | .value (.tmp s) => match lk e s with
      | .v (.f0 b) g => match c.args.toList with
        | []=>(g ()).bind fun r=>k (mkv b r)
        | _=>none
      | .v (.f1 a b) g => match c.args.toList with
        | [x] => match asT a (opv e x) with
          | some x=>(g x).bind fun r=>k (mkv b r)
          | none=>none
        | _=>none
      | .v (.f2 a a' b) g => match c.args.toList with
        | [x, y] => match asT a (opv e x), asT a' (opv e y) with
          | some x,some y=>(g x y).bind fun r=>k (mkv b r)
          | _,_=>none
        | _=>none
      | _=>none
    | _=>none
  | _=>none
end
end Go.Gb

/- General part of the proofs: the evaluator: regions and control. -/
namespace Go.Gb
variable {T:Tb} {R:Type}

abbrev OpL:=List (Nat × Oper)
/-- the operations up to the next one with this guard -/
def spanG (g:Option (Nat × Bool)):OpL → OpL × OpL
  | []=>([],[])
  | x::l=>if x.2.guard = g then ([],x::l) else ((x::(spanG g l).1),(spanG g l).2)
/-- never without a value -/
def isTot (o:Oper):Bool:=match o.op with
  | .move _ | .assign _ | .load _ _ | .fieldAddr _ _ _ | .nilCheck _ | .pick _ _ _ | .extract _ _ | .unOp .not _ _ | .convert _ _ _ | .build _ _ | .buildSlice _ _ _=>true
  | .binOp .lss _ _ _ _ | .binOp .leq _ _ _ _ | .binOp .gtr _ _ _ _ | .binOp .geq _ _ _ _ | .binOp .eql _ _ _ _ | .binOp .neq _ _ _ _ | .binOp .and _ _ _ _=>true
  | .call c => match c.callee with
    | .builtin .len | .builtin .max | .builtin .min=>true
    | _=>false
  | _=>false
def isRes:AV T → Bool
  | .own _ _ _ _=>true
  | .box _ _ _=>true
  | .rs _ _ _=>true
  | .tr _ _ _ _=>true
  | _=>false
/-- .. if it is wanted here -/
def rdepU (C:Cx T) (f:FuncId) (dst:Option Nat):Option (FnR T):=
  match rdep C.rdeps f with
  | some q=>bif (dep C.deps f).isSome && (match dst with | some d=>!(C.own.contains d) | none=>true) then none else some q
  | none=>none
/-- an operation that writes, or makes what is written to -/
def isMut (C:Cx T) (e:Env T) (o:Oper):Bool:=
  match o.dst with
  | none=>true
  | some d => isRes (lk e d) || match o.op with
    | .store _ _ _=>true
    | .alloc _=>true
    | .makeSlice _ _ _=>true
    | .box _ _=>C.own.contains d
    | .assign x=>C.own.contains d && (match x with | .tmp t=>(match lk e t with | .al _=>true | a=>isRes a) | _=>false)
    | .buildSlice _ _ _=>C.own.contains d
    | .call c => match c.callee with
      | .builtin .append=>C.own.contains d || (match c.args.toList with | x::_=>isRes (res e (opv e x)) | _=>false)
      | .value (.func f)=>(rdepU C f (some d)).isSome
      | .value (.tmp s)=>(match lk e s with | .mv _ _=>true | _=>false)
      | _=>false
    | .extract x 0=>(match mvv e x with | .al _=>true | _=>false)
    | _=>false
def dstOf (ops:List Oper) (j:Nat):Option Nat:=(nth ops j).bind (·.dst)
def lastIdx (t:Nat):List Oper → Nat → Option Nat → Option Nat
  | [],_,r=>r
  | o::l,i,r=>lastIdx t l (i + 1) (bif (match o.dst with | some d=>Nat.beq d t | none=>false) then some i else r)
def lastIs (t:Nat) (l:List Oper) (j:Nat):Bool:=match lastIdx t l 0 none with | some j'=>Nat.beq j' j | none=>false
def tmpsOf (o:Oper):List Nat:=o.op.operands.toList.filterMap fun | .tmp t=>some t | _=>none
def needOf (pre:List Oper) (o:Oper):List (Nat × Option Nat):=(tmpsOf o).map fun t=>(t,lastIdx t pre 0 none)
def needs (pre:List Oper):List Oper → List (List (Nat × Option Nat))
  | []=>[]
  | o::l=>needOf pre o::needs (pre ++ [o]) l
def esOf (ops:List Oper):List Ent:=(needs [] ops).map fun nd=>⟨none,nd⟩
def ixs:Nat → List Oper → OpL
  | _,[]=>[]
  | i,o::l=>(i,o)::ixs (i + 1) l

def grpOk (e:Env T) (c j:Nat) (w:Bool) (gr:OpL):Bool:=
  gr.all fun x=>(match x.2.guard with
    | some (j', w') => (Nat.beq j' j && w' == w) || gr.any fun y => Nat.beq y.1 j'
    | none=>false) && match x.2.dst with
    | some d=>!(isRes (lk e d)) && !(Nat.beq d c)
    | none=>false
def tops:OpL → Env T → Env T
  | [],e=>e
  | (_, o) :: l, e => match o.dst with
    | some d=>(d,.top)::tops l e
    | none=>tops l e
/-- a value that is picked: a part of it may be without a value only where it is asked for -/
def pickC (tot w m:Bool) (run oth:Option Bool) (k:Bool → Option R):Option R:=
  bif tot then match run,oth with
    | some b,some true=>bif w then none else k (m || b)
    | some b,some false=>bif w then k (m && b) else none
    | _,_=>none
  else match w with
    | true=>(if m then run else oth).bind k
    | false=>(if m then oth else run).bind k
/-- A box of which nothing is told while operations run in any order: one that was there, or one that they make. -/
inductive Hd where
  | no
  | old (s:Nat)
  | new (s:Nat) (t:Tp)
inductive Hv where
  | adr (off:Nat)
  | box (t:Tp)
/-- a pointer into such a box -/
def hidO (C:Cx T) (hid:Hd) (o:Oper):Option Hv:=
  match hid,o.op with
  | .old s,.fieldAddr st (.tmp s') f=>bif Nat.beq s s' then (match fldOff C.P st f with | some off=>some (.adr off) | none=>none) else none
  | .new s t, .alloc ty => match o.dst with
    | some d=>bif Nat.beq s d && zeroB C.P T ty t then some (.box t) else none
    | none=>none
  | _,_=>none
/-- The operations of a region that may run in any order. -/
def ev1 (C:Cx T) (hid:Hd) (ops:List Oper):Nat → (R:Type) → Option (Nat × Bool) → OpL → Env T → (OpL → Env T → Option R) → Option R
  | 0,_,_,_,_,_=>none
  | _ + 1,_,_,[],e,k=>k [] e
  | f + 1, R, g, (i, o) :: l, e, k =>
    if o.guard = g then
      match hidO C hid o,o.dst with
      | some _,some d=>bif isRes (lk e d) then none else ev1 C hid ops f R g l ((d,.top)::e) k
      | _, _ =>
        bif isMut C e o then (match g with | none=>k ((i,o)::l) e | some _=>none) else
        match o.dst with
        | some d=>step1 C e o fun a=>ev1 C hid ops f R g l ((d,a)::e) k
        | none=>none
    else match o.guard with
      | none=>none
      | some (j, w) => bif g.isNone && (spanG g ((i, o) :: l)).1.any (fun x => isMut C e x.2) then k ((i, o) :: l) e else match spanG g ((i, o) :: l) with
        | (gr, (_, p) :: l') => match p.op, p.dst, dstOf ops j with
          | .pick (.tmp c) x y, some d, some tj => match asB (lk e c) with
            | some m =>
              bif Nat.beq tj c && lastIs c (ops.take i) j && grpOk e c j w gr && !(isRes (lk e d)) then
                pickC (gr.all fun x=>isTot x.2) w m (ev1 C hid ops f Bool (some (j,w)) gr e fun _ e'=>asB (opv e' (if w then x else y))) (asB (opv (tops gr e) (if w then y else x)))
                  fun b=>ev1 C hid ops f R g l' ((d,.v .bool b)::tops gr e) k
              else none
            | none=>none
          | _,_,_=>none
        | _=>none

/-- what mentions a slot -/
def kl (s:Nat):AV T → AV T
  | .ab s' t x u L=>bif Nat.beq s' s then .top else .ab s' t x u L
  | .ao s' e t xs i x u L=>bif Nat.beq s' s then .top else .ao s' e t xs i x u L
  | a=>a
def klA (s:Nat):AV T → AV T
  | .al s'=>bif Nat.beq s' s then .top else .al s'
  | .mv f s'=>bif Nat.beq s' s then .top else .mv f s'
  | a=>kl s a
def mapK (f:AV T → AV T):Env T → (Env T → Option R) → Option R
  | [],k=>k []
  | (t,a)::e,k=>mapK f e fun e'=>k ((t,f a)::e')
def AV.ment:AV T → Nat → Bool
  | .al s,t=>Nat.beq s t
  | .ab s _ _ _ _,t=>Nat.beq s t
  | .ao s _ _ _ _ _ _ _,t=>Nat.beq s t
  | .mv _ s,t=>Nat.beq s t
  | _,_=>false
def put (e:Env T) (d:Nat) (a:AV T) (k:Env T → Option R):Option R:=
  bif a.ment d then none else bif isRes (lk e d) then mapK (klA d) e fun e'=>k ((d,a)::e') else k ((d,a)::e)
/-- the slot of a resource -/
def resSlot (e:Env T):Operand → Option Nat
  | .tmp t => match lk e t with
    | .al s=>some s
    | .own _ _ _ _=>some t
    | .box _ _ _=>some t
    | .rs _ _ _=>some t
    | .tr _ _ _ _=>some t
    | _=>none
  | _=>none
/-- what is taken of a slot -/
def takeR:(κ:Rk) → AV T → Option (κ.D T)
  | .n,_=>some ()
  | .o el t,.own false el' u xs=>bif Nat.beq el el' then cast? (.list u) (.list t) xs else none
  | .o _ _,.e0=>some []
  | .b t,.box false u x=>cast? u t x
  | .c m, .rs false m' x => match natSame m' m with
    | some h=>some (h.down ▸ x)
    | none=>none
  | _,_=>none
/-- the arguments of a call that are values -/
def argP (ov:Operand → AV T):(p:Pm) → Operand → (l:List Pm) → Option (HL T.S (valsP l)) → Option (HL T.S (valsP (p::l)))
  | .v t, x, _, r => match asT t (ov x), r with
    | some y,some ys=>some (consH y ys)
    | _,_=>none
  | .tu,_,_,r=>r
  | .tk,_,_,r=>r
  | .fn g, x, _, r => match x with
    | .func g'=>bif Nat.beq g g' then r else none
    | _=>none
def argsP (ov:Operand → AV T):(l:List Pm) → List Operand → Option (HL T.S (valsP l))
  | [],[]=>some ()
  | p::l,x::xs=>argP ov p x l (argsP ov l xs)
  | [],_::_=>none
  | _::_,[]=>none
/-- the argument that is turned (tk = false) or taken over -/
def resArg (tk:Bool):List Pm → List Operand → Option Operand
  | .v _::l,_::xs=>resArg tk l xs
  | .tu::l,x::xs=>bif tk then resArg tk l xs else some x
  | .tk::l,x::xs=>bif tk then some x else resArg tk l xs
  | .fn _::l,_::xs=>resArg tk l xs
  | _,_=>none
/-- .. and its slot -/
def locR (e:Env T) (κ:Rk) (x:Option Operand):Option (Option Nat × κ.D T):=
  match κ,x with
  | .n,none=>some (none,())
  | .n,some _=>none
  | .c m, none => match ambS m e e with
    | some s => match takeR (.c m) (lk e s) with
      | some y=>bif isRes (lk e s) then some (some s,y) else none
      | none=>none
    | none=>none
  | κ, some x => match resSlot e x with
    | some s => match takeR κ (lk e s) with
      | some y=>bif isRes (lk e s) then some (some s,y) else none
      | none=>none
    | none=>none
  | _,none=>none
def neO:Option Nat → Option Nat → Bool
  | some a,some b=>!(Nat.beq a b)
  | _,_=>true
def klO (f:Nat → AV T → AV T):Option Nat → AV T → AV T
  | some s,a=>f s a
  | none,a=>a
def addO (s:Option Nat) (a:AV T) (e:Env T):Env T:=match s with
  | some s=>(s,a)::e
  | none=>e
/-- no such parameter -/
def noP (tk:Bool):List Pm → Bool
  | []=>true
  | .v _::l=>noP tk l
  | .tu::l=>tk && noP tk l
  | .tk::l=>!tk && noP tk l
  | .fn _::l=>noP tk l
def uniqP:List Pm → Bool
  | []=>true
  | .v _::l=>uniqP l
  | .tu::l=>noP false l && uniqP l
  | .tk::l=>noP true l && uniqP l
  | .fn _::l=>uniqP l
def callR (C:Cx T) (e:Env T) (d:FnR T) (as_:List Operand) (dst:Option Nat) (k:Env T → Option R):Option R:=
  match argsP (opvF C e) d.pm as_,locR e d.tu (resArg false d.pm as_),locR e d.tk (resArg true d.pm as_) with
  | some x, some (s1, y), some (s2, z) => bif uniqP d.pm && neO s1 s2 && neO dst s1 && neO dst s2 && (match dst with | some _ => true | none => isN d.ro && d.cod.isEmpty) then
      (d.run x y z).bind fun q=>mapK (fun a=>klO kl s1 (klO klA s2 (klO klA dst a))) e fun e'=>k (addO dst (resR d.ro d.cod (d.inj q).2.1 (d.inj q).2.2) (addO s1 (d.tu.av (d.inj q).1) (addO s2 .top e')))
    else none
  | _,_,_=>none
def frz1 (e:Env T) (x:Operand) (k:Env T → Option R):Option R:=
  match x with
  | .tmp t => match lk e t with
    | .own false _ u xs=>mapK (klA t) e fun e'=>k ((t,.v (.list u) xs)::e')
    | .box false u x=>mapK (klA t) e fun e'=>k ((t,.ref u x)::e')
    | .al s => match lk e s with
      | .own false _ u xs=>mapK (klA s) e fun e'=>bif isRes (lk e' t) then none else k ((t,.v (.list u) xs)::(s,.v (.list u) xs)::e')
      | .box false u x=>mapK (klA s) e fun e'=>bif isRes (lk e' t) then none else k ((t,.ref u x)::(s,.ref u x)::e')
      | _=>k e
    | _=>k e
  | _=>k e
def frz (e:Env T):List Operand → (Env T → Option R) → Option R
  | [],k=>k e
  | x::l,k=>frz1 e x fun e'=>frz e' l k
/-- the arguments that are values -/
def valArgs:List Pm → List Operand → List Operand
  | .v _::l,x::xs=>x::valArgs l xs
  | _::l,_::xs=>valArgs l xs
  | _,_=>[]
def frzOps (C:Cx T) (e:Env T) (o:Oper):List Operand:=match o.op with
  | .build _ ps=>ps.toList.map (·.2)
  | .buildSlice _ _ ps=>ps.toList.map (·.2)
  | .box _ x=>[x]
  | .slice _ x _ _ _=>[x]
  | .store _ _ y=>[y]
  | .call c => match c.callee with
    | .value (.func f) => match rdepU C f o.dst with
      | some d=>valArgs d.pm c.args.toList
      | none=>c.args.toList
    | .value (.tmp s) => match lk e s with
      | .mv f _ => match rdep C.rdeps f with
        | some d=>valArgs d.pm.tail c.args.toList
        | none=>[]
      | _=>c.args.toList
    | .value _=>c.args.toList
    | _=>[]
  | _=>[]
def sameTmp:Operand → Operand → Bool
  | .tmp a,.tmp b=>Nat.beq a b
  | _,_=>false
/-- what is left of a tuple is known in the slot it was taken from, too -/
def reTq (e:Env T) (x:Operand) (d:Nat) (l:List (Σ t,T.D t)) (E:Env T):Env T:=match x with
  | .tmp t => match lk e t with
    | .al _=>bif Nat.beq t d then E else (t,.tq l)::E
    | _=>E
  | _=>E
/-- .. one after the other -/
def step2 (C:Cx T) (e:Env T) (o:Oper) (k:Env T → Option R):Option R:=
  match o.op,o.dst with
  | .store ty p y, none => match p with
    | .tmp pt => match (match lk e pt with
        | .al s=>match lk e s with | .box _ t x=>AV.ab s t x t (Lens.id t) | _=>.top
        | .box _ t x=>AV.ab pt t x t (Lens.id t)
        | a=>a) with
      | .ab s t x u L => match lk e s with
        | .box false _ _ => match asT u (opv e y) with
          | some z=>bif tyB C.P T ty u then mapK (kl s) e fun e'=>k ((s,.box false t (L.set x z))::e') else none
          | none=>none
        | _=>none
      | .ao s el t xs i x u L => match lk e s with
        | .own false _ _ _ => match asT u (opv e y) with
          | some z=>bif tyB C.P T ty u then mapK (kl s) e fun e'=>k ((s,.own false el t (xs.set i (L.set x z)))::e') else none
          | none=>none
        | _=>none
      | _=>none
    | _=>none
  | .alloc ty, some d => match C.tid ty with
    | some t=>bif zeroB C.P T ty t then put e d (.box false t (T.dflt t)) k else none
    | none=>none
  | .box ty x, some d => match opv e x with
    | .v t y=>bif tyB C.P T ty t then put e d (.box false t y) k else none
    | _=>none
  | .assign x, some d => match resSlot e x with
    | some s => match lk e s with
      | .own false el t xs=>mapK (klA s) e fun e'=>put ((s,.top)::e') d (.own false el t xs) fun e''=>bif isRes (lk e'' s) then none else k ((s,.al d)::e'')
      | .rs false m z=>bif Nat.beq s d then none else mapK (fun a=>klA s (klA d a)) e fun e'=>k ((d,.rs false m z)::(s,.top)::e')
      | _=>none
    | none=>step1 C e o fun a=>put e d a k
  | .extract x i, some d => match i, resSlot e x with
    | 0, some s => match lk e s with
      | .tr false κ w l=>bif Nat.beq s d || isN κ then none else mapK (fun a=>klA s (klA d a)) e fun e'=>k (reTq e x d l ((d,κ.av w)::(s,.tq l)::e'))
      | _=>step1 C e o fun a=>put e d a k
    | _,_=>step1 C e o fun a=>put e d a k
  | .buildSlice ty m ps, some d => match m with
    | 0=>step1 C e o fun a=>put e d a k
    | _ => match bslice C e ty m ps with
      | some ⟨t,(el,xs)⟩=>put e d (.own false el t xs) k
      | none=>none
  | .makeSlice ty lx cx, some d => match asI (opv e lx), slOf C.P ty with
    | some n, some el => match C.tid el with
      | some t=>bif sameTmp lx cx && elB C.P T el t && zeroB C.P T el t then (makeI n (T.dflt t)).bind fun r=>put e d (.own false el t r) k else none
      | none=>none
    | _,_=>none
  | .call c, some d => match c.callee with
    | .builtin .append => match c.args.toList, c.argTypes.toList with
      | [x, y], [ty, ty'] => bif Nat.beq ty ty' then match slOf C.P ty, asL e (opv e y) with
        | some el, some ⟨t, ys⟩ => bif elB C.P T el t then (match resSlot e x with
          | some s => match lk e s with
            | .own false el' t' xs => match cast? (.list t') (.list t) xs with
              | some xs=>bif Nat.beq el el' then (appI xs ys).bind fun r=>mapK (klA s) e fun e'=>put ((s,.top)::e') d (.own false el t r) k else none
              | none=>none
            | _=>none
          | none => match res e (opv e x) with
            | .e0=>(appI [] ys).bind fun r=>put e d (.own false el t r) k
            | _=>none) else none
        | _,_=>none
        else none
      | _,_=>none
    | .value (.func f) => match rdepU C f (some d) with
      | some q=>callR C e q c.args.toList (some d) k
      | none=>step1 C e o fun a=>put e d a k
    | .value (.tmp s) => match lk e s with
      | .mv f s' => match rdep C.rdeps f with
        | some q=>callR C e q (.tmp s'::c.args.toList) (some d) k
        | none=>none
      | _=>step1 C e o fun a=>put e d a k
    | _=>step1 C e o fun a=>put e d a k
  | .call c, none => match c.callee with
    | .value (.func f) => match rdepU C f none with
      | some q=>callR C e q c.args.toList none k
      | none=>none
    | .value (.tmp s) => match lk e s with
      | .mv f s' => match rdep C.rdeps f with
        | some q=>callR C e q (.tmp s'::c.args.toList) none k
        | none=>none
      | _=>none
    | _=>none
  | _,some d=>step1 C e o fun a=>put e d a k
  | _,none=>none

/-- an operation that is not wanted -/
def skipO (e:Env T) (o:Oper) (k:Env T → Option R):Option R:=match o.dst with
  | some d=>put e d .top k
  | none=>k e
def ev2 (C:Cx T) (ops:List Oper):OpL → Env T → (Env T → Option R) → Option R
  | [],e,k=>k e
  | (_, o) :: l, e, k => match o.guard, (match o.dst with | some d => Nat.blt d C.n | none => true) with
    | none,true=>frz e (frzOps C e o) fun e'=>step2 C e' o fun e''=>ev2 C ops l e'' k
    | some (j, w), true => match dstOf ops j with
      | some c => match asB (lk e c) with
        | some m => match w with
          | true => if m then frz ((c, .v .bool true) :: e) (frzOps C ((c, .v .bool true) :: e) o) fun e' => step2 C e' o fun e'' => ev2 C ops l e'' k
            else skipO ((c,.v .bool false)::e) o fun e''=>ev2 C ops l e'' k
          | false => if m then skipO ((c, .v .bool true) :: e) o fun e'' => ev2 C ops l e'' k
            else frz ((c,.v .bool false)::e) (frzOps C ((c,.v .bool false)::e) o) fun e'=>step2 C e' o fun e''=>ev2 C ops l e'' k
        | none=>none
      | none=>none
    | _,_=>none

/-- the boxes that a region has made and that nothing writes to behind it -/
def shareK (C:Cx T):List Oper → Env T → (Env T → Option R) → Option R
  | [],e,k=>k e
  | o :: l, e, k => match o.op, o.dst with
    | .alloc _, some d => bif C.own.contains d then shareK C l e k else match lk e d with
      | .box false t x=>mapK (klA d) e fun e'=>shareK C l ((d,.ref t x)::e') k
      | _=>shareK C l e k
    | _,_=>shareK C l e k

/-- the first store -/
def stAt:List Oper → Nat → Option (Nat × Oper)
  | [],_=>none
  | o :: l, i => match o.op with
    | .store _ _ _=>some (i,o)
    | _=>stAt l (i + 1)
/-- operations that only look may come behind the first store -/
def lateSt (ops:List Oper):Bool:=match stAt ops 0 with
  | some (m,_)=>!(allI (fun j _=>Nat.blt j m || (List.range j).all fun i=>hasBit (masks ops []) j i) 0 ops)
  | none=>false
def notDst (s:Nat) (ops:List Oper):Bool:=ops.all fun o=>match o.dst with | some d=>!(Nat.beq d s) | none=>true
/-- what is stored is there -/
def needSt (m:Nat) (ops:List Oper):Operand → Bool
  | .tmp t => match lastIdx t (ops.take m) 0 none with
    | some j=>hasBit (masks ops []) m j
    | none=>notDst t ops
  | .const _=>true
  | _=>false
/-- the slot of the box that is stored to -/
def stSlot (ops:List Oper) (m pt:Nat):Nat:=match lastIdx pt (ops.take m) 0 none with
  | some j => match nth ops j with
    | some o=>match o.op with | .fieldAddr _ (.tmp s) _=>s | _=>pt
    | none=>pt
  | none=>pt
/-- .. and where -/
def fldL (P:Program) (st f:Nat):(t:Tp) → Option (Σ u,Lens T t u)
  | .st n => match fldOff P st f, flens (T := T) n f with
    | some off,some ⟨w,L⟩=>bif Nat.beq L.off off then some ⟨w,L⟩ else none
    | _,_=>none
  | _=>none
def stPtr (C:Cx T) (ops:List Oper) (m s pt:Nat) (t:Tp):Option (Σ u,Lens T t u):=
  bif Nat.beq pt s then (bif notDst pt ops then some ⟨t,Lens.id t⟩ else none) else match lastIdx pt (ops.take m) 0 none with
    | some j => match nth ops j with
      | some o => match o.op, o.guard with
        | .fieldAddr st (.tmp s') f,none=>bif Nat.beq s s' && hasBit (masks ops []) m j then fldL C.P st f t else none
        | _,_=>none
      | none=>none
    | none=>none
def evX (C:Cx T) (ops:List Oper) (e:Env T) (k:Env T → Option R):Option R:=
  match stAt ops 0 with
  | some (m, o) => match o.op, o.dst, o.guard with
    | .store ty (.tmp pt) y, none, none => match lk e (stSlot ops m pt) with
      | .box false t x0 => match stPtr C ops m (stSlot ops m pt) pt t with
        | some ⟨u, L⟩ => bif !(notDst (stSlot ops m pt) ops) then none else mapK (klA (stSlot ops m pt)) e fun e0 => ev1 C (.old (stSlot ops m pt)) ops (ops.length + 1) R none (ixs 0 ops) ((stSlot ops m pt, .top) :: e0) fun l e1 =>
          match l with
          | []=>none
          | _ :: l' => bif Nat.beq (ops.length - l.length) m && chkS C.n m ops (esOf (ops.take m)) && chkB m ops && needSt m ops y && tyB C.P T ty u then
              match asT u (opv e1 y) with
              | some z=>ev2 C ops l' ((stSlot ops m pt,.box false t (L.set x0 z))::e1) fun e''=>shareK C ops e'' k
              | none=>none
            else none
        | none=>none
      | _=>none
    | _,_,_=>none
  | none=>none
/-- nothing else is put into a slot -/
def onlyDst (s j:Nat) (ops:List Oper):Bool:=allI (fun i o=>Nat.beq i j || (match o.dst with | some d=>!(Nat.beq d s) | none=>true)) 0 ops
def isTop:AV T → Bool
  | .top=>true
  | _=>false
/-- the moves and extracts that may come behind the store -/
def lateL (m:Nat) (ops:List Oper):List Nat:=(List.range m).filter fun l=>!(hasBit (masks ops []) m l) && isPure ops.toArray l
/-- .. where the first store goes into a box that the region makes -/
def evN (C:Cx T) (ops:List Oper) (e:Env T) (k:Env T → Option R):Option R:=
  match stAt ops 0 with
  | some (m, o) => match o.op, o.dst, o.guard with
    | .store ty (.tmp pt) y, none, none => match lastIdx pt (ops.take m) 0 none with
      | some ja => match nth ops ja with
        | some oa => match oa.op, oa.guard with
          | .alloc tya, none => match C.tid tya with
            | some t => ev1 C (.new pt t) ops (ops.length + 1) R none (ixs 0 ops) e fun l e1 =>
              match l with
              | []=>none
              | _ :: l' => bif Nat.beq (ops.length - l.length) m && chkS C.n m ops (esOf (ops.take m)) && chkC m (lateL m ops) ops && lateOk m (lateL m ops) ops.toArray && hasBit (masks ops []) m ja && onlyDst pt ja ops && needSt m ops y && tyB C.P T ty t && zeroB C.P T tya t && isTop (lk e1 pt) && !(isRes (lk e pt)) then
                  match asT t (opv e1 y) with
                  | some z=>ev2 C ops l' ((pt,.box false t z)::e1) fun e''=>shareK C ops e'' k
                  | none=>none
                else none
            | none=>none
          | _,_=>none
        | none=>none
      | none=>none
    | _,_,_=>none
  | none=>none
def newSt (ops:List Oper):Bool:=match stAt ops 0 with
  | some (m, o) => match o.op with
    | .store _ (.tmp pt) _ => match lastIdx pt (ops.take m) 0 none with
      | some ja => match nth ops ja with
        | some oa => match oa.op with
          | .alloc _=>true
          | _=>false
        | none=>false
      | none=>false
    | _=>false
  | none=>false
/-- the box that the first store goes into may be made before other operations -/
def lateA (ops:List Oper):Bool:=match stAt ops 0 with
  | some (m, o) => match o.op with
    | .store _ (.tmp pt) _ => match lastIdx pt (ops.take m) 0 none with
      | some ja=>!((List.range ja).all fun i=>hasBit (masks ops []) ja i)
      | none=>false
    | _=>false
  | none=>false
/-- a type without a zero value that is told of: the block is filled by the next operation -/
def rawB (P:Program) (T:Tb) (ty:TypeId) (t:Tp):Bool:=
  match P.info? ty with
  | some i => match i.zero with
    | some (.agg z)=>(T.e t).agg && Nat.beq z.size (szT T t) && z.toList.all fun v=>v.oneCell'
    | _=>false
  | none=>false
def rawAS (C:Cx T) (e:Env T) (oa os:Oper):Option (Nat × Σ t,T.D t):=
  match oa.op,oa.dst,oa.guard,os.op,os.dst,os.guard with
  | .alloc ty,some d,none,.store ty' (.tmp d') y,none,none=>bif Nat.beq d' d && Nat.blt d C.n && !(sameTmp (.tmp d) y) then (match C.tid ty with
      | some t=>bif !(zeroB C.P T ty t) && rawB C.P T ty t && tyB C.P T ty' t then (match asT t (opv e y) with | some z=>some (d,⟨t,z⟩) | none=>none) else none
      | none=>none) else none
  | _,_,_,_,_,_=>none
def evT (C:Cx T) (ops:List Oper) (l:OpL) (e:Env T) (k:Env T → Option R):Option R:=
  match l with
  | [(_, oa), (_, os)] => match rawAS C e oa os with
    | some (d,⟨t,z⟩)=>put e d (.box false t z) k
    | none=>ev2 C ops l e fun e''=>shareK C ops e'' k
  | l=>ev2 C ops l e fun e''=>shareK C ops e'' k
def evR (C:Cx T) (ops:List Oper) (draw:Bool) (e:Env T) (k:Env T → Option R):Option R:=
  bif draw && (lateSt ops || (newSt ops && lateA ops)) then (bif newSt ops then evN C ops e k else evX C ops e k) else
  ev1 C .no ops (ops.length + 1) R none (ixs 0 ops) e fun l e'=>
    bif (bif draw then chk else chkS) C.n (ops.length - l.length) ops (esOf (ops.take (ops.length - l.length))) then
      evT C ops l e' k
    else none

/-! Control -/
inductive Kd where
  | v (t:Tp) | o (e:TypeId) (t:Tp) | b (t:Tp) | c (m:Nat)
@[reducible] def Kd.D (T:Tb):Kd → Type
  | .v t=>T.D t | .o _ t=>List (T.D t) | .b t=>T.D t | .c m=>T.RD m
abbrev Sp:=List (Nat × Kd)
@[reducible] def SpD (T:Tb):Sp → Type
  | []=>Unit
  | [a]=>a.2.D T
  | a::b::l=>a.2.D T × SpD T (b::l)
def Kd.dflt:(κ:Kd) → κ.D T
  | .v t=>T.dflt t | .o _ _=>[] | .b t=>T.dflt t | .c m=>T.RZ m
def takeS (e:Env T) (s:Nat):(κ:Kd) → Option (κ.D T)
  | .v t=>asT t (nrm (lk e s))
  | .o el t => match lk e s with
    | .own false el' u xs=>bif Nat.beq el el' then cast? (.list u) (.list t) xs else none
    | .e0=>some []
    | _=>none
  | .b t => match lk e s with
    | .box false u x=>cast? u t x
    | _=>none
  | .c m => match lk e s with
    | .rs false m' x => match natSame m' m with
      | some h=>some (h.down ▸ x)
      | none=>none
    | _=>none
/-- the values of the slots of a state; those in ds are not known -/
def take (ds:List Nat) (e:Env T):(sp:Sp) → Option (SpD T sp)
  | []=>some ()
  | [a]=>bif ds.contains a.1 then some a.2.dflt else takeS e a.1 a.2
  | a :: b :: l => match (bif ds.contains a.1 then some a.2.dflt else takeS e a.1 a.2), take ds e (b :: l) with
    | some x,some y=>some (x,y)
    | _,_=>none
def vSlots (ds:List Nat):Sp → List Operand
  | []=>[]
  | (s,.v _)::l=>bif ds.contains s then vSlots ds l else .tmp s::vSlots ds l
  | _::l=>vSlots ds l
/-- .. and what need not be written to any more is handed over first -/
def takeF (ds:List Nat) (e:Env T) (sp:Sp) (k:SpD T sp → Option R):Option R:=
  frz e (vSlots ds sp) fun e'=>match take ds e' sp with
    | some s=>k s
    | none=>none
def avK:(κ:Kd) → κ.D T → AV T
  | .v t,x=>mkv t x
  | .o e t,x=>.own false e t x
  | .b t,x=>.box false t x
  | .c m,x=>.rs false m x
def give (xs:List Nat):(sp:Sp) → SpD T sp → Env T → Env T
  | [],_,e=>e
  | [a],x,e=>(a.1,bif xs.contains a.1 then .top else avK a.2 x)::e
  | a::b::l,x,e=>(a.1,bif xs.contains a.1 then .top else avK a.2 x.1)::give xs (b::l) x.2 e

def wrs:Code → List Nat
  | .region _ A _=>A.toList.filterMap (·.dst)
  | .seq a b=>wrs a ++ wrs b
  | .cond _ a b=>wrs a ++ wrs b
  | .block _ a=>wrs a
  | .loop a=>wrs a
  | _=>[]
/-- what stays of an environment over a piece of code -/
def keepA (lock:Bool) (W:List Nat):AV T → AV T
  | .v t x=>.v t x
  | .fl t xs=>.fl t xs
  | .ref t x=>.ref t x
  | .e0=>.e0
  | .nil=>.nil
  | .own b e t xs=>.own (lock || b) e t xs
  | .box b t x=>.box (lock || b) t x
  | .rs b m x=>.rs (lock || b) m x
  | .tq l=>.tq l
  | .tr b κ x l=>.tr (lock || b) κ x l
  | .al s=>bif W.contains s then .top else .al s
  | .mv f s=>bif W.contains s then .top else .mv f s
  | _=>.top
def keepK (lock:Bool) (W:List Nat) (Wd:List Nat):Env T → (Env T → Option R) → Option R
  | [],k=>k []
  | (t,a)::e,k=>keepK lock W Wd e fun e'=>k (bif W.contains t then e' else (t,bif Wd.contains t then a else keepA lock (W ++ Wd) a)::e')

def lkA:AV T → AV T
  | .own _ el t xs=>.own true el t xs
  | .box _ t x=>.box true t x
  | .rs _ m x=>.rs true m x
  | .tr _ κ x l=>.tr true κ x l
  | a=>a
def lockK (W:List Nat):Env T → (Env T → Option R) → Option R
  | [],k=>k []
  | (t,a)::e,k=>lockK W e fun e'=>k ((t,bif W.contains t then a else lkA a)::e')

/-- Of a state: the slots that nothing reads any more, and those of them that are not known. -/
abbrev Ls:=List Nat × List Nat
/-- How a function's code is to be taken. -/
inductive Hn (T:Tb) where
  | n
  | h (i:Nat)
  | s (a b:Hn T)
  | f (l:List Nat) (a:Hn T)
  | j (fz:List Nat) (sp:Sp) (xs:Ls) (a:Hn T)
  | jf (fz:List Nat) (sp:Sp) (xs:Ls) (exs:List (Nat × Ls)) (a:Hn T)
  | l (fz:List Nat) (sp:Sp) (exs:List (Nat × Ls)) (fuel:Env T → Nat) (a:Hn T)
structure Kt (T:Tb) (ρ R:Type) where
  go:Env T → Option R
  ex:Nat → Env T → Option R
  rv:ρ → Option R
def exAt:List (Nat × Ls) → Nat → Option Ls
  | [],_=>none
  | (i,x)::l,j=>bif Nat.beq i j then some x else exAt l j
def exF {ρ:Type} (exs:List (Nat × Ls)) (sp:Sp) (i:Nat) (e:Env T):Option (Flow (SpD T sp) ρ):=
  match exAt exs i with
  | some x=>takeF x.2 e sp fun s=>some (.ex i s)
  | none=>none
def exK {ρ:Type} {sp:Sp} (base:Env T) (K:Kt T ρ R):List (Nat × Ls) → Nat → SpD T sp → Option R
  | [],_,_=>none
  | [(i,x)],_,s=>K.ex i (give (x.1 ++ x.2) sp s base)
  | (i,x)::y::l,j,s=>if j = i then K.ex i (give (x.1 ++ x.2) sp s base) else exK base K (y::l) j s
def resH (C:Cx T) (e:Env T):(l:List Tp) → List ResultVar → Option (HL T.S l)
  | [],[]=>some ()
  | [a],[r]=>resH1 e a r
  | a :: b :: l, r :: rs => match resH1 e a r, resH C e (b :: l) rs with
    | some x,some y=>some (x,y)
    | _,_=>none
  | _,_=>none
where resH1 (e:Env T) (t:Tp):ResultVar → Option (T.D t)
  | .tmp s=>asT t (nrm (lk e s))
  | .cell s ty => match lk e s with
    | .box _ u x=>bif tyB C.P T ty u then cast? u t x else none
    | _=>none
def spW (sp:Sp):List Nat:=sp.map (·.1)
/-- What a function gives: what is turned (in a slot), a result that is its own, and the other results. -/
structure Rv (T:Tb) where
  sl:Nat
  tu:Rk
  ro:Rk
  cod:List Tp
  ρ:Type
  pr:tu.D T × ro.D T × HL T.S cod → ρ
  inj:ρ → tu.D T × ro.D T × HL T.S cod
  hpr : ∀ r,inj (pr r) = r
abbrev Rv.D (T:Tb) (rv:Rv T):Type:=rv.ρ
/-- the results that are values -/
def valRs (ro:Rk) (rs:List ResultVar):List ResultVar:=bif isN ro then rs else rs.tail
def ro1 (e:Env T) (κ:Rk):List ResultVar → Option (κ.D T)
  | .tmp s::_=>takeR κ (lk e s)
  | _=>none
def roR (C:Cx T) (e:Env T):(κ:Rk) → Option (κ.D T)
  | .n=>some ()
  | .o el t=>ro1 e (.o el t) C.rs
  | .b t=>ro1 e (.b t) C.rs
  | .c m=>ro1 e (.c m) C.rs
def slotEq (rs:List ResultVar) (sl:Nat):Bool:=match rs with | .tmp s::_=>Nat.beq s sl | _=>true
def retV (C:Cx T) (e:Env T) (rv:Rv T):Option (rv.D T):=
  bif !(isN rv.tu) && !(isN rv.ro) && slotEq C.rs rv.sl then none else
  match takeR rv.tu (lk e rv.sl),roR C e rv.ro,resH C e rv.cod (valRs rv.ro C.rs) with
  | some y,some w,some r=>some (rv.pr (y,w,r))
  | _,_,_=>none

def ev (C:Cx T) (cod:Rv T):Code → Hn T → (R:Type) → Env T → Kt T (cod.D T) R → Option R
  | .skip,_,_,e,K=>K.go e
  | .region id A d, h, R, e, K => match h with
    | .f l _=>frz e (l.map .tmp) fun e'=>evR C A.toList d e' K.go
    | .h i=>C.hk i (.region id A d) e R K.go
    | _=>evR C A.toList d e K.go
  | .seq a b, h, R, e, K => match h with
    | .s x y=>ev C cod a x R e { K with go:=fun e'=>ev C cod b y R e' K }
    | _=>ev C cod a .n R e { K with go:=fun e'=>ev C cod b .n R e' K }
  | .cond c a b, h, R, e, K => match h with
    | .j fz sp xs (.s x y) => frz e (fz.map .tmp) fun e0 => lockK (wrs a ++ wrs b ++ spW sp) e0 fun e => keepK false (wrs a ++ wrs b) (spW sp) e0 fun e1 => match asB (opv e c) with
      | some m=>(if m then ev C cod a x (SpD T sp) e ⟨fun e'=>takeF xs.2 e' sp some,fun _ _=>none,fun _=>none⟩
          else ev C cod b y (SpD T sp) e ⟨fun e'=>takeF xs.2 e' sp some,fun _ _=>none,fun _=>none⟩).bind fun s=>K.go (give (xs.1 ++ xs.2) sp s e1)
      | none=>none
    | .jf fz sp xs exs (.s x y) => frz e (fz.map .tmp) fun e0 => lockK (wrs a ++ wrs b ++ spW sp) e0 fun e => keepK false (wrs a ++ wrs b) (spW sp) e0 fun e1 => match asB (opv e c) with
      | some m =>
        let K' : Kt T (cod.D T) (Flow (SpD T sp) (cod.D T)):=⟨fun e'=>takeF xs.2 e' sp fun s=>some (.go s),exF exs sp,fun r=>some (.ret r)⟩
        (if m then ev C cod a x _ e K' else ev C cod b y _ e K').bind fun f=>match f with
          | .go s=>K.go (give (xs.1 ++ xs.2) sp s e1)
          | .ex i s=>exK e1 K exs i s
          | .ret r=>K.rv r
      | none=>none
    | .s x y => match asB (opv e c) with
      | some m=>if m then ev C cod a x R e K else ev C cod b y R e K
      | none=>none
    | _ => match asB (opv e c) with
      | some m=>if m then ev C cod a .n R e K else ev C cod b .n R e K
      | none=>none
  | .block id a, h, R, e, K => match h with
    | .j fz sp xs x => frz e (fz.map .tmp) fun e0 => lockK (wrs a ++ spW sp) e0 fun e => keepK false (wrs a) (spW sp) e0 fun e1 =>
      (ev C cod a x (SpD T sp) e ⟨fun e'=>takeF xs.2 e' sp some,fun i e'=>bif Nat.beq i id then takeF xs.2 e' sp some else none,fun _=>none⟩).bind fun s=>K.go (give (xs.1 ++ xs.2) sp s e1)
    | .jf fz sp xs exs x => frz e (fz.map .tmp) fun e0 => lockK (wrs a ++ spW sp) e0 fun e => keepK false (wrs a) (spW sp) e0 fun e1 =>
      (ev C cod a x (Flow (SpD T sp) (cod.D T)) e ⟨fun e' => takeF xs.2 e' sp fun s => some (.go s), fun i e' => bif Nat.beq i id then takeF xs.2 e' sp fun s => some (.go s) else exF exs sp i e', fun r => some (.ret r)⟩).bind fun f => match f with
          | .go s=>K.go (give (xs.1 ++ xs.2) sp s e1)
          | .ex i s=>exK e1 K exs i s
          | .ret r=>K.rv r
    | .h i=>C.hk i (.block id a) e R K.go
    | x=>ev C cod a x R e { K with ex:=fun i e'=>bif Nat.beq i id then K.go e' else K.ex i e' }
  | .loop a, h, _, e, K => match h with
    | .l fz sp exs fuel x => frz e (fz.map .tmp) fun e => keepK true (wrs a) (spW sp) e fun ei => keepK false (wrs a) (spW sp) e fun e1 => match take [] e sp with
      | some s0=>(iterL (fun s=>ev C cod a x (Flow (SpD T sp) (cod.D T)) (give [] sp s ei) ⟨fun e'=>takeF [] e' sp fun s=>some (.go s),exF exs sp,fun r=>some (.ret r)⟩) (fuel e) s0).bind fun f=>match f with
          | .go _=>none
          | .ex i s=>exK e1 K exs i s
          | .ret r=>K.rv r
      | none=>none
    | _=>none
  | .exit i,_,_,e,K=>K.ex i e
  | .ret, _, _, e, K => frz e ((valRs cod.ro C.rs).filterMap fun | .tmp s => some (.tmp s) | _ => none) fun e' => match retV C e' cod with
    | some r=>K.rv r
    | none=>none
  | _,_,_,_,_=>none

/-- the regions and blocks of a code -/
def subs:Code → List Code
  | .region i A d=>[.region i A d]
  | .seq a b=>subs a ++ subs b
  | .cond _ a b=>subs a ++ subs b
  | .block i a=>.block i a::subs a
  | .loop a=>subs a
  | _=>[]
def noHk:Nat → Code → Env T → (R:Type) → (Env T → Option R) → Option R:=fun _ _ _ _ _=>none
def initE:(i:Nat) → (l:List Tp) → HL T.S l → Env T
  | _,[],_=>[]
  | i,[a],x=>[(i,mkv a x)]
  | i,a::b::l,x=>(i,mkv a x.1)::initE (i + 1) (b::l) x.2
/-- What a function gives. -/
def evF (C:Cx T) (c:Code) (h:Hn T) (dom cod:List Tp) (x:HL T.S dom):Option (HL T.S cod):=
  ev C ⟨0,.n,.n,cod,HL T.S cod,fun r=>r.2.2,fun r=>((),(),r),fun _=>rfl⟩ c h (HL T.S cod) (initE 0 dom x) ⟨fun _=>none,fun _ _=>none,some⟩
end Go.Gb

/- General part of the proofs: what the evaluator's environments say of slots. -/
namespace Go.Gb
variable {T:Tb} {R:Type}

def Lens.ok {t u:Tp} (L:Lens T t u):Prop:=
  (∀ (x:T.D t) (ad:Addr) (k:K),At x ad k → At (L.get x) (ad.add L.off) k)∧Upd L.off L.set∧L.off + (T.e u).sz ≤ (T.e t).sz

def Fa2:List (Σ t,T.D t) → List Value → K → Prop
  | [],[],_=>True
  | p::l,v::vs,k=>IsV p.2 v k∧Fa2 l vs k
  | _,_,_=>False
theorem Fa2.le {k k' : K} (h:Le k k') : ∀ {l:List (Σ t,T.D t)} {vs:List Value},Fa2 l vs k → Fa2 l vs k'
  | [],[],_=>trivial
  | _::_,_::_,g=>⟨Pers.pers h g.1,Fa2.le h g.2⟩
theorem Fa2.get {k:K} : ∀ {l:List (Σ t,T.D t)} {vs:List Value} {i:Nat} {p:Σ t,T.D t},Fa2 l vs k → l[i]? = some p → ∃ v,vs[i]? = some v∧IsV p.2 v k
  | p::l,v::vs,0,q,g,h=>by simp at h; subst h; exact ⟨v,rfl,g.1⟩
  | p :: l, v :: vs, i + 1, q, g, h => by
    obtain ⟨u,hu,hv⟩:=Fa2.get g.2 (by simpa using h)
    exact ⟨u,by simpa using hu,hv⟩

/-- What is said of something that is a call's own, and which blocks it is. -/
def Rk.is:(κ:Rk) → κ.D T → Value → K → Prop
  | .n,_,_,_=>True
  | .o e _,xs,v,k=>IsOwn 0 e xs v k
  | .b _,x,v,k=>∃ b,v = .pointer (some ⟨b,0,none⟩)∧Box b x k
  | .c m,x,v,k=>∃ F,T.RP m x F v k
def Rk.fp (T:Tb):Rk → Value → K → FP
  | .n,_,_=>noF
  | .o _ _,v,_=>obF v
  | .b _,v,_=>fun b=>v = .pointer (some ⟨b,0,none⟩)
  | .c m,v,k=>fun b=>∃ (y:T.RD m) (F:FP),T.RP m y F v k∧F b
theorem rp_fp {m:Nat} {x:T.RD m} {F:FP} {v:Value} {k:K} (h:T.RP m x F v k):Rk.fp T (.c m) v k = F:=by
  funext b
  refine propext ⟨fun ⟨y,G,h1,h2⟩=>?_,fun h1=>⟨x,F,h,h1⟩⟩
  rw [T.RPone m x y F G v k h h1]; exact h2
theorem Rk.lt {κ:Rk} {x:κ.D T} {v:Value} {k:K} (h:κ.is x v k) : ∀ b,κ.fp T v k b → b < k.w.heap.size∧¬ k.sh b:=by
  intro b hb
  cases κ with
  | n=>exact hb.elim
  | o e t=>exact ⟨(IsOwn.lt h b hb).2.1,(IsOwn.lt h b hb).2.2⟩
  | b t =>
    obtain ⟨c,e,h⟩:=h
    rw [show v = _ from hb] at e
    simp only [Value.pointer.injEq,Option.some.injEq,Addr.mk.injEq,and_true] at e
    subst e
    exact ⟨h.lt,h.own⟩
  | c m =>
    obtain ⟨F,h⟩:=h
    rw [rp_fp h] at hb
    have:=T.RPok m x
    exact ⟨Rsc.lt h b hb,Rsc.nsh h b hb⟩
/-- under a change of other blocks -/
theorem Rk.keep {κ:Rk} {x:κ.D T} {v:Value} {k k' : K} {G:FP} (h:κ.is x v k) (c:Chg G k k') (hn : ∀ b,G b → ¬ k.sh b) (hf:Apart (κ.fp T v k) G):κ.is x v k'∧κ.fp T v k' = κ.fp T v k:=by
  cases κ with
  | n=>exact ⟨trivial,rfl⟩
  | o e t=>exact ⟨IsOwn.keep h c hf hn,rfl⟩
  | b t=>obtain ⟨b,e,h⟩:=h; exact ⟨⟨b,e,h.keep c (hf b e) hn⟩,rfl⟩
  | c m =>
    obtain ⟨F,h⟩:=h
    have hi:=T.RPok m x
    rw [rp_fp h] at hf ⊢
    have h':=Rsc.keep h c hf hn
    exact ⟨⟨F,h'⟩,rp_fp h'⟩
/-- under a handing over of other blocks -/
theorem Rk.handed {κ:Rk} {x:κ.D T} {v:Value} {k k' : K} {G:FP} (h:κ.is x v k) (c:Handed k k' G) (hf:Apart (κ.fp T v k) G):κ.is x v k'∧κ.fp T v k' = κ.fp T v k:=by
  cases κ with
  | n=>exact ⟨trivial,rfl⟩
  | o e t=>exact ⟨IsOwn.handed h c hf,rfl⟩
  | b t=>obtain ⟨b,e,h⟩:=h; exact ⟨⟨b,e,h.handed c (hf b e)⟩,rfl⟩
  | c m =>
    obtain ⟨F,h⟩:=h
    have hi:=T.RPok m x
    rw [rp_fp h] at hf ⊢
    have h':=Rsc.handed h c hf
    exact ⟨⟨F,h'⟩,rp_fp h'⟩
theorem Rk.grow {κ:Rk} {x:κ.D T} {v:Value} {k k' : K} (h:κ.is x v k) (g:Grow k k'):κ.is x v k'∧κ.fp T v k' = κ.fp T v k:=
  Rk.keep h (Chg.of (F:=noF) g) (fun _ f=>f.elim) (fun _ _ f=>f.elim)
/-- the first part of a tuple -/
def fst0:Value → Value
  | .tuple us=>us[0]?.getD undef
  | v=>v
/-- What is said of a slot's value. -/
def AV.is (a:Act):AV T → Value → K → Prop
  | .top,_,_=>True
  | .any,_,_=>True
  | .nil,y,_=>y = .pointer none
  | .v _ x,y,k=>IsV x y k
  | .e0,y,k=>IsE0 y k
  | .tup l,y,k=>∃ vs:List Value,y = .tuple vs.toArray∧Fa2 l vs k
  | .ref _ x,y,k=>IsRef x y k
  | .fl _ xs,y,k=>IsFull xs y k
  | .own _ e _ xs,y,k=>IsOwn 0 e xs y k
  | .box _ _ x,y,k=>∃ b,y = .pointer (some ⟨b,0,none⟩)∧Box b x k
  | .al s,y,_=>y = a.get s
  | .ab s _ x _ L,y,k=>L.ok∧∃ b,a.get s = .pointer (some ⟨b,0,none⟩)∧y = .pointer (some ⟨b,L.off,none⟩)∧Box b x k
  | .ao s e t xs i x _ L,y,k=>L.ok∧IsAdrO (a.get s) (i * (T.e t).sz + L.off) y k∧IsOwn 0 e xs (a.get s) k∧xs[i]? = some x
  | .rs _ m x,y,k=>(Rk.c m).is x y k
  | .tr _ κ x l,y,k=>∃ (u:Value) (vs:List Value),y = .tuple (u::vs).toArray∧κ.is x u k∧Fa2 l vs k
  | .tq l,y,k=>∃ (u:Value) (vs:List Value),y = .tuple (u::vs).toArray∧Fa2 l vs k
  | .mv f s,y,_=>y = .func (.func f) #[a.get s] #[]
theorem isV_rfT {t:Tp} {x:T.D t} {v:Value} {k:K} : @IsV (T.D (.rf t)) (T.e (.rf t)) x v k ↔ @IsRef (T.D t) (T.e t) x v k:=isV_rf (α:=T.D t) (x:=x) (v:=v) (k:=k)
theorem isV_f0T {b:Tp} {g:T.D (.f0 b)} {v:Value} {k:K} : @IsV (T.D (.f0 b)) (T.e (.f0 b)) g v k ↔ @IsFn0 (T.D b) (T.e b) T.P g v k:=isV_f0 (β:=T.D b) (P:=T.P) (g:=g) (v:=v) (k:=k)
theorem isV_f1T {a b:Tp} {g:T.D (.f1 a b)} {v:Value} {k:K} : @IsV (T.D (.f1 a b)) (T.e (.f1 a b)) g v k ↔ @IsFn1 (T.D a) (T.D b) (T.e a) (T.e b) T.P g v k:=isV_f1 (α:=T.D a) (β:=T.D b) (P:=T.P) (g:=g) (v:=v) (k:=k)
theorem isV_f2T {a b c:Tp} {g:T.D (.f2 a b c)} {v:Value} {k:K} : @IsV (T.D (.f2 a b c)) (T.e (.f2 a b c)) g v k ↔ @IsFn2 (T.D a) (T.D b) (T.D c) (T.e a) (T.e b) (T.e c) T.P g v k:=isV_f2 (α:=T.D a) (β:=T.D b) (γ:=T.D c) (P:=T.P) (g:=g) (v:=v) (k:=k)
theorem mkv_is {a:Act} {t:Tp} {x:T.D t} {v:Value} {k:K}:(mkv t x).is a v k ↔ IsV x v k:=by
  cases t with
  | rf t=>exact isV_rfT.symm
  | _=>exact Iff.rfl
theorem mkv_res {t:Tp} {x:T.D t}:isRes (mkv t x) = false:=by cases t <;> rfl
theorem mkv_ment {t:Tp} {x:T.D t} {s:Nat}:(mkv t x).ment s = false:=by cases t <;> rfl
/-- mentions the blocks behind a slot -/
def AV.ment2:AV T → Nat → Bool
  | .ab s _ _ _ _,t=>Nat.beq s t
  | .ao s _ _ _ _ _ _ _,t=>Nat.beq s t
  | _,_=>false
theorem AV.ment2_ment {av:AV T} {s:Nat} (h:av.ment2 s = true):av.ment s = true:=by
  cases av <;> first | exact h | simp [AV.ment2] at h
/-- the blocks that are a slot's own -/
def AV.fp:AV T → Value → K → FP
  | .own _ _ _ _,y,_=>obF y
  | .box _ _ _,y,_=>fun b=>y = .pointer (some ⟨b,0,none⟩)
  | .rs _ m _,y,k=>Rk.fp T (.c m) y k
  | .tr _ κ _ _,y,k=>Rk.fp T κ (fst0 y) k
  | _,_,_=>noF
def unl:AV T → Bool
  | .own false _ _ _=>true
  | .box false _ _=>true
  | .rs false _ _=>true
  | .tr false _ _ _=>true
  | _=>false

theorem AV.mono {a:Act} (av:AV T) {v:Value} {k k' : K} (g:Grow k k') (h:av.is a v k):av.is a v k':=by
  cases av with
  | top=>trivial
  | any=>trivial
  | nil=>exact h
  | v t x=>exact Mono.mono (R:=IsV x) g h
  | fl t xs=>exact Mono.mono (R:=IsFull xs) g h
  | e0=>exact h
  | tup l=>obtain ⟨vs,e,h⟩:=h; exact ⟨vs,e,h.le g.le⟩
  | ref t x=>exact Mono.mono (R:=IsRef x) g h
  | own b e t xs=>exact Mono.mono (R:=IsOwn 0 e xs) g h
  | box b t x=>obtain ⟨b,e,h⟩:=h; exact ⟨b,e,h.grow g⟩
  | al s=>exact h
  | ab s t x u L=>obtain ⟨h0,b,e1,e2,h⟩:=h; exact ⟨h0,b,e1,e2,h.grow g⟩
  | ao s e t xs i x u L=>exact ⟨h.1,h.2.1,Mono.mono (R:=IsOwn 0 e xs) g h.2.2.1,h.2.2.2⟩
  | rs b m x=>exact (Rk.grow (κ:=.c m) h g).1
  | tr lf κ x l=>obtain ⟨u,vs,e,h1,h2⟩:=h; exact ⟨u,vs,e,(Rk.grow h1 g).1,h2.le g.le⟩
  | tq l=>obtain ⟨u,vs,e,h2⟩:=h; exact ⟨u,vs,e,h2.le g.le⟩
  | mv f s=>exact h
instance {a:Act} {av:AV T}:Mono (av.is a):=⟨fun g h=>av.mono g h⟩

theorem AV.congr {a a' : Act} (av:AV T) {v:Value} {k:K} (e : ∀ s,av.ment s = true → a'.get s = a.get s) (h:av.is a v k):av.is a' v k:=by
  cases av with
  | al s=>exact (show v = a.get s from h).trans (e s (Nat.beq_refl s)).symm
  | ab s t x u L=>obtain ⟨h0,b,e1,r⟩:=h; exact ⟨h0,b,(e s (Nat.beq_refl s)).trans e1,r⟩
  | ao s el t xs i x u L =>
    have e:=e s (Nat.beq_refl s)
    obtain ⟨h0,h1,h2,h3⟩:=h
    exact ⟨h0,by rw [e]; exact h1,by rw [e]; exact h2,h3⟩
  | mv f s=>have e:=e s (Nat.beq_refl s); show v = _; rw [e]; exact h
  | _=>exact h

theorem AV.lt {a:Act} (av:AV T) {v:Value} {k:K} (h:av.is a v k) : ∀ b,av.fp v k b → b < k.w.heap.size∧¬ k.sh b:=by
  intro b hb
  cases av with
  | own l e t xs=>exact ⟨(IsOwn.lt h b hb).2.1,(IsOwn.lt h b hb).2.2⟩
  | box l t x =>
    obtain ⟨c,e,h⟩:=h
    rw [show v = _ from hb] at e
    simp only [Value.pointer.injEq,Option.some.injEq,Addr.mk.injEq,and_true] at e
    subst e
    exact ⟨h.lt,h.own⟩
  | rs l m x=>exact Rk.lt (κ:=.c m) h b hb
  | tr lf κ x l =>
    obtain ⟨u,vs,rfl,h1,h2⟩:=h
    exact Rk.lt h1 b hb
  | _=>exact hb.elim
theorem fp_nonres {av:AV T} (h:isRes av = false) (v:Value) (k:K) (b:Nat) : ¬ av.fp v k b:=by
  intro hb
  cases av with
  | own l e t xs=>simp [isRes] at h
  | box l t x=>simp [isRes] at h
  | rs l m x=>simp [isRes] at h
  | tr lf κ x l=>simp [isRes] at h
  | _=>exact hb.elim
theorem unl_res {av:AV T} (h:unl av = true):isRes av = true:=by
  cases av with
  | own l e t xs=>rfl
  | box l t x=>rfl
  | rs l m x=>rfl
  | tr lf κ x l=>rfl
  | _=>simp [unl] at h

def isOB:AV T → Bool
  | .own _ _ _ _=>true
  | .box _ _ _=>true
  | _=>false
/-- under a change of blocks that are not its own -/
theorem AV.keep {a:Act} (av:AV T) {v:Value} {k k' : K} {G:FP} (c:Chg G k k') (hn : ∀ b,G b → ¬ k.sh b) (hf:Apart (av.fp v k) G)
    (hm : ∀ s,av.ment2 s = true → ∀ u:AV T,isOB u = true → u.is a (a.get s) k → Apart (u.fp (a.get s) k) G) (h:av.is a v k):av.is a v k':=by
  have hle:=c.le hn
  cases av with
  | top=>trivial
  | any=>trivial
  | nil=>exact h
  | v t x=>exact Pers.pers (R:=IsV x) hle h
  | fl t xs=>exact Pers.pers (R:=IsFull xs) hle h
  | e0=>exact h
  | tup l=>obtain ⟨vs,e,h⟩:=h; exact ⟨vs,e,h.le hle⟩
  | ref t x=>exact Pers.pers (R:=IsRef x) hle h
  | own b e t xs=>exact IsOwn.keep h c hf hn
  | box b t x=>obtain ⟨b,e,h⟩:=h; exact ⟨b,e,h.keep c (hf b e) hn⟩
  | al s=>exact h
  | ab s t x u L =>
    obtain ⟨h0,b,e1,e2,h⟩:=h
    exact ⟨h0,b,e1,e2,h.keep c (hm s (Nat.beq_refl s) (.box false t x) rfl ⟨b,e1,h⟩ b e1) hn⟩
  | ao s e t xs i x u L =>
    exact ⟨h.1,h.2.1,IsOwn.keep h.2.2.1 c (hm s (Nat.beq_refl s) (.own false e t xs) rfl h.2.2.1) hn,h.2.2.2⟩
  | rs b m x=>exact (Rk.keep (κ:=.c m) h c hn hf).1
  | tr lf κ x l=>obtain ⟨u,vs,rfl,h1,h2⟩:=h; exact ⟨u,vs,rfl,(Rk.keep h1 c hn hf).1,h2.le hle⟩
  | tq l=>obtain ⟨u,vs,e,h2⟩:=h; exact ⟨u,vs,e,h2.le hle⟩
  | mv f s=>exact h
theorem AV.fp_keep {a:Act} (av:AV T) {v:Value} {k k' : K} {G:FP} (c:Chg G k k') (hn : ∀ b,G b → ¬ k.sh b) (hf:Apart (av.fp v k) G) (h:av.is a v k):av.fp v k' = av.fp v k:=by
  cases av with
  | rs b m x=>exact (Rk.keep (κ:=.c m) h c hn hf).2
  | tr lf κ x l=>obtain ⟨u,vs,rfl,h1,h2⟩:=h; exact (Rk.keep h1 c hn hf).2
  | _=>rfl
theorem AV.fp_grow {a:Act} (av:AV T) {v:Value} {k k' : K} (g:Grow k k') (h:av.is a v k):av.fp v k' = av.fp v k:=
  av.fp_keep (Chg.of (F:=noF) g) (fun _ f=>f.elim) (fun _ _ f=>f.elim) h
/-- under a handing over of blocks that are not its own -/
theorem AV.handed {a:Act} (av:AV T) {v:Value} {k k' : K} {G:FP} (c:Handed k k' G) (hf:Apart (av.fp v k) G)
    (hm : ∀ s,av.ment2 s = true → ∀ u:AV T,isOB u = true → u.is a (a.get s) k → Apart (u.fp (a.get s) k) G) (h:av.is a v k):av.is a v k':=by
  have hle:=c.le
  cases av with
  | top=>trivial
  | any=>trivial
  | nil=>exact h
  | v t x=>exact Pers.pers (R:=IsV x) hle h
  | fl t xs=>exact Pers.pers (R:=IsFull xs) hle h
  | e0=>exact h
  | tup l=>obtain ⟨vs,e,h⟩:=h; exact ⟨vs,e,h.le hle⟩
  | ref t x=>exact Pers.pers (R:=IsRef x) hle h
  | own b e t xs=>exact IsOwn.handed h c hf
  | box b t x=>obtain ⟨b,e,h⟩:=h; exact ⟨b,e,h.handed c (hf b e)⟩
  | al s=>exact h
  | ab s t x u L =>
    obtain ⟨h0,b,e1,e2,h⟩:=h
    exact ⟨h0,b,e1,e2,h.handed c (hm s (Nat.beq_refl s) (.box false t x) rfl ⟨b,e1,h⟩ b e1)⟩
  | ao s e t xs i x u L =>
    exact ⟨h.1,h.2.1,IsOwn.handed h.2.2.1 c (hm s (Nat.beq_refl s) (.own false e t xs) rfl h.2.2.1),h.2.2.2⟩
  | rs b m x=>exact (Rk.handed (κ:=.c m) h c hf).1
  | tr lf κ x l=>obtain ⟨u,vs,rfl,h1,h2⟩:=h; exact ⟨u,vs,rfl,(Rk.handed h1 c hf).1,h2.le hle⟩
  | tq l=>obtain ⟨u,vs,e,h2⟩:=h; exact ⟨u,vs,e,h2.le hle⟩
  | mv f s=>exact h
theorem AV.fp_handed {a:Act} (av:AV T) {v:Value} {k k' : K} {G:FP} (c:Handed k k' G) (hf:Apart (av.fp v k) G) (h:av.is a v k):av.fp v k' = av.fp v k:=by
  cases av with
  | rs b m x=>exact (Rk.handed (κ:=.c m) h c hf).2
  | tr lf κ x l=>obtain ⟨u,vs,rfl,h1,h2⟩:=h; exact (Rk.handed h1 c hf).2
  | _=>rfl

theorem beq_ne {s t:Nat} (h:s ≠ t):Nat.beq s t = false:=by
  cases hb:Nat.beq s t with
  | true=>exact absurd (Nat.eq_of_beq_eq_true hb) h
  | false=>rfl
theorem kl_or (d:Nat) (x:AV T):kl d x = x ∨ kl d x = .top:=by
  unfold kl
  split
  · cases Nat.beq _ d <;> simp
  · cases Nat.beq _ d <;> simp
  · exact .inl rfl
theorem klA_or (d:Nat) (x:AV T):klA d x = x ∨ klA d x = .top:=by
  unfold klA
  split
  · cases Nat.beq _ d <;> simp
  · cases Nat.beq _ d <;> simp
  · exact kl_or d _
theorem klA_ment {d s:Nat} {x:AV T} (h:(klA d x).ment s = true):x.ment s = true∧s ≠ d:=by
  have ne : ∀ s' : Nat,Nat.beq s' d = false → Nat.beq s' s = true → s ≠ d:=fun s' h1 h2 e=>by
    rw [← e,h2] at h1; simp at h1
  cases x with
  | al s' =>
    simp only [klA] at h
    cases hb:Nat.beq s' d with
    | true=>rw [hb] at h; simp [AV.ment] at h
    | false=>rw [hb] at h; exact ⟨h,ne _ hb h⟩
  | mv f s' =>
    simp only [klA] at h
    cases hb:Nat.beq s' d with
    | true=>rw [hb] at h; simp [AV.ment] at h
    | false=>rw [hb] at h; exact ⟨h,ne _ hb h⟩
  | ab s' t x u L =>
    simp only [klA,kl] at h
    cases hb:Nat.beq s' d with
    | true=>rw [hb] at h; simp [AV.ment] at h
    | false=>rw [hb] at h; exact ⟨h,ne _ hb h⟩
  | ao s' e t xs i x u L =>
    simp only [klA,kl] at h
    cases hb:Nat.beq s' d with
    | true=>rw [hb] at h; simp [AV.ment] at h
    | false=>rw [hb] at h; exact ⟨h,ne _ hb h⟩
  | _=>simp [klA,kl,AV.ment] at h
theorem kl_ment {d s:Nat} {x:AV T} (h:(kl d x).ment s = true):x.ment s = true:=by
  rcases kl_or d x with e | e
  · rwa [e] at h
  · rw [e] at h; simp [AV.ment] at h
theorem kl_ment2 {d s:Nat} {x:AV T} (h:(kl d x).ment2 s = true):x.ment2 s = true∧s ≠ d:=by
  have ne : ∀ s' : Nat,Nat.beq s' d = false → Nat.beq s' s = true → s ≠ d:=fun s' h1 h2 e=>by
    rw [← e,h2] at h1; simp at h1
  cases x with
  | ab s' t x u L =>
    simp only [kl] at h
    cases hb:Nat.beq s' d with
    | true=>rw [hb] at h; simp [AV.ment2] at h
    | false=>rw [hb] at h; exact ⟨h,ne _ hb h⟩
  | ao s' e t xs i x u L =>
    simp only [kl] at h
    cases hb:Nat.beq s' d with
    | true=>rw [hb] at h; simp [AV.ment2] at h
    | false=>rw [hb] at h; exact ⟨h,ne _ hb h⟩
  | _=>simp [kl,AV.ment2] at h
theorem klA_res {d:Nat} {x:AV T} (h:isRes x = true):klA d x = x:=by
  cases x <;> first | rfl | simp [isRes] at h
theorem kl_res {d:Nat} {x:AV T} (h:isRes x = true):kl d x = x:=by
  cases x <;> first | rfl | simp [isRes] at h
theorem lk_cons (s:Nat) (x:AV T) (e:Env T) (t:Nat):lk ((s,x)::e) t = if s = t then x else lk e t:=by
  simp only [lk]
  by_cases h:s = t
  · subst h; simp [Nat.beq_refl]
  · rw [beq_ne h]; simp [h]
def mapE (f:AV T → AV T) (e:Env T):Env T:=e.map fun p=>(p.1,f p.2)
theorem mapK_eq (f:AV T → AV T) : ∀ (e:Env T) (k:Env T → Option R),mapK f e k = k (mapE f e)
  | [],_=>rfl
  | (t,a)::e,k=>by rw [mapK,mapK_eq f e]; rfl
theorem lk_mapE {f:AV T → AV T} (hf:f .top = .top) : ∀ (e:Env T) (t:Nat),lk (mapE f e) t = f (lk e t)
  | [],t=>hf.symm
  | (s, x) :: e, t => by
    show lk ((s,f x)::mapE f e) t = _
    rw [lk_cons,lk_cons,lk_mapE hf e]
    split <;> rfl

/-- The package-level variables hold what the table says. -/
def GOk (T:Tb) (k:K):Prop:=(∀ g t x,T.gl g = some ⟨t,x⟩ → IsRef (α:=T.D t) x (.pointer (some ⟨g,0,none⟩)) k)∧∀ g,T.gi = some g → ∃ m:Int,IsRef m (.pointer (some ⟨g,0,none⟩)) k
theorem GOk.le {k k' : K} (h:Le k k') (g:GOk T k):GOk T k':=⟨fun i t x e=>Pers.pers h (g.1 i t x e),fun i e=>(g.2 i e).imp fun _ r=>Pers.pers h r⟩
/-- What an environment says. -/
structure Hl (n:Nat) (F:FP) (k0:K) (W:List Nat) (a0:Act) (e:Env T) (a:Act) (k:K):Prop where
  g:Chg F k0 k
  s:a.tmps.size = n
  d:a.defers = []
  old : ∀ t,t ∉ W → a.get t = a0.get t
  sl : ∀ t,(lk e t).is a (a.get t) k
  inv : ∀ t s,(lk e t).ment s = true → isRes (lk e s) = true
  wr : ∀ t,unl (lk e t) = true → Wr F k0 ((lk e t).fp (a.get t) k)
  ap : ∀ t t', t ≠ t' → Apart ((lk e t).fp (a.get t) k) ((lk e t').fp (a.get t') k)
  gl:GOk T k

section
variable {n:Nat} {F:FP} {k0:K} {W:List Nat} {a0:Act} {e:Env T} {a a' : Act} {k k' : K}

theorem Hl.lt (h:Hl n F k0 W a0 e a k) (t:Nat) : ∀ b,(lk e t).fp (a.get t) k b → b < k.w.heap.size∧¬ k.sh b:=(lk e t).lt (h.sl t)

/-- what a slot that is mentioned is like -/
theorem Hl.apm (h:Hl n F k0 W a0 e a k) {s s0:Nat} (hs:isRes (lk e s) = true) (hne:s ≠ s0) {u:AV T} (hu:isOB u = true) (hi:u.is a (a.get s) k) :
    Apart (u.fp (a.get s) k) ((lk e s0).fp (a.get s0) k):=by
  have hap:=h.ap s s0 hne
  have hsl:=h.sl s
  have key : ∀ b,u.fp (a.get s) k b → (lk e s).fp (a.get s) k b:=by
    intro b hb
    generalize lk e s = x at hs hsl
    generalize a.get s = v at *
    cases u with
    | own l e' t xs => cases x with
      | own l' e'' t' xs'=>exact hb
      | box l' t' x'=>obtain ⟨c,rfl,_⟩:=hsl; simp [AV.fp,obF,ob] at hb
      | rs l' m z =>
        obtain ⟨F,h1⟩:=hsl
        show Rk.fp T (.c m) v k b
        rw [rp_fp h1]
        exact T.RProot _ _ _ _ _ _ h1 (.inr hb)
      | tr lf κ z l' =>
        obtain ⟨u,vs,rfl,_⟩:=hsl
        simp [AV.fp,obF,ob] at hb
      | _=>simp [isRes] at hs
    | box l t y => cases x with
      | own l' e'' t' xs' =>
        obtain ⟨c,rfl,_⟩:=hi
        rcases (show IsOwn 0 e'' xs' _ k from hsl) with ⟨e1,_⟩ | ⟨_,e1,_⟩ | ⟨_,_,_,_,_,e1,_⟩ <;> simp at e1
      | box l' t' x'=>exact hb
      | rs l' m z =>
        obtain ⟨F,h1⟩:=hsl
        show Rk.fp T (.c m) v k b
        rw [rp_fp h1]
        exact T.RProot _ _ _ _ _ _ h1 (.inl hb)
      | tr lf κ z l' =>
        obtain ⟨u,vs,rfl,_⟩:=hsl
        obtain ⟨c,e,_⟩:=hi
        simp at e
      | _=>simp [isRes] at hs
    | _=>simp [isOB] at hu
  exact fun b hb=>hap b (key b hb)

/-- A new value in a slot. -/
theorem Hl.put (h:Hl n F k0 W a0 e a k) {d:Nat} {av:AV T} (hd:d ∈ W) (hg:Grow k k') (hs:a'.tmps.size = a.tmps.size) (hdf:a'.defers = a.defers)
    (ho : ∀ t,t ≠ d → a'.get t = a.get t) (hv:av.is a' (a'.get d) k') (hm : ∀ s,av.ment s = true → isRes (lk e s) = true)
    (hw:unl av = true → Wr F k0 (av.fp (a'.get d) k')) (ha : ∀ t,t ≠ d → Apart (av.fp (a'.get d) k') ((lk e t).fp (a.get t) k)) {r:R} {K:Env T → Option R} (hk:Gb.put e d av K = some r) :
    ∃ e', K e' = some r ∧ Hl n F k0 W a0 e' a' k' ∧ lk e' d = av ∧ ∀ t, t ≠ d → lk e' t = lk e t ∨ lk e' t = .top := by
  have fin:(av.ment d = false) → ∀ e1:Env T,(∀ t,t ≠ d → lk e1 t = lk e t ∨ lk e1 t = .top) → (∀ t s,t ≠ d → (lk e1 t).ment s = true → s ≠ d) → (∀ s,isRes (lk e s) = true → s ≠ d → lk e1 s = lk e s) → Hl n F k0 W a0 ((d,av)::e1) a' k'∧lk ((d,av)::e1) d = av∧∀ t,t ≠ d → lk ((d,av)::e1) t = lk e t ∨ lk ((d,av)::e1) t = .top:=by
    intro hmd e1 h1 h2 h3
    have lkt : ∀ t,t ≠ d → lk ((d,av)::e1) t = lk e1 t:=fun t ht=>by rw [lk_cons,if_neg (Ne.symm ht)]
    have lkd:lk ((d,av)::e1) d = av:=by rw [lk_cons,if_pos rfl]
    refine ⟨?_,lkd,fun t ht=>by rw [lkt t ht]; exact h1 t ht⟩
    refine ⟨h.g.then hg,hs.trans h.s,hdf.trans h.d,fun t ht=>?_,fun t=>?_,fun t s hms=>?_,fun t hu=>?_,fun t t' hne=>?_,h.gl.le hg.le⟩
    · rw [ho t (fun e=>ht (e ▸ hd))]; exact h.old t ht
    · by_cases ht : t = d
      · subst ht; rw [lkd]; exact hv
      · rw [lkt t ht, ho t ht]
        rcases h1 t ht with e1' | e1'
        · rw [e1']
          refine (lk e t).congr (fun s hs'=>ho s (h2 t s ht (by rw [e1']; exact hs'))) ((lk e t).mono hg (h.sl t))
        · rw [e1']; trivial
    · by_cases ht : t = d
      · subst ht; rw [lkd] at hms
        have h5:=hm s hms
        have h4:s ≠ t:=fun e=>by rw [e,hmd] at hms; simp at hms
        rw [lkt s h4,h3 s h5 h4]; exact h5
      · rw [lkt t ht] at hms
        have h4:=h2 t s ht hms
        rcases h1 t ht with e1' | e1'
        · rw [e1'] at hms
          have h5:=h.inv t s hms
          rw [lkt s h4,h3 s h5 h4]; exact h5
        · rw [e1'] at hms; simp [AV.ment] at hms
    · by_cases ht : t = d
      · subst ht; rw [lkd] at hu ⊢; exact hw hu
      · rw [lkt t ht] at hu ⊢
        rw [ho t ht]
        rcases h1 t ht with e1' | e1'
        · rw [e1'] at hu ⊢; rw [AV.fp_grow _ hg (h.sl t)]; exact h.wr t hu
        · rw [e1'] at hu; simp [unl] at hu
    · have sub : ∀ t, t ≠ d → ∀ b, (lk ((d, av) :: e1) t).fp (a'.get t) k' b → (lk e t).fp (a.get t) k b := by
        intro t ht b hb
        rw [lkt t ht,ho t ht] at hb
        rcases h1 t ht with e1' | e1'
        · rw [e1', AV.fp_grow _ hg (h.sl t)] at hb; exact hb
        · rw [e1'] at hb; exact hb.elim
      by_cases ht:t = d
      · subst ht
        rw [lkd]
        exact fun b hb hb'=>ha t' (Ne.symm hne) b hb (sub t' (Ne.symm hne) b hb')
      · by_cases ht' : t' = d
        · subst ht'
          rw [lkd]
          exact fun b hb hb'=>ha t ht b hb' (sub t ht b hb)
        · exact fun b hb hb'=>h.ap t t' hne b (sub t ht b hb) (sub t' ht' b hb')
  unfold Gb.put at hk
  cases hmd:av.ment d with
  | true=>rw [hmd] at hk; simp at hk
  | false=>
  rw [hmd] at hk
  simp only [cond_false] at hk
  cases hr:isRes (lk e d) with
  | true =>
    rw [hr] at hk
    simp only [cond_true] at hk
    rw [mapK_eq] at hk
    have hl : ∀ t,lk (mapE (klA d) e) t = klA d (lk e t):=fun t=>lk_mapE rfl e t
    refine ⟨_,hk,fin hmd _ (fun t _=>?_) (fun t s _ hms=>?_) (fun s hsr _=>?_)⟩
    · rw [hl]; exact klA_or d _
    · rw [hl] at hms
      exact (klA_ment hms).2
    · rw [hl]; exact klA_res hsr
  | false =>
    rw [hr] at hk
    simp only [cond_false] at hk
    refine ⟨_,hk,fin hmd e (fun t _=>.inl rfl) (fun t s _ hms=>?_) (fun s _ _=>rfl)⟩
    intro e'; subst e'
    have:=h.inv t s hms
    rw [hr] at this; simp at this
end
end Go.Gb


