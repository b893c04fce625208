/- The general part of the proofs (no program in sight): worlds with shared blocks, regions, operations, calls, loops, what comes in as data, part 4 -/
import Derived.Test.YtljfakcblkdhbaaDoorL3
set_option linter.unusedVariables false
set_option linter.unusedSimpArgs false
/- General part of the proofs: a slice of the call's own, of numbers with slices of the call's own. -/
namespace Go.Gb
set_option linter.unusedSectionVars false
section
variable {α:Type} [Enc α] {P:Program} {o:Oper} {a:Act} {k k' k0:K} {F G:FP} {E e:TypeId} {v:Value}

def rawP (t:Int × Value × List α):Int × RawV:=(t.1,⟨t.2.1⟩)
def cntP (t:Int × Value × List α):Int × List α:=(t.1,t.2.2)
structure PartsOk (e:TypeId) (T:List (Int × Value × List α)) (k:K):Prop where
  own : ∀ (i:Nat) t,T[i]? = some t → IsOwn 0 e t.2.2 t.2.1 k
  ap : ∀ (i j:Nat) s t,T[i]? = some s → T[j]? = some t → i ≠ j → Apart (obF s.2.1) (obF t.2.1)
def partsF (T:List (Int × Value × List α)):FP:=fun c=>∃ (i:Nat) (t:_),T[i]? = some t∧obF t.2.1 c
theorem PartsOk.keep {T:List (Int × Value × List α)} (h:PartsOk e T k) (g:Chg G k k') (hs:Apart (partsF T) G) (hn : ∀ b,G b → ¬ k.sh b):PartsOk e T k':=
  ⟨fun i t ht=>(h.own i t ht).keep g (fun c hc=>hs c ⟨i,t,ht,hc⟩) hn,h.ap⟩
theorem PartsOk.handed {T:List (Int × Value × List α)} (h:PartsOk e T k) (g:Handed k k' G) (hs:Apart (partsF T) G):PartsOk e T k':=
  ⟨fun i t ht=>(h.own i t ht).handed g (fun c hc=>hs c ⟨i,t,ht,hc⟩),h.ap⟩
/-- A slice of the call's own, of numbers with slices of the call's own. -/
def PilR (E e:TypeId) (m:List (Int × List α)):FP → Pred:=fun F v k=>
  E ≠ e∧∃ T:List (Int × Value × List α),m = T.map cntP∧IsOwn 0 E (T.map rawP) v k∧PartsOk e T k∧F = fun c=>obF v c ∨ partsF T c
instance (m:List (Int × List α)):Rsc (PilR E e m) where
  keep:=fun ⟨hne,T,e1,ho,hp,eF⟩ g hs hn=>⟨hne,T,e1,ho.keep g (fun c hc=>hs c (by rw [eF]; exact .inl hc)) hn,hp.keep g (fun c hc=>hs c (by rw [eF]; exact .inr hc)) hn,eF⟩
  handed:=fun ⟨hne,T,e1,ho,hp,eF⟩ g hs=>⟨hne,T,e1,ho.handed g (fun c hc=>hs c (by rw [eF]; exact .inl hc)),hp.handed g (fun c hc=>hs c (by rw [eF]; exact .inr hc)),eF⟩
  lt:=fun ⟨hne,T,e1,ho,hp,eF⟩ c hc=>by
    rw [eF] at hc
    rcases hc with hc | ⟨i,t,ht,hc⟩
    · exact ho.ltF c hc
    · exact (hp.own i t ht).ltF c hc
  nsh:=fun ⟨hne,T,e1,ho,hp,eF⟩ c hc=>by
    rw [eF] at hc
    rcases hc with hc | ⟨i,t,ht,hc⟩
    · exact ho.nshF c hc
    · exact (hp.own i t ht).nshF c hc
theorem PilR.nil (hne:E ≠ e):PilR (α:=α) E e [] noF (.slice none 0 0) k:=by
  refine ⟨hne,[],rfl,.inl ⟨rfl,rfl⟩,⟨fun i t h=>by simp at h,fun i j s t h=>by simp at h⟩,?_⟩
  funext c
  refine propext ⟨False.elim,?_⟩
  rintro (h | ⟨i,t,h,_⟩)
  · simp [obF,ob] at h
  · simp at h
/-- One slice is another one now. -/
theorem PilR.set {T:List (Int × Value × List α)} {i:Nat} {t:Int × Value × List α} {u:Value} {xs:List α} (hne:E ≠ e) (hi:T[i]? = some t) (ho:IsOwn 0 E ((T.map rawP).set i (t.1,⟨u⟩)) v k)
    (hp : ∀ (j:Nat) s,T[j]? = some s → j ≠ i → IsOwn 0 e s.2.2 s.2.1 k) (hpa : ∀ (i j:Nat) s t,T[i]? = some s → T[j]? = some t → i ≠ j → Apart (obF s.2.1) (obF t.2.1)) (hu:IsOwn 0 e xs u k) (ha : ∀ (j:Nat) s,T[j]? = some s → j ≠ i → Apart (obF s.2.1) (obF u)) :
    PilR E e ((T.map cntP).set i (t.1,xs)) (fun c=>obF v c ∨ partsF (T.set i (t.1,u,xs)) c) v k:=by
  have hlt:i < T.length:=(List.getElem?_eq_some_iff.1 hi).1
  have get : ∀ (j:Nat) s,(T.set i (t.1,u,xs))[j]? = some s → (j = i∧s = (t.1,u,xs)) ∨ (j ≠ i∧T[j]? = some s):=by
    intro j s h
    by_cases hj:j = i
    · subst hj; rw [List.getElem?_set_self hlt] at h; exact .inl ⟨rfl,(Option.some.inj h).symm⟩
    · rw [List.getElem?_set_ne (fun e=>hj e.symm)] at h; exact .inr ⟨hj,h⟩
  refine ⟨hne,T.set i (t.1,u,xs),by rw [List.map_set]; rfl,by rw [List.map_set]; exact ho,⟨fun j s h=>?_,fun j l s s' h h' hjl=>?_⟩,rfl⟩
  · rcases get j s h with ⟨_, rfl⟩ | ⟨hj, h⟩
    · exact hu
    · exact hp j s h hj
  · rcases get j s h with ⟨rfl, rfl⟩ | ⟨hj, h1⟩
    · rcases get l s' h' with ⟨rfl, rfl⟩ | ⟨hl, h2⟩
      · exact absurd rfl hjl
      · exact (ha l s' h2 hl).symm
    · rcases get l s' h' with ⟨rfl, rfl⟩ | ⟨hl, h2⟩
      · exact ha j s h1 hj
      · exact hpa j l s s' h1 h2 hjl
/-- One more. -/
theorem PilR.push {T:List (Int × Value × List α)} {n:Int} {u:Value} {xs:List α} (hne:E ≠ e) (ho:IsOwn 0 E (T.map rawP ++ [(n,⟨u⟩)]) v k) (hp:PartsOk e T k) (hu:IsOwn 0 e xs u k) (ha:Apart (partsF T) (obF u)) :
    PilR E e (T.map cntP ++ [(n,xs)]) (fun c=>obF v c ∨ partsF (T ++ [(n,u,xs)]) c) v k:=by
  have get : ∀ (j:Nat) s,(T ++ [(n,u,xs)])[j]? = some s → (j = T.length∧s = (n,u,xs)) ∨ (j < T.length∧T[j]? = some s):=by
    intro j s h
    rcases Nat.lt_trichotomy j T.length with hj | hj | hj
    · rw [List.getElem?_append_left hj] at h; exact .inr ⟨hj,h⟩
    · subst hj; simp at h; exact .inl ⟨rfl,h.symm⟩
    · rw [List.getElem?_eq_none (by simp; omega)] at h; simp at h
  refine ⟨hne,T ++ [(n,u,xs)],by simp [cntP],by simpa [rawP] using ho,⟨fun j s h=>?_,fun j l s s' h h' hjl=>?_⟩,rfl⟩
  · rcases get j s h with ⟨_, rfl⟩ | ⟨hj, h⟩
    · exact hu
    · exact hp.own j s h
  · rcases get j s h with ⟨rfl, rfl⟩ | ⟨hj, h1⟩
    · rcases get l s' h' with ⟨rfl, rfl⟩ | ⟨hl, h2⟩
      · exact absurd rfl hjl
      · exact fun c hc hc' => ha c ⟨l, s', h2, hc'⟩ hc
    · rcases get l s' h' with ⟨rfl, rfl⟩ | ⟨hl, h2⟩
      · exact fun c hc=>ha c ⟨j,s,h1,hc⟩
      · exact hp.ap j l s s' h1 h2 hjl
/-- One slice was changed in place. -/
theorem PartsOk.turn {T:List (Int × Value × List α)} {i:Nat} {t:Int × Value × List α} (h:PartsOk e T k) (hi:T[i]? = some t) (g:Chg (obF t.2.1) k k') : ∀ (j:Nat) s,T[j]? = some s → j ≠ i → IsOwn 0 e s.2.2 s.2.1 k':=
  fun j s hs hj=>(h.own j s hs).keep g (h.ap j i s t hs hi hj) (h.own i t hi).nshF
/-- The slice u, whose parts are told by T. -/
def PilAt (u:Value) (E e:TypeId) (T:List (Int × Value × List α)):Pred:=fun v k=>v = u∧IsOwn 0 E (T.map rawP) u k∧PartsOk e T k
theorem PartsOk.grow {T:List (Int × Value × List α)} (h:PartsOk e T k) (g:Grow k k'):PartsOk e T k':=h.keep (Chg.of (F:=noF) g) (fun _ _ f=>f) (fun _ f=>f.elim)
instance {u:Value} {T:List (Int × Value × List α)}:Mono (PilAt u E e T):=⟨fun g ⟨h,h1,h2⟩=>⟨h,Mono.mono g h1,h2.grow g⟩⟩
theorem PilR.open {m:List (Int × List α)} (h:PilR E e m F v k):E ≠ e∧∃ T:List (Int × Value × List α),m = T.map cntP∧PilAt v E e T v k∧F = fun c=>obF v c ∨ partsF T c:=
  let ⟨hne,T,e1,ho,hp,eF⟩:=h; ⟨hne,T,e1,⟨rfl,ho,hp⟩,eF⟩
section
variable {u:Value} {T:List (Int × Value × List α)} {i:Int} {s:Int × Value × List α} {t st:TypeId} {x y:Operand}
theorem PilAt.own (h:PilAt u E e T v k) (hi:getI T i = some s):IsOwn 0 e s.2.2 s.2.1 k:=h.2.2.own _ _ (getI_spec hi).2.1
end
end
end Go.Gb

/- General part of the proofs: maps that are ranged over, keys that are structs, boxes whose cells are looked at one by one. -/
namespace Go.Gb
open Go.ChangeMaps (setBlock)

/-- A loop whose rounds make a number less. -/
theorem loop_less {P:Program} {c:Code} {Q:Exit → Act → World → Prop} (I:Nat → Act → K → Prop) {a:Act} {k:K} (h0 : ∃ n,I n a k)
    (round : ∀ n a k, I n a k → c.wp P (Exit.then (fun a' w' => ∃ m k', k'.w = w' ∧ m < n ∧ I m a' k') Q) a k.w) : (Code.loop c).wp P Q a k.w := by
  let J:Nat → Act → World → Prop:=fun n a w=>∃ k,k.w = w∧I n a k
  let μ:Act → World → Nat:=fun a w=>open Classical in if h : ∃ n,J n a w then Classical.choose (exists_min h) else 0
  have hμ : ∀ n a w,J n a w → J (μ a w) a w∧μ a w ≤ n:=by
    intro n a w hJ
    have h : ∃ n,J n a w:=⟨n,hJ⟩
    have:=Classical.choose_spec (exists_min h)
    simp only [μ,dif_pos h]
    exact ⟨this.1,this.2 n hJ⟩
  obtain ⟨n0,h0⟩:=h0
  refine wp_loop (fun a w=>∃ n,J n a w) μ ⟨n0,k,rfl,h0⟩ ?_
  rintro a₁ w₁ ⟨n₁,hJ⟩
  obtain ⟨⟨k₁,rfl,hI⟩,_⟩:=hμ n₁ a₁ w₁ hJ
  refine wp_mono (round _ a₁ k₁ hI) fun e a' w' h=>?_
  cases e with
  | normal =>
    obtain ⟨m, k', rfl, hm, hI'⟩ := h
    have hJ' : J m a' k'.w := ⟨k', rfl, hI'⟩
    exact ⟨⟨m,hJ'⟩,Nat.lt_of_le_of_lt (hμ m a' k'.w hJ').2 hm⟩
  | _=>exact h

/-- Block b is a map of the call's own with these entries, which can be ranged over. -/
structure MapC {κ:Type} (kv:κ → Value) (b:Nat) (l:List (κ × Value)) (k:K):Prop where
  own : ¬ k.sh b
  is : ∃ es clk,k.w.heap[b]? = some (.map es clk)∧es.toList.map (fun e=>(e.key,e.val)) = l.map (fun p=>(kv p.1,p.2))∧(∀ e ∈ es.toList,e.born < clk)∧(es.toList.map (·.born)).Nodup
section
variable {P:Program} {o:Oper} {a a0:Act} {k k' k0:K} {R S T:Pred} {κ:Type} {kv:κ → Value} {F G:FP} {b:Nat} {l:List (κ × Value)}
theorem MapC.m (h:MapC kv b l k):MapB kv b l k:=let ⟨es,clk,h1,h2,_⟩:=h.is; ⟨h.own,es,clk,h1,h2⟩
theorem MapC.lt (h:MapC kv b l k):b < k.w.heap.size:=h.m.lt
theorem MapC.keep (h:MapC kv b l k) (g:Chg G k k') (hG : ¬ G b):MapC kv b l k':=by
  have hlt:=h.lt
  obtain ⟨ho,es,clk,h,r⟩:=h
  exact ⟨fun hs=>ho (g.new' b hlt hG hs),es,clk,by rw [g.blk b hlt hG]; exact h,r⟩
theorem MapC.handed (h:MapC kv b l k) (g:Handed k k' G) (hG : ¬ G b):MapC kv b l k':=by
  obtain ⟨ho,es,clk,h,r⟩:=h
  exact ⟨fun hs=>(g.sh b hs).elim ho hG,es,clk,by rw [g.w]; exact h,r⟩
theorem MapC.grow (h:MapC kv b l k) (g:Grow k k'):MapC kv b l k':=h.keep (Chg.of (F:=noF) g) fun f=>f

theorem tail_mapUpdateC [DecidableEq κ] {A:Array Oper} {i:Nat} {rest:List Nat} {Q:Exit → Act → World → Prop} {t kt et:TypeId} {x y z:Operand} {n:κ}
    (ho:nth A.toList i = some o) (hg:o.guard = none) (hop:o.op = .mapUpdate t x y z) (hd:o.dst = none) (KO:KeyOk P kt kv) (hu:P.underlying t = some (.map kt et))
    (hx:a.eval x = .map (some b)) (hy:a.eval y = kv n) (h:MapC kv b l k)
    (next : ∀ k', Chg (Eq b) k k' → k'.w.heap.size = k.w.heap.size → MapC kv b (setK l n (a.eval z)) k' → wpOps P A Q rest a k'.w) : wpOps P A Q (i :: rest) a k.w := by
  obtain ⟨hown,es,clk,hh,hr,hb1,hb2⟩:=h
  have hf:=KO.find l es.toList n k.w hr
  have hlt:b < k.w.heap.size:=(Array.getElem?_eq_some_iff.1 hh).1
  have fin : ∀ (es' : Array MapEntry) (clk' : Nat),es'.toList.map (fun e=>(e.key,e.val)) = (setK l n (a.eval z)).map (fun p=>(kv p.1,p.2)) → (∀ e ∈ es'.toList,e.born < clk') → (es'.toList.map (·.born)).Nodup →
      wpOps P A Q rest a { k.w with heap:=k.w.heap.setIfInBounds b (.map es' clk') }:=by
    intro es' clk' he h1 h2
    let k' : K:=⟨{ k.w with heap:=k.w.heap.setIfInBounds b (.map es' clk') },k.sh,fun i hi=>by have:=k.lt i hi; simpa using this⟩
    refine next k' ⟨rfl, rfl, rfl, by simp [k'], fun c _ hc => (MapKept.heap_set hh).2 c (fun e => hc e.symm), fun _ h => h, fun _ _ h => .inl h, Nat.le_refl _⟩ (by simp [k']) ⟨hown, es', clk', (MapKept.heap_set hh).1, he, h1, h2⟩
  rw [wpOps_cons]
  rw [nth_toList] at ho
  unfold wpOp
  simp only [ho,Region.wanted,hg,if_true]
  refine .inl ?_
  unfold Oper.wp
  have hgo:=MapKept.run_getObj_map (P:=P) hh
  cases hfd:fnd l n 0 with
  | none =>
    rw [hfd] at hf
    have hx' : (execOp a.eval o).run P k.w = .ok .skip { k.w with heap:=k.w.heap.setIfInBounds b (.map (es.push { key:=kv n,val:=a.eval z,born:=clk }) (clk + 1)) }:=by
      simp only [execOp,hop,hx,hy]
      simp [Instr.mapUpdate,run_underlying hu,hgo,KO.check,hf,MapKept.run_setObj_map (P:=P) _ hh]
    rw [hx']
    have:=fin (es.push { key:=kv n,val:=a.eval z,born:=clk }) (clk + 1) (by rw [fnd_none _ _ _ _ hfd]; simp [hr])
      (by
        intro e he
        simp only [Array.toList_push,List.mem_append,List.mem_singleton] at he
        rcases he with he | rfl
        · have:=hb1 e he; omega
        · simp)
      (by
        simp only [Array.toList_push,List.map_append,List.map_cons,List.map_nil]
        rw [List.nodup_append]
        refine ⟨hb2,by simp,fun x hx y hy hxy=>?_⟩
        simp only [List.mem_singleton] at hy
        obtain ⟨e,he,rfl⟩:=List.mem_map.1 hx
        have:=hb1 e he
        omega)
    simpa [Oper.upon,hd,Act.put] using this
  | some p =>
    obtain ⟨j,u⟩:=p
    rw [hfd] at hf
    obtain ⟨_,h2,h3,h4⟩:=fnd_some l n 0 j u (a.eval z) hfd
    simp only [Nat.sub_zero] at h2 h3 h4
    have hkey:((es[j]?).map (·.key)).getD (kv n) = kv n:=by
      have h5:(es.toList.map (fun e=>(e.key,e.val)))[j]? = some (kv n,u):=by rw [hr]; simp [h3]
      simp only [List.getElem?_map,Array.getElem?_toList,Option.map_eq_some_iff,Prod.mk.injEq] at h5
      obtain ⟨e,he,hk,_⟩:=h5
      simp [he,hk]
    have hx' : (execOp a.eval o).run P k.w = .ok .skip { k.w with heap:=k.w.heap.setIfInBounds b (.map (es.modify j fun e=>{ e with key:=kv n,val:=a.eval z }) clk) }:=by
      simp only [execOp,hop,hx,hy]
      simp [Instr.mapUpdate,run_underlying hu,hgo,KO.check,hf,hkey,Instr.keyThatStays,KO.same,MapKept.run_setObj_map (P:=P) _ hh]
    rw [hx']
    have hbm:(es.modify j fun e=>{ e with key:=kv n,val:=a.eval z }).toList.map (·.born) = es.toList.map (·.born):=by
      rw [Array.toList_modify]
      refine List.ext_getElem? fun i=>?_
      simp only [List.getElem?_map,List.getElem?_modify]
      cases hi:es.toList[i]? with
      | none=>simp
      | some e=>by_cases hij:j = i <;> simp [hij]
    have:=fin (es.modify j fun e=>{ e with key:=kv n,val:=a.eval z }) clk (by rw [h4]; exact map_modify hr)
      (by
        intro e he
        have:e.born ∈ (es.modify j fun e=>{ e with key:=kv n,val:=a.eval z }).toList.map (·.born):=List.mem_map_of_mem he
        rw [hbm] at this
        obtain ⟨e', he', h'⟩ := List.mem_map.1 this
        have:=hb1 e' he'
        omega) (by rw [hbm]; exact hb2)
    simpa [Oper.upon,hd,Act.put] using this
theorem ok_makeMapC {t:TypeId} {b0:Nat} (hb0:b0 ≤ k.w.heap.size) (ho:o.op = .makeMap t none):Does P o a k (fun v k=>∃ b,v = .map (some b)∧b0 ≤ b∧MapC kv b [] k):=by
  refine does_run (v:=.map (some k.w.heap.size)) (k':=k.alloc (.map #[] 0)) ?_ (K.alloc_grow k _) ⟨_,rfl,hb0,fun hs=>Nat.lt_irrefl _ (k.lt _ hs),#[],0,heap_alloc_new k.w _,rfl,by simp,by simp⟩
  simp only [execOp,ho]
  simp [Instr.makeMap]
  rfl
instance {b0:Nat}:Mono (fun v k=>∃ b,v = Value.map (some b)∧b0 ≤ b∧MapC kv b [] k):=⟨fun g ⟨b,e,h,m⟩=>⟨b,e,h,m.grow g⟩⟩

/-- The iterator in block r. -/
structure ItAt (r bm since:Nat) (seen:Array Nat) (last:Nat) (k:K):Prop where
  own : ¬ k.sh r
  is:k.w.heap[r]? = some (.mapIter (some bm) since seen last)
theorem ItAt.lt {r bm since:Nat} {seen:Array Nat} {last:Nat} (h:ItAt r bm since seen last k):r < k.w.heap.size:=(Array.getElem?_eq_some_iff.1 h.is).1
theorem ItAt.keep {r bm since:Nat} {seen:Array Nat} {last:Nat} (h:ItAt r bm since seen last k) (g:Chg G k k') (hG : ¬ G r):ItAt r bm since seen last k':=
  ⟨fun hs=>h.own (g.new' r h.lt hG hs),by rw [g.blk r h.lt hG]; exact h.is⟩
theorem ItAt.grow {r bm since:Nat} {seen:Array Nat} {last:Nat} (h:ItAt r bm since seen last k) (g:Grow k k'):ItAt r bm since seen last k':=h.keep (Chg.of (F:=noF) g) fun f=>f
theorem ItAt.handed {r bm since:Nat} {seen:Array Nat} {last:Nat} (h:ItAt r bm since seen last k) (g:Handed k k' G) (hG : ¬ G r):ItAt r bm since seen last k':=
  ⟨fun hs=>(g.sh r hs).elim h.own hG,by rw [g.w]; exact h.is⟩
def IsIt (B bm clk:Nat):Pred:=fun v k=>∃ r,v = .pointer (some ⟨r,0,none⟩)∧B ≤ r∧ItAt r bm clk #[] clk k
instance {B bm clk:Nat}:Mono (IsIt B bm clk):=⟨fun g ⟨r,e,h,m⟩=>⟨r,e,h,m.grow g⟩⟩
theorem ok_range {t kt et:TypeId} {x:Operand} {bm clk B:Nat} {es:Array MapEntry} (hB:B ≤ k.w.heap.size) (ho:o.op = .range t x) (hu:P.underlying t = some (.map kt et)) (hx:a.eval x = .map (some bm)) (hb:k.w.heap[bm]? = some (.map es clk)):Does P o a k (IsIt B bm clk):=by
  refine does_run (v:=.pointer (some ⟨k.w.heap.size,0,none⟩)) (k':=k.alloc (.mapIter (some bm) clk #[] clk)) ?_ (K.alloc_grow k _) ⟨_,rfl,hB,fun hs=>Nat.lt_irrefl _ (k.lt _ hs),heap_alloc_new k.w _⟩
  simp only [execOp,ho,hx]
  simp [run_range_map k.w t kt et bm es clk hu hb,K.alloc]
theorem tail_next {A:Array Oper} {i d r bm since c0 clk:Nat} {seen:Array Nat} {es:Array MapEntry} {rest:List Nat} {Q:Exit → Act → World → Prop} {ty:TypeId} {x:Operand}
    (ho:nth A.toList i = some o) (hg:o.guard = none) (hop:o.op = .next x false) (hd:o.dst = some d) (hda:d < a.tmps.size)
    (hx:a.eval x = .pointer (some ⟨r,0,none⟩)) (hr:ItAt r bm since seen c0 k) (hb:k.w.heap[bm]? = some (.map es clk)) (hold : ∀ e ∈ es.toList,e.born < since) (hsc:since ≤ c0)
    (h1:(leftOf es seen).size = 0 → ∀ a' : Act,a'.tmps.size = a.tmps.size → a'.defers = a.defers → a'.get d = .tuple #[.bool false] → (∀ t,t ≠ d → a'.get t = a.get t) → wpOps P A Q rest a' k.w)
    (h2 : ∀ e ∈ (leftOf es seen).toList,∀ (a' : Act) (k' : K),a'.tmps.size = a.tmps.size → a'.defers = a.defers → a'.get d = .tuple #[.bool true,e.key,e.val] → (∀ t,t ≠ d → a'.get t = a.get t) → Chg (Eq r) k k' → ItAt r bm since (seen.push e.born) clk k' → wpOps P A Q rest a' k'.w) :
    wpOps P A Q (i::rest) a k.w:=by
  rw [wpOps_cons]
  rw [nth_toList] at ho
  unfold wpOp
  simp only [ho,Region.wanted,hg,if_true]
  refine .inl ?_
  unfold Oper.wp
  have put : ∀ v,((a.put (some d) v).tmps.size = a.tmps.size∧(a.put (some d) v).defers = a.defers∧(a.put (some d) v).get d = v∧∀ t,t ≠ d → (a.put (some d) v).get t = a.get t):=fun v=>
    ⟨put_size _ _ _,put_defers' _ _ _,by rw [get_put _ _ _ _ hda]; simp,fun t ht=>by rw [get_put _ _ _ _ hda,if_neg (Ne.symm ht)]⟩
  rcases run_next_at (P:=P) k.w o.type r bm since c0 seen es clk hr.is hb hold hsc with ⟨h0,hrun⟩ | ⟨e,he,w1,hw1,hrun⟩
  · have hx' : (execOp a.eval o).run P k.w = .ok (.value (.tuple #[.bool false])) k.w := by
      simp only [execOp,hop,hx]
      simp [hrun]
    rw [hx']
    simp only [Oper.upon_value,hd]
    obtain ⟨p1,p2,p3,p4⟩:=put (.tuple #[.bool false])
    exact h1 h0 _ p1 p2 p3 p4
  · have hx' : (execOp a.eval o).run P k.w = .ok (.value (.tuple #[.bool true, e.key, e.val])) (setBlock w1 r (.mapIter (some bm) since (seen.push e.born) clk)) := by
      simp only [execOp,hop,hx]
      simp [hrun]
    rw [hx']
    simp only [Oper.upon_value,hd]
    obtain ⟨p1,p2,p3,p4⟩:=put (.tuple #[.bool true,e.key,e.val])
    have hlt:=hr.lt
    have e1:w1.heap = k.w.heap∧w1.tape = k.w.tape∧w1.os = k.w.os∧w1.output = k.w.output∧k.w.drawn ≤ w1.drawn:=by
      rcases hw1 with rfl | rfl
      · exact ⟨rfl,rfl,rfl,rfl,Nat.le_refl _⟩
      · exact ⟨rfl,rfl,rfl,rfl,Nat.le_succ _⟩
    let k' : K:=⟨setBlock w1 r (.mapIter (some bm) since (seen.push e.born) clk),k.sh,fun i hi=>by have:=k.lt i hi; simp [setBlock,e1.1]; exact this⟩
    refine h2 e he _ k' p1 p2 p3 p4 ⟨e1.2.1, e1.2.2.1, e1.2.2.2.1, by simp [k', setBlock, e1.1], fun c hc hcr => ?_, fun _ h => h, fun _ _ h => .inl h, e1.2.2.2.2⟩ ⟨hr.own, ?_⟩
    · simp only [k', setBlock, e1.1]
      rw [Array.getElem?_setIfInBounds_ne (fun e=>hcr e)]
    · simp only [k', setBlock, e1.1]
      rw [Array.getElem?_setIfInBounds_self_of_lt hlt]
theorem ok_entry {x:Operand} {r bm since clk:Nat} {seen:Array Nat} {es:Array MapEntry} {e:MapEntry} (ho:o.op = .entry x) (hx:a.eval x = .pointer (some ⟨r,0,none⟩)) (hr:ItAt r bm since (seen.push e.born) clk k) (hb:k.w.heap[bm]? = some (.map es clk)) (he:e ∈ es.toList) (hn:(es.toList.map (·.born)).Nodup) :
    Does P o a k (Is (.tuple #[e.key,e.val])):=by
  refine does_pure (v:=.tuple #[e.key,e.val]) ?_ rfl
  simp only [execOp,ho,hx]
  simp [run_entry_at k.w r bm since seen es clk e hr.is hb he hn]
theorem ok_extIs {x:Operand} {vs:Array Value} {j:Nat} {w:Value} (ho:o.op = .extract x j) (hx:a.eval x = .tuple vs) (hw:vs[j]? = some w):Does P o a k (Is w):=by
  refine does_pure (v:=w) ?_ rfl
  simp only [execOp,ho,hx]
  simp [Instr.extract,hw]

/-- One cell of a box. -/
theorem ok_loadC {n off:Nat} {cs:List Value} {w:Value} {t:TypeId} {p:Operand} (ho:o.op = .load t p) (ht:Ty P t RawV) (hp:IsAdr b off (a.eval p) k) (hb:Box b (⟨cs⟩:RawC n) k) (hw:cs[off]? = some w):Does P o a k (Is w):=by
  obtain ⟨ho', arr, t', hh, e1, hlen, h1⟩ := hb
  have e1:arr.toList = cs:=e1
  have hlt:off < arr.toList.length:=by rw [e1]; exact (List.getElem?_eq_some_iff.1 hw).1
  have hone:w.oneCell' = true:=h1 w (by rw [e1]; exact List.mem_of_getElem? hw)
  have hat:At (RawV.mk w) ⟨b,off,none⟩ k:=by
    refine ⟨[w], ⟨rfl, hone⟩, rfl, arr, t', (0, 0), hh, by simp at hlt ⊢; omega, fun j hj => ?_⟩
    obtain rfl:j = 0:=by simpa using hj
    rw [← e1] at hw
    simpa using hw
  exact does_weak (ok_load ho ht ⟨_,hp,hat⟩) fun u k' hk hu=>raw_val hu
theorem tail_storeC {A:Array Oper} {i n off:Nat} {cs:List Value} {w:Value} {rest:List Nat} {Q:Exit → Act → World → Prop} {t:TypeId} {p y:Operand}
    (ho:nth A.toList i = some o) (hg:o.guard = none) (hop:o.op = .store t p y) (hd:o.dst = none) (hs:(P.info? t).map (·.size) = some (Enc.sz RawV)) (hoff:off < n)
    (hp:IsAdr b off (a.eval p) k) (hb:Box b (⟨cs⟩:RawC n) k) (hv:a.eval y = w) (h1:w.oneCell' = true)
    (h : ∀ k', Chg (Eq b) k k' → Box b (⟨cs.set off w⟩ : RawC n) k' → wpOps P A Q rest a k'.w) : wpOps P A Q (i :: rest) a k.w :=
  tail_storeB (z:=(⟨w⟩:RawV)) ho hg hop hd hs (updRaw hoff) hp hb (by rw [hv]; exact raw_self h1) h

/-- Keys that are structs. -/
theorem keyEq {kt:TypeId} {α:Type} [Enc α] [DecidableEq α] {kv:α → Value} (hwide:(match P.underlying kt with | some (.array _ _) | some (.struct _)=>true | _=>false) = true) (E:EqOk P kt α) (hv : ∀ x k,IsV x (kv x) k)
    (hc : ∀ (e:Bool) (n:α) (w:World),(Instr.checkKey e 10000 kt (kv n)).run P w = .ok () w) (hs : ∀ n,Instr.sameBits 10000 (kv n) (kv n) = true):KeyOk P kt kv where
  find l es n w h:=by
    rw [run_findKey_eq w hwide]
    have key : ∀ (l:List (α × Value)) (es:List MapEntry) (i:Nat),es.map (fun e=>(e.key,e.val)) = l.map (fun p=>(kv p.1,p.2)) → (Instr.findAsking kt (kv n) es i).run P w = .ok (fnd l n i) w:=by
      intro l
      induction l with
      | nil=>intro es i h; simp at h; subst h; rfl
      | cons p l ih =>
        intro es i h
        cases es with
        | nil=>simp at h
        | cons e es =>
          simp only [List.map_cons,List.cons.injEq,Prod.mk.injEq] at h
          obtain ⟨⟨h1,h2⟩,h3⟩:=h
          obtain ⟨x,v⟩:=p
          have hk:K:=⟨w,fun _=>False,fun _ f=>f.elim⟩
          obtain ⟨_,_,hr⟩:=E.2 hk n x _ _ (hv n hk) (hv x hk)
          simp only [Instr.findAsking,h1,Sem.run_bind,hr,Result.andThen,fnd,h2]
          by_cases hnx:n = x
          · simp [hnx,Sem.run]
          · simp [hnx,ih es (i + 1) h3]
    exact key l es 0 h
  check e n w:=hc e n w
  same n:=hs n
end
end Go.Gb

/- General part of the proofs: the end of an own slice is cleared. -/
namespace Go.Gb
open Go.Proofs Go.RowKit Go.Lib Go.Sort Go.Shelf
section
variable {P:Program} {o:Oper} {a a0:Act} {k k' k0:K} {α:Type} [Enc α] {F G:FP}

/-- The part from m on of a slice in use. -/
def CutAt (u:Value) (m s:Nat):Pred:=fun v _=>∃ b off n c,u = .slice (some ⟨b,off,none⟩) n c∧v = .slice (some ⟨b,off + m * s,none⟩) (n - m) (c - m)
instance (u:Value) (m s:Nat):Pers (CutAt u m s):=⟨fun _ h=>h⟩
theorem ok_sliceCut {t e:TypeId} {x y:Operand} {xs:List α} {u:Value} {B m:Nat} (ho:o.op = .slice t x (some y) none none) (hu:P.underlying t = some (.slice e)) (ht:(P.info? e).map (·.size) = some (Enc.sz α))
    (hx:OwnAt u B e xs (a.eval x) k) (hy:IsV (m:Int) (a.eval y) k) (hm:m < xs.length):Does P o a k (CutAt u m (Enc.sz α)):=by
  have hy:=isV_int.1 hy
  obtain ⟨rfl,hx⟩:=hx
  rcases hx with ⟨_, rfl⟩ | ⟨_, _, rfl⟩ | ⟨b, off, cap, cur, cs, e1, hB, ho', hh, hc, h0', hmx, hcs, hcells, hr⟩
  · simp at hm
  · simp at hm
  · have hsz : ∀ w, (sizeOf e).run P w = .ok (Enc.sz α) w := fun w => run_sizeOf ht
    have b3:=run_sliceBound (P:=P) (i:=(m:Int)) (y:=xs.length) (c:=.sliceB) (w:=k.w) (by omega) (by omega)
    have hbb:(Instr.sliceBounds true xs.length cap (some (.int .i64 (m:Int))) none none).run P k.w = .ok (m,xs.length,cap) k.w:=by
      simp [Instr.sliceBounds,b3]
    have hadd:(⟨b,off,none⟩:Addr).add (m * Enc.sz α) = ⟨b,off + m * Enc.sz α,none⟩:=by
      unfold Addr.add
      split
      · rename_i h; rw [h]; simp
      · rfl
    have hcl : ¬ cap = m:=by omega
    refine does_pure (v:=.slice (some ⟨b,off + m * Enc.sz α,none⟩) (xs.length - m) (cap - m)) ?_ ⟨b,off,xs.length,cap,e1,rfl⟩
    simp [execOp,ho,hy,e1,Instr.sliceAt,Instr.slice,run_underlying hu,hbb,hsz,hcl,hadd]

theorem zeroCells_flat (c:Array Value) (n:Nat):(Builtin.zeroCells c n).toList = (List.replicate n c.toList).flatten:=by
  have h:=flatK_toList (α:=Unit) (enc:=fun _=>c.toList) (n:=c.size) (fun _=>Array.length_toList) (Array.replicate n ())
  have e:flatK (fun _:Unit=>c.toList) c.size (Array.replicate n ()) = Builtin.zeroCells c n:=by
    unfold flatK Builtin.zeroCells
    simp
    intro i _
    rw [getElem!_def]
    cases c[i % c.size]? <;> rfl
  rw [e] at h
  rw [h]
  simp
theorem zero_repL {k:K} {z:α} {cs:List Value} (h:Enc.rep k cs z) : ∀ n,RepL k (List.replicate n cs).flatten (List.replicate n z)
  | 0=>rfl
  | n + 1 => by
    rw [List.replicate_succ,List.replicate_succ,List.flatten_cons]
    exact RepL.cons h (zero_repL h n)

theorem tail_clear {A:Array Oper} {i:Nat} {rest:List Nat} {Q:Exit → Act → World → Prop} {t e:TypeId} {x:Operand} {z:α} {xs:List α} {u:Value} {m:Nat}
    (ho:nth A.toList i = some o) (hg:o.guard = none) (hop:o.op = .call { callee:=.builtin .clear,args:=#[x],argTypes:=#[t] }) (hd:o.dst = none)
    (hu:P.underlying t = some (.slice e)) (hz:Zero P e z) (hm:m < xs.length) (hx:CutAt u m (Enc.sz α) (a.eval x) k) (hv:IsOwn 0 e xs u k)
    (h : ∀ k' : K,Chg (obF u) k k' → IsOwn 0 e (xs.take m ++ List.replicate (xs.length - m) z) u k' → wpOps P A Q rest a k'.w):wpOps P A Q (i::rest) a k.w:=by
  obtain ⟨b,fo,n,c,rfl,e2⟩:=hx
  rcases hv with ⟨e1, rfl⟩ | ⟨ad, e1, rfl⟩ | ⟨b', off, cap, cur, cs, e1, hB, ho', hh, hc, h0, hmx, hcs, hcells, hr⟩
  · simp at hm
  · simp at hm
  · simp only [Value.slice.injEq, Option.some.injEq, Addr.mk.injEq, and_true] at e1
    obtain ⟨⟨rfl,rfl⟩,rfl,rfl⟩:=e1
    obtain ⟨zv,hzv,hzi⟩:=hz
    obtain ⟨cz,hcz,hzr⟩:=isV_cells (hzi k)
    have hzl:cz.toList.length = Enc.sz α:=Enc.len hzr
    have hzs:cz.size = Enc.sz α:=by simpa using hzl
    have hmul:m * Enc.sz α + (xs.length - m) * Enc.sz α = xs.length * Enc.sz α:=by rw [← Nat.add_mul,Nat.add_sub_cancel' (by omega)]
    have hcur:fo + xs.length * Enc.sz α ≤ cur.size:=by have:=Nat.mul_le_mul_right (Enc.sz α) hc; omega
    generalize hzc:(Builtin.zeroCells cz (xs.length - m)).toList = Z
    have hZ:Z = (List.replicate (xs.length - m) cz.toList).flatten:=by rw [← hzc,zeroCells_flat]
    have hZr:RepL k Z (List.replicate (xs.length - m) z):=hZ ▸ zero_repL hzr _
    have hZl:Z.length = (xs.length - m) * Enc.sz α:=by have:=hZr.len; simpa using this
    have hst:=run_storeCells_at P b (fo + m * Enc.sz α) e Z 0 cur k.w hh (by omega) hZr.one
    simp only [Nat.add_zero] at hst
    let k' : K:=⟨_,k.sh,fun j hj=>by
      have:=k.lt j hj
      show j < (k.w.setRow b (cur.toList.take (fo + m * Enc.sz α) ++ Z ++ cur.toList.drop (fo + m * Enc.sz α + Z.length)).toArray).heap.size
      simpa using this⟩
    have honly:Only b k k':=⟨rfl,rfl,rfl,by simp [k'],fun j hj=>setRow_other k.w b j _ hj,rfl,Nat.le_refl _⟩
    rw [wpOps_cons]
    rw [nth_toList] at ho
    unfold wpOp
    simp only [ho,Region.wanted,hg,if_true]
    refine .inl ?_
    unfold Oper.wp
    have hx:(execOp a.eval o).run P k.w = .ok (.value (.tuple #[])) k'.w:=by
      obtain ⟨q,hq⟩ : ∃ q,xs.length - m = q + 1:=⟨xs.length - m - 1,by omega⟩
      rw [hq] at e2 hzc
      simp [execOp,hop,e2,resolve,invoke,builtin,Builtin.clear_,run_underlying hu,hzv,hcz,hzc,hst,k']
    rw [hx]
    have hob:obF (.slice (some ⟨b,fo,none⟩) xs.length c) b:=by simp [obF,ob,Nat.ne_of_gt h0]
    have hl:(xs.take m ++ List.replicate (xs.length - m) z).length = xs.length:=by simp; omega
    have := h k' ⟨honly.tape, honly.os, honly.out, Nat.le_of_eq honly.size.symm, fun c' _ hc' => honly.blk c' (fun e => hc' (by rw [e]; exact hob)), fun c' hc' => hc', fun c' _ hc' => .inl hc', honly.drawn⟩
      (.inr (.inr ⟨b, fo, c, _, _, by rw [hl], hB, ho', setRow_heap k.w b cur _ e _ hh, by rw [hl]; exact hc, h0, hmx, ?_, rfl, ?_⟩))
    · simpa [Oper.upon,hd,Act.put] using this
    · simp only [List.size_toArray, List.length_append, List.length_take, List.length_drop, Array.length_toList]
      omega
    · rw [hl]
      have e3:((cur.toList.take (fo + m * Enc.sz α) ++ Z ++ cur.toList.drop (fo + m * Enc.sz α + Z.length)).drop fo).take (xs.length * Enc.sz α) = cs.take (m * Enc.sz α) ++ Z:=by
        rw [List.append_assoc,List.drop_append_of_le_length (by simp; omega),List.drop_take,Nat.add_sub_cancel_left,← List.append_assoc,List.take_append_of_le_length (by simp; omega)]
        rw [← hcells,List.take_take,Nat.min_eq_left (by omega)]
        rw [List.take_of_length_le (by simp; omega)]
      rw [List.toList_toArray,e3]
      exact ((RepL.take m hr).append hZr).mono (honly.le ho')
end
end Go.Gb

/- General part of the proofs: the order of strings; what is left of a map that is ranged over. -/
namespace Go.Gb
open Go.Proofs Go.RowKit Go.Lib Go.Sort Go.Shelf
section
variable {P:Program} {o:Oper} {a:Act} {k:K}
/-- The order of strings. -/
def bLt (x y:ByteArray):Bool:=Op.bytesLess x.toList y.toList
theorem bLt_iff {x y:ByteArray}:bLt x y = true ↔ x.toList < y.toList:=by
  unfold bLt; rw [bytesLess_eq,decide_eq_true_iff]
theorem ok_ltS {t u:TypeId} {x y:Operand} {b c:ByteArray} (ho:o.op = .binOp .lss t x y u) (hx:IsV b (a.eval x) k) (hy:IsV c (a.eval y) k):Does P o a k (IsV (bLt b c)):=by
  have hx:=isV_str.1 hx; have hy:=isV_str.1 hy
  refine does_pure (v:=.bool (bLt b c)) ?_ (isV_bool.2 rfl)
  simp only [execOp,ho,hx,hy]
  simp [eqGuard,binOp,Op.stringOp,bLt]
theorem ok_gtS {t u:TypeId} {x y:Operand} {b c:ByteArray} (ho:o.op = .binOp .gtr t x y u) (hx:IsV b (a.eval x) k) (hy:IsV c (a.eval y) k):Does P o a k (IsV (!(bLt b c || b.toList == c.toList))):=by
  have hx:=isV_str.1 hx; have hy:=isV_str.1 hy
  refine does_pure (v:=.bool (!(bLt b c || b.toList == c.toList))) ?_ (isV_bool.2 rfl)
  simp only [execOp,ho,hx,hy]
  simp [eqGuard,binOp,Op.stringOp,bLt]
end
theorem bLt_irrefl (x:ByteArray):bLt x x = false:=by
  rw [Bool.eq_false_iff,ne_eq,bLt_iff]; exact List.lt_irrefl _
theorem bLt_trans {x y z:ByteArray} (h:bLt x y = true) (g:bLt y z = true):bLt x z = true:=by
  rw [bLt_iff] at *; exact List.lt_trans h g
theorem toList_inj {x y:ByteArray} (h:x.toList = y.toList):x = y:=by
  have e:=Lib.toList_data x; have e':=Lib.toList_data y
  rw [e,e'] at h
  cases x; cases y
  simp only [Array.toList_inj] at h
  rw [h]
theorem bLt_total {x y:ByteArray} (h:bLt x y = false) (g:bLt y x = false):x = y:=by
  rw [Bool.eq_false_iff,ne_eq,bLt_iff,List.not_lt] at h g
  exact toList_inj (List.le_antisymm g h)
theorem bLt_asymm {x y:ByteArray} (h:bLt x y = true):bLt y x = false:=by
  cases g:bLt y x with
  | false=>rfl
  | true=>have:=bLt_trans h g; rw [bLt_irrefl] at this; cases this
theorem bGt_eq (x y:ByteArray):(!(bLt x y || x.toList == y.toList)) = bLt y x:=by
  cases h:bLt x y with
  | true=>rw [bLt_asymm h]; rfl
  | false =>
    cases g:bLt y x with
    | true =>
      have : ¬ x.toList = y.toList:=fun e=>by rw [toList_inj e,bLt_irrefl] at g; cases g
      simp [this]
    | false=>simp [bLt_total h g]

theorem exit_inBlockE {Q:Exit → Act → World → Prop} {id:Nat} {a:Act} {w:World} (h:Q .normal a w):Exit.inBlock id Q (.exit id) a w:=by
  unfold Exit.inBlock; simp [h]
theorem exit_thenN {K:Act → World → Prop} {Q:Exit → Act → World → Prop} {i:Nat} {a:Act} {w:World} (h:Q (.exit i) a w):Exit.then K Q (.exit i) a w:=h

theorem filter_erase {α:Type} (f:α → Nat) : ∀ (l:List α) (i:Nat) (hi:i < l.length),(l.map f).Nodup → l.filter (fun x=>!(f x == f l[i])) = l.eraseIdx i
  | [],i,hi,_=>absurd hi (Nat.not_lt_zero i)
  | x :: l, 0, _, h => by
    simp only [List.map_cons,List.nodup_cons,List.mem_map,not_exists,not_and] at h
    simp only [List.getElem_cons_zero,List.eraseIdx_cons_zero]
    rw [List.filter_cons_of_neg (by simp)]
    refine List.filter_eq_self.2 fun y hy=>?_
    have:=h.1 y hy
    simp [this]
  | x :: l, i + 1, hi, h => by
    simp only [List.map_cons,List.nodup_cons,List.mem_map,not_exists,not_and] at h
    have hi' : i < l.length:=by simpa using hi
    simp only [List.getElem_cons_succ,List.eraseIdx_cons_succ]
    have hx : ¬ f x = f l[i]:=fun e=>h.1 l[i] (List.getElem_mem hi') e.symm
    rw [List.filter_cons_of_pos (by simp [hx]),filter_erase f l i hi' h.2]
theorem left_push (es:Array MapEntry) (seen:Array Nat) (i:Nat) (hi:i < (leftOf es seen).toList.length) (hn:(es.toList.map (·.born)).Nodup) :
    (leftOf es (seen.push ((leftOf es seen).toList[i]).born)).toList = (leftOf es seen).toList.eraseIdx i:=by
  have h1:((leftOf es seen).toList.map (·.born)).Nodup:=by
    unfold leftOf
    rw [Array.toList_filter]
    exact List.Nodup.sublist (List.Sublist.map _ List.filter_sublist) hn
  rw [← filter_erase (·.born) _ i hi h1]
  generalize (leftOf es seen).toList[i].born = b
  unfold leftOf
  rw [Array.toList_filter,Array.toList_filter,List.filter_filter]
  congr 1
  funext e
  rw [Array.contains_push]
  cases h:seen.contains e.born <;> simp
end Go.Gb

/- General part of the proofs: an empty map that is marked while a region runs in any order, and unmarked behind it; copies of maps. -/
namespace Go.Gb
open Go.Proofs Go.RowKit Go.Lib Go.Sort Go.Shelf
section
variable {P:Program} {o:Oper} {a:Act} {k k' k0:K} {α:Type} [Enc α] {b:Nat}
/-- The same world, with block b not shared. -/
def K.unsh (k:K) (b:Nat):K:=⟨k.w,fun c=>k.sh c∧c ≠ b,fun c h=>k.lt c h.1⟩
theorem Grow.unsh (h:Grow k0 k) (hb:k0.w.heap.size ≤ b):Grow k0 (k.unsh b):=
  ⟨h.tape,h.os,h.out,h.size,h.blk,fun c hc=>⟨h.up c hc,fun e=>by have:=k0.lt c hc; omega⟩,fun c hl hc=>h.new c hl hc.1,h.drawn⟩
theorem IsOwn.unsh [FlatE α] {B:Nat} {e:TypeId} {xs:List α} {v:Value} (h:IsOwn B e xs v k):IsOwn B e xs v (k.unsh b):=by
  rcases h with h | h | ⟨c,off,cap,cur,cs,e1,hB,ho,hh,hc,h0,hm,hf,hcs,hr⟩
  · exact .inl h
  · exact .inr (.inl h)
  · exact .inr (.inr ⟨c,off,cap,cur,cs,e1,hB,fun hs=>ho hs.1,hh,hc,h0,hm,hf,hcs,repL_flat.2 (repL_flat.1 hr)⟩)
theorem MapB.unsh {κ:Type} {kv:κ → Value} {c:Nat} {l:List (κ × Value)} (h:MapB kv c l k):MapB kv c l (k.unsh b):=⟨fun hs=>h.own hs.1,h.is⟩
/-- An empty map, made, and marked as shared. -/
def MarkM (B:Nat):Pred:=fun v k=>∃ b,v = .map (some b)∧B ≤ b∧k.sh b∧k.w.heap[b]? = some (.map #[] 0)
instance {B:Nat}:Mono (MarkM B):=⟨fun g ⟨b,e,h,m,hh⟩=>⟨b,e,h,g.up b m,by rw [g.blk b (K.lt _ b m)]; exact hh⟩⟩
theorem ok_makeMapM {t:TypeId} {B:Nat} (hB:B ≤ k.w.heap.size) (ho:o.op = .makeMap t none):Does P o a k (MarkM B):=by
  have hlt:k.w.heap.size < (k.alloc (.map #[] 0)).w.heap.size:=by simp [K.alloc]
  have hg:=K.alloc_grow k (.map #[] 0)
  refine does_run (v:=.map (some k.w.heap.size)) (k':=(k.alloc (.map #[] 0)).share k.w.heap.size hlt) ?_
    ⟨hg.tape,hg.os,hg.out,hg.size,hg.blk,fun b hs=>(K.share_le _ _ hlt).up b (hg.up b hs),fun b hl hs=>hs.elim (hg.new b hl) (fun e=>absurd e (by omega)),hg.drawn⟩
    ⟨_,rfl,hB,.inr rfl,heap_alloc_new k.w _⟩
  simp only [execOp,ho]
  simp [Instr.makeMap,K.alloc,K.share]
theorem MarkM.free {κ:Type} (kv:κ → Value) (hh:k.w.heap[b]? = some (.map #[] 0)):MapC kv b [] (k.unsh b):=⟨fun hs=>hs.2 rfl,#[],0,hh,rfl,by simp,by simp⟩
end
end Go.Gb

/- General part of the proofs: ints of other kinds, and arrays of three, that come in as data. -/
namespace Go.Gb
instance {κ:IntKind}:Rg (IK κ):=⟨fun x=>κ.min ≤ x.n∧x.n ≤ κ.max,fun _=>0⟩
end Go.Gb

/- General part of the proofs: regions whose operations, in any order, use up what was there or what others of them have made. -/
namespace Go.Gb

/-- What lasts while other blocks are written to. -/
class RscX (R:FP → Pred):Prop where
  keep : ∀ {F G:FP} {v:Value} {k k' : K},R F v k → Chg G k k' → Apart F G → (∀ b,G b → ¬ k.sh b) → R F v k'
  lt : ∀ {F:FP} {v:Value} {k:K},R F v k → ∀ b,F b → b < k.w.heap.size∧¬ k.sh b
instance {R:FP → Pred} [Rsc R]:RscX R:=⟨fun h c ha hn=>Rsc.keep h c ha hn,fun h b hb=>⟨Rsc.lt h b hb,Rsc.nsh h b hb⟩⟩
theorem rscX_plain {R:Pred} (h : ∀ {v:Value} {k k' : K} {G:FP},R v k → Chg G k k' → (∀ b,G b → ¬ k.sh b) → R v k'):RscX (PlainR R):=
  ⟨fun ⟨e,r⟩ c _ hn=>⟨e,h r c hn⟩,fun ⟨e,_⟩ b hb=>by rw [e] at hb; exact hb.elim⟩
/-- The form of an entry. -/
structure ShL where
  vs:Nat
  need:List (Nat × Option Nat)
  cons:List Nat
def EntL.sh (e:EntL):ShL:=⟨e.vs,e.need,e.cons⟩
def ObX (P:Program) (es:List EntL) (a0:Act) (k0:K) (F0:FP) (o:Oper) (e:EntL):Prop:=
  RscX e.R∧∀ a k G,a.tmps.size = a0.tmps.size → Chg F0 k0 k → KnownL es a0 a k e.need → TakenL es a k e.cons G → DoesL P o a k G e.R e.vs
/-- The form of such a region; number N (behind the operations) is what is there at first. -/
def chkXo (n N:Nat) (ops:List Oper) (es:List ShL) (ms:List Nat) (i:Nat) (o:Oper) (e:ShL):Bool:=
  o.guard.isNone &&
  (match o.dst with
    | some d=>decide (d < n) && Nat.beq e.vs d && allI (fun x ex=>Nat.beq x i || !(Nat.beq ex.vs d) || hasBit ms x i) 0 es && allI (fun x ox=>Nat.beq x i || ox.dst != some d) 0 ops
    | none => e.cons.length == 1 && e.cons.all (fun j => (match nth es j with
      | some ej=>Nat.beq ej.vs e.vs
      | none=>false))) &&
  (binding o).all (fun j=>decide (j < i)) &&
  e.need.all (fun x=>match x.2 with
    | some j=>(Nat.beq j N || (binding o).contains j) && (match nth es j with | some ej=>Nat.beq ej.vs x.1 | none=>false) && allI (fun x' ex=>Nat.beq x' i || !(ex.cons.contains j) || hasBit ms x' i) 0 es
    | none=>allI (fun j o'=>o'.dst != some x.1 || Nat.beq j i || hasBit ms j i) 0 ops) &&
  e.cons.all (fun j=>(Nat.beq j N || hasBit ms i j) && allI (fun x' ex=>Nat.beq x' i || !(ex.cons.contains j)) 0 es)
def chkXs (n N:Nat) (ops0:List Oper) (es0:List ShL) (ms:List Nat):Nat → List Oper → List ShL → Bool
  | i,o::ops,e::es=>chkXo n N ops0 es0 ms i o e && chkXs n N ops0 es0 ms (i + 1) ops es
  | _,[],[e]=>e.cons.isEmpty
  | _,_,_=>false
theorem chkXs_spec {n N:Nat} {ops0:List Oper} {es0:List ShL} {ms:List Nat} : ∀ {ops:List Oper} {es:List ShL} {i:Nat},chkXs n N ops0 es0 ms i ops es = true → ∀ j o,nth ops j = some o → ∃ e,nth es j = some e∧chkXo n N ops0 es0 ms (i + j) o e = true
  | [],_,_,_,j,o,h=>by simp [nth] at h
  | _::_,[],_,h,_,_,_=>by simp [chkXs] at h
  | o :: ops, e :: es, i, h, 0, o', ho => by
    simp only [chkXs,Bool.and_eq_true] at h
    simp only [nth,Option.some.injEq] at ho
    subst ho
    exact ⟨e,rfl,h.1⟩
  | o :: ops, e :: es, i, h, j + 1, o', ho => by
    simp only [chkXs,Bool.and_eq_true] at h
    obtain ⟨e', h1, h2⟩ := chkXs_spec h.2 j o' (by simpa [nth] using ho)
    exact ⟨e', by simpa [nth] using h1, by rw [show i + (j + 1) = i + 1 + j by omega]; exact h2⟩
theorem nth_map {α β:Type} (f:α → β) : ∀ (l:List α) (i:Nat),nth (l.map f) i = (nth l i).map f
  | [],_=>rfl
  | _::_,0=>rfl
  | _::l,i + 1=>nth_map f l i
structure InvX (ops:List Oper) (es:List EntL) (a0:Act) (k0:K) (F0:FP) (D:Nat → Prop) (Fs:Nat → FP) (a:Act) (k:K):Prop where
  chg:Chg F0 k0 k
  size:a.tmps.size = a0.tmps.size
  defers:a.defers = a0.defers
  vals : ∀ i e,D i → ¬ UsedL es D i → nth es i = some e → e.R (Fs i) (a.get e.vs) k
  apart : ∀ i j,i ≠ j → Apart (Fs i) (Fs j)
  own : ∀ i b,Fs i b → (F0 b ∨ k0.w.heap.size ≤ b)∧b < k.w.heap.size∧¬ k.sh b
  rest : ∀ t,(∀ i o,D i → nth ops i = some o → o.dst ≠ some t) → a.get t = a0.get t
  closed : ∀ j o,nth ops j = some o → D j → ∀ e ∈ binding o,D e
  mem : ∀ i,D i → i < ops.length ∨ i = ops.length
  first:D ops.length
section
variable {P:Program} {a0:Act} {k0:K} {F0:FP} {es:List EntL} {A:Array Oper} {n:Nat}
theorem step_opX {D:Nat → Prop} {Fs:Nat → FP} {a:Act} {k:K} {i:Nat} {o:Oper} {Q:Exit → Act → World → Prop} {C:Act → World → Prop}
    (hn:a0.tmps.size = n) (hchk:chkXs n A.size A.toList (es.map EntL.sh) (masks A.toList []) 0 A.toList (es.map EntL.sh) = true) (hst : ∀ i o e,nth A.toList i = some o → nth es i = some e → ObX P es a0 k0 F0 o e)
    (hall : ∀ e,nth es A.size = some e → RscX e.R)
    (hinv:InvX A.toList es a0 k0 F0 D Fs a k) (hi:nth A.toList i = some o) (hb : ∀ j ∈ binding o,D j) (hDi : ¬ D i)
    (hQ : LetsOut Q) (hC : ∀ Fs' a' k', InvX A.toList es a0 k0 F0 (fun j => D j ∨ j = i) Fs' a' k' → C a' k'.w) : wpOp P A Q i C a k.w := by
  obtain ⟨e0,he0,hc⟩:=chkXs_spec hchk i o hi
  rw [nth_map] at he0
  obtain ⟨e,he,rfl⟩ : ∃ e,nth es i = some e∧e.sh = e0:=by
    cases hh:nth es i with
    | none=>rw [hh] at he0; simp at he0
    | some e=>rw [hh] at he0; exact ⟨e,rfl,Option.some.inj he0⟩
  rw [Nat.zero_add] at hc
  obtain ⟨hR,hob⟩:=hst i o e hi he
  have hsh : ∀ j ej,nth es j = some ej → nth (es.map EntL.sh) j = some ej.sh:=fun j ej h=>by rw [nth_map,h]; rfl
  simp only [chkXo,Bool.and_eq_true,Option.isNone_iff_eq_none] at hc
  obtain ⟨⟨⟨⟨hgd,hdst⟩,hedge⟩,hneed⟩,hcons⟩:=hc
  have hbit : ∀ {x j:Nat},D x → hasBit (masks A.toList []) x j = true → D j:=fun {x j} hx h=>
    hasBit_spec (L:=A.toList) (D:=D) hinv.closed (fun o' ho'=>hinv.closed x o' ho' hx) h
  have hbiti : ∀ {j:Nat},hasBit (masks A.toList []) i j = true → D j:=fun {j} h=>
    hasBit_spec (L:=A.toList) (D:=D) hinv.closed (fun o' ho'=>by rw [hi,Option.some.injEq] at ho'; subst ho'; exact hb) h
  have hsz:a.tmps.size = n:=hinv.size.trans hn
  have hAi:A[i]? = some o:=by rw [← nth_toList]; exact hi
  have hDN:D A.size:=by have:=hinv.first; simpa using this
  have hcj : ∀ j ∈ e.cons,D j∧¬ UsedL es D j:=fun j hj=>by
    have h:=List.all_eq_true.1 hcons j hj
    simp only [Bool.and_eq_true,Bool.or_eq_true] at h
    refine ⟨h.1.elim (fun h=>by rw [Nat.eq_of_beq_eq_true h]; exact hDN) hbiti,fun ⟨x,ex,hx,hex,hm⟩=>?_⟩
    have:=allI_spec h.2 x ex.sh (hsh x ex hex)
    simp only [Nat.zero_add, Bool.or_eq_true, Nat.beq_eq, Bool.not_eq_true', List.contains_eq_mem, decide_eq_false_iff_not] at this
    rcases this with h' | h'
    · exact hDi (h' ▸ hx)
    · exact h' hm
  have hlen : ∀ {ops:List Oper} {l:List ShL} {i:Nat},chkXs n A.size A.toList (es.map EntL.sh) (masks A.toList []) i ops l = true → l.length = ops.length + 1:=by
    intro ops
    induction ops with
    | nil => intro l i h; match l, h with
      | [e],_=>rfl
      | [],h=>simp [chkXs] at h
      | _::_::_,h=>simp [chkXs] at h
    | cons o ops ih => intro l i h; cases l with
      | nil=>simp [chkXs] at h
      | cons e l=>simp only [chkXs,Bool.and_eq_true] at h; simp [ih h.2]
  have hesl:es.length = A.toList.length + 1:=by simpa using hlen hchk
  have hes : ∀ j,D j → ∃ ej,nth es j = some ej:=fun j hj=>by
    have hl:=hinv.mem j hj
    exact ⟨_,by rw [nth_eq]; exact List.getElem?_eq_getElem (by omega)⟩
  let G:FP:=fun b=>∃ j ∈ e.cons,Fs j b
  have hG : ∀ b,G b → (F0 b ∨ k0.w.heap.size ≤ b)∧b < k.w.heap.size∧¬ k.sh b:=fun b ⟨j,_,hb⟩=>hinv.own j b hb
  have htk:TakenL es a k e.cons G:=takenL_of e.cons fun j hj=>by
    obtain ⟨hD,hU⟩:=hcj j hj
    obtain ⟨ej,hej⟩:=hes j hD
    exact ⟨ej,hej,hinv.vals j ej hD hU hej⟩
  have hkn:KnownL es a0 a k e.need:=knownL_of (Fs:=Fs) e.need (fun t j htj ej hej=>by
    have h:=List.all_eq_true.1 hneed _ htj
    simp only [Bool.and_eq_true,Bool.or_eq_true,List.contains_iff_mem,hsh j ej hej] at h
    obtain ⟨⟨h1,h2⟩,h3⟩:=h
    have hD:D j:=h1.elim (fun h=>by rw [Nat.eq_of_beq_eq_true h]; exact hDN) (hb j)
    obtain rfl:ej.vs = t:=by simpa [EntL.sh] using h2
    refine hinv.vals j ej hD (fun ⟨x,ex,hx,hex,hm⟩=>?_) hej
    have:=allI_spec h3 x ex.sh (hsh x ex hex)
    simp only [Nat.zero_add, Bool.or_eq_true, Nat.beq_eq, Bool.not_eq_true', List.contains_eq_mem, decide_eq_false_iff_not] at this
    rcases this with (h' | h') | h'
    · exact hDi (h' ▸ hx)
    · exact h' hm
    · exact hDi (hbit hx h')) (fun t ht=>by
    have h:=List.all_eq_true.1 hneed _ ht
    simp only at h
    refine hinv.rest t fun j oj hDj hoj hdj=>?_
    have hj:=allI_spec h j oj hoj
    simp only [Nat.zero_add,Bool.or_eq_true,bne_iff_ne,Nat.beq_eq] at hj
    rcases hj with (h | h) | h
    · exact h hdj
    · exact hDi (h ▸ hDj)
    · exact hDi (hbit hDj h))
  unfold wpOp
  rw [hAi]
  simp only []
  have hw:Region.wanted o (yielded A a.tmps) = true:=by simp [Region.wanted,hgd]
  rw [if_pos hw]
  refine .inl (hob a k G hinv.size hinv.chg hkn htk C Q hQ fun v k' F hch hF hv=>?_)
  have hns : ∀ b,G b → ¬ k.sh b:=fun b hb=>(hG b hb).2.2
  have hgrow:Chg F0 k0 k':=hinv.chg.step hch fun b hb=>(hG b hb).1
  have hFl : ∀ b,F b → (F0 b ∨ k0.w.heap.size ≤ b)∧b < k'.w.heap.size∧¬ k'.sh b:=fun b hb=>by
    have h2:=hR.lt hv b hb
    exact ⟨(hF b hb).elim (fun h=>(hG b h).1) (fun h=>.inr (Nat.le_trans hinv.chg.size h)),h2.1,h2.2⟩
  have hget : ∀ x ex,nth es x = some ex → D x → x ≠ i → (a.put o.dst v).get ex.vs = a.get ex.vs:=fun x ex hex hx hxi=>by
    cases hod:o.dst with
    | none=>rfl
    | some d =>
      rw [hod] at hdst
      simp only [Bool.and_eq_true,decide_eq_true_eq] at hdst
      obtain ⟨⟨⟨hdn,_⟩,hvs⟩,_⟩:=hdst
      rw [get_put _ _ _ _ (by rw [hsz]; exact hdn)]
      have:=allI_spec hvs x ex.sh (hsh x ex hex)
      simp only [Nat.zero_add, Bool.or_eq_true, Nat.beq_eq, Bool.not_eq_true', Nat.beq_eq_true_eq] at this
      rw [if_neg]
      intro hd
      rcases this with (h | h) | h
      · exact hxi h
      · rw [show ex.sh.vs = d from hd.symm] at h; simp at h
      · exact hDi (hbit hx h)
  refine hC (fun x=>if x = i then F else if x ∈ e.cons then noF else Fs x) _ _ ⟨hgrow,by rw [put_size]; exact hinv.size,by rw [put_defers']; exact hinv.defers,?_,?_,?_,?_,?_,?_,.inl hinv.first⟩
  · intro x ex hx hU hex
    by_cases hxi:x = i
    · subst hxi
      rw [he,Option.some.injEq] at hex; subst hex
      rw [if_pos rfl]; exact hv
    · have hDx := hx.resolve_right hxi
      have hxc:x ∉ e.cons:=fun h=>hU ⟨i,e,.inr rfl,he,h⟩
      rw [if_neg hxi,if_neg hxc,hget x ex hex hDx hxi]
      have hUx : ¬ UsedL es D x:=fun ⟨y,ey,hy,hey,hm⟩=>hU ⟨y,ey,.inl hy,hey,hm⟩
      have hRx:RscX ex.R:=by
        rcases hinv.mem x hDx with hl | hl
        · obtain ⟨ox, hox⟩ : ∃ ox, nth A.toList x = some ox := ⟨_, by rw [nth_eq]; exact List.getElem?_eq_getElem hl⟩
          exact (hst x ox ex hox hex).1
        · refine hall ex ?_
          rw [hl] at hex; simpa using hex
      exact hRx.keep (hinv.vals x ex hDx hUx hex) hch (fun b h ⟨j,hj,h'⟩=>hinv.apart x j (fun e'=>hxc (e' ▸ hj)) b h h') hns
  · intro x y hxy b h1 h2
    have key : ∀ z,z ≠ i → F b → (if z ∈ e.cons then noF else Fs z) b → False:=fun z hz hf hz'=>by
      by_cases hzc:z ∈ e.cons
      · rw [if_pos hzc] at hz'; exact hz'
      · rw [if_neg hzc] at hz'
        rcases hF b hf with ⟨j,hj,hj'⟩ | h
        · exact hinv.apart z j (fun e'=>hzc (e' ▸ hj)) b hz' hj'
        · have:=(hinv.own z b hz').2.1; omega
    by_cases hxi:x = i
    · have hyi : y ≠ i := fun e => hxy (hxi.trans e.symm)
      rw [if_pos hxi] at h1; rw [if_neg hyi] at h2
      exact key y hyi h1 h2
    · rw [if_neg hxi] at h1
      by_cases hyi:y = i
      · rw [if_pos hyi] at h2
        exact key x hxi h2 h1
      · rw [if_neg hyi] at h2
        split at h1
        · exact h1
        · split at h2
          · exact h2
          · exact hinv.apart x y hxy b h1 h2
  · intro x b h
    split at h
    · exact hFl b h
    · split at h
      · exact h.elim
      · rename_i hxc
        obtain ⟨h1,h2,h3⟩:=hinv.own x b h
        refine ⟨h1,Nat.lt_of_lt_of_le h2 hch.size,fun hs=>?_⟩
        rcases hch.new b h2 hs with hs | ⟨j,hj,hj'⟩
        · exact h3 hs
        · exact hinv.apart x j (fun e'=>hxc (e' ▸ hj)) b h hj'
  · intro t ht
    have h1:a.get t = a0.get t:=hinv.rest t fun j o' hj=>ht j o' (.inl hj)
    cases hod:o.dst with
    | none=>exact h1
    | some d =>
      rw [hod] at hdst
      simp only [Bool.and_eq_true,decide_eq_true_eq] at hdst
      rw [get_put _ _ _ _ (by rw [hsz]; exact hdst.1.1.1),if_neg fun e'=>ht i o (.inr rfl) hi (by rw [hod,e'])]
      exact h1
  · intro j o' ho' hj x hx
    rcases hj with hj | rfl
    · exact .inl (hinv.closed j o' ho' hj x hx)
    · rw [hi,Option.some.injEq] at ho'; subst ho'; exact .inl (hb x hx)
  · intro j hj
    rcases hj with hj | rfl
    · exact hinv.mem j hj
    · exact .inl (nth_lt hi)
theorem any_X {Q:Exit → Act → World → Prop} (hn:a0.tmps.size = n) (hchk:chkXs n A.size A.toList (es.map EntL.sh) (masks A.toList []) 0 A.toList (es.map EntL.sh) = true) (hst : ∀ i o e,nth A.toList i = some o → nth es i = some e → ObX P es a0 k0 F0 o e)
    (hall : ∀ e,nth es A.size = some e → RscX e.R) (hQ:LetsOut Q)
    (hpost : ∀ Fs a k,InvX A.toList es a0 k0 F0 (fun j=>j < A.size ∨ j = A.size) Fs a k → Q .normal a k.w) :
    ∀ (fuel:Nat) (listed:Array Bool) (Fs:Nat → FP) (a:Act) (k:K),listed.size = A.size → fuel = (listed.toList.filter (· = false)).length → InvX A.toList es a0 k0 F0 (fun j=>listed.getD j false = true ∨ j = A.size) Fs a k → wpAny P .any A Q fuel listed a k.w:=by
  have hout : ∀ (listed:Array Bool),listed.size = A.size → ∀ j,listed.getD j false = true → j < A.size:=fun listed hls j hj=>by
    rcases Nat.lt_or_ge j A.size with h | h
    · exact h
    · simp [Array.getD_eq_getD_getElem?,Array.getElem?_eq_none (show listed.size ≤ j by omega)] at hj
  have hfull : ∀ (listed:Array Bool) (Fs:Nat → FP) (a:Act) (k:K),listed.size = A.size → (∀ j,j < A.size → listed.getD j false = true) → InvX A.toList es a0 k0 F0 (fun j=>listed.getD j false = true ∨ j = A.size) Fs a k → Q .normal a k.w:=by
    intro listed Fs a k hls hal hinv
    refine hpost Fs a k ?_
    have:(fun j=>listed.getD j false = true ∨ j = A.size) = (fun j=>j < A.size ∨ j = A.size):=funext fun j=>propext ⟨fun h=>h.imp (hout listed hls j) id,fun h=>h.imp (hal j) id⟩
    rw [this] at hinv; exact hinv
  have hT2 : ∀ (listed:Array Bool),listed.size = A.size → ∀ j,j < A.size → listed.getD j true = listed.getD j false:=by
    intro listed hls j hj; simp [Array.getD_eq_getD_getElem?,Array.getElem?_eq_getElem (show j < listed.size by omega)]
  have hedge : ∀ j o,nth A.toList j = some o → ∀ e ∈ binding o,e < j:=by
    intro j o ho e he
    obtain ⟨ej,_,hc⟩:=chkXs_spec hchk j o ho
    simp only [chkXo,Bool.and_eq_true,Nat.zero_add] at hc
    simpa using List.all_eq_true.1 hc.1.1.2 e he
  have hready : ∀ (listed:Array Bool),listed.size = A.size → (∃ j,j < A.size∧listed.getD j false = false) → Region.ready .any A listed ≠ []:=by
    intro listed hls ⟨j,hj⟩
    have hex : ∃ j,j < A.size∧listed.getD j false = false∧∀ i,i < j → listed.getD i false = true:=by
      induction j using Nat.strongRecOn with
      | _ j ihj =>
        by_cases hall : ∀ i,i < j → listed.getD i false = true
        · exact ⟨j,hj.1,hj.2,hall⟩
        · obtain ⟨i, hi⟩ := Classical.not_forall.1 hall
          obtain ⟨hij,hib⟩:i < j∧¬ listed.getD i false = true:=⟨Classical.byContradiction fun h=>hi fun h'=>absurd h' h,fun h=>hi fun _=>h⟩
          exact ihj i hij ⟨by omega,by simpa using hib⟩
    obtain ⟨j,hjA,hjb,hlow⟩:=hex
    intro hnil
    have hjr:j ∈ Region.ready .any A listed:=by
      simp only [Region.ready,List.mem_filter,List.mem_range,Bool.and_eq_true,Bool.not_eq_true']
      refine ⟨hjA,by rw [hT2 listed hls j hjA]; exact hjb,?_⟩
      have hA:A[j]? = some A[j]:=by simp [hjA]
      rw [hA]
      simp only [Option.map_some,Option.getD_some,Array.all_eq_true_iff_forall_mem]
      intro y hy
      cases hyb:Region.binds .any y with
      | false=>rfl
      | true =>
        simp only [Bool.not_true,Bool.false_or]
        have ho:nth A.toList j = some A[j]:=by rw [nth_toList]; exact hA
        exact hlow _ (hedge j _ ho y.on (by simp only [binding,List.mem_map,List.mem_filter,Array.mem_toList_iff]; exact ⟨y,⟨hy,hyb⟩,rfl⟩))
    rw [hnil] at hjr; simp at hjr
  intro fuel
  induction fuel with
  | zero =>
    intro listed Fs a k hls hf hinv
    have hal : ∀ j,j < A.size → listed.getD j false = true:=by
      intro j hj
      have hz:=List.eq_nil_of_length_eq_zero hf.symm
      have:listed[j]'(by omega) ∉ listed.toList.filter (· = false):=by rw [hz]; simp
      simp only [List.mem_filter,Array.mem_toList_iff,Array.getElem_mem,true_and,decide_eq_true_eq,Bool.not_eq_false] at this
      simp [Array.getD_eq_getD_getElem?,Array.getElem?_eq_getElem (show j < listed.size by omega),this]
    refine ⟨?_,hfull listed Fs a k hls hal hinv⟩
    unfold Region.ready
    rw [List.filter_eq_nil_iff]
    intro j hj
    rw [List.mem_range] at hj
    simp only [Bool.and_eq_true, Bool.not_eq_true', not_and]
    intro h
    rw [hT2 listed hls j hj,hal j hj] at h
    simp at h
  | succ fuel ih =>
    intro listed Fs a k hls hf hinv
    refine ⟨fun hnil=>?_,fun i hi=>?_⟩
    · refine hfull listed Fs a k hls (fun j hj => ?_) hinv
      cases hjb:listed.getD j false with
      | true=>rfl
      | false=>exact absurd hnil (hready listed hls ⟨j,hj,hjb⟩)
    · simp only [Region.ready, List.mem_filter, List.mem_range, Bool.and_eq_true, Bool.not_eq_true'] at hi
      obtain ⟨hiA,hi1,hi2⟩:=hi
      rw [hT2 listed hls i hiA] at hi1
      have hA:A[i]? = some A[i]:=by simp [hiA]
      have ho:nth A.toList i = some A[i]:=by rw [nth_toList]; exact hA
      have hb : ∀ e ∈ binding A[i],listed.getD e false = true ∨ e = A.size:=by
        intro e he
        rw [hA] at hi2
        simp only [Option.map_some,Option.getD_some,Array.all_eq_true_iff_forall_mem] at hi2
        simp only [binding,List.mem_map,List.mem_filter,Array.mem_toList_iff] at he
        obtain ⟨y,⟨hy,hyb⟩,rfl⟩:=he
        have:=hi2 y hy
        exact .inl (by simpa only [hyb,Bool.not_true,Bool.false_or] using this)
      have hil:i < listed.size:=by omega
      have hcnt:=count_set hil hi1
      rw [← hf] at hcnt
      refine step_opX hn hchk hst hall hinv ho hb (by simp [hi1]; omega) hQ fun Fs' a' k' hinv'=>?_
      refine ih _ Fs' a' k' (by simp [hls]) (by omega) ?_
      have he:(fun j=>(listed.setIfInBounds i true).getD j false = true ∨ j = A.size) = (fun j=>(listed.getD j false = true ∨ j = A.size) ∨ j = i):=by
        funext j
        refine propext ?_
        by_cases hji:j = i
        · subst hji; simp [Array.getD_eq_getD_getElem?,show j < listed.size by omega]
        · rw [getD_set_ne _ (fun e=>hji e.symm)]; simp [hji]
      rw [he]; exact hinv'
/-- what holds behind such a region -/
structure PostX (A:Array Oper) (es:List EntL) (a0:Act) (k0:K) (F0:FP) (Fs:Nat → FP) (a:Act) (k:K):Prop where
  chg:Chg F0 k0 k
  size:a.tmps.size = a0.tmps.size
  defers:a.defers = a0.defers
  out : ∀ i e,nth es i = some e → es.all (fun x=>!(x.cons.contains i)) = true → e.R (Fs i) (a.get e.vs) k
  apart : ∀ i j,i ≠ j → Apart (Fs i) (Fs j)
  own : ∀ i b,Fs i b → (F0 b ∨ k0.w.heap.size ≤ b)∧b < k.w.heap.size∧¬ k.sh b
  old : ∀ t,A.toList.all (fun o=>o.dst != some t) = true → a.get t = a0.get t
theorem region_X {id:Nat} {Q:Exit → Act → World → Prop} (es:List EntL) (hm:P.follows .mixedOrders = true) (hn:a0.tmps.size = n) (hchk:chkXs n A.size A.toList (es.map EntL.sh) (masks A.toList []) 0 A.toList (es.map EntL.sh) = true)
    (hst : ∀ i o e,nth A.toList i = some o → nth es i = some e → ObX P es a0 k0 F0 o e) (hQ:LetsOut Q) (e0:EntL) (he0:nth es A.size = some e0) (hR0:RscX e0.R) (h0:e0.R F0 (a0.get e0.vs) k0)
    (hpost : ∀ Fs a k,PostX A es a0 k0 F0 Fs a k → Q .normal a k.w):(Code.region id A true).wp P Q a0 k0.w:=by
  refine wp_region_any hm ?_
  let kd:Gb.K:=⟨{ k0.w with drawn:=k0.w.drawn + 1 },k0.sh,k0.lt⟩
  have hgd:Grow k0 kd:=⟨rfl,rfl,rfl,Nat.le_refl _,fun _ _=>rfl,fun _ h=>h,fun _ _ h=>h,Nat.le_succ _⟩
  have hF : ∀ j,(Array.replicate A.size false).getD j false = true → False:=by
    intro j hj; simp [Array.getD_eq_getD_getElem?,Array.getElem?_replicate] at hj; split at hj <;> simp at hj
  have hall : ∀ e,nth es A.size = some e → RscX e.R:=fun e he=>by rw [he0,Option.some.injEq] at he; subst he; exact hR0
  have hlen : ∀ {ops:List Oper} {l:List ShL} {i:Nat},chkXs n A.size A.toList (es.map EntL.sh) (masks A.toList []) i ops l = true → l.length = ops.length + 1:=by
    intro ops
    induction ops with
    | nil => intro l i h; match l, h with
      | [e],_=>rfl
      | [],h=>simp [chkXs] at h
      | _::_::_,h=>simp [chkXs] at h
    | cons o ops ih => intro l i h; cases l with
      | nil=>simp [chkXs] at h
      | cons e l=>simp only [chkXs,Bool.and_eq_true] at h; simp [ih h.2]
  have hesl:es.length = A.size + 1:=by simpa using hlen hchk
  refine any_X hn hchk hst hall hQ (fun Fs a k hinv=>hpost Fs a k ⟨hinv.chg,hinv.size,hinv.defers,fun i e he hu=>hinv.vals i e (by have:=nth_lt he; omega) (fun ⟨x,ex,hx,hex,hm⟩=>?_) he,hinv.apart,hinv.own,fun t ht=>hinv.rest t fun i o _ ho e=>?_⟩) A.size _ (fun j=>if j = A.size then F0 else noF) a0 kd (by simp) (by simp)
    ⟨Chg.of hgd,rfl,rfl,fun i e hi _ he=>?_,fun i j hij b h1 h2=>?_,fun i b h=>?_,fun _ _=>rfl,fun j o ho hj=>?_,fun i hi=>?_,by simp⟩
  · have := List.all_eq_true.1 hu ex (by rw [nth_eq] at hex; exact List.mem_of_getElem? hex)
    simp only [Bool.not_eq_true', List.contains_eq_mem, decide_eq_false_iff_not] at this
    exact this hm
  · have := List.all_eq_true.1 ht o (by rw [nth_eq] at ho; exact List.mem_of_getElem? ho)
    simp only [bne_iff_ne] at this
    exact this e
  · rcases hi with hi | rfl
    · exact (hF i hi).elim
    · rw [if_pos rfl]
      rw [he0,Option.some.injEq] at he; subst he
      exact hR0.keep h0 (Chg.of (F:=noF) hgd) (fun _ _ f=>f) (fun _ f=>f.elim)
  · by_cases hi : i = A.size
    · by_cases hj : j = A.size
      · exact hij (hi.trans hj.symm)
      · rw [if_neg hj] at h2; exact h2
    · rw [if_neg hi] at h1; exact h1
  · split at h
    · obtain ⟨h1, h2⟩ := hR0.lt h0 b h
      exact ⟨.inl h,h1,h2⟩
    · exact h.elim
  · rcases hj with hj | hj
    · exact (hF j hj).elim
    · have:=nth_lt ho; simp at this; omega
  · rcases hi with hi | hi
    · exact (hF i hi).elim
    · exact .inr (by simpa using hi)
end
end Go.Gb

/- General part of the proofs: blocks that are marked as shared meanwhile: what only reads may then take them for values. -/
namespace Go.Gb
open Go.Proofs Go.RowKit Go.Lib Go.Sort Go.Shelf
section
variable {P:Program} {k k' k0:K} {F:FP} {hF : ∀ b,F b → b < k.w.heap.size}
/-- the same world, with the blocks of F as they were in k -/
def K.unmark (k' k:K) (F:FP):K:=⟨k'.w,fun i=>k'.sh i∧(F i → k.sh i),fun i hi=>k'.lt i hi.1⟩
theorem Grow.unmark (h:Grow (k.shareF F hF) k'):Grow k (k'.unmark k F):=
  ⟨h.tape,h.os,h.out,h.size,h.blk,fun b hb=>⟨h.up b (.inl hb),fun _=>hb⟩,fun b hl hb=>(h.new b hl hb.1).elim id hb.2,h.drawn⟩
/-- A call that only reads, and whose answer asks nothing of the world. -/
theorem calls_marked {f : FuncId} {vs : Array Value} {R S : Pred} (h : Calls P f vs (k.shareF F hF).w (Ret (k.shareF F hF) R)) (hR : ∀ v k', R v k' → S v (k'.unmark k F)) : Calls P f vs k.w (Ret k S) := by
  refine Calls.mono h fun e w he=>?_
  cases e with
  | returned v => obtain ⟨k', h1, h2, h3⟩ := he; exact ⟨k'.unmark k F, h1, h2.unmark, hR _ _ h3⟩
  | panicked c=>exact he.elim
  | outgrown=>exact he.elim
end
end Go.Gb

/- General part of the proofs: an evaluator of the code of functions over typed values (no program in sight). -/
namespace Go.Gb

/-- A pointer of which nothing is told but where it points to. -/
structure Ptr where
  a:Option Addr
  deriving Inhabited
instance:Enc Ptr where
  sz:=1
  agg:=false
  rep _ cs x:=cs = [.pointer x.a]
  len h:=by simp [h]
  mono _ h:=h
  one h:=by subst h; simp [Value.oneCell']
  agg1 _:=rfl
/-- The types of the values that the evaluator knows. -/
inductive Tp where
  | int | bool | str
  | ik (κ:IntKind)
  | list (t:Tp)
  | st (n:Nat)
  | op
  | rf (t:Tp)
  | f0 (b:Tp)
  | f1 (a b:Tp)
  | f2 (a b c:Tp)
  | pv

@[reducible] def Tp.den (S:Nat → Type):Tp → Type
  | int=>Int | bool=>Bool | str=>ByteArray | ik κ=>IK κ | list t=>List (t.den S) | st n=>S n | op=>Opq
  | rf t=>t.den S | f0 b=>Unit → Option (b.den S) | f1 a b=>a.den S → Option (b.den S) | f2 a b c=>a.den S → b.den S → Option (c.den S) | pv=>Ptr

def IntKind.same:(a b:IntKind) → Option (PLift (a = b))
  | .i8,.i8=>some ⟨rfl⟩ | .i16,.i16=>some ⟨rfl⟩ | .i32,.i32=>some ⟨rfl⟩ | .i64,.i64=>some ⟨rfl⟩
  | .u8,.u8=>some ⟨rfl⟩ | .u16,.u16=>some ⟨rfl⟩ | .u32,.u32=>some ⟨rfl⟩ | .u64,.u64=>some ⟨rfl⟩
  | _,_=>none

def natSame (a b:Nat):Option (PLift (a = b)):=if h:a = b then some ⟨h⟩ else none

def Tp.same:(a b:Tp) → Option (PLift (a = b))
  | int,int=>some ⟨rfl⟩
  | bool,bool=>some ⟨rfl⟩
  | str,str=>some ⟨rfl⟩
  | ik a,ik b=>(IntKind.same a b).map fun h=>⟨congrArg ik h.down⟩
  | list a,list b=>(Tp.same a b).map fun h=>⟨congrArg list h.down⟩
  | st a,st b=>(natSame a b).map fun h=>⟨congrArg st h.down⟩
  | op,op=>some ⟨rfl⟩
  | pv,pv=>some ⟨rfl⟩
  | rf a,rf b=>(Tp.same a b).map fun h=>⟨congrArg rf h.down⟩
  | f0 a,f0 b=>(Tp.same a b).map fun h=>⟨congrArg f0 h.down⟩
  | f1 a b, f1 a' b' => match Tp.same a a', Tp.same b b' with
    | some h,some i=>some ⟨by rw [h.down,i.down]⟩
    | _,_=>none
  | f2 a b c, f2 a' b' c' => match Tp.same a a', Tp.same b b', Tp.same c c' with
    | some h,some i,some j=>some ⟨by rw [h.down,i.down,j.down]⟩
    | _,_,_=>none
  | _,_=>none

/-- Some values, one after the other. -/
@[reducible] def HL (S:Nat → Type):List Tp → Type
  | []=>Unit
  | [a]=>a.den S
  | a::b::l=>a.den S × HL S (b::l)

section
variable {S:Nat → Type}
@[reducible] def encT (P:Program) (E : ∀ n,Enc (S n)):(t:Tp) → Enc (t.den S)
  | .int=>inferInstanceAs (Enc Int)
  | .bool=>inferInstanceAs (Enc Bool)
  | .str=>inferInstanceAs (Enc ByteArray)
  | .ik κ=>inferInstanceAs (Enc (IK κ))
  | .list t=>letI:=encT P E t; inferInstanceAs (Enc (List (t.den S)))
  | .st n=>E n
  | .op=>inferInstanceAs (Enc Opq)
  | .pv=>inferInstanceAs (Enc Ptr)
  | .rf t=>@rfEnc (t.den S) (encT P E t)
  | .f0 b=>@f0Enc P (b.den S) (encT P E b)
  | .f1 a b=>@f1Enc P (a.den S) (b.den S) (encT P E a) (encT P E b)
  | .f2 a b c=>@f2Enc P (a.den S) (b.den S) (c.den S) (encT P E a) (encT P E b) (encT P E c)
instance:Enc Unit where
  sz:=0
  agg:=true
  rep _ cs _:=cs = []
  len h:=by simp [h]
  mono _ h:=h
  one h:=by subst h; simp
  agg1 h:=by simp at h
@[reducible] def encH (P:Program) (E : ∀ n,Enc (S n)):(l:List Tp) → Enc (HL S l)
  | []=>inferInstanceAs (Enc Unit)
  | [a]=>encT P E a
  | a::b::l=>letI:=encT P E a; letI:=encH P E (b::l); inferInstanceAs (Enc (a.den S × HL S (b::l)))
end

def dfltT {S:Nat → Type} (z : ∀ n,S n):(t:Tp) → t.den S
  | .int=>(0:Int) | .bool=>false | .str=>(⟨#[]⟩:ByteArray) | .ik _=>⟨0⟩ | .list _=>[] | .st n=>z n | .op=>(⟨⟩:Opq)
  | .rf t=>dfltT z t | .f0 _=>fun _=>none | .f1 _ _=>fun _=>none | .f2 _ _ _=>fun _ _=>none | .pv=>(⟨none⟩:Ptr)
def dfltH {S:Nat → Type} (z : ∀ n,S n):(l:List Tp) → HL S l
  | []=>()
  | [a]=>dfltT z a
  | a::b::l=>(dfltT z a,dfltH z (b::l))
/-- The structs of a program. -/
structure Tb where
  P:Program
  S:Nat → Type
  fs:Nat → List Tp
  to : ∀ n,S n → HL S (fs n)
  of : ∀ n,HL S (fs n) → S n
  zero : ∀ n,S n
  deq : ∀ n,DecidableEq (S n)
  enc : ∀ n,Enc (S n)
  to_of : ∀ n y,to n (of n y) = y
  zero_eq : ∀ n,to n (zero n) = dfltH zero (fs n)
  enc_eq : ∀ n,enc n = (letI:=encH P enc (fs n); Enc.ofMap (to n))
  /-- kinds of things that are a call's own, of any shape -/
  RD:Nat → Type:=fun _=>Unit
  RP : ∀ n,RD n → FP → Pred:=fun _ _ _ _ _=>False
  RPok : ∀ n x,Rsc (RP n x):=by exact fun _ _=>⟨fun h=>h.elim,fun h=>h.elim,fun h=>h.elim,fun h=>h.elim⟩
  RPone : ∀ n x y F G v k,RP n x F v k → RP n y G v k → F = G:=by exact fun _ _ _ _ _ _ _ h=>h.elim
  RZ : ∀ n,RD n:=by exact fun _=>()
  RProot : ∀ n x F v k b,RP n x F v k → (v = .pointer (some ⟨b,0,none⟩) ∨ obF v b) → ¬ k.sh b → F b:=by exact fun _ _ _ _ _ _ h=>h.elim
  /-- is it nil? -/
  RN : ∀ n,RD n → Option Bool:=fun _ _=>none
  RNok : ∀ n x F v k b,RP n x F v k → RN n x = some b → ∃ p,v = .pointer p∧p.isNone = b:=by exact fun _ _ _ _ _ _ h=>h.elim
  /-- such a thing as a list that can be read -/
  RL : ∀ n,RD n → Option (Σ t:Tp,List (t.den S)):=fun _ _=>none
  RLok : ∀ n x F v k (t:Tp) (xs:List (t.den S)),RP n x F v k → RL n x = some ⟨t,xs⟩ → @IsV ((Tp.list t).den S) (encT P enc (.list t)) xs v k:=by exact fun _ _ _ _ _ _ _ _ h=>by cases h
  /-- what the package-level variables hold -/
  gl:Nat → Option (Σ t:Tp,t.den S):=fun _=>none
  /-- a variable of the library that holds some int -/
  gi:Option Nat:=none

variable {T:Tb}
abbrev Tb.D (T:Tb) (t:Tp):Type:=t.den T.S
@[reducible] def Tb.e (T:Tb) (t:Tp):Enc (T.D t):=encT T.P T.enc t
attribute [instance] Tb.e
@[reducible] def Tb.ei (T:Tb) (n:Nat):Enc (T.S n):=T.enc n
attribute [instance] Tb.ei
@[reducible] def Tb.h (T:Tb) (l:List Tp):Enc (HL T.S l):=encH T.P T.enc l
attribute [instance] Tb.h

def Tb.dflt (T:Tb) (t:Tp):T.D t:=dfltT T.zero t

/-- A part of a value. -/
structure Lens (T:Tb) (t u:Tp) where
  off:Nat
  get:T.D t → T.D u
  set:T.D t → T.D u → T.D t

/-- Kinds of things that are a call's own. -/
inductive Rk where
  | n | o (e:TypeId) (t:Tp) | b (t:Tp) | c (m:Nat)
@[reducible] def Rk.D (T:Tb):Rk → Type
  | .n=>Unit | .o _ t=>List (T.D t) | .b t=>T.D t | .c m=>T.RD m
/-- What is known of a slot. -/
inductive AV (T:Tb) where
  | top | any | nil
  | v (t:Tp) (x:T.D t)
  | fl (t:Tp) (xs:List (T.D t))
  | e0
  | tup (l:List (Σ t,T.D t))
  | ref (t:Tp) (x:T.D t)
  | own (lk:Bool) (e:TypeId) (t:Tp) (xs:List (T.D t))
  | box (lk:Bool) (t:Tp) (x:T.D t)
  | al (s:Nat)
  | ab (s:Nat) (t:Tp) (x:T.D t) (u:Tp) (L:Lens T t u)
  | ao (s:Nat) (e:TypeId) (t:Tp) (xs:List (T.D t)) (i:Nat) (x:T.D t) (u:Tp) (L:Lens T t u)
  | rs (lk:Bool) (n:Nat) (x:T.RD n)
  | tr (lk:Bool) (κ:Rk) (x:κ.D T) (l:List (Σ t,T.D t))
  | tq (l:List (Σ t,T.D t))
  | mv (f:Nat) (s:Nat)

abbrev Env (T:Tb):=List (Nat × AV T)

def lk:Env T → Nat → AV T
  | [],_=>.top
  | (s,a)::e,t=>bif Nat.beq s t then a else lk e t

def cast? {S:Nat → Type} (a b:Tp) (x:a.den S):Option (b.den S):=
  match Tp.same a b with
  | some h=>some (h.down ▸ x)
  | none=>none

/-- what is known of a slot with this value -/
def mkv:(t:Tp) → T.D t → AV T
  | .rf t,x=>.ref t x
  | t,x=>.v t x
/-- a slice without room to spare, as a value -/
def nrm:AV T → AV T
  | .fl t xs=>.v (.list t) xs
  | a=>a
/-- the value of an operand -/
def opv (e:Env T):Operand → AV T
  | .tmp t=>nrm (lk e t)
  | .const (.int .i64 n)=>.v .int n
  | .const (.int κ n)=>.v (.ik κ) (⟨n⟩:IK κ)
  | .const (.bool b)=>.v .bool b
  | .const (.string s)=>.v .str s
  | .const (.slice none 0 0)=>.e0
  | .const (.pointer none)=>.nil
  | .global g=>match T.gl g with | some ⟨t,x⟩=>.ref t x | none=>.top
  | _=>.top
def res (e:Env T):AV T → AV T
  | .al s=>lk e s
  | a=>a
def slotOf (e:Env T) (s:Nat):Nat:=match lk e s with | .al s'=>s' | _=>s
/-- .. for a move: a resource stays where it is -/
def mvv (e:Env T) (x:Operand):AV T:=
  match x with
  | .tmp t => match lk e t with
    | .own _ _ _ _=>.al t
    | .box _ _ _=>.al t
    | .rs _ _ _=>.al t
    | .tr _ _ _ _=>.al t
    | a=>a
  | x=>opv e x
def asT (t:Tp):AV T → Option (T.D t)
  | .v u x=>cast? u t x
  | .e0=>match t with | .list _=>some [] | _=>none
  | .ref u x=>match t with | .rf t=>cast? u t x | _=>none
  | _=>none
/-- a slice without room to spare -/
def asF (e:Env T):Operand → Option (Σ t,List (T.D t))
  | .tmp t => match lk e t with
    | .fl t xs=>some ⟨t,xs⟩
    | _=>none
  | _=>none
def asI:AV T → Option Int
  | .v .int n=>some n
  | _=>none
def asB:AV T → Option Bool
  | .v .bool n=>some n
  | _=>none
/-- a list that can be read -/
def asL (e:Env T) (a:AV T):Option (Σ t,List (T.D t)):=
  match res e a with
  | .v (.list t) xs=>some ⟨t,xs⟩
  | .own _ _ t xs=>some ⟨t,xs⟩
  | .rs _ m x=>T.RL m x
  | _=>none

def szT (T:Tb) (t:Tp):Nat:=(T.e t).sz
def Lens.id (t:Tp):Lens T t t:=⟨0,fun x=>x,fun _ y=>y⟩
/-- a part of a list of parts -/
structure HLens (T:Tb) (l:List Tp) (u:Tp) where
  off:Nat
  get:HL T.S l → T.D u
  set:HL T.S l → T.D u → HL T.S l
def hlens:(l:List Tp) → Nat → Option (Σ u,HLens T l u)
  | [],_=>none
  | [a],0=>some ⟨a,0,fun x=>x,fun _ y=>y⟩
  | [_],_ + 1=>none
  | a::_::_,0=>some ⟨a,0,fun x=>x.1,fun x y=>(y,x.2)⟩
  | a :: b :: l, i + 1 => match hlens (b :: l) i with
    | some ⟨u,L⟩=>some ⟨u,szT T a + L.off,fun x=>L.get x.2,fun x y=>(x.1,L.set x.2 y)⟩
    | none=>none
def flens (n i:Nat):Option (Σ u,Lens T (.st n) u):=
  match hlens (T:=T) (T.fs n) i with
  | some ⟨u,L⟩=>some ⟨u,L.off,fun x=>L.get (T.to n x),fun x y=>T.of n (L.set (T.to n x) y)⟩
  | none=>none
def Lens.comp {t u w:Tp} (L:Lens T t u) (M:Lens T u w):Lens T t w:=
  ⟨L.off + M.off,fun x=>M.get (L.get x),fun x y=>L.set x (M.set (L.get x) y)⟩

/-- the offset of a field, if the program has it so -/
def fldOff (P:Program) (s f:Nat):Option Nat:=
  match P.underlying s with
  | some (.struct fs) => match fs[f]? with
    | some d => match P.info? d.type with
      | some i => match i.size with
        | 0=>none
        | _ + 1=>some d.offset
      | none=>none
    | none=>none
  | _=>none
def tyB (P:Program) (T:Tb) (t:TypeId) (u:Tp):Bool:=
  (match P.underlying t with | some d=>aggOf d == (T.e u).agg | none=>false) &&
  (match P.info? t with | some i=>i.size == (T.e u).sz | none=>false)
def elB (P:Program) (T:Tb) (e:TypeId) (u:Tp):Bool:=
  match P.info? e with
  | some i=>(match i.zero with | some z=>z.cells.size == szT T u | none=>false) && i.size == szT T u && Nat.ble 1 (szT T u) && Nat.ble i.bytes 65536
  | none=>false
def slOf (P:Program) (t:TypeId):Option TypeId:=
  match P.underlying t with | some (.slice e)=>some e | _=>none

def joinO:List (Option (List Value)) → Option (List Value)
  | []=>some []
  | a :: l => match a, joinO l with
    | some x,some y=>some (x ++ y)
    | _,_=>none
def zc (T:Tb):Nat → Tp → Option (List Value)
  | 0,_=>none
  | _ + 1,.int=>some [.int .i64 0]
  | _ + 1,.bool=>some [.bool false]
  | _ + 1,.str=>some [.string ⟨#[]⟩]
  | _ + 1,.ik κ=>some [.int κ 0]
  | _ + 1,.list _=>some [.slice none 0 0]
  | _ + 1,.op=>some [.slice none 0 0]
  | _ + 1,.rf _=>none
  | _ + 1,.f0 _=>none
  | _ + 1,.f1 _ _=>none
  | _ + 1,.f2 _ _ _=>none
  | _ + 1,.pv=>none
  | f + 1,.st n=>joinO ((T.fs n).map (zc T f))
def vEq:Value → Value → Bool
  | .int κ n,.int κ' n'=>κ == κ' && n == n'
  | .bool a,.bool b=>a == b
  | .string a,.string b=>a.data.size == 0 && b.data.size == 0
  | .slice none 0 0,.slice none 0 0=>true
  | _,_=>false
def vsEq:List Value → List Value → Bool
  | [],[]=>true
  | a::l,b::m=>vEq a b && vsEq l m
  | _,_=>false
def zeroB (P:Program) (T:Tb) (ty:TypeId) (t:Tp):Bool:=
  match P.info? ty with
  | some i => match i.zero, zc T 9 t with
    | some z,some cs=>(match z with | .agg a=>(T.e t).agg && vsEq a.toList cs | z=>!(T.e t).agg && vsEq [z] cs)
    | _,_=>false
  | none=>false
/-- A function, as it is known to those that call it. -/
structure FnE (T:Tb) where
  dom:List Tp
  cod:List Tp
  run:HL T.S dom → Option (HL T.S cod)
def args:(l:List Tp) → List (AV T) → Option (HL T.S l)
  | [],[]=>some ()
  | [a],[x]=>asT a x
  | a :: b :: l, x :: xs => match asT a x, args (b :: l) xs with
    | some y,some ys=>some (y,ys)
    | _,_=>none
  | _,_=>none
def unH:(l:List Tp) → HL T.S l → List (Σ t,T.D t)
  | [],_=>[]
  | [a],x=>[⟨a,x⟩]
  | a::b::l,x=>⟨a,x.1⟩::unH (b::l) x.2
def resV (l:List Tp) (x:HL T.S l):AV T:=
  match l,x with
  | [],_=>.any
  | [a],x=>mkv a x
  | a::b::l,x=>.tup (unH (a::b::l) x)
/-- Parameters: values, and what is turned, or taken over. -/
inductive Pm where
  | v (t:Tp) | tu | tk | fn (g:Nat)
def valsP:List Pm → List Tp
  | []=>[]
  | .v t::l=>t::valsP l
  | _::l=>valsP l
def hdH {S:Nat → Type}:{t:Tp} → {l:List Tp} → HL S (t::l) → t.den S
  | _,[],x=>x
  | _,_::_,x=>x.1
def tlH {S:Nat → Type}:{t:Tp} → {l:List Tp} → HL S (t::l) → HL S l
  | _,[],_=>()
  | _,_::_,x=>x.2
def consH {S:Nat → Type}:{t:Tp} → {l:List Tp} → t.den S → HL S l → HL S (t::l)
  | _,[],x,_=>x
  | _,_::_,x,y=>(x,y)
/-- A function that turns, takes over or makes things that are a call's own. -/
structure FnR (T:Tb) where
  pm:List Pm
  tu:Rk
  tk:Rk
  ro:Rk
  cod:List Tp
  ρ:Type
  inj:ρ → tu.D T × ro.D T × HL T.S cod
  run:HL T.S (valsP pm) → tu.D T → tk.D T → Option ρ
def Rk.av:(κ:Rk) → κ.D T → AV T
  | .n,_=>.any
  | .o e t,xs=>.own false e t xs
  | .b t,x=>.box false t x
  | .c m,x=>.rs false m x
def isN:Rk → Bool
  | .n=>true
  | _=>false
/-- what is known of the results of such a function -/
def resR (ro:Rk) (cod:List Tp) (w:ro.D T) (r:HL T.S cod):AV T:=
  bif isN ro then resV cod r else match cod,r with
    | [],_=>ro.av w
    | c::l,r=>.tr false ro w (unH (c::l) r)
/-- A function that only looks at a thing of a custom kind (its first parameter). -/
structure FnQ (T:Tb) where
  /-- is it no parameter? -/
  amb:Bool
  m:Nat
  dom:List Tp
  cod:List Tp
  run:T.RD m → HL T.S dom → Option (HL T.S cod)
abbrev QDeps (T:Tb):=List (FuncId × FnQ T)
def qdep:QDeps T → FuncId → Option (FnQ T)
  | [],_=>none
  | (g,d)::l,f=>bif Nat.beq g f then some d else qdep l f
/-- the thing that is looked at -/
def rsOf (e:Env T) (m:Nat):AV T → Option (T.RD m)
  | .al s => match lk e s with
    | .rs _ m' z => match natSame m' m with
      | some h=>some (h.down ▸ z)
      | none=>none
    | _=>none
  | _=>none
/-- .. the one of its kind that there is -/
def ambS (m:Nat) (e:Env T):Env T → Option Nat
  | []=>none
  | (s,.rs _ m' _)::l=>bif Nat.beq m' m && (match lk e s with | .rs _ m' _=>Nat.beq m' m | _=>false) then some s else ambS m e l
  | _::l=>ambS m e l
def qArgs (e:Env T) (amb:Bool) (m:Nat) (xs:List Operand):Option (T.RD m × List Operand):=
  bif amb then (match ambS m e e with
    | some s => match rsOf e m (.al s) with
      | some z=>some (z,xs)
      | none=>none
    | none=>none)
  else match xs with
    | x :: xs => match rsOf e m (mvv e x) with
      | some z=>some (z,xs)
      | none=>none
    | []=>none
abbrev Deps (T:Tb):=List (FuncId × FnE T)
abbrev RDeps (T:Tb):=List (FuncId × FnR T)
def rdep:RDeps T → FuncId → Option (FnR T)
  | [],_=>none
  | (g,d)::l,f=>bif Nat.beq g f then some d else rdep l f
def dep:Deps T → FuncId → Option (FnE T)
  | [],_=>none
  | (g,d)::l,f=>bif Nat.beq g f then some d else dep l f

section
variable {R:Type}
def binII (wr:Bool) (op:BinOp) (n m:Int) (k:AV T → Option R):Option R:=
  match op with
  | .add=>(bif wr then addW n m else addI n m).bind fun r=>k (.v .int r)
  | .sub=>(bif wr then subW n m else subI n m).bind fun r=>k (.v .int r)
  | .mul=>(mulI n m).bind fun r=>k (.v .int r)
  | .quo=>(quoI n m).bind fun r=>k (.v .int r)
  | .rem=>(remI n m).bind fun r=>k (.v .int r)
  | .lss=>k (.v .bool (decide (n < m)))
  | .leq=>k (.v .bool (decide (n ≤ m)))
  | .gtr=>k (.v .bool (decide (m < n)))
  | .geq=>k (.v .bool (decide (m ≤ n)))
  | .eql=>k (.v .bool (n == m))
  | .neq=>k (.v .bool (n != m))
  | .and=>k (.v .int (andI n m))
  | .andNot=>k (.v .int (andnI n m))
  | .or=>k (.v .int (orI n m))
  | _=>none
def isSh (op:BinOp):Bool:=match op with | .shl=>true | .shr=>true | _=>false
def shAmt:AV T → Option Int
  | .v .int n=>some n
  | .v (.ik _) q=>some q.n
  | _=>none
def shiftV (op:BinOp) (x:AV T) (m:Int) (k:AV T → Option R):Option R:=
  match x with
  | .v .int n => match op with
    | .shl=>(shlI n m).bind fun r=>k (.v .int r)
    | .shr=>(shrI n m).bind fun r=>k (.v .int r)
    | _=>none
  | .v (.ik a) p => bif decide (0 ≤ m) && Nat.ble m.toNat a.bits then (match op with
    | .shr=>k (.v (.ik a) (p.shr m))
    | .shl=>k (.v (.ik a) (p.shl m))
    | _=>none) else none
  | _=>none
def binV (wr:Bool) (op:BinOp) (isB:Bool) (eqn:Nat → Bool) (x y:AV T) (k:AV T → Option R):Option R:=
  match x,y with
  | .v .int n,.v .int m=>binII wr op n m k
  | .v .bool n, .v .bool m => bif isB then (match op with
    | .eql=>k (.v .bool (n == m))
    | .neq=>k (.v .bool (n != m))
    | _=>none) else none
  | .v .str n, .v .str m => match op with
    | .eql=>k (.v .bool (n.toList == m.toList))
    | .neq=>k (.v .bool (!(n.toList == m.toList)))
    | .geq=>k (.v .bool (!(Op.bytesLess n.toList m.toList)))
    | _=>none
  | .v (.st n) p, .v (.st m) q => match natSame m n with
    | some h => letI := T.deq n; bif eqn n then (match op with
      | .eql=>k (.v .bool (decide (p = h.down ▸ q)))
      | .neq=>k (.v .bool (!decide (p = h.down ▸ q)))
      | _=>none) else none
    | none=>none
  | .v (.ik a) p, .v (.ik b) q => match IntKind.same b a with
    | some h => match op with
      | .add=>k (.v (.ik a) (p.add (h.down ▸ q)))
      | .sub=>k (.v (.ik a) (p.sub (h.down ▸ q)))
      | .mul=>k (.v (.ik a) (p.mul (h.down ▸ q)))
      | .and=>k (.v (.ik a) (p.and (h.down ▸ q)))
      | .gtr=>k (.v .bool (decide ((h.down ▸ q:IK a).n < p.n)))
      | _=>none
    | none=>none
  | _,_=>none
def wrI (κ:IntKind) (n:Int):AV T:=match κ with
  | .i64=>.v .int (IntKind.i64.wrap n)
  | κ=>.v (.ik κ) ⟨κ.wrap n⟩
def extF (f off:Nat) (u:Tp) (g:(w:Tp) → Lens T u w → AV T):Option (AV T):=
  match u,g with
  | .st n, g => match flens (T := T) n f with
    | some ⟨w,L⟩=>bif Nat.beq L.off off then some (g w L) else none
    | none=>none
  | _,_=>none
def fieldO (f off:Nat) (a:AV T) (own:Nat → AV T):Option (AV T):=
  match a with
  | .ref t x=>extF f off t fun w L=>.ref w (L.get x)
  | .al s => match own s with
    | .box _ t x=>extF f off t fun w L=>.ab s t x w L
    | _=>none
  | .ab s t x u M=>extF f off u fun w L=>.ab s t x w (M.comp L)
  | .ao s e t xs i x u M=>extF f off u fun w L=>.ao s e t xs i x w (M.comp L)
  | _=>none
def fieldV (P:Program) (s f:Nat) (a:AV T) (own:Nat → AV T) (k:AV T → Option R):Option R:=
  match fldOff P s f with
  | none=>none
  | some off => match fieldO f off a own with
    | some r=>k r
    | none=>none
def loadV (P:Program) (T:Tb) (ty:TypeId) (a:AV T) (own:Nat → AV T):Option (AV T):=
  let g:=fun (u:Tp) (x:T.D u)=>bif tyB P T ty u then some (mkv u x) else none
  match a with
  | .ref t x=>g t x
  | .al s=>match own s with | .box _ t x=>g t x | _=>none
  | .ab _ _ x u L=>g u (L.get x)
  | .ao _ _ _ _ _ x u L=>g u (L.get x)
  | _=>none
/-- the values of the parts of a slice -/
def partsL (t:Tp) (e:Env T):Nat → List (Nat × Operand) → Option (List (T.D t))
  | _,[]=>some []
  | i, (j, x) :: l => bif Nat.beq i j then (match asT t (opv e x), partsL t e (i + 1) l with
    | some y,some ys=>some (y::ys)
    | _,_=>none) else none
/-- offset and size of a field -/
def fldPl (P:Program) (s f:Nat):Option (Nat × Nat):=
  match P.underlying s with
  | some (.struct fs) => match fs[f]? with
    | some d => match P.info? d.type with
      | some i=>some (d.offset,i.size)
      | none=>none
    | none=>none
  | _=>none
def allFld (P:Program) (s:Nat):Bool:=
  match P.underlying s with
  | some (.struct fs)=>fs.toList.all fun f=>(P.info? f.type).isSome
  | _=>false
def buildF (P:Program) (ty n:Nat) (e:Env T):List (Nat × Operand) → T.S n → Option (T.S n)
  | [],x=>some x
  | (j, y) :: l, x => match flens (T := T) n j, fldPl P ty j with
    | some ⟨u, L⟩, some (off, sz) => match asT u (opv e y) with
      | some z=>bif Nat.beq off L.off && Nat.beq sz (szT T u) then buildF P ty n e l (L.set x z) else none
      | none=>none
    | _,_=>none

/-- offset and size of a part -/
def plc (P:Program) (ty j:Nat):Option (Nat × Nat):=
  match P.underlying ty with
  | some (.struct _)=>fldPl P ty j
  | some (.array _ el) => match P.info? el with
    | some i=>some (j * i.size,i.size)
    | none=>none
  | _=>none
def allPl (P:Program) (ty:Nat):Bool:=
  match P.underlying ty with
  | some (.struct _)=>allFld P ty
  | some (.array _ el)=>(P.info? el).isSome
  | _=>false
/-- all parts, one after the other -/
def buildAll (P:Program) (ty:Nat) (ov:Operand → AV T):(l:List Tp) → (i off:Nat) → List (Nat × Operand) → Option (HL T.S l)
  | [],_,_,[]=>some ()
  | [a], i, off, [(j, y)] => match plc P ty i with
    | some (o,s)=>bif Nat.beq j i && (Nat.beq o off && Nat.beq s (szT T a)) then asT a (ov y) else none
    | none=>none
  | a :: b :: l, i, off, (j, y) :: ps => match plc P ty i with
    | some (o, s) => bif Nat.beq j i && (Nat.beq o off && Nat.beq s (szT T a)) then (match asT a (ov y), buildAll P ty ov (b :: l) (i + 1) (off + szT T a) ps with
      | some z,some r=>some (z,r)
      | _,_=>none) else none
    | none=>none
  | _,_,_,_=>none
def zeroN (P:Program) (T:Tb) (ty n:Nat):Bool:=
  match P.info? ty with
  | some i => match i.zero with
    | some (.agg z)=>Nat.beq z.size (szT T (.st n))
    | _=>false
  | none=>false

/-- What the evaluator is told of the program: the types of the numbers of types, and which boxes are written to. -/
structure Cx (T:Tb) where
  P:Program
  tid:TypeId → Option Tp
  eqs:List (TypeId × Nat)
  deps:Deps T
  rdeps:RDeps T
  wr:Bool
  own:List Nat
  rs:List ResultVar
  n:Nat
  /-- pieces of code of which it is told from elsewhere what they do; and the pieces that there are -/
  hk:Nat → Code → Env T → (R:Type) → (Env T → Option R) → Option R
  rg:Code → Prop
  qdeps:QDeps T

/-- a function value of a function and what it holds -/
def mkFn:(dom cod:List Tp) → (HL T.S dom → Option (HL T.S cod)) → List (AV T) → Option (AV T)
  | dom, [b], run, cs => match Nat.sub dom.length cs.length with
    | 0 => match args dom cs with
      | some z=>some (.v (.f0 b) fun _=>run z)
      | none=>none
    | 1 => match dom, run with
      | [a],run=>some (.v (.f1 a b) fun x=>run x)
      | a :: c :: l, run => match args (c :: l) cs with
        | some z=>some (.v (.f1 a b) fun x=>run (x,z))
        | none=>none
      | [],_=>none
    | 2 => match dom, run with
      | [a,a'],run=>some (.v (.f2 a a' b) fun x y=>run (x,y))
      | a :: a' :: c :: l, run => match args (c :: l) cs with
        | some z=>some (.v (.f2 a a' b) fun x y=>run (x,y,z))
        | none=>none
      | _,_=>none
    | _=>none
  | _,_,_,_=>none
/-- the value of an operand, functions too -/
def opvF (C:Cx T) (e:Env T):Operand → AV T
  | .func f => match dep C.deps f with
    | some d => match mkFn d.dom d.cod d.run [] with
      | some a=>a
      | none=>.top
    | none=>.top
  | x=>opv e x
def bslice (C:Cx T) (e:Env T) (ty:TypeId) (n:Nat) (ps:Array (Nat × Operand)):Option (Σ t,TypeId × List (T.D t)):=
  match slOf C.P ty with
  | some el => match C.tid el with
    | some t => match partsL t e 0 ps.toList with
      | some xs=>bif Nat.beq xs.length n && elB C.P T el t && Nat.ble (n * szT T t) 16777216 then some ⟨t,(el,xs)⟩ else none
      | none=>none
    | none=>none
  | none=>none
/-- the parts of an array -/
def partsH {S:Nat → Type} (t:Tp):(l:List Tp) → HL S l → Option (List (t.den S))
  | [],_=>some []
  | [a], x => match cast? a t x with
    | some y=>some [y]
    | none=>none
  | a :: b :: l, x => match cast? a t x.1, partsH t (b :: l) x.2 with
    | some y,some r=>some (y::r)
    | _,_=>none
def partsN {S:Nat → Type}:(l:List Tp) → HL S l → Option (Σ t:Tp,List (t.den S))
  | [],_=>none
  | [t], x => match partsH t [t] x with
    | some r=>some ⟨t,r⟩
    | none=>none
  | t :: b :: l, x => match partsH t (t :: b :: l) x with
    | some r=>some ⟨t,r⟩
    | none=>none
/-- a test whether something that is a call's own is nil -/
def nilT (P:Program) (ty:TypeId) (e:Env T) (op:BinOp) (x y:Operand):Option Bool:=
  match y,mvv e x,P.underlying ty with
  | .const (.pointer none), .al s, some (.pointer _) => match lk e s with
    | .rs _ n z => match op, T.RN n z with
      | .eql,some b=>some b
      | .neq,some b=>some (!b)
      | _,_=>none
    | _=>none
  | _,_,_=>none
/-- One operation that writes to nothing that was there. -/
def step1 (C:Cx T) (e:Env T) (o:Oper) (k:AV T → Option R):Option R:=
  match o.op with
  | .move x=>k (mvv e x)
  | .assign x=>k (mvv e x)
  | .pick c x y => match asB (opv e c) with
    | some m=>if m then (match asB (opv e x) with | some b=>k (.v .bool b) | none=>none) else (match asB (opv e y) with | some b=>k (.v .bool b) | none=>none)
    | none=>none
  | .binOp op ty x y _=>bif isSh op then (match shAmt (opv e y) with | some m=>shiftV op (opv e x) m k | none=>none) else match nilT C.P ty e op x y with | some b=>k (.v .bool b) | none=>binV C.wr op (match C.P.underlying ty with | some .bool=>true | _=>false) (fun n=>C.eqs.contains (ty,n)) (opv e x) (opv e y) k
  | .unOp .not _ x => match asB (opv e x) with
    | some b=>k (.v .bool (!b))
    | none=>none
  | .unOp .neg _ x => match asI (opv e x) with
    | some n=>(subI 0 n).bind fun r=>k (.v .int r)
    | none=>none
  | .convert s d x => match C.P.underlying s, C.P.underlying d, opv e x with
    | some _,some (.int κ),.v .int n=>k (wrI κ n)
    | some _,some (.int κ),.v (.ik _) n=>k (wrI κ n.n)
    | _,_,_=>none
  | .load ty x => match loadV C.P T ty (mvv e x) (lk e) with
    | some a=>k a
    | none=>none
  | .fieldAddr s x f=>fieldV C.P s f (mvv e x) (lk e) k
  | .indexAddr ty x y => match asI (opv e y), slOf C.P ty with
    | some i, some el => match x with
      | .tmp s => match res e (nrm (lk e s)) with
        | .v (.list t) xs=>bif tyB C.P T el t then (getI xs i).bind fun z=>k (.ref t z) else none
        | .own _ e' t xs=>bif tyB C.P T el t && Nat.beq el e' then (getI xs i).bind fun z=>k (.ao (slotOf e s) e' t xs i.toNat z t (Lens.id t)) else none
        | .rs _ m x => match T.RL m x with
          | some ⟨t,xs⟩=>bif tyB C.P T el t then (getI xs i).bind fun z=>k (.ref t z) else none
          | none=>none
        | _=>none
      | _=>none
    | some i, none => match C.P.underlying ty, opv e x with
      | some (.array m el), .ref (.st n) z => match partsN (T.fs n) (T.to n z) with
        | some ⟨t,xs⟩=>bif Nat.beq m xs.length && tyB C.P T el t then (getI xs i).bind fun r=>k (.ref t r) else none
        | none=>none
      | _,_=>none
    | _,_=>none
  | .index ty x y => match opv e x, asI (opv e y), C.P.underlying ty with
    | .v (.st n) z, some i, some (.array m el) => match partsN (T.fs n) (T.to n z) with
      | some ⟨t,xs⟩=>bif Nat.beq m xs.length && tyB C.P T el t then (getI xs i).bind fun r=>k (mkv t r) else none
      | none=>none
    | _,_,_=>none
  | .extract x i => match opv e x with
    | .tup l => match l[i]? with
      | some ⟨t,y⟩=>k (mkv t y)
      | none=>none
    | .tq l => match i with
      | 0=>none
      | i + 1 => match l[i]? with
        | some ⟨t,y⟩=>k (mkv t y)
        | none=>none
    | .tr _ _ _ l => match i with
      | 0=>none
      | i + 1 => match l[i]? with
        | some ⟨t,y⟩=>k (mkv t y)
        | none=>none
    | .al s => match lk e s with
      | .tr _ _ _ l => match i with
        | 0=>none
        | i + 1 => match l[i]? with
          | some ⟨t,y⟩=>k (mkv t y)
          | none=>none
      | _=>none
    | _=>none
  | .box ty x => match opv e x with
    | .v t y=>bif tyB C.P T ty t then k (.ref t y) else none
    | .ref t y=>bif tyB C.P T ty (.rf t) then k (.ref (.rf t) y) else none
    | _=>none
  | .nilCheck x => match mvv e x with
    | .ref t y=>k (.ref t y)
    | .al s=>match lk e s with | .box _ _ _=>k (.al s) | _=>none
    | _=>none
  | .makeFunc (.func f) first caps => match first.toList with
    | [x] => match caps.toList, mvv e x with
      | [],.al s=>k (.mv f s)
      | _,_=>none
    | [] => match dep C.deps f with
     | some d=>match mkFn d.dom d.cod d.run (caps.toList.map (opv e)) with
      | some a=>k a
      | none=>none
     | none=>none
    | _=>none
  | .slice ty x lo hi mx => match slOf C.P ty with
    | none=>none
    | some el => match mx with
      | some (.const (.int .i64 0)) => match hi, (match lo with | none => true | some (.const (.int .i64 0)) => true | _ => false), asL e (opv e x) with
        | some (.const (.int .i64 0)),true,some ⟨t,_⟩=>bif tyB C.P T el t then k .e0 else none
        | _,_,_=>none
      | none => match opv e x with
        | .v (.list t) xs=>bif tyB C.P T el t then
            (match lo,hi with
            | some l, some h => match asI (opv e l), asI (opv e h) with
              | some l,some h=>(sliceI xs l h).bind fun r=>k (.v (.list t) r)
              | _,_=>none
            | some l, none => match asI (opv e l) with
              | some l=>(sliceI xs l (xs.length:Int)).bind fun r=>k (.v (.list t) r)
              | none=>none
            | none, some h => match asI (opv e h) with
              | some h=>(sliceI xs 0 h).bind fun r=>k (.v (.list t) r)
              | none=>none
            | none,none=>none) else none
        | _=>none
      | _=>none
  | .build ty ps => match C.tid ty with
    | some (.st n) => bif zeroB C.P T ty (.st n) && allFld C.P ty then (match buildF C.P ty n e ps.toList (T.zero n) with
      | some x=>k (.v (.st n) x)
      | none=>none) else bif zeroN C.P T ty n && allPl C.P ty then (match buildAll C.P ty (opvF C e) (T.fs n) 0 0 ps.toList with
      | some y=>k (.v (.st n) (T.of n y))
      | none=>none) else none
    | _=>none
  | .buildSlice ty n ps => match n with
    | 0 => match ps.toList, slOf C.P ty with
      | [], some el => match C.tid el with
        | some t=>bif elB C.P T el t then k .e0 else none
        | none=>none
      | _,_=>none
    | _ => match bslice C e ty n ps with
      | some ⟨t,(_,xs)⟩=>k (.fl t xs)
      | none=>none
  | .call c => match c.callee with
    | .builtin .len => match c.args.toList, c.argTypes[0]? with
      | [x], some ty => match slOf C.P ty with
        | some _ => match res e (opv e x) with
          | .v (.list _) xs=>k (.v .int (xs.length:Int))
          | .own _ _ _ xs=>k (.v .int (xs.length:Int))
          | .e0=>k (.v .int ((0:Nat):Int))
          | .rs _ m x => match T.RL m x with
            | some ⟨_,xs⟩=>k (.v .int (xs.length:Int))
            | none=>none
          | _=>none
        | none=>none
      | _,_=>none
    | .builtin .max => match c.args.toList with
      | [x, y] => match asI (opv e x), asI (opv e y) with
        | some a,some b=>k (.v .int (max a b))
        | _,_=>none
      | [x, y, z] => match asI (opv e x), asI (opv e y), asI (opv e z) with
        | some a,some b,some c=>k (.v .int (max (max a b) c))
        | _,_,_=>none
      | [x, y, z, u, w] => match asI (opv e x), asI (opv e y), asI (opv e z), asI (opv e u), asI (opv e w) with
        | some a,some b,some c,some d,some f=>k (.v .int (max (max (max (max a b) c) d) f))
        | _,_,_,_,_=>none
      | _=>none
    | .builtin .min => match c.args.toList with
      | [x, y] => match asI (opv e x), asI (opv e y) with
        | some a,some b=>k (.v .int (min a b))
        | _,_=>none
      | [x, y, z] => match asI (opv e x), asI (opv e y), asI (opv e z) with
        | some a,some b,some c=>k (.v .int (min (min a b) c))
        | _,_,_=>none
      | [x, y, z, u] => match asI (opv e x), asI (opv e y), asI (opv e z), asI (opv e u) with
        | some a,some b,some c,some d=>k (.v .int (min (min (min a b) c) d))
        | _,_,_,_=>none
      | _=>none
    | .builtin .append => match c.args.toList, c.argTypes.toList with
      | [x, y], [ty, ty'] => match slOf C.P ty with
        | some el => match asF e x with
          | some ⟨t, xs⟩ => match asL e (opv e y) with
            | some ⟨u, ys⟩ => match cast? (.list u) (.list t) ys with
              | some ys=>bif Nat.beq ty ty' && elB C.P T el t then (appI xs ys).bind fun r=>k (.v (.list t) r) else none
              | none=>none
            | none=>none
          | none => match res e (opv e x), asL e (opv e y) with
            | .e0,some ⟨t,ys⟩=>bif Nat.beq ty ty' && elB C.P T el t then (appI [] ys).bind fun r=>k (.v (.list t) r) else none
            | _,_=>none
        | none=>none
      | _,_=>none
    | .value (.func f) => match dep C.deps f with
      | some d => match args d.dom (c.args.toList.map (opvF C e)) with
        | some a=>(d.run a).bind fun r=>k (resV d.cod r)
        | none=>none
      | none => match qdep C.qdeps f with
        | some d => match qArgs e d.amb d.m c.args.toList with
          | some (z, xs) => match args d.dom (xs.map (opvF C e)) with
            | some a=>(d.run z a).bind fun r=>k (resV d.cod r)
            | none=>none
          | none=>none
        | none=>none
    | .value (.tmp s) => match lk e s with
      | .v (.f0 b) g => match c.args.toList with
        | []=>(g ()).bind fun r=>k (mkv b r)
        | _=>none
      | .v (.f1 a b) g => match c.args.toList with
        | [x] => match asT a (opv e x) with
          | some x=>(g x).bind fun r=>k (mkv b r)
          | none=>none
        | _=>none
      | .v (.f2 a a' b) g => match c.args.toList with
        | [x, y] => match asT a (opv e x), asT a' (opv e y) with
          | some x,some y=>(g x y).bind fun r=>k (mkv b r)
          | _,_=>none
        | _=>none
      | _=>none
    | _=>none
  | _=>none
end
end Go.Gb


