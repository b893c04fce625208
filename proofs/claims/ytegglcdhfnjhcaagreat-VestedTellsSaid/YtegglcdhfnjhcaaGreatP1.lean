/- The plain part of the proof (no program in sight), part 1 -/
import Derived.Test.YtegglcdhfnjhcaaGreatT4
set_option linter.unusedVariables false
set_option linter.unusedSimpArgs false
set_option linter.unusedSectionVars false
namespace Go.Proofs.YtegglcdhfnjhcaaGreat
open Go.Gb


def rin (r:aw) (x y:Int):Prop:=(r.X0 ≤ x∧x < r.X1)∧r.Y0 ≤ y∧y < r.Y1
instance (r:aw) (x y:Int):Decidable (rin r x y):=inferInstanceAs (Decidable (_∧_))
def cells (l:List aw) (x y:Int):Prop:=∃ r ∈ l,rin r x y
def VR (r:aw):Prop:=0 ≤ r.X0∧r.X0 < r.X1∧r.X1 ≤ 1048576∧0 ≤ r.Y0∧r.Y0 < r.Y1∧r.Y1 ≤ 1048576
instance (r:aw):Decidable (VR r):=inferInstanceAs (Decidable (_∧_))
abbrev Col:=gu Bool
def aC (l:List ar):Col:=l.map fun s=>(s.from_,s.to_,true)
theorem o7 (a b:List ar):aC (a ++ b) = aC a ++ aC b:=List.map_append
theorem eY : ∀ {a b:List ar},aC a = aC b → a = b
 | [],[],_=>rfl
 | [],_::_,h=>by simp [aC] at h
 | _::_,[],h=>by simp [aC] at h
 | ⟨f, t⟩ :: a, ⟨f', t'⟩ :: b, h => by
  simp only [aC,List.map_cons,List.cons.injEq,Prod.mk.injEq] at h
  obtain ⟨⟨rfl,rfl,_⟩,h⟩:=h
  rw [eY (a:=a) (b:=b) h]
theorem bJ (r:aw):gk r = some (decide (VR r)):=by
 unfold gk
 congr 1
 rw [Bool.eq_iff_iff,decide_eq_true_iff]
 simp only [Bool.and_eq_true,decide_eq_true_eq]
 unfold VR
 constructor
 ·rintro ⟨⟨⟨⟨⟨h1,h2⟩,h3⟩,h4⟩,h5⟩,h6⟩; exact ⟨h1,h2,h3,h4,h5,h6⟩
 ·rintro ⟨h1,h2,h3,h4,h5,h6⟩; exact ⟨⟨⟨⟨⟨h1,h2⟩,h3⟩,h4⟩,h5⟩,h6⟩

def fv (out:List ar) (s:ar):List ar:=
 match out.getLast? with
 | some t=>if s.from_ ≤ t.to_ then out.dropLast ++ [⟨t.from_,max t.to_ s.to_⟩] else out ++ [s]
 | none=>[s]
theorem Bh {out:List ar} {s:ar} (hc:Canon false (aC out)) (hs:s.from_ < s.to_) (hle : ∀ t ∈ out,t.from_ ≤ s.from_) :
  Canon false (aC (fv out s))∧(∀ y,bX false (aC (fv out s)) y = true ↔ bX false (aC out) y = true ∨ (s.from_ ≤ y∧y < s.to_)) ∧
  (∀ t ∈ fv out s,t.from_ ≤ s.from_)∧(fv out s).length ≤ out.length + 1:=by
 rcases List.eq_nil_or_concat out with rfl | ⟨o,t,rfl⟩
 ·refine ⟨⟨hs, by simp, trivial, trivial⟩, fun y => ?_, fun t ht => by simp [fv] at ht; subst ht; exact Int.le_refl _, by simp [fv]⟩
  simp [fv,aC,bX]
 ·rw [List.concat_eq_append] at *
  have ht:=hle t (by simp)
  have e:aC (o ++ [t]) = aC o ++ [(t.from_,t.to_,true)]:=by simp [aC]
  rw [e] at hc ⊢
  obtain ⟨h1,h2,h3⟩:=qS hc
  have h4:=qU hc
  unfold fv
  simp only [List.getLast?_append,List.getLast?_singleton,Option.some_or,List.dropLast_concat]
  split
  ·rename_i hm
   rw [o7]
   refine ⟨kZ (oK hc) h3 (show t.from_ < max t.to_ s.to_ by omega) (by simp),fun y=>?_,fun u hu=>?_,by simp⟩
   ·show bX false (aC o ++ [(t.from_, max t.to_ s.to_, true)]) y = true ↔ _
    rw [iA h4,iA h4]
    by_cases a1:t.from_ ≤ y∧y < t.to_
    ·rw [if_pos (by omega),if_pos a1]; simp
    ·rw [if_neg a1]
     by_cases a2:t.from_ ≤ y∧y < max t.to_ s.to_
     ·rw [if_pos a2]; simp; right; omega
     ·rw [if_neg a2]
      constructor
      ·exact .inl
      ·rintro (h | h)
       ·exact h
       ·exact absurd (by omega) a2
   ·rcases List.mem_append.1 hu with hu | hu
    ·exact hle u (by simp [hu])
    ·simp at hu; subst hu; exact ht
  ·rename_i hm
   rw [o7,e]
   have h5:nO (aC o ++ [(t.from_,t.to_,true)]) s.from_:=by
    intro r hr
    rcases List.mem_append.1 hr with hr | hr
    ·have:=h4 r hr; omega
    ·simp at hr; subst hr; show t.to_ ≤ _; omega
   refine ⟨kZ hc (fun r hr=>by simp at hr; subst hr; exact .inl (by show t.to_ < _; omega)) hs (by simp),fun y=>?_,fun u hu=>?_,by simp⟩
   ·show bX false ((aC o ++ [(t.from_, t.to_, true)]) ++ [(s.from_, s.to_, true)]) y = true ↔ _
    rw [iA h5]
    by_cases a1:s.from_ ≤ y∧y < s.to_
    ·rw [if_pos a1]; simp [a1]
    ·rw [if_neg a1]; simp [a1]
   ·rcases List.mem_append.1 hu with hu | hu
    ·exact hle u hu
    ·simp at hu; subst hu; exact Int.le_refl _
theorem q9 : ∀ (r out:List ar),Canon false (aC out) → (∀ s ∈ r,s.from_ < s.to_) → r.Pairwise (fun a b=>a.from_ ≤ b.from_) → (∀ t ∈ out,∀ s ∈ r,t.from_ ≤ s.from_) →
  Canon false (aC (r.foldl fv out))∧(∀ y,bX false (aC (r.foldl fv out)) y = true ↔ bX false (aC out) y = true ∨ ∃ s ∈ r,s.from_ ≤ y∧y < s.to_)∧(r.foldl fv out).length ≤ out.length + r.length
 | [],out,hc,_,_,_=>⟨hc,fun y=>by simp,by simp⟩
 | s :: r, out, hc, hs, hp, hle => by
  obtain ⟨h1,h2,h3,h4⟩:=Bh hc (hs s (by simp)) (fun t ht=>hle t ht s (by simp))
  have hp':=List.pairwise_cons.1 hp
  obtain ⟨k1,k2,k3⟩:=q9 r (fv out s) h1 (fun t ht=>hs t (by simp [ht])) hp'.2 (fun t ht u hu=>by
   have:=h3 t ht; have:=hp'.1 u hu; omega)
  refine ⟨k1,fun y=>?_,by simp only [List.foldl_cons,List.length_cons]; omega⟩
  rw [List.foldl_cons,k2,h2]
  simp [or_assoc]

def lV (l:List aw) (x:Int):List ar:=(l.filter fun r=>decide (r.X0 ≤ x) && decide (x < r.X1)).map fun r=>⟨r.Y0,r.Y1⟩
theorem D6 {l:List aw} {x:Int} (hl:l.length ≤ 100000) :
  ah (iG l x) (l.length + 1) (([]:List ar),0) = some (.ex 0 (lV l x,(l.length:Int))):=by
 refine (dz (k:=0) (l:=l) (fun s i=>(s,i)) (fun s r=>if (decide (r.X0 ≤ x) && decide (x < r.X1)) then s ++ [⟨r.Y0,r.Y1⟩] else s) (fun i s=>s.length ≤ i) ?_ ?_ (Nat.zero_le _) (by omega)).1.trans ?_
 ·intro i hi s hI
  constructor
  ·unfold iG
   dsimp only
   rw [if_pos (by simpa using hi),ae hi,qb]
   split
   ·rw [aF (by simp; omega),qb,qb,ag (by omega),qb]
   ·rw [qb,ag (by omega),qb]
  ·split
   ·simp; omega
   ·omega
 ·intro s _
  unfold iG
  dsimp only
  rw [if_neg (by simp)]
 ·rw [foldl_filterMap (fun r : aw => decide (r.X0 ≤ x) && decide (x < r.X1)) (fun r => (⟨r.Y0, r.Y1⟩ : ar))]
  rfl
theorem DU {r:List ar} (hl:r.length ≤ 100000) :
  ah (fQ r) (r.length + 1) (([]:List ar),0) = some (.ex 2 (r.foldl fv [],(r.length:Int))):=by
 refine (dz (k:=2) (l:=r) (fun s i=>(s,i)) fv (fun i s=>s.length ≤ i) ?_ ?_ (Nat.zero_le _) (by omega)).1
 ·intro i hi s hI
  rcases List.eq_nil_or_concat s with rfl | ⟨o,t,rfl⟩
  ·constructor
   ·unfold fQ
    dsimp only
    rw [if_pos (by simpa using hi),ae hi,qb,if_neg (by simp),qb,if_neg (by simp),aF (by simp),qb,qb,ag (by omega),qb]
    rfl
   ·simp [fv]
  ·rw [List.concat_eq_append] at *
   have hol:o.length + 1 ≤ i:=by simpa using hI
   constructor
   ·unfold fQ
    dsimp only
    rw [if_pos (by simpa using hi),ae hi,qb,if_pos (by simp)]
    simp only [uq (l:=o) (x:=t) (by omega),pE (l:=o) (x:=t) rfl,qb]
    by_cases hm:r[i].from_ ≤ t.to_
    ·rw [if_pos (by simpa using hm), vk (by simp), qb, ag (by omega), qb]
     simp [fv,hm]
    ·rw [if_neg (by simpa using hm), aF (by simp; omega), qb, qb, ag (by omega), qb]
     simp [fv,hm]
   ·unfold fv
    simp only [List.getLast?_append,List.getLast?_singleton,Option.some_or,List.dropLast_concat]
    split <;> simp <;> omega
 ·intro s _
  unfold fQ
  dsimp only
  rw [if_neg (by simp)]

structure CC (l:List aw) (x:Int) (c:List ar):Prop where
 canon:Canon false (aC c)
 val : ∀ y,bX false (aC c) y = true ↔ cells l x y
 len:c.length ≤ l.length
theorem AS {l:List aw} {x:Int} (hv : ∀ r ∈ l,VR r) (hl:l.length ≤ 100000) : ∃ c,ln l x = some c∧CC l x c:=by
 have hcl:(lV l x).length ≤ l.length:=by unfold lV; rw [List.length_map]; exact List.length_filter_le _ _
 obtain ⟨r,hr,hp,hs⟩:=vt (l:=lV l x) (by omega)
 have hrl:=hp.length_eq
 have hpos : ∀ s ∈ r,s.from_ < s.to_:=by
  intro s hs
  have:=hp.mem_iff.1 hs
  simp only [lV,List.mem_map,List.mem_filter] at this
  obtain ⟨q,⟨hq,_⟩,rfl⟩:=this
  exact (hv q hq).2.2.2.2.1
 obtain ⟨h1,h2,h3⟩:=q9 r [] trivial hpos hs (by simp)
 refine ⟨r.foldl fv [],?_,h1,fun y=>?_,by simp at h3; omega⟩
 ·unfold ln
  rw [D6 hl,qb]
  dsimp only
  rw [hr,qb,DU (by omega),qb]
 ·rw [h2]
  simp only [aC,List.map_nil,bX,Bool.false_eq_true,false_or]
  constructor
  ·rintro ⟨s, hs, h⟩
   have:=hp.mem_iff.1 hs
   simp only [lV,List.mem_map,List.mem_filter,Bool.and_eq_true,decide_eq_true_eq] at this
   obtain ⟨q,⟨hq,hx⟩,rfl⟩:=this
   exact ⟨q,hq,hx,h⟩
  ·rintro ⟨q, hq, hx, h⟩
   refine ⟨⟨q.Y0,q.Y1⟩,hp.mem_iff.2 ?_,h⟩
   simp only [lV,List.mem_map,List.mem_filter,Bool.and_eq_true,decide_eq_true_eq]
   exact ⟨q,⟨hq,hx⟩,rfl⟩


def eh (G:gu Col):List aw:=G.flatMap fun g=>g.2.2.map fun s=>⟨g.1,s.1,g.2.1,s.2.1⟩
theorem jW (G H:gu Col):eh (G ++ H) = eh G ++ eh H:=List.flatMap_append
theorem om (a b:Int) (c:List ar):eh [(a,b,aC c)] = c.map fun s=>⟨a,s.from_,b,s.to_⟩:=by
 simp [eh,aC]
def eC (S:Int → Int → Prop) (out:List aw):Prop:=
 ∃ G:gu Col,Canon [] G∧(∀ a b c,(a,b,c) ∈ G → Canon false c)∧(∀ x y,bX false (bX [] G x) y = true ↔ S x y)∧out = eh G
theorem zI {G:gu Col} (h : ∀ a b c,(a,b,c) ∈ G → Canon false c) (x:Int):Canon false (bX [] G x):=by
 rcases ni (e:=[]) (l:=G) (x:=x) with h1 | ⟨a,b,h1,_⟩
 ·rw [h1]; trivial
 ·exact h _ _ _ h1
theorem eC.unique {S S' : Int → Int → Prop} {out out' : List aw} (h:eC S out) (h' : eC S' out') (he : ∀ x y,S x y ↔ S' x y):out = out':=by
 obtain ⟨G,h1,h2,h3,rfl⟩:=h
 obtain ⟨G', k1, k2, k3, rfl⟩ := h'
 rw [mz h1 k1 fun x=>mz (zI h2 x) (zI k2 x) fun y=>?_]
 rw [Bool.eq_iff_iff,h3,k3,he]
theorem eC.congr {S S' : Int → Int → Prop} {out:List aw} (h:eC S out) (he : ∀ x y,S x y ↔ S' x y):eC S' out:=by
 obtain ⟨G,h1,h2,h3,rfl⟩:=h
 exact ⟨G,h1,h2,fun x y=>(h3 x y).trans (he x y),rfl⟩
theorem wi {c:Col} {y:Int}:bX false c y = true → ∃ a b,(a,b,true) ∈ c∧a ≤ y∧y < b:=by
 intro h
 rcases ni (e:=false) (l:=c) (x:=y) with h1 | ⟨a,b,h1,h2⟩
 ·rw [h] at h1; simp at h1
 ·rw [h] at h1; exact ⟨a,b,h1,h2⟩
theorem eC.cells {S:Int → Int → Prop} {out:List aw} (h:eC S out) (x y:Int):cells out x y ↔ S x y:=by
 obtain ⟨G,h1,h2,h3,rfl⟩:=h
 rw [← h3]
 constructor
 ·rintro ⟨r, hr, hx, hy⟩
  simp only [eh,List.mem_flatMap,List.mem_map] at hr
  obtain ⟨⟨a,b,c⟩,hg,⟨f,t,v⟩,hs,rfl⟩:=hr
  have hc:=h2 a b c hg
  have hv:v = true:=by
   have:=(su hc hs).2
   cases v <;> simp_all
  subst hv
  rw [nz h1 hg hx.1 hx.2]
  exact nz hc hs hy.1 hy.2
 ·intro h
  obtain ⟨f,t,hs,hy1,hy2⟩:=wi h
  rcases ni (e:=[]) (l:=G) (x:=x) with h4 | ⟨a,b,h4,h5⟩
  ·rw [h4] at hs; simp at hs
  ·refine ⟨⟨a, f, b, t⟩, ?_, h5, hy1, hy2⟩
   simp only [eh,List.mem_flatMap,List.mem_map]
   exact ⟨_,h4,_,hs,rfl⟩
theorem eC.self {S:Int → Int → Prop} {out:List aw} (h:eC S out):eC (YtegglcdhfnjhcaaGreat.cells out) out:=h.congr fun x y=>(h.cells x y).symm
theorem form_nil:eC (fun _ _=>False) []:=⟨[],trivial,by simp,by simp [bX],rfl⟩

def bM (l:List aO):gu Col:=l.map fun s=>(s.x0,s.x1,aC s.column)
structure mG (l:List aO):Prop where
 pos : ∀ s ∈ l,s.x0 < s.x1
 next : ∀ i (h:i + 1 < l.length),(l[i]'(by omega)).x1 = l[i + 1].x0
 col : ∀ s ∈ l,Canon false (aC s.column)

theorem wA {a b:List ar} (hl:a.length = b.length) (hb:a.length ≤ 1000000) :
  ∃ f,ah (bV a b) (a.length + 1) 0 = some f∧((a = b∧∃ s,f = .ex 0 s) ∨ (a ≠ b∧f = .ret false)):=by
 have hs : ∀ i (hi:i < (a.zip b).length),((a.zip b)[i].1 ≠ (a.zip b)[i].2∧bV a b (i:Int) = some (.ret false)) ∨
   (¬ ((a.zip b)[i].1 ≠ (a.zip b)[i].2)∧bV a b (i:Int) = some (.go ((i + 1:Nat):Int))):=by
  intro i hi
  simp only [List.length_zip] at hi
  have h1:i < a.length:=by omega
  have h2:i < b.length:=by omega
  unfold bV
  rw [if_pos (by simpa using h1)]
  simp only [ae h1,ae h2,qb,List.getElem_zip]
  by_cases he:a[i] = b[i]
  ·right
   rw [if_neg (by simpa using he)]
   simp only [ag (show i < 4611686018427387904 by omega),qb]
   exact ⟨by simpa using he,trivial⟩
  ·left
   rw [if_pos (by simpa using he)]
   exact ⟨he,rfl⟩
 have hd:bV a b ((a.zip b).length:Int) = some (.ex 0 ((a.zip b).length:Int)):=by
  have e:((a.zip b).length:Int) = (a.length:Int):=by simp; omega
  rw [e]
  unfold bV
  rw [if_neg (by simp)]
 rcases jP (l:=a.zip b) (body:=bV a b) (k:=0) (fun p=>p.1 ≠ p.2) (fun _=>false) hs hd (fuel:=a.length + 1) (by simp; omega) with ⟨i,hi,hp,_,h⟩ | ⟨hp,h⟩
 ·refine ⟨_, h, .inr ⟨fun e => ?_, rfl⟩⟩
  subst e
  simp at hp
 ·refine ⟨_, h, .inl ⟨?_, _, rfl⟩⟩
  refine List.ext_getElem hl fun i h1 h2=>?_
  have:=hp (a[i],b[i]) (by
   rw [List.mem_iff_getElem]
   exact ⟨i,by simp; omega,by simp⟩)
  simpa using this
theorem uR {a b:List ar} (hb:a.length ≤ 1000000):gW a b = some (decide (a = b)):=by
 unfold gW
 by_cases hl:a.length = b.length
 ·rw [if_neg (by simp [hl])]
  obtain ⟨f,hf,h⟩:=wA hl hb
  rw [hf,qb]
  rcases h with ⟨h1,s,rfl⟩ | ⟨h1,rfl⟩ <;> simp [h1]
 ·rw [if_pos (by simp; omega)]
  congr 1
  symm
  rw [decide_eq_false_iff_not]
  intro e; exact hl (by rw [e])

theorem xe {l:List aO} (h:mG l) : ∀ i (hi:i < l.length),nO (bM (l.take i)) l[i].x0
 | 0,_=>by intro r hr; simp [bM] at hr
 | i + 1, hi => by
  have ih:=xe h i (by omega)
  have hp:=h.pos l[i] (List.getElem_mem _)
  have hn:=h.next i hi
  intro r hr
  rw [List.take_succ_eq_append_getElem (by omega)] at hr
  simp only [bM,List.map_append,List.map_cons,List.map_nil,List.mem_append,List.mem_singleton] at hr
  rcases hr with hr | hr
  ·have:=ih r hr; omega
  ·subst hr; show (l[i]'(by omega)).x1 ≤ _; omega
theorem qm {l:List aO} (h:mG l) {i:Nat} (hi:i < l.length) (x:Int) :
  bX [] (bM (l.take (i + 1))) x = if l[i].x0 ≤ x∧x < l[i].x1 then aC l[i].column else bX [] (bM (l.take i)) x:=by
 rw [List.take_succ_eq_append_getElem hi]
 simp only [bM,List.map_append,List.map_cons,List.map_nil]
 exact iA (xe h i hi) x

theorem Fe {l:List aO} (h:mG l) (hl:l.length ≤ 100000) (hc : ∀ s ∈ l,s.column.length ≤ 1000000) {i:Nat} (hi:i < l.length) (s:List aw) {fuel:Nat} (hf:l.length < fuel) :
    ∃ k:Nat,ah (cH l (s,(i:Int))) fuel ((i + 1:Nat):Int) = some (.ex 2 (k:Int))∧∃ (hik:i < k) (hk:k ≤ l.length),
      (∀ x,bX [] (bM (l.take k)) x = if l[i].x0 ≤ x∧x < (l[k - 1]'(by omega)).x1 then aC l[i].column else bX [] (bM (l.take i)) x) ∧
      (∀ hk' : k < l.length,l[k].column ≠ l[i].column):=by
  have key : ∀ m j,j + m = l.length → ∀ (hij:i < j) (hj:j ≤ l.length),
      (∀ x,bX [] (bM (l.take j)) x = if l[i].x0 ≤ x∧x < (l[j - 1]'(by omega)).x1 then aC l[i].column else bX [] (bM (l.take i)) x) → ∀ fuel,m < fuel →
      ∃ k:Nat,ah (cH l (s,(i:Int))) fuel (j:Int) = some (.ex 2 (k:Int))∧∃ (hik:i < k) (hk:k ≤ l.length),
      (∀ x,bX [] (bM (l.take k)) x = if l[i].x0 ≤ x∧x < (l[k - 1]'(by omega)).x1 then aC l[i].column else bX [] (bM (l.take i)) x) ∧
      (∀ hk' : k < l.length,l[k].column ≠ l[i].column):=by
    intro m
    induction m with
    | zero =>
      intro j hjm hij hj hr fuel hf
      obtain ⟨fuel,rfl⟩ : ∃ m,fuel = m + 1:=⟨fuel - 1,by omega⟩
      refine ⟨j,?_,hij,hj,hr,fun hk'=>absurd hk' (by omega)⟩
      have e:cH l (s,(i:Int)) (j:Int) = some (.ex 2 (j:Int)):=by
        unfold cH
        dsimp only
        rw [if_neg (by simp; omega),qb,if_neg (by simp)]
      simp only [ah,e]
    | succ m ih =>
      intro j hjm hij hj hr fuel hf
      obtain ⟨fuel,rfl⟩ : ∃ m,fuel = m + 1:=⟨fuel - 1,by omega⟩
      have hjl:j < l.length:=by omega
      by_cases he:l[j].column = l[i].column
      · have e : cH l (s, (i : Int)) (j : Int) = some (.go ((j + 1 : Nat) : Int)) := by
          unfold cH
          dsimp only
          rw [if_pos (by simp; omega)]
          simp only [ae hjl,ae hi,qb,uR (hc _ (List.getElem_mem hjl))]
          rw [if_pos (by simpa using he),ag (by omega),qb]
        simp only [ah,e]
        refine ih (j + 1) (by omega) (by omega) (by omega) (fun x=>?_) fuel (by omega)
        rw [qm h hjl,hr x,he]
        have hn:(l[j - 1]'(by omega)).x1 = l[j].x0:=by
          have:=h.next (j - 1) (by omega)
          rw [this]; congr 2; omega
        have hp:=h.pos l[j] (List.getElem_mem _)
        have hlo : ∀ q (hq:q < l.length),i ≤ q → l[i].x0 ≤ l[q].x0:=by
          intro q
          induction q with
          | zero => intro hq hiq; have : i = 0 := by omega
                    subst this; exact Int.le_refl _
          | succ q ihq =>
            intro hq hiq
            rcases Nat.lt_or_ge q i with h' | h'
            · have : i = q + 1 := by omega
              subst this; exact Int.le_refl _
            · have := ihq (by omega) h'
              have h2:=h.pos (l[q]'(by omega)) (List.getElem_mem _)
              have h3:=h.next q hq
              omega
        have:=hlo j hjl (by omega)
        have e2:(l[j + 1 - 1]'(by omega)) = l[j]:=by congr 1
        rw [e2]
        by_cases c1:l[j].x0 ≤ x∧x < l[j].x1
        · rw [if_pos c1,if_pos (by omega)]
        · rw [if_neg c1]
          by_cases c2:l[i].x0 ≤ x∧x < (l[j - 1]'(by omega)).x1
          · rw [if_pos c2,if_pos (by omega)]
          · rw [if_neg c2,if_neg (by omega)]
      · refine ⟨j, ?_, hij, hj, hr, fun _ => he⟩
        have e:cH l (s,(i:Int)) (j:Int) = some (.ex 2 (j:Int)):=by
          unfold cH
          dsimp only
          rw [if_pos (by simp; omega)]
          simp only [ae hjl,ae hi,qb,uR (hc _ (List.getElem_mem hjl))]
          rw [if_neg (by simpa using he)]
        simp only [ah,e]
  exact key (l.length - (i + 1)) (i + 1) (by omega) (by omega) (by omega) (fun x=>by
    rw [qm h hi]
    have e2:(l[i + 1 - 1]'(by omega)) = l[i]:=by congr 1
    rw [e2]) fuel (by omega)


theorem wR {V:Type} {e:V} : ∀ {l:gu V} {n x:Int},nO l n → n ≤ x → bX e l x = e
 | [],_,_,_,_=>rfl
 | (a, b, v) :: t, n, x, h, hx => by
  have:=h (a,b,v) (by simp)
  simp only at this
  simp only [bX]
  rw [if_neg (by omega)]
  exact wR (fun r hr=>h r (List.mem_cons_of_mem _ hr)) hx
theorem re {l:List aO} (h:mG l) {i:Nat} (hi:i < l.length) : ∀ q (hq:q < l.length),i ≤ q → l[i].x0 ≤ l[q].x0
  | 0, hq, hiq => by have : i = 0 := by omega
                     subst this; exact Int.le_refl _
  | q + 1, hq, hiq => by
    rcases Nat.lt_or_ge q i with h' | h'
    · have : i = q + 1 := by omega
      subst this; exact Int.le_refl _
    · have := re h hi q (by omega) h'
      have h2:=h.pos (l[q]'(by omega)) (List.getElem_mem _)
      have h3:=h.next q hq
      omega

theorem Fy {l:List aO} {i k:Nat} (hi:i < l.length) (hik:i < k) (hk:k ≤ l.length) (hl:l.length ≤ 100000) (hc:l[i].column.length ≤ 1000) (s:List aw) {out:List aw} (ho:out.length ≤ 1000000000) :
  ah (jl l (s,(i:Int)) (k:Int) l[i]) (l[i].column.length + 1) (out,0) =
   some (.ex 4 (out ++ l[i].column.map fun s=>⟨l[i].x0,s.from_,(l[k - 1]'(by omega)).x1,s.to_⟩,(l[i].column.length:Int))):=by
 refine (dz (k:=4) (l:=l[i].column) (fun s i=>(s,i)) (fun o s=>o ++ [⟨l[i].x0,s.from_,(l[k - 1]'(by omega)).x1,s.to_⟩]) (fun j o=>o.length ≤ 1000000000 + j) ?_ ?_ (by omega) (by omega)).1.trans ?_
 ·intro j hj o hI
  constructor
  ·unfold jl
   dsimp only
   rw [if_pos (by simpa using hj),ae hj,qb,ae hi,qb]
   simp only [ic (show 0 < k by omega) (by omega),qb,ae (show k - 1 < l.length by omega)]
   rw [aF (by simp; omega),qb,ag (by omega),qb]
  ·simp; omega
 ·intro o _
  unfold jl
  dsimp only
  rw [if_neg (by simp)]
 ·rw [foldl_flatMap (fun s : ar => [(⟨l[i].x0, s.from_, (l[k - 1]'(by omega)).x1, s.to_⟩ : aw)])]
  simp [List.flatMap_singleton']
  rw [List.map_eq_flatMap]

theorem Bm {l:List aO} (h:mG l) (hl:l.length ≤ 100000) (hc : ∀ s ∈ l,s.column.length ≤ 1000) :
  ∃ out,kn l = some out∧∃ G:gu Col,Canon [] G∧(∀ a b c,(a,b,c) ∈ G → Canon false c)∧(∀ x,bX [] G x = bX [] (bM l) x)∧out = eh G:=by
 refine Exists.elim (wI (body:=jb l) (fun s=>∃ (i:Nat) (G:gu Col),s.2 = (i:Int)∧i ≤ l.length∧s.1 = eh G∧Canon [] G∧(∀ a b c,(a,b,c) ∈ G → Canon false c) ∧
   (∀ x,bX [] G x = bX [] (bM (l.take i)) x)∧(∀ hi:i < l.length,nO G l[i].x0∧Lst G l[i].x0 (aC l[i].column))∧s.1.length ≤ 1000 * i)
  (fun s=>l.length - s.2.toNat) (fun f=>∃ s G,f = .ex 0 s∧s.1 = eh G∧Canon [] G∧(∀ a b c,(a,b,c) ∈ G → Canon false c)∧(∀ x,bX [] G x = bX [] (bM l) x)) ?_
  (([]:List aw),0) ⟨0,[],rfl,Nat.zero_le _,rfl,trivial,by simp,fun x=>by simp [bM],fun _=>⟨fun r hr=>by simp at hr,fun r hr=>by simp at hr⟩,by simp⟩ (l.length + ([]:List aw).length + 1) (by simp)) ?_
 ·rintro ⟨out, _⟩ ⟨i, G, rfl, hil, rfl, hG, hGc, hv, hE, hlen⟩
  dsimp only at *
  rcases Nat.lt_or_ge i l.length with hi | hi
  ·left
   obtain ⟨k,hk,hik,hkl,hkv,hkn⟩:=Fe h hl (fun s hs=>by have:=hc s hs; omega) hi (eh G) (fuel:=l.length + (eh G).length + 1) (by omega)
   have h2:=Fy hi hik hkl hl (hc _ (List.getElem_mem hi)) (eh G) (out:=eh G) (by omega)
   obtain ⟨hE1,hE2⟩:=hE hi
   have hpos:l[i].x0 < (l[k - 1]'(by omega)).x1:=by
    have:=re h hi (k - 1) (by omega) (by omega)
    have:=h.pos (l[k - 1]'(by omega)) (List.getElem_mem _)
    omega
   refine ⟨(eh G ++ l[i].column.map fun s=>⟨l[i].x0,s.from_,(l[k - 1]'(by omega)).x1,s.to_⟩,(k:Int)),?_,?_,?_⟩
   ·unfold jb
    dsimp only
    rw [if_pos (by simpa using hi),ag (by omega),qb,hk,qb]
    dsimp only
    rw [ae hi,qb,h2,qb]
   ·have hlen' : (eh G ++ l[i].column.map fun s => (⟨l[i].x0, s.from_, (l[k - 1]'(by omega)).x1, s.to_⟩ : aw)).length ≤ 1000 * k := by
     have:=hc _ (List.getElem_mem hi)
     simp; omega
    have hx : ∀ hk' : k < l.length,(l[k - 1]'(by omega)).x1 = l[k].x0:=fun hk'=>by
     have:=h.next (k - 1) (by omega)
     rw [this]; congr 2; omega
    by_cases hcol:l[i].column = []
    ·refine ⟨k, G, rfl, hkl, by simp [hcol], hG, hGc, fun x => ?_, fun hk' => ⟨fun r hr => ?_, fun r hr => ?_⟩, hlen'⟩
     ·rw [hkv, hv]
      split
      ·rename_i hx
       rw [hcol,← hv,wR hE1 hx.1]; rfl
      ·rfl
     ·have:=hE1 r hr; have:=hx hk'; omega
     ·have:=hE1 r (List.mem_of_getLast? hr); have:=hx hk'; exact .inl (by omega)
    ·have hne : aC l[i].column ≠ [] := fun e => hcol (eY (b := []) e)
     refine ⟨k,G ++ [(l[i].x0,(l[k - 1]'(by omega)).x1,aC l[i].column)],rfl,hkl,?_,kZ hG hE2 hpos hne,?_,fun x=>?_,fun hk'=>⟨fun r hr=>?_,fun r hr=>?_⟩,hlen'⟩
     ·rw [jW,om]
     ·intro a b c hm
      rcases List.mem_append.1 hm with hm | hm
      ·exact hGc a b c hm
      ·simp only [List.mem_singleton, Prod.mk.injEq] at hm
       rw [hm.2.2]
       exact h.col _ (List.getElem_mem hi)
     ·rw [iA hE1,hkv,hv]
     ·have := hx hk'
      rcases List.mem_append.1 hr with hr | hr
      ·have:=hE1 r hr; omega
      ·simp only [List.mem_singleton] at hr; subst hr; show (l[k - 1]'(by omega)).x1 ≤ _; omega
     ·simp at hr; subst hr
      exact .inr ⟨hx hk', fun e => hkn hk' (eY e.symm)⟩
   ·dsimp only; simp only [Int.toNat_natCast]; omega
  ·right
   obtain rfl:i = l.length:=by omega
   refine ⟨.ex 0 (eh G,(l.length:Int)),?_,trivial,_,G,rfl,rfl,hG,hGc,fun x=>by rw [hv,List.take_length]⟩
   unfold jb
   dsimp only
   rw [if_neg (by simp)]
 ·rintro f ⟨hf, _, s, G, rfl, h1, h2, h3, h4⟩
  refine ⟨s.1,?_,G,h2,h3,h4,h1⟩
  unfold kn
  rw [hf,qb]

theorem AI {ls:List (List aw)} (hl:ls.flatten.length ≤ 1000000) (hn:ls.length ≤ 1000000):cJ ls = some ls.flatten:=by
 have hle : ∀ i (hi:i < ls.length),(ls.take i).flatten.length + ls[i].length ≤ ls.flatten.length:=by
  intro i hi
  have e:ls.flatten = (ls.take i).flatten ++ (ls[i] ++ (ls.drop (i + 1)).flatten):=by
   conv=>lhs; rw [← List.take_append_drop i ls,List.drop_eq_getElem_cons hi]
   rw [List.flatten_append,List.flatten_cons]
  rw [e,List.length_append,List.length_append]; omega
 have htk : ∀ i (hi:i < ls.length),(ls.take (i + 1)).flatten = (ls.take i).flatten ++ ls[i]:=by
  intro i hi
  rw [List.take_succ_eq_append_getElem hi,List.flatten_append,List.flatten_cons,List.flatten_nil,List.append_nil]
 unfold cJ
 obtain ⟨h1,h2⟩:=dz (k:=0) (l:=ls) (body:=dt ls) (fun (s:Int) i=>(s,i)) (fun s x=>s + x.length) (fun i s=>s = ((ls.take i).flatten.length:Int)) (by
  intro i hi s hI
  have:=hle i hi
  constructor
  ·unfold dt
   dsimp only
   rw [if_pos (by simpa using hi),ae hi,qb,aZ (by unfold inI; omega),qb,if_neg (by simp; omega),ag (by omega),qb]
  ·rw [htk i hi,hI]; simp) (by
  intro s _
  unfold dt
  dsimp only
  rw [if_neg (by simp)]) (s0:=0) (by simp) (fuel:=ls.length + 1) (by omega)
 rw [h1,qb]
 dsimp only
 rw [List.take_length] at h2
 rw [BG (by omega) (by omega),qb]
 obtain ⟨h3,h4⟩:=dz (k:=2) (l:=ls) (body:=dq ls) (fun (s:List aw) i=>(s,i)) (fun s x=>s ++ x) (fun i s=>s = (ls.take i).flatten) (by
  intro i hi s hI
  have:=hle i hi
  constructor
  ·unfold dq
   dsimp only
   rw [if_pos (by simpa using hi),ae hi,qb,aF (by rw [hI]; omega),qb,ag (by omega),qb]
  ·rw [htk i hi,hI]) (by
  intro s _
  unfold dq
  dsimp only
  rw [if_neg (by simp)]) (s0:=[]) (by simp) (fuel:=ls.length + 1) (by omega)
 rw [h3,qb]
 dsimp only
 rw [h4,List.take_length]

structure BN (xs:List Int) (l:List aw):Prop where
 asc:xs.Pairwise fun a b=>a < b
 mem : ∀ x,x ∈ xs ↔ ∃ r ∈ l,x = r.X0 ∨ x = r.X1
 len:xs.length ≤ 2 * l.length
theorem nt : ∀ {xs:List Int} {a b x:Int},xs.Pairwise (fun a b=>a < b) → a ∈ xs → b ∈ xs → a ≤ x → x < b → ∃ i,∃ h:i + 1 < xs.length,xs[i] ≤ x∧x < xs[i + 1]
 | [],_,_,_,_,h,_,_,_=>by simp at h
 | [h],a,b,x,_,ha,hb,h1,h2=>by simp at ha hb; subst ha; subst hb; omega
 | h :: h2 :: t, a, b, x, hp, ha, hb, hax, hxb => by
  have hp':=List.pairwise_cons.1 hp
  rcases Int.lt_or_le x h2 with hx | hx
  ·refine ⟨0, by simp, ?_, hx⟩
   rcases List.mem_cons.1 ha with rfl | ha
   ·exact hax
   ·have:=hp'.1 a ha; show h ≤ x; omega
  ·have hb' : b ∈ h2 :: t := by
    rcases List.mem_cons.1 hb with rfl | hb
    ·have:=hp'.1 h2 (by simp); omega
    ·exact hb
   obtain ⟨i,hi,h3,h4⟩:=nt hp'.2 (a:=h2) (by simp) hb' hx hxb
   exact ⟨i + 1,by simp only [List.length_cons] at hi ⊢; omega,by simpa using h3,by simpa using h4⟩
theorem p9 {xs:List Int} (hp:xs.Pairwise fun a b=>a < b) {i:Nat} (h:i + 1 < xs.length) {z:Int} (hz:z ∈ xs):z ≤ xs[i] ∨ xs[i + 1] ≤ z:=by
 obtain ⟨j,hj,rfl⟩:=List.getElem_of_mem hz
 have hp:=List.pairwise_iff_getElem.1 hp
 rcases Nat.lt_or_ge i j with h1 | h1
 ·right
  rcases Nat.lt_or_ge (i + 1) j with h2 | h2
  ·exact Int.le_of_lt (hp (i + 1) j h hj h2)
  ·have : j = i + 1 := by omega
   subst this; exact Int.le_refl _
 ·left
  rcases Nat.lt_or_ge j i with h2 | h2
  ·exact Int.le_of_lt (hp j i hj (by omega) h2)
  ·have : j = i := by omega
   subst this; exact Int.le_refl _
theorem wk {l:List aw} {xs:List Int} (hx:BN xs l) {i:Nat} (h:i + 1 < xs.length) {x:Int} (h1:xs[i] ≤ x) (h2:x < xs[i + 1]) (y:Int):cells l xs[i] y ↔ cells l x y:=by
 refine exists_congr fun r=>and_congr_right fun hr=>?_
 unfold rin
 have g1:=p9 hx.asc h ((hx.mem r.X0).2 ⟨r,hr,.inl rfl⟩)
 have g2:=p9 hx.asc h ((hx.mem r.X1).2 ⟨r,hr,.inr rfl⟩)
 have g3:=(List.pairwise_iff_getElem.1 hx.asc) i (i + 1) (by omega) h (by omega)
 omega

structure E1 (l:List aw) (out:List aO):Prop where
 gapless:mG out
 col : ∀ s ∈ out,CC l s.x0 s.column
 val : ∀ x y,bX false (bX [] (bM out) x) y = true ↔ cells l x y
 len:out.length ≤ 2 * l.length
 same : ∀ s ∈ out,∀ x,s.x0 ≤ x → x < s.x1 → ∀ r ∈ l,(r.X0 ≤ x∧x < r.X1) ↔ (r.X0 ≤ s.x0∧s.x0 < r.X1)
 cover : ∀ r ∈ l,∀ x,r.X0 ≤ x → x < r.X1 → ∃ s ∈ out,s.x0 ≤ x∧x < s.x1
theorem zz {l:List aO} (h:mG l) {i:Nat} (hi:i < l.length) {x:Int} (h1:l[i].x0 ≤ x) (h2:x < l[i].x1):bX [] (bM l) x = aC l[i].column:=by
 have key : ∀ m j,j + m = l.length → i < j → bX [] (bM (l.take j)) x = bX [] (bM l) x:=by
  intro m
  induction m with
  | zero=>intro j hj _; rw [show j = l.length by omega,List.take_length]
  | succ m ih =>
   intro j hj hij
   rw [← ih (j + 1) (by omega) (by omega),qm h (show j < l.length by omega),if_neg]
   have a1:=re h (show i + 1 < l.length by omega) j (by omega) (by omega)
   have a2:=h.next i (by omega)
   omega
 rw [← key (l.length - (i + 1)) (i + 1) (by omega) (by omega),qm h hi,if_pos ⟨h1,h2⟩]

theorem A4 {l:List aw} (hl:l.length ≤ 100000) : ∃ ys xs zs,ah (fM l) (l.length + 1) (([]:List Int),0) = some (.ex 0 (ys,(l.length:Int))) ∧
  gE ys = some zs∧eb zs = some xs∧BN xs l:=by
 obtain ⟨h1,h2⟩:=dz (k:=0) (l:=l) (body:=fM l) (fun (s:List Int) i=>(s,i)) (fun s r=>s ++ [r.X0,r.X1]) (fun i s=>s.length = 2 * i) (by
  intro i hi s hI
  constructor
  ·unfold fM
   dsimp only
   rw [if_pos (by simpa using hi),ae hi,qb,aF (by simp; omega),qb,ag (by omega),qb]
  ·simp; omega) (by
  intro s _
  unfold fM
  dsimp only
  rw [if_neg (by simp)]) (s0:=[]) (by simp) (fuel:=l.length + 1) (by omega)
 rw [foldl_flatMap (fun r:aw=>[r.X0,r.X1]),List.nil_append] at h1 h2
 obtain ⟨zs,h3,h4,h5⟩:=iP (l:=l.flatMap fun r=>[r.X0,r.X1]) (by omega)
 have hzl:=h4.length_eq
 obtain ⟨xs,h6,h7,h8,h9⟩:=k8 (l:=zs) (by omega) h5
 refine ⟨_,xs,zs,h1,h3,h6,h7,fun x=>?_,by omega⟩
 rw [h8,h4.mem_iff]
 simp [List.mem_flatMap]

theorem AA {ls:List (List aw)} (hv : ∀ r ∈ ls.flatten,VR r) (hl:ls.flatten.length ≤ 100000) (hn:ls.length ≤ 1000) : ∃ out,lq ls = some out∧E1 ls.flatten out:=by
 unfold lq
 rw [AI (by omega) (by omega),qb]
 generalize ls.flatten = l at hv hl
 obtain ⟨ys,xs,zs,h1,h2,h3,hx⟩:=A4 hl
 rw [h1,qb]
 dsimp only
 simp only [h2,h3,qb]
 have hxl:=hx.len
 rcases Nat.eq_zero_or_pos xs.length with h0 | h0
 ·have e : xs = [] := List.length_eq_zero_iff.1 h0
  subst e
  have hl0:l = []:=by
   cases l with
   | nil=>rfl
   | cons r l=>exact absurd ((hx.mem r.X0).2 ⟨r,by simp,.inl rfl⟩) (by simp)
  subst hl0
  refine ⟨[],rfl,⟨by simp,by simp,by simp⟩,by simp,by simp [bM,bX,cells],by simp,by simp,by simp⟩
 ·obtain ⟨out, h4, h5, h6⟩ := sV (k := 2) (body := fN l xs) (fun (s : List aO) i => (s, i)) 1 xs.length h0
   (fun i s=>s.length + 1 = i∧∀ j (hj:j < s.length) (hj' : j + 1 < xs.length),s[j].x0 = xs[j]∧s[j].x1 = xs[j + 1]∧CC l xs[j] s[j].column) (by
   intro i h1i hi s hI
   obtain ⟨hI1,hI2⟩:=hI
   obtain ⟨c,hc,hcol⟩:=AS (x:=xs[i - 1]'(by omega)) hv hl
   refine ⟨s ++ [⟨xs[i - 1]'(by omega),xs[i],c⟩],?_,by simp; omega,fun j hj hj'=>?_⟩
   ·unfold fN
    dsimp only
    rw [if_pos (by simpa using hi)]
    simp only [ic (show 0 < i by omega) (by omega),qb,ae (show i - 1 < xs.length by omega),ae hi,hc]
    rw [aF (by simp; omega),qb,ag (by omega),qb]
   ·simp only [List.length_append, List.length_cons, List.length_nil] at hj
    rcases Nat.lt_or_ge j s.length with h | h
    ·simp only [List.getElem_append_left h]
     exact hI2 j h hj'
    ·have : j = s.length := by omega
     subst this
     simp only [List.getElem_concat_length]
     have e1:xs[i - 1]'(by omega) = xs[s.length]:=by congr 1; omega
     have e2:xs[i] = xs[s.length + 1]:=by congr 1; omega
     refine ⟨e1,e2,?_⟩
     rw [← e1]; exact hcol) (by
   intro s _
   unfold fN
   dsimp only
   rw [if_neg (by simp)]) (s0:=[]) (by simp) (fuel:=l.length + xs.length + ([]:List aO).length + 1) (by simp; omega)
  have h4' : ah (fN l xs) (l.length + xs.length + ([]:List aO).length + 1) (([]:List aO),1) = some (.ex 2 (out,(xs.length:Int))):=h4
  rw [h4', qb]
  have hg:mG out:=by
   refine ⟨fun s hs=>?_,fun i hi=>?_,fun s hs=>?_⟩
   ·obtain ⟨j, hj, rfl⟩ := List.getElem_of_mem hs
    obtain ⟨a1,a2,_⟩:=h6 j hj (by omega)
    rw [a1,a2]
    exact (List.pairwise_iff_getElem.1 hx.asc) j (j + 1) (by omega) (by omega) (by omega)
   ·rw [(h6 i (by omega) (by omega)).2.1,(h6 (i + 1) hi (by omega)).1]
   ·obtain ⟨j, hj, rfl⟩ := List.getElem_of_mem hs
    exact (h6 j hj (by omega)).2.2.canon
  refine ⟨out,rfl,hg,fun s hs=>?_,fun x y=>?_,by omega,fun s hs x c1 c2 r hr=>?_,fun r hr x c1 c2=>?_⟩
  ·obtain ⟨j, hj, rfl⟩ := List.getElem_of_mem hs
   obtain ⟨a1,_,a3⟩:=h6 j hj (by omega)
   rw [a1]; exact a3
  ·by_cases hs : ∃ i, ∃ h : i + 1 < xs.length, xs[i] ≤ x ∧ x < xs[i + 1]
   ·obtain ⟨i, hi, b1, b2⟩ := hs
    obtain ⟨a1,a2,a3⟩:=h6 i (by omega) hi
    rw [zz hg (show i < out.length by omega) (by omega) (by omega),a3.val,wk hx hi b1 b2]
   ·constructor
    ·intro h
     rcases ni (e:=[]) (l:=bM out) (x:=x) with h7 | ⟨a,b,h7,h8⟩
     ·rw [h7] at h; simp [bX] at h
     ·simp only [bM, List.mem_map, Prod.mk.injEq] at h7
      obtain ⟨s, hs', e1, e2, _⟩ := h7
      obtain ⟨j,hj,rfl⟩:=List.getElem_of_mem hs'
      obtain ⟨a1,a2,_⟩:=h6 j hj (by omega)
      exact absurd ⟨j,by omega,by omega,by omega⟩ hs
    ·rintro ⟨r, hr, hrx, hry⟩
     exact absurd (nt hx.asc ((hx.mem r.X0).2 ⟨r,hr,.inl rfl⟩) ((hx.mem r.X1).2 ⟨r,hr,.inr rfl⟩) hrx.1 hrx.2) hs
  ·obtain ⟨j, hj, rfl⟩ := List.getElem_of_mem hs
   obtain ⟨a1,a2,_⟩:=h6 j hj (by omega)
   have g1:=p9 hx.asc (show j + 1 < xs.length by omega) ((hx.mem r.X0).2 ⟨r,hr,.inl rfl⟩)
   have g2:=p9 hx.asc (show j + 1 < xs.length by omega) ((hx.mem r.X1).2 ⟨r,hr,.inr rfl⟩)
   omega
  ·obtain ⟨i, hi, b1, b2⟩ := nt hx.asc ((hx.mem r.X0).2 ⟨r, hr, .inl rfl⟩) ((hx.mem r.X1).2 ⟨r, hr, .inr rfl⟩) c1 c2
   obtain ⟨a1,a2,a3⟩:=h6 i (by omega) hi
   exact ⟨_,List.getElem_mem (show i < out.length by omega),by omega,by omega⟩
theorem B2 {l:List aO} (h:mG l) (hl:l.length ≤ 100000) (hc : ∀ s ∈ l,s.column.length ≤ 1000) {S:Int → Int → Prop} (hS : ∀ x y,bX false (bX [] (bM l) x) y = true ↔ S x y) :
  ∃ out,kn l = some out∧eC S out:=by
 obtain ⟨out,h1,G,h2,h3,h4,h5⟩:=Bm h hl hc
 exact ⟨out,h1,G,h2,h3,fun x y=>by rw [h4,hS],h5⟩




instance (l:List aw) (x y:Int):Decidable (cells l x y):=inferInstanceAs (Decidable (∃ r ∈ l,rin r x y))
theorem wG {a b:List aw} (hl:a.length = b.length) (hb:a.length ≤ 1000000) :
  ∃ f,ah (bT a b) (a.length + 1) 0 = some f∧((a = b∧∃ s,f = .ex 0 s) ∨ (a ≠ b∧f = .ret false)):=by
 have hs : ∀ i (hi:i < (a.zip b).length),((a.zip b)[i].1 ≠ (a.zip b)[i].2∧bT a b (i:Int) = some (.ret false)) ∨
   (¬ ((a.zip b)[i].1 ≠ (a.zip b)[i].2)∧bT a b (i:Int) = some (.go ((i + 1:Nat):Int))):=by
  intro i hi
  simp only [List.length_zip] at hi
  have h1:i < a.length:=by omega
  have h2:i < b.length:=by omega
  unfold bT
  rw [if_pos (by simpa using h1)]
  simp only [ae h1,ae h2,qb,List.getElem_zip]
  by_cases he:a[i] = b[i]
  ·right
   rw [if_neg (by simpa using he)]
   simp only [ag (show i < 4611686018427387904 by omega),qb]
   exact ⟨by simpa using he,trivial⟩
  ·left
   rw [if_pos (by simpa using he)]
   exact ⟨he,rfl⟩
 have hd:bT a b ((a.zip b).length:Int) = some (.ex 0 ((a.zip b).length:Int)):=by
  have e:((a.zip b).length:Int) = (a.length:Int):=by simp; omega
  rw [e]
  unfold bT
  rw [if_neg (by simp)]
 rcases jP (l:=a.zip b) (body:=bT a b) (k:=0) (fun p=>p.1 ≠ p.2) (fun _=>false) hs hd (fuel:=a.length + 1) (by simp; omega) with ⟨i,hi,hp,_,h⟩ | ⟨hp,h⟩
 ·refine ⟨_, h, .inr ⟨fun e => ?_, rfl⟩⟩
  subst e
  simp at hp
 ·refine ⟨_, h, .inl ⟨?_, _, rfl⟩⟩
  refine List.ext_getElem hl fun i h1 h2=>?_
  have:=hp (a[i],b[i]) (by
   rw [List.mem_iff_getElem]
   exact ⟨i,by simp; omega,by simp⟩)
  simpa using this
theorem qW {a b:List aw} (hb:a.length ≤ 1000000):fa a b = some (decide (a = b)):=by
 unfold fa
 by_cases hl:a.length = b.length
 ·rw [if_neg (by simp [hl])]
  obtain ⟨f,hf,h⟩:=wG hl hb
  rw [hf,qb]
  rcases h with ⟨h1,s,rfl⟩ | ⟨h1,rfl⟩ <;> simp [h1]
 ·rw [if_pos (by simp; omega)]
  congr 1
  symm
  rw [decide_eq_false_iff_not]
  intro e; exact hl (by rw [e])
theorem vZ {a b:List aw} (hb:a.length ≤ 1000000):jN a b = some (decide (a = b)):=by
 unfold jN
 rw [qW hb,qb]

def lim (out:List aw):List aw × Int:=if 200 < out.length then ([],6) else (out,0)
theorem B5 (out:List aw):kr out = some (lim out):=by
 unfold kr lim
 by_cases h:200 < out.length
 ·rw [if_pos (by simp; omega),if_pos h]
 ·rw [if_neg (by simp; omega),if_neg h]
theorem uS {l:List aw} (hl:l.length ≤ 100000) :
  (¬ (∀ r ∈ l,VR r)∧ah (iI l) (l.length + 1) 0 = some (.ret ([],1))) ∨ ((∀ r ∈ l,VR r)∧ah (iI l) (l.length + 1) 0 = some (.ex 0 (l.length:Int))):=by
 rcases jP (l:=l) (body:=iI l) (k:=0) (fun r=>¬ VR r) (fun _=>(([]:List aw),(1:Int))) (by
  intro i hi
  unfold iI
  rw [if_pos (by simpa using hi)]
  simp only [ae hi,qb,bJ]
  by_cases he:VR l[i]
  ·right
   rw [if_neg (by simpa using he)]
   simp only [ag (show i < 4611686018427387904 by omega),qb]
   exact ⟨fun h=>h he,trivial⟩
  ·left
   rw [if_pos (by simpa using he)]
   exact ⟨he,rfl⟩) (by
  unfold iI
  rw [if_neg (by simp)]) (fuel:=l.length + 1) (by omega) with ⟨i,hi,hp,_,h⟩ | ⟨hp,h⟩
 ·exact .inl ⟨fun h'=>hp (h' _ (List.getElem_mem hi)),h⟩
 ·exact .inr ⟨fun r hr=>Classical.not_not.1 (hp r hr),h⟩
theorem nU {l:List aw} (hl:l.length ≤ 100000) (h : ¬ ∀ r ∈ l,VR r):iH l = some ([],1):=by
 unfold iH
 rcases uS hl with ⟨_,h1⟩ | ⟨h1,_⟩
 ·rw [h1,qb]
 ·exact absurd h1 h
theorem na {l:List aw} (hl:l.length ≤ 100000) (h : ∀ r ∈ l,VR r) (hm:400 < l.length):iH l = some ([],6):=by
 unfold iH
 rcases uS hl with ⟨h1,_⟩ | ⟨_,h1⟩
 ·exact absurd h h1
 ·rw [h1, qb]
  dsimp only
  rw [if_pos (by simp; omega)]
theorem nf {l:List aw} (h : ∀ r ∈ l,VR r) (hm:l.length ≤ 400) : ∃ out,eC (cells l) out∧iH l = some (lim out):=by
 unfold iH
 rcases uS (l:=l) (by omega) with ⟨h1,_⟩ | ⟨_,h1⟩
 ·exact absurd h h1
 ·obtain ⟨st, h2, h3⟩ := AA (ls := [l]) (by simpa using h) (by simp; omega) (by simp)
  rw [show [l].flatten = l by simp] at h3
  have hlen:=h3.len
  obtain ⟨out,h4,h5⟩:=B2 (S:=cells l) h3.gapless (by omega) (fun s hs=>by have:=(h3.col s hs).len; omega) h3.val
  refine ⟨out,h5,?_⟩
  rw [h1,qb]
  dsimp only
  rw [if_neg (by simp; omega),h2,qb,h4,qb,B5,qb]

def RR (a:List aw):Prop:=(∀ r ∈ a,VR r)∧a.length ≤ 200∧eC (cells a) a
theorem nG {a:List aw} (hl:a.length ≤ 100000) : ∃ b,iD a = some b∧(b = true ↔ RR a):=by
 unfold iD
 by_cases h : ∀ r ∈ a,VR r
 ·rcases Nat.lt_or_ge 400 a.length with hm | hm
  ·rw [na hl h hm, qb, if_neg (by simp), qb]
   exact ⟨_,rfl,by simp,fun h=>absurd h.2.1 (by omega)⟩
  ·obtain ⟨out, h1, h2⟩ := nf h hm
   rw [h2,qb]
   unfold lim
   by_cases h3:200 < out.length
   ·rw [if_pos h3, if_neg (by simp), qb]
    refine ⟨_,rfl,by simp,fun h=>?_⟩
    have:=h.2.2.unique h1 (fun _ _=>Iff.rfl)
    rw [this] at h
    exact absurd h.2.1 (by omega)
   ·rw [if_neg h3]
    dsimp only
    rw [if_pos (by simp),qW (by omega),qb,qb]
    refine ⟨_,rfl,?_⟩
    simp only [decide_eq_true_eq]
    constructor
    ·intro e
     rw [e] at h1 h3
     exact ⟨h,by omega,h1⟩
    ·intro h4
     exact h1.unique h4.2.2 (fun _ _=>Iff.rfl)
 ·rw [nU hl h, qb, if_neg (by simp), qb]
  exact ⟨_,rfl,by simp,fun h'=>absurd h'.1 h⟩
def opB (op:Int) (p q:Bool):Bool:=if op = 1 then p && q else if op = 2 then p && !q else p || q
theorem qi (op:Int):opB op false false = false:=by unfold opB; split <;> (try split) <;> rfl
def opS (op:Int) (a b:List aw) (x y:Int):Prop:=opB op (decide (cells a x y)) (decide (cells b x y)) = true


def bE (c:List ar):List Int:=c.flatMap fun s=>[s.from_,s.to_]
theorem oU (a b:List ar):bE (a ++ b) = bE a ++ bE b:=List.flatMap_append
theorem iC (c:List ar):(bE c).length = 2 * c.length:=by
 induction c with
 | nil=>rfl
 | cons s c ih=>simp only [bE,List.flatMap_cons,List.length_append,List.length_cons,List.length_nil] at ih ⊢; omega
theorem wV : ∀ {a b:List ar},bE a = bE b → a = b
 | [],[],_=>rfl
 | [],_::_,h=>by simp [bE] at h
 | _::_,[],h=>by simp [bE] at h
 | ⟨f, t⟩ :: a, ⟨f', t'⟩ :: b, h => by
  simp only [bE,List.flatMap_cons,List.cons_append,List.nil_append,List.cons.injEq] at h
  obtain ⟨rfl,rfl,h⟩:=h
  rw [wV (a:=a) (b:=b) h]
theorem DV {c:List ar} {j:Nat} (h:j < c.length):au (bE c) (2 * (j:Int)) = some c[j].from_∧au (bE c) (2 * (j:Int) + 1) = some c[j].to_:=by
 induction c generalizing j with
 | nil=>simp at h
 | cons s c ih =>
  cases j with
  | zero=>simp [bE,au]
  | succ j =>
   obtain ⟨h1,h2⟩:=ih (j:=j) (by simpa using h)
   have e:bE (s::c) = s.from_::s.to_::bE c:=rfl
   have key : ∀ q:Int,0 ≤ q → au (bE (s::c)) (q + 2) = au (bE c) q:=by
    intro q hq
    unfold au
    rw [if_pos (by omega),if_pos hq,e]
    have:(q + 2).toNat = q.toNat + 2:=by omega
    rw [this]; simp
   simp only [List.getElem_cons_succ]
   have e2:2 * ((j + 1:Nat):Int) = 2 * (j:Int) + 2:=by omega
   have e3:2 * ((j + 1:Nat):Int) + 1 = 2 * (j:Int) + 1 + 2:=by omega
   exact ⟨by rw [e2,key _ (by omega),h1],by rw [e3,key _ (by omega),h2]⟩

def odd (p:List Int) (y:Int):Bool:=decide (p.countP (fun x=>decide (x ≤ y)) % 2 = 1)
theorem oZ : ∀ {c:List ar},Canon false (aC c) → (bE c).Pairwise fun a b=>a < b
  | [],_=>.nil
  | s :: c, h => by
    obtain ⟨h1,_,h3,h4⟩:=h
    have ih:=oZ (c:=c) h4
    have hst : ∀ x ∈ bE c,s.to_ < x:=by
      intro x hx
      cases c with
      | nil=>simp [bE] at hx
      | cons t c =>
        have h5 : s.to_ < t.from_ := by rcases h3 with h | ⟨_, h⟩
                                        · exact h
                                        · exact absurd rfl h
        have e:bE (t::c) = t.from_::t.to_::bE c:=rfl
        rw [e] at hx ih
        rcases List.mem_cons.1 hx with rfl | hx
        · exact h5
        · have:=(List.pairwise_cons.1 ih).1 x hx; omega
    have e:bE (s::c) = s.from_::s.to_::bE c:=rfl
    rw [e]
    have h1:s.from_ < s.to_:=h1
    refine List.pairwise_cons.2 ⟨fun x hx=>?_,List.pairwise_cons.2 ⟨hst,ih⟩⟩
    rcases List.mem_cons.1 hx with rfl | hx
    · exact h1
    · have:=hst x hx; omega
theorem jA {p:List Int} {y:Int} (h : ∀ x ∈ p,y < x):p.countP (fun x=>decide (x ≤ y)) = 0:=by
 rw [List.countP_eq_zero]
 intro x hx
 have:=h x hx
 simp; omega
theorem pZ : ∀ {c:List ar},Canon false (aC c) → ∀ y,bX false (aC c) y = odd (bE c) y
 | [],_,y=>rfl
 | s :: c, h, y => by
  have hp:=oZ h
  have e:bE (s::c) = s.from_::s.to_::bE c:=rfl
  have ih:=pZ (c:=c) h.2.2.2 y
  rw [e] at hp ⊢
  have hp1:=(List.pairwise_cons.1 hp).1
  have hp2:=List.pairwise_cons.1 (List.pairwise_cons.1 hp).2
  have h1:s.from_ < s.to_:=h.1
  show (if s.from_ ≤ y∧y < s.to_ then true else bX false (aC c) y) = _
  rw [ih]
  unfold odd
  by_cases c1:y < s.from_
  ·have z1 := jA (p := s.from_ :: s.to_ :: bE c) (y := y) (fun x hx => by
    rcases List.mem_cons.1 hx with rfl | hx
    ·exact c1
    ·have:=hp1 x hx; omega)
   have z2:=jA (p:=bE c) (y:=y) (fun x hx=>by have:=hp1 x (by simp [hx]); omega)
   rw [z1,z2,if_neg (by omega)]
  ·by_cases c2 : y < s.to_
   ·have z2 := jA (p := bE c) (y := y) (fun x hx => by have := hp2.1 x hx; omega)
    rw [if_pos (by omega)]
    simp only [List.countP_cons,z2]
    simp [c2,show s.from_ ≤ y by omega,show ¬ s.to_ ≤ y by omega]
   ·rw [if_neg (by omega)]
    simp only [List.countP_cons]
    simp [show s.from_ ≤ y by omega,show s.to_ ≤ y by omega]
    omega
theorem ED : ∀ (n:Nat) {p:List Int},p.length = 2 * n → p.Pairwise (fun a b=>a < b) → ∃ c,p = bE c∧Canon false (aC c)
 | 0,p,h,_=>⟨[],List.length_eq_zero_iff.1 (by omega),trivial⟩
 | n + 1,[],h,_=>by simp at h
 | n + 1,[_],h,_=>by simp at h; omega
 | n + 1, a :: b :: p, h, hp => by
  have hp1:=List.pairwise_cons.1 hp
  have hp2:=List.pairwise_cons.1 hp1.2
  obtain ⟨c,rfl,hc⟩:=ED n (p:=p) (by simp at h; omega) hp2.2
  refine ⟨⟨a,b⟩::c,rfl,hp1.1 b (by simp),by simp,?_,hc⟩
  cases c with
  | nil=>trivial
  | cons s c=>exact .inl (hp2.1 s.from_ (by simp [bE]))

theorem oI {α:Type} {o:List α} {x:α} {m:Nat} (h0:0 < m) (h:m ≤ o.length):au (o.take m ++ x::o.drop m) ((m - 1:Nat):Int) = some (o[m - 1]'(by omega)):=by
 rw [ae (by simp; omega)]
 rw [List.getElem_append_left (by simp; omega)]
 simp
theorem mI {α:Type} {o:List α} {x:α} {m:Nat} (h:m ≤ o.length):au (o.take m ++ x::o.drop m) (m:Int) = some x:=by
 rw [ae (by simp; omega)]
 rw [List.getElem_append_right (by rw [List.length_take]; omega)]
 simp [Nat.min_eq_left h]
theorem sm {α:Type} {o:List α} {x:α} {m:Nat} (h0:0 < m) (h:m ≤ o.length) :
  (o.take m ++ x::o.drop m).set m (o[m - 1]'(by omega)) = o.take (m - 1) ++ (o[m - 1]'(by omega))::o.drop (m - 1):=by
 rw [List.set_append_right _ _ (by rw [List.length_take]; omega),List.length_take,Nat.min_eq_left h,Nat.sub_self,List.set_cons_zero]
 have e1:o.take m = o.take (m - 1) ++ [o[m - 1]'(by omega)]:=by
  have:=List.take_succ_eq_append_getElem (l:=o) (i:=m - 1) (by omega)
  rwa [show m - 1 + 1 = m by omega] at this
 have e2:o.drop (m - 1) = (o[m - 1]'(by omega))::o.drop m:=by
  have:=List.drop_eq_getElem_cons (l:=o) (i:=m - 1) (by omega)
  rwa [show m - 1 + 1 = m by omega] at this
 rw [e1,e2,List.append_assoc]; rfl
theorem vJ {α:Type} {o:List α} {x v:α} {m:Nat} (h:m ≤ o.length):(o.take m ++ x::o.drop m).set m v = o.take m ++ v::o.drop m:=by
 rw [List.set_append_right _ _ (by rw [List.length_take]; omega),List.length_take,Nat.min_eq_left h,Nat.sub_self,List.set_cons_zero]

theorem wS {l:List Int} {o:List Int} {i:Nat} (hi:i < l.length) (hol:o.length ≤ 1000000) : ∀ (m:Nat) (hm:m ≤ o.length),(∀ j (hj:j < o.length),m ≤ j → l[i] < o[j]) → ∀ fuel,m < fuel →
  ∃ k:Nat,ah (de l (o,(i:Int))) fuel (m:Int) = some (.ex 2 (k:Int))∧k ≤ m∧(∀ j (hj:j < o.length),k ≤ j → l[i] < o[j])∧(∀ hk:0 < k,∀ hk' : k - 1 < o.length,o[k - 1] ≤ l[i])
 | 0, hm, hj, fuel, hf => by
  obtain ⟨fuel,rfl⟩ : ∃ m,fuel = m + 1:=⟨fuel - 1,by omega⟩
  refine ⟨0,?_,Nat.le_refl _,hj,fun h=>absurd h (Nat.lt_irrefl _)⟩
  have e:de l (o,(i:Int)) ((0:Nat):Int) = some (.ex 2 ((0:Nat):Int)):=by
   unfold de
   rw [if_neg (by simp),qb,if_neg (by simp)]
  simp only [ah,e]
 | m + 1, hm, hj, fuel, hf => by
  obtain ⟨fuel,rfl⟩ : ∃ m,fuel = m + 1:=⟨fuel - 1,by omega⟩
  have hml:m < o.length:=by omega
  by_cases hc:l[i] < o[m]
  ·have e : de l (o, (i : Int)) ((m + 1 : Nat) : Int) = some (.go (m : Int)) := by
    unfold de
    dsimp only
    rw [if_pos (by exact decide_eq_true (by omega)),ic (by omega) (by omega),qb,Nat.add_sub_cancel,ae hml,qb,ae hi,qb,qb,if_pos (by simpa using hc),qb]
   obtain ⟨k,h1,h2,h3,h4⟩:=wS hi hol m (by omega) (fun j hj' hmj=>by
    rcases Nat.lt_or_ge m j with h | h
    ·exact hj j hj' (by omega)
    ·have : j = m := by omega
     subst this; exact hc) fuel (by omega)
   refine ⟨k,?_,by omega,h3,h4⟩
   simp only [ah,e]; exact h1
  ·have e : de l (o, (i : Int)) ((m + 1 : Nat) : Int) = some (.ex 2 ((m + 1 : Nat) : Int)) := by
    unfold de
    dsimp only
    rw [if_pos (by exact decide_eq_true (by omega)),ic (by omega) (by omega),qb,Nat.add_sub_cancel,ae hml,qb,ae hi,qb,qb,if_neg (by simpa using hc)]
   refine ⟨m + 1,?_,Nat.le_refl _,hj,fun _ _=>by simpa using hc⟩
   simp only [ah,e]
theorem w0 {o:List Int} {k:Nat} (hol:o.length ≤ 1000000) (hk:k ≤ o.length) : ∀ (m:Nat) (x:Int),k ≤ m → m ≤ o.length → ∀ fuel,m - k < fuel →
  ∃ y,ah (dc (k:Int)) fuel (o.take m ++ x::o.drop m,(m:Int)) = some (.ex 4 (o.take k ++ y::o.drop k,(k:Int)))
 | 0, x, hkm, hm, fuel, hf => by
  obtain ⟨fuel,rfl⟩ : ∃ m,fuel = m + 1:=⟨fuel - 1,by omega⟩
  have:k = 0:=by omega
  subst this
  refine ⟨x,?_⟩
  have e:dc ((0:Nat):Int) (o.take 0 ++ x::o.drop 0,((0:Nat):Int)) = some (.ex 4 (o.take 0 ++ x::o.drop 0,((0:Nat):Int))):=by
   unfold dc
   dsimp only
   rw [if_neg (by simp)]
  simp only [ah,e]
 | m + 1, x, hkm, hm, fuel, hf => by
  obtain ⟨fuel,rfl⟩ : ∃ m,fuel = m + 1:=⟨fuel - 1,by omega⟩
  rcases Nat.lt_or_ge k (m + 1) with h | h
  ·have e : dc (k : Int) (o.take (m + 1) ++ x :: o.drop (m + 1), ((m + 1 : Nat) : Int)) = some (.go (o.take m ++ (o[m]'(by omega)) :: o.drop m, (m : Int))) := by
    unfold dc
    dsimp only
    rw [if_pos (by simp; omega),ic (by omega) (by omega),qb,oI (by omega) hm,qb,mI hm,qb,qb,qb,Int.toNat_natCast,sm (by omega) hm]
    simp only [Nat.add_sub_cancel]
   obtain ⟨y,h1⟩:=w0 hol hk m (o[m]'(by omega)) (by omega) (by omega) fuel (by omega)
   refine ⟨y,?_⟩
   simp only [ah,e]; exact h1
  ·have : k = m + 1 := by omega
   subst this
   refine ⟨x,?_⟩
   have e:dc ((m + 1:Nat):Int) (o.take (m + 1) ++ x::o.drop (m + 1),((m + 1:Nat):Int)) = some (.ex 4 (o.take (m + 1) ++ x::o.drop (m + 1),((m + 1:Nat):Int))):=by
    unfold dc
    dsimp only
    rw [if_neg (by simp)]
   simp only [ah,e]
theorem Bd {o:List Int} {v:Int} {k:Nat} (hk:k ≤ o.length) (ho:o.Pairwise fun a b=>a < b) (h1 : ∀ j (hj:j < o.length),k ≤ j → v < o[j]) (h2 : ∀ j (hj:j < o.length),j < k → o[j] < v) :
  (o.take k ++ v::o.drop k).Pairwise fun a b=>a < b:=by
 rw [List.pairwise_append]
 refine ⟨ho.sublist (List.take_sublist _ _),List.pairwise_cons.2 ⟨fun x hx=>?_,ho.sublist (List.drop_sublist _ _)⟩,fun a ha b hb=>?_⟩
 ·obtain ⟨j, hj, rfl⟩ := List.getElem_of_mem hx
  rw [List.getElem_drop]
  exact h1 _ _ (by omega)
 ·obtain ⟨j, hj, rfl⟩ := List.getElem_of_mem ha
  rw [List.getElem_take]
  simp only [List.length_take] at hj
  have h3:=h2 j (by omega) (by omega)
  rcases List.mem_cons.1 hb with rfl | hb
  ·exact h3
  ·obtain ⟨q, hq, rfl⟩ := List.getElem_of_mem hb
   rw [List.getElem_drop]
   have:=h1 (k + q) (by simp at hq; omega) (by omega)
   omega
theorem A1 {l:List Int} (hl:l.length ≤ 100000) : ∃ r,mF l = some r∧r.Pairwise (fun a b=>a < b)∧(∀ x,x ∈ r ↔ x ∈ l)∧r.length ≤ l.length:=by
 obtain ⟨r,h1,h2,h3,h4⟩:=tw (k:=0) (l:=l) (body:=gx l) (fun (s:List Int) i=>(s,i))
  (fun i s=>s.length ≤ i∧s.Pairwise (fun a b=>a < b)∧∀ x,x ∈ s ↔ x ∈ l.take i) (by
  intro i hi o ⟨hI1,hI2,hI3⟩
  have htk:l.take (i + 1) = l.take i ++ [l[i]]:=List.take_succ_eq_append_getElem hi
  obtain ⟨k,h1,h2,h3,h4⟩:=wS hi (o:=o) (by omega) o.length (Nat.le_refl _) (fun j hj hj'=>absurd hj (by omega)) (l.length + o.length + 1) (by omega)
  have hasc:=List.pairwise_iff_getElem.1 hI2
  have hno : ∀ s', (aD (i : Int) 1).bind (fun x => some (aN.go (s', x) : aN (List Int × Int) (List Int))) = some (.go (s', ((i + 1 : Nat) : Int))) := fun s' => by rw [ag (by omega), qb]
  by_cases hd : ∃ hk:0 < k,o[k - 1]'(by omega) = l[i]
  ·obtain ⟨hk, hd⟩ := hd
   refine ⟨o,?_,by omega,hI2,fun x=>?_⟩
   ·unfold gx
    dsimp only
    rw [if_pos (by simpa using hi),h1,qb]
    dsimp only
    rw [if_pos (by simp; omega),ic hk (by omega),qb,ae (show k - 1 < o.length by omega),qb,ae hi,qb,qb,if_pos (by simpa using hd),qb,hno]
   ·rw [htk, List.mem_append, ← hI3]
    constructor
    ·exact .inl
    ·rintro (h | h)
     ·exact h
     ·simp only [List.mem_singleton] at h
      rw [h,← hd]; exact List.getElem_mem _
  ·obtain ⟨y, h5⟩ := w0 (o := o) (k := k) (by omega) (by omega) o.length 0 (by omega) (Nat.le_refl _) (l.length + (o ++ [0]).length + 1) (by omega)
   rw [List.take_length,List.drop_length] at h5
   have hlt : ∀ j (hj:j < o.length),j < k → o[j] < l[i]:=by
    intro j hj hjk
    have h6:=h4 (by omega) (by omega)
    have h7:o[k - 1]'(by omega) ≠ l[i]:=fun e=>hd ⟨by omega,e⟩
    rcases Nat.lt_or_ge j (k - 1) with h | h
    ·have:=hasc j (k - 1) hj (by omega) h; omega
    ·have : j = k - 1 := by omega
     subst this; omega
   refine ⟨o.take k ++ l[i]::o.drop k,?_,by simp; omega,Bd (by omega) hI2 h3 hlt,fun x=>?_⟩
   ·unfold gx
    dsimp only
    rw [if_pos (by simpa using hi),h1,qb]
    dsimp only
    have hcond:(if (decide ((0:Int) < (k:Int))) = true then (bZ (k:Int) 1).bind fun x=>(au o x).bind fun y=>(au l (i:Int)).bind fun z=>some (y == z) else some false) = some false:=by
     by_cases hk:0 < k
     ·rw [if_pos (by simp; omega), ic hk (by omega), qb, ae (show k - 1 < o.length by omega), qb, ae hi, qb]
      congr 1
      simpa using fun e=>hd ⟨hk,e⟩
     ·rw [if_neg (by simp; omega)]
    rw [hcond,qb,if_neg (by simp),aF (by simp; omega),qb]
    have esub:bZ ((o ++ [(0:Int)]).length:Int) 1 = some (o.length:Int):=uq (by omega)
    rw [esub,qb,h5,qb]
    dsimp only
    rw [ae hi,qb,mI (by omega),qb,qb,Int.toNat_natCast,vJ (by omega),qb,hno]
   ·rw [htk, List.mem_append (s := l.take i), ← hI3]
    conv=>rhs; rw [← List.take_append_drop k o]
    simp only [List.mem_append,List.mem_cons,List.mem_singleton,List.not_mem_nil,or_false]
    constructor
    ·rintro (h | h | h)
     ·exact .inl (.inl h)
     ·exact .inr h
     ·exact .inl (.inr h)
    ·rintro ((h | h) | h)
     ·exact .inl h
     ·exact .inr (.inr h)
     ·exact .inr (.inl h)) (by
  intro s _
  unfold gx
  dsimp only
  rw [if_neg (by simp)]) (s0:=[]) ⟨by simp,.nil,by simp⟩ (fuel:=l.length + ([]:List Int).length + 1) (by simp)
 refine ⟨r,?_,h3,fun x=>by rw [h4,List.take_length],h2⟩
 unfold mF
 rw [h1,qb]
theorem Bx {a b:List aw} (hl:(a ++ b).length ≤ 10000) : ∃ xs,nF a b = some xs∧BN xs (a ++ b):=by
 simp only [List.length_append] at hl
 unfold nF
 obtain ⟨h1,h2⟩:=dz (k:=0) (l:=a) (body:=kg a) (fun (s:List Int) i=>(s,i)) (fun s r=>s ++ [r.X0,r.X1]) (fun i s=>s.length = 2 * i) (by
  intro i hi s hI
  constructor
  ·unfold kg
   dsimp only
   rw [if_pos (by simpa using hi),ae hi,qb,qb,aF (by simp; omega),qb,ag (by omega),qb]
  ·simp; omega) (by
  intro s _
  unfold kg
  dsimp only
  rw [if_neg (by simp)]) (s0:=[]) (by simp) (fuel:=a.length + b.length + ([]:List Int).length + 1) (by simp; omega)
 rw [foldl_flatMap (fun r:aw=>[r.X0,r.X1]),List.nil_append] at h1 h2
 rw [h1,qb]
 dsimp only
 obtain ⟨h3,h4⟩:=dz (k:=2) (l:=b) (body:=kz b) (fun (s:List Int) i=>(s,i)) (fun s r=>s ++ [r.X0,r.X1]) (fun i s=>s.length = 2 * a.length + 2 * i) (by
  intro i hi s hI
  constructor
  ·unfold kz
   dsimp only
   rw [if_pos (by simpa using hi),ae hi,qb,qb,aF (by simp; omega),qb,ag (by omega),qb]
  ·simp; omega) (by
  intro s _
  unfold kz
  dsimp only
  rw [if_neg (by simp)]) (s0:=a.flatMap fun r=>[r.X0,r.X1]) (by omega) (fuel:=b.length + (a.flatMap fun r=>[r.X0,r.X1]).length + 1) (by omega)
 rw [foldl_flatMap (fun r:aw=>[r.X0,r.X1])] at h3 h4
 rw [h3,qb]
 dsimp only
 obtain ⟨xs,h5,h6,h7,h8⟩:=A1 (l:=(a.flatMap fun r=>[r.X0,r.X1]) ++ b.flatMap fun r=>[r.X0,r.X1]) (by omega)
 rw [h5,qb]
 refine ⟨xs,rfl,h6,fun x=>?_,by rw [List.length_append («as»:=a)]; omega⟩
 rw [h7]
 simp only [List.mem_append,List.mem_flatMap,List.mem_cons,List.not_mem_nil,or_false]
 constructor
 ·rintro (⟨r, hr, h⟩ | ⟨r, hr, h⟩)
  ·exact ⟨r,.inl hr,h⟩
  ·exact ⟨r,.inr hr,h⟩
 ·rintro ⟨r, hr | hr, h⟩
  ·exact .inl ⟨r,hr,h⟩
  ·exact .inr ⟨r,hr,h⟩


theorem vN {l:List aw} {F T:List Int} {s0:List Int × List Int × Int} {i:Nat} (hi:i < l.length) (hs0:s0.2.2 = (i:Int)) (hFT:F.length = T.length) (hol:F.length ≤ 1000000) : ∀ (m:Nat) (x y:Int),m ≤ F.length → (∀ j (hj:j < F.length),m ≤ j → l[i].Y0 < F[j]) → ∀ fuel,m < fuel →
  ∃ (k:Nat) (x' y' : Int),ah (dh l s0) fuel (F.take m ++ x::F.drop m,T.take m ++ y::T.drop m,(m:Int)) = some (.ex 2 (F.take k ++ x'::F.drop k,T.take k ++ y'::T.drop k,(k:Int)))∧k ≤ m ∧
   (∀ j (hj:j < F.length),k ≤ j → l[i].Y0 < F[j])∧(∀ hk:0 < k,∀ hk' : k - 1 < F.length,F[k - 1] ≤ l[i].Y0)
 | 0, x, y, hm, hj, fuel, hf => by
  obtain ⟨fuel,rfl⟩ : ∃ m,fuel = m + 1:=⟨fuel - 1,by omega⟩
  refine ⟨0,x,y,?_,Nat.le_refl _,hj,fun h=>absurd h (Nat.lt_irrefl _)⟩
  have e:dh l s0 (F.take 0 ++ x::F.drop 0,T.take 0 ++ y::T.drop 0,((0:Nat):Int)) = some (.ex 2 (F.take 0 ++ x::F.drop 0,T.take 0 ++ y::T.drop 0,((0:Nat):Int))):=by
   unfold dh
   dsimp only
   rw [if_neg (by simp),qb,if_neg (by simp)]
  simp only [ah,e]
 | m + 1, x, y, hm, hj, fuel, hf => by
  obtain ⟨fuel,rfl⟩ : ∃ m,fuel = m + 1:=⟨fuel - 1,by omega⟩
  have hml:m < F.length:=by omega
  by_cases hc:l[i].Y0 < F[m]
  ·have e : dh l s0 (F.take (m + 1) ++ x :: F.drop (m + 1), T.take (m + 1) ++ y :: T.drop (m + 1), ((m + 1 : Nat) : Int)) =
     some (.go (F.take m ++ F[m]::F.drop m,T.take m ++ (T[m]'(by omega))::T.drop m,(m:Int))):=by
    unfold dh
    dsimp only
    have hT:=oI (o:=T) (x:=y) (m:=m + 1) (by omega) (by omega)
    have hF:=oI (o:=F) (x:=x) (m:=m + 1) (by omega) (by omega)
    have h1:=sm (o:=F) (x:=x) (m:=m + 1) (by omega) hm
    have h2:=sm (o:=T) (x:=y) (m:=m + 1) (by omega) (by omega)
    simp only [Nat.add_sub_cancel] at h1 h2 hT hF
    have hsub:bZ ((m + 1:Nat):Int) 1 = some (m:Int):=by rw [ic (by omega) (by omega)]; rfl
    rw [if_pos (by exact decide_eq_true (by omega)),hs0,hsub,qb,hF,qb,ae hi,qb,qb,if_pos (by simpa using hc)]
    have hF':=mI (o:=F) (x:=x) (m:=m + 1) hm
    have hT':=mI (o:=T) (x:=y) (m:=m + 1) (by omega)
    simp only [qb, hF, hF', hT, hT', Int.toNat_natCast, h1, h2]
   obtain ⟨k, x', y', h1, h2, h3, h4⟩ := vN hi hs0 hFT hol m F[m] (T[m]'(by omega)) (by omega) (fun j hj' hmj => by
    rcases Nat.lt_or_ge m j with h | h
    ·exact hj j hj' (by omega)
    ·have : j = m := by omega
     subst this; exact hc) fuel (by omega)
   refine ⟨k, x', y', ?_, by omega, h3, h4⟩
   simp only [ah,e]; exact h1
  ·have e : dh l s0 (F.take (m + 1) ++ x :: F.drop (m + 1), T.take (m + 1) ++ y :: T.drop (m + 1), ((m + 1 : Nat) : Int)) =
     some (.ex 2 (F.take (m + 1) ++ x::F.drop (m + 1),T.take (m + 1) ++ y::T.drop (m + 1),((m + 1:Nat):Int))):=by
    unfold dh
    dsimp only
    rw [if_pos (by exact decide_eq_true (by omega)),hs0,ic (by omega) (by omega),qb,oI (by omega) hm,qb,ae hi,qb,qb]
    simp only [Nat.add_sub_cancel]
    rw [if_neg (by simpa using hc)]
   refine ⟨m + 1,x,y,?_,Nat.le_refl _,hj,fun _ _=>by simpa using hc⟩
   simp only [ah,e]
theorem wj {c:List ar} {v:ar} {k:Nat} (hk:k ≤ c.length) (ho:c.Pairwise fun a b=>a.from_ ≤ b.from_) (h1 : ∀ j (hj:j < c.length),k ≤ j → v.from_ < c[j].from_) (h2 : ∀ j (hj:j < c.length),j < k → c[j].from_ ≤ v.from_) :
  (c.take k ++ v::c.drop k).Pairwise fun a b=>a.from_ ≤ b.from_:=by
 rw [List.pairwise_append]
 refine ⟨ho.sublist (List.take_sublist _ _),List.pairwise_cons.2 ⟨fun x hx=>?_,ho.sublist (List.drop_sublist _ _)⟩,fun a ha b hb=>?_⟩
 ·obtain ⟨j, hj, rfl⟩ := List.getElem_of_mem hx
  rw [List.getElem_drop]
  exact Int.le_of_lt (h1 _ _ (by omega))
 ·obtain ⟨j, hj, rfl⟩ := List.getElem_of_mem ha
  rw [List.getElem_take]
  simp only [List.length_take] at hj
  have h3:=h2 j (by omega) (by omega)
  rcases List.mem_cons.1 hb with rfl | hb
  ·exact h3
  ·obtain ⟨q, hq, rfl⟩ := List.getElem_of_mem hb
   rw [List.getElem_drop]
   have:=h1 (k + q) (by simp at hq; omega) (by omega)
   omega
theorem Dn {l:List aw} {x:Int} (hl:l.length ≤ 100000) : ∃ c:List ar,
  ah (eQ l x) (l.length + ([]:List Int).length + ([]:List Int).length + 1) (([]:List Int),([]:List Int),0) = some (.ex 0 (c.map (fun s=>s.from_),c.map (fun s=>s.to_),(l.length:Int))) ∧
  c.Pairwise (fun a b=>a.from_ ≤ b.from_)∧(∀ s,s ∈ c ↔ s ∈ lV l x)∧c.length ≤ l.length:=by
 obtain ⟨c,h1,h2,h3,h4⟩:=tw (k:=0) (l:=l) (body:=eQ l x) (fun (c:List ar) (i:Int)=>(c.map (·.from_),c.map (·.to_),i))
  (fun i c=>c.length ≤ i∧c.Pairwise (fun a b=>a.from_ ≤ b.from_)∧∀ s,s ∈ c ↔ s ∈ lV (l.take i) x) (by
  intro i hi c ⟨hI1,hI2,hI3⟩
  have htk:l.take (i + 1) = l.take i ++ [l[i]]:=List.take_succ_eq_append_getElem hi
  have hcol:lV (l.take (i + 1)) x = lV (l.take i) x ++ (if decide (l[i].X0 ≤ x) && decide (x < l[i].X1) then [⟨l[i].Y0,l[i].Y1⟩] else []):=by
   unfold lV
   rw [htk,List.filter_append,List.map_append]
   congr 1
   by_cases h:(decide (l[i].X0 ≤ x) && decide (x < l[i].X1)) = true <;> simp [h,List.filter_cons]
  by_cases hout:x < l[i].X0 ∨ l[i].X1 ≤ x
  ·refine ⟨c, ?_, by omega, hI2, fun s => ?_⟩
   ·unfold eQ
    dsimp only
    rw [if_pos (by simpa using hi),ae hi,qb,qb]
    have hcond:(if decide (x < l[i].X0) = true then some true else some (decide (l[i].X1 ≤ x))) = some true:=by
     by_cases h:x < l[i].X0
     ·rw [if_pos (by simpa using h)]
     ·rw [if_neg (by simpa using h)]; congr 1; simpa using hout.resolve_left h
    rw [hcond,qb,if_pos rfl,qb,ag (by omega),qb]
   ·rw [hcol,if_neg (by simp; omega),List.append_nil,hI3]
  ·have hin : l[i].X0 ≤ x ∧ x < l[i].X1 := by omega
   obtain ⟨k, x', y', h1, h2, h3, h4⟩ := vN (s0 := (c.map (fun s : ar => s.from_), c.map (fun s : ar => s.to_), (i : Int))) hi rfl (F := c.map fun s => s.from_) (T := c.map fun s => s.to_) (by simp) (by simp; omega) c.length 0 0 (by simp)
    (fun j hj hj'=>absurd hj (by simp; omega)) (l.length + (c.map (fun s:ar=>s.from_) ++ [0]).length + (c.map (fun s:ar=>s.to_) ++ [0]).length + 1) (by simp; omega)
   have e1:(c.map (·.from_)).take c.length = c.map (·.from_):=List.take_of_length_le (by simp)
   have e2:(c.map (·.to_)).take c.length = c.map (·.to_):=List.take_of_length_le (by simp)
   have e3:(c.map (·.from_)).drop c.length = []:=List.drop_eq_nil_of_le (by simp)
   have e4:(c.map (·.to_)).drop c.length = []:=List.drop_eq_nil_of_le (by simp)
   rw [e1,e2,e3,e4] at h1
   simp only [List.length_map] at h3 h4
   simp only [List.getElem_map] at h3 h4
   have hasc:=List.pairwise_iff_getElem.1 hI2
   have hlt : ∀ j (hj:j < c.length),j < k → c[j].from_ ≤ l[i].Y0:=by
    intro j hj hjk
    have h6:=h4 (by omega) (by omega)
    rcases Nat.lt_or_ge j (k - 1) with h | h
    ·have:=hasc j (k - 1) hj (by omega) h; omega
    ·have : j = k - 1 := by omega
     subst this; omega
   refine ⟨c.take k ++ ⟨l[i].Y0,l[i].Y1⟩::c.drop k,?_,by simp; omega,wj (by omega) hI2 h3 hlt,fun s=>?_⟩
   ·unfold eQ
    dsimp only
    rw [if_pos (by simpa using hi),ae hi,qb,qb]
    have hcond:(if decide (x < l[i].X0) = true then some true else some (decide (l[i].X1 ≤ x))) = some false:=by
     rw [if_neg (by simp; omega)]; congr 1; simp; omega
    rw [hcond,qb,if_neg (by simp),aF (by simp; omega),qb,aF (by simp; omega),qb]
    have hlen:((c.map (·.from_)).length:Int) = (c.length:Int):=by simp
    rw [hlen,h1,qb]
    dsimp only
    rw [qb,mI (by simp; omega),qb,qb,qb,mI (by simp; omega),qb,qb,qb,ag (by omega),qb,
     Int.toNat_natCast,vJ (by simp; omega),vJ (by simp; omega)]
    simp only [List.map_append,List.map_cons,List.map_take,List.map_drop]
   ·rw [hcol, if_pos (by simp; omega), List.mem_append (s := lV (l.take i) x), ← hI3]
    conv=>rhs; rw [← List.take_append_drop k c]
    simp only [List.mem_append,List.mem_cons,List.mem_singleton,List.not_mem_nil,or_false]
    constructor
    ·rintro (h | h | h)
     ·exact .inl (.inl h)
     ·exact .inr h
     ·exact .inl (.inr h)
    ·rintro ((h | h) | h)
     ·exact .inl h
     ·exact .inr (.inr h)
     ·exact .inr (.inl h)) (by
  intro s _
  unfold eQ
  dsimp only
  rw [if_neg (by simp)]) (s0:=[]) ⟨by simp,.nil,by simp [lV]⟩ (fuel:=l.length + ([]:List Int).length + ([]:List Int).length + 1) (by simp)
 exact ⟨c,h1,h3,fun s=>by rw [h4,List.take_length],h2⟩
theorem Dw {c:List ar} {n:Int} (hl:c.length ≤ 100000) {fuel:Nat} (hf:c.length < fuel) :
  ah (eT (c.map (·.from_),c.map (·.to_),n)) fuel (([]:List Int),0) = some (.ex 4 (bE (c.foldl fv []),(c.length:Int))):=by
 refine (dz (k:=4) (l:=c) (body:=eT (c.map (·.from_),c.map (·.to_),n)) (fun (o:List ar) i=>(bE o,i)) fv (fun i o=>o.length ≤ i) ?_ ?_ (s0:=[]) (Nat.zero_le _) hf).1
 ·intro i hi o hI
  have hF:au (c.map (·.from_)) (i:Int) = some c[i].from_:=by rw [ae (by simpa using hi)]; simp
  have hT:au (c.map (·.to_)) (i:Int) = some c[i].to_:=by rw [ae (by simpa using hi)]; simp
  rcases List.eq_nil_or_concat o with rfl | ⟨o', t, rfl⟩
  ·constructor
   ·unfold eT
    dsimp only
    rw [if_pos (by simpa using hi)]
    have e0:bE [] = []:=rfl
    rw [e0,if_neg (by simp),qb,if_neg (by simp),hF,qb,hT,qb,aF (by simp),qb,qb,ag (by omega),qb]
    rfl
   ·simp [fv]
  ·rw [List.concat_eq_append] at *
   have hol:o'.length + 1 ≤ i:=by simpa using hI
   have e:bE (o' ++ [t]) = (bE o' ++ [t.from_]) ++ [t.to_]:=by rw [oU]; simp [bE]
   have hfl:=iC o'
   constructor
   ·unfold eT
    dsimp only
    rw [if_pos (by simpa using hi),e,if_pos (by simp; omega),hF,qb,uq (by simp; omega),qb,pE rfl,qb,qb]
    by_cases hm:c[i].from_ ≤ t.to_
    ·rw [if_pos (by simpa using hm), qb, qb, pE rfl, qb, hT, qb, qb, qb, qb, vk (by simp), ag (by omega), qb]
     have:fv (o' ++ [t]) c[i] = o' ++ [⟨t.from_,max t.to_ c[i].to_⟩]:=by simp [fv,hm]
     rw [this,oU]; simp [bE]
    ·rw [if_neg (by simpa using hm), qb, hT, qb, aF (by simp; omega), qb, qb, ag (by omega), qb]
     have:fv (o' ++ [t]) c[i] = (o' ++ [t]) ++ [c[i]]:=by simp [fv,hm]
     rw [this,oU,e]; simp [bE]
   ·unfold fv
    simp only [List.getLast?_append,List.getLast?_singleton,Option.some_or,List.dropLast_concat]
    split <;> simp <;> omega
 ·intro o _
  unfold eT
  dsimp only
  rw [if_neg (by simp)]
theorem mH {l:List aw} {x:Int} (hv : ∀ r ∈ l,VR r) (hl:l.length ≤ 100000) : ∃ c,gm l x = some (bE c)∧CC l x c:=by
 obtain ⟨r,h1,hs,hmem,hrl⟩:=Dn (x:=x) hl
 have hpos : ∀ s ∈ r,s.from_ < s.to_:=by
  intro s hs
  have:=(hmem s).1 hs
  simp only [lV,List.mem_map,List.mem_filter] at this
  obtain ⟨q,⟨hq,_⟩,rfl⟩:=this
  exact (hv q hq).2.2.2.2.1
 obtain ⟨k1,k2,k3⟩:=q9 r [] trivial hpos hs (by simp)
 refine ⟨r.foldl fv [],?_,k1,fun y=>?_,by simp at k3; omega⟩
 ·unfold gm
  rw [h1,qb]
  dsimp only
  rw [Dw (by omega) (by simp; omega),qb]
 ·rw [k2]
  simp only [aC,List.map_nil,bX,Bool.false_eq_true,false_or]
  constructor
  ·rintro ⟨s, hs, h⟩
   have:=(hmem s).1 hs
   simp only [lV,List.mem_map,List.mem_filter,Bool.and_eq_true,decide_eq_true_eq] at this
   obtain ⟨q,⟨hq,hx⟩,rfl⟩:=this
   exact ⟨q,hq,hx,h⟩
  ·rintro ⟨q, hq, hx, h⟩
   refine ⟨⟨q.Y0,q.Y1⟩,(hmem _).2 ?_,h⟩
   simp only [lV,List.mem_map,List.mem_filter,Bool.and_eq_true,decide_eq_true_eq]
   exact ⟨q,⟨hq,hx⟩,rfl⟩

theorem C1 {a b:List Int} (hb:a.length ≤ 1000000):mU a b = some (decide (a = b)):=by
 unfold mU
 by_cases hl:a.length = b.length
 ·rw [if_neg (by simp [hl])]
  rcases jP (l:=a.zip b) (body:=lp a b) (k:=0) (fun p=>p.1 ≠ p.2) (fun _=>false) (by
   intro i hi
   simp only [List.length_zip] at hi
   have h1:i < a.length:=by omega
   have h2:i < b.length:=by omega
   unfold lp
   rw [if_pos (by simpa using h1),ae h1,qb,ae h2,qb]
   simp only [List.getElem_zip]
   by_cases he:a[i] = b[i]
   ·right
    rw [if_neg (by simpa using he),ag (show i < 4611686018427387904 by omega),qb]
    exact ⟨by simpa using he,rfl⟩
   ·left
    rw [if_pos (by simpa using he)]
    exact ⟨he,rfl⟩) (by
   have e:((a.zip b).length:Int) = (a.length:Int):=by simp; omega
   rw [e]
   unfold lp
   rw [if_neg (by simp)]) (fuel:=a.length + b.length + 1) (by simp; omega) with ⟨i,hi,hp,_,h⟩ | ⟨hp,h⟩
  ·rw [h, qb]
   dsimp only
   congr 1
   symm
   rw [decide_eq_false_iff_not]
   intro e; subst e; simp at hp
  ·rw [h, qb]
   dsimp only
   congr 1
   symm
   rw [decide_eq_true_iff]
   refine List.ext_getElem hl fun i h1 h2=>?_
   have:=hp (a[i],b[i]) (by
    rw [List.mem_iff_getElem]
    exact ⟨i,by simp; omega,by simp⟩)
   simpa using this
 ·rw [if_pos (by simp; omega)]
  congr 1
  symm
  rw [decide_eq_false_iff_not]
  intro e; exact hl (by rw [e])

def di (n:Nat):Bool:=decide (n % 2 = 1)
theorem n5 (op:Int) (out:List Int) (was:Bool) (y:Int) (i' k' : Nat) (hlen:out.length ≤ 1000000) :
    ((nm (i' : Int) 2).bind fun p=>(nm (k' : Int) 2).bind fun q=>(if (op == 1) then some ((p == 1) && (q == 1)) else some ((p == 1) || (q == 1))).bind fun s332=>
      (if (op == 2) then some ((p == 1) && (!(q == 1))) else some s332).bind fun s339=>(if (s339 != was) then (cg out ([y])).bind fun x=>some x else some out).bind fun s346=>
        some (aN.go (s346,(i' : Int),(k' : Int),s339):aN (List Int × Int × Int × Bool) (List Int))) =
    some (.go (if opB op (di i') (di k') != was then out ++ [y] else out,(i' : Int),(k' : Int),opB op (di i') (di k'))):=by
  have hr : ∀ n:Nat,nm (n:Int) 2 = some ((n % 2:Nat):Int):=fun n=>by
    unfold nm
    rw [if_pos (by decide)]
    congr 1
  have ho : ∀ n:Nat,(((n % 2:Nat):Int) == 1) = di n:=fun n=>by
    unfold di
    rw [Bool.eq_iff_iff]; simp; omega
  rw [hr,qb,hr,qb,ho,ho]
  have happ:cg out [y] = some (out ++ [y]):=aF (by simp; omega)
  unfold opB
  by_cases h1:op = 1
  · subst h1
    rw [if_pos (by decide),qb,if_neg (by decide),qb,if_pos rfl]
    cases hb:((di i' && di k') != was) <;> simp [happ]
  · rw [if_neg (by simpa using h1), qb, if_neg h1]
    by_cases h2:op = 2
    · subst h2
      rw [if_pos (by decide),qb,if_pos rfl]
      cases hb:((di i' && !di k') != was) <;> simp [happ]
    · rw [if_neg (by simpa using h2), qb, if_neg h2]
      cases hb:((di i' || di k') != was) <;> simp [happ]
theorem Dc {a b:List Int} {op:Int} {out:List Int} {was:Bool} {i k:Nat} (hal:a.length ≤ 100000) (hbl:b.length ≤ 100000) (hi:i ≤ a.length) (hk:k ≤ b.length) (hne:i < a.length ∨ k < b.length) (hlen:out.length ≤ 1000000)
  (ha:a.Pairwise fun a b=>a < b) (hb:b.Pairwise fun a b=>a < b) (hai : ∀ j (hj:j < i),∀ h:j < a.length,∀ q (hq:k ≤ q) (hq' : q < b.length),a[j] < b[q]) (hbk : ∀ j (hj:j < k),∀ h:j < b.length,∀ q (hq:i ≤ q) (hq' : q < a.length),b[j] < a[q]) :
  ∃ (y:Int) (i' k' : Nat),fG a b op (out,(i:Int),(k:Int),was) = some (.go (if opB op (di i') (di k') != was then out ++ [y] else out,(i' : Int),(k' : Int),opB op (di i') (di k'))) ∧
   i ≤ i'∧k ≤ k'∧i + k < i' + k'∧i' ≤ a.length∧k' ≤ b.length∧i' ≤ i + 1∧k' ≤ k + 1∧(∀ j (hj:j < i') (h:j < a.length),a[j] ≤ y)∧(∀ j (hj:i' ≤ j) (h:j < a.length),y < a[j])∧(∀ j (hj:j < k') (h:j < b.length),b[j] ≤ y)∧(∀ j (hj:k' ≤ j) (h:j < b.length),y < b[j]) ∧
   (∀ j (hj:i ≤ j) (h:j < a.length),y ≤ a[j])∧(∀ j (hj:k ≤ j) (h:j < b.length),y ≤ b[j]):=by
 have ha':=List.pairwise_iff_getElem.1 ha
 have hb':=List.pairwise_iff_getElem.1 hb
 have mono : ∀ {p:List Int},(∀ (i j:Nat) (hi:i < p.length) (hj:j < p.length),i < j → p[i] < p[j]) → ∀ (i j:Nat) (hi:i < p.length) (hj:j < p.length),i ≤ j → p[i] ≤ p[j]:=by
  intro p hp i j hi hj hij
  rcases Nat.lt_or_ge i j with h | h
  ·exact Int.le_of_lt (hp i j hi hj h)
  ·have : i = j := by omega
   subst this; exact Int.le_refl _
 have ma:=mono ha'
 have mb:=mono hb'
 unfold fG
 dsimp only
 rw [if_pos (by simp; omega)]
 have eL:bZ (b.length:Int) 1 = some ((b.length:Int) - 1):=ba (by unfold inI; omega)
 rcases Nat.lt_or_ge i a.length with h1 | h1
 ·have gA : au a (i : Int) = some a[i] := ae h1
  have cI:decide ((i:Int) < (a.length:Int)) = true:=by simpa using h1
  have eI:aD (i:Int) 1 = some ((i + 1:Nat):Int):=ag (by omega)
  rcases Nat.lt_or_ge k b.length with h2 | h2
  ·have emin : min (k : Int) ((b.length : Int) - 1) = (k : Int) := by omega
   have gB:au b (k:Int) = some b[k]:=ae h2
   have cK:decide ((k:Int) < (b.length:Int)) = true:=by simpa using h2
   have cL:decide ((b.length:Int) ≤ (k:Int)) = false:=by simp; omega
   have eK:aD (k:Int) 1 = some ((k + 1:Nat):Int):=ag (by omega)
   rcases Int.lt_trichotomy a[i] b[k] with hc | hc | hc
   ·refine ⟨a[i], i + 1, k, ?_, by omega, by omega, by omega, by omega, by omega, by omega, by omega, fun j hj h => ma j i h h1 (by omega), fun j hj h => ha' i j h1 h (by omega), fun j hj h => Int.le_of_lt (hbk j hj h i (Nat.le_refl _) h1), fun j hj h => by have := mb k j h2 h hj; omega, fun j hj h => ma i j h1 h hj, fun j hj h => by have := mb k j h2 h hj; omega⟩
    have c1:decide (a[i] ≤ b[k]) = true:=by simp; omega
    have c2:(b[k] == a[i]) = false:=by simp; omega
    simp only [cI,cK,cL,gA,gB,eL,emin,c1,c2,eI,qb,Bool.false_eq_true,beq_self_eq_true,↓reduceIte]
    exact n5 op out was a[i] (i + 1) k hlen
   ·refine ⟨a[i], i + 1, k + 1, ?_, by omega, by omega, by omega, by omega, by omega, by omega, by omega, fun j hj h => ma j i h h1 (by omega), fun j hj h => ha' i j h1 h (by omega), fun j hj h => by rw [hc]; exact mb j k h h2 (by omega), fun j hj h => by rw [hc]; exact hb' k j h2 h (by omega), fun j hj h => ma i j h1 h hj, fun j hj h => by rw [hc]; exact mb k j h2 h hj⟩
    have c1:decide (a[i] ≤ b[k]) = true:=by simp; omega
    have c2:(b[k] == a[i]) = true:=by simp; omega
    simp only [cI,cK,cL,gA,gB,eL,emin,c1,c2,eI,eK,qb,Bool.false_eq_true,beq_self_eq_true,↓reduceIte]
    exact n5 op out was a[i] (i + 1) (k + 1) hlen
   ·refine ⟨b[k], i, k + 1, ?_, by omega, by omega, by omega, by omega, by omega, by omega, by omega, fun j hj h => Int.le_of_lt (hai j hj h k (Nat.le_refl _) h2), fun j hj h => by have := ma i j h1 h hj; omega, fun j hj h => mb j k h h2 (by omega), fun j hj h => hb' k j h2 h (by omega), fun j hj h => by have := ma i j h1 h hj; omega, fun j hj h => mb k j h2 h hj⟩
    have c1:decide (a[i] ≤ b[k]) = false:=by simp; omega
    have c2:(a[i] == b[k]) = false:=by simp; omega
    simp only [cI,cK,cL,gA,gB,eL,emin,c1,c2,eK,qb,Bool.false_eq_true,beq_self_eq_true,↓reduceIte]
    exact n5 op out was b[k] i (k + 1) hlen
  ·refine ⟨a[i], i + 1, k, ?_, by omega, by omega, by omega, by omega, by omega, by omega, by omega, fun j hj h => ma j i h h1 (by omega), fun j hj h => ha' i j h1 h (by omega), fun j hj h => Int.le_of_lt (hbk j hj h i (Nat.le_refl _) h1), fun j hj h => absurd h (by omega), fun j hj h => ma i j h1 h hj, fun j hj h => absurd h (by omega)⟩
   have cK:decide ((k:Int) < (b.length:Int)) = false:=by simp; omega
   have cL:decide ((b.length:Int) ≤ (k:Int)) = true:=by simp; omega
   simp only [cI,cK,cL,gA,eI,qb,Bool.false_eq_true,beq_self_eq_true,↓reduceIte]
   exact n5 op out was a[i] (i + 1) k hlen
 ·have h2 : k < b.length := by omega
  have gB:au b (k:Int) = some b[k]:=ae h2
  have cI:decide ((i:Int) < (a.length:Int)) = false:=by simp; omega
  have cK:decide ((k:Int) < (b.length:Int)) = true:=by simpa using h2
  have eK:aD (k:Int) 1 = some ((k + 1:Nat):Int):=ag (by omega)
  refine ⟨b[k],i,k + 1,?_,by omega,by omega,by omega,by omega,by omega,by omega,by omega,fun j hj h=>Int.le_of_lt (hai j hj h k (Nat.le_refl _) h2),fun j hj h=>absurd h (by omega),fun j hj h=>mb j k h h2 (by omega),fun j hj h=>hb' k j h2 h (by omega),fun j hj h=>absurd h (by omega),fun j hj h=>mb k j h2 h hj⟩
  simp only [cI,cK,gB,eK,qb,Bool.false_eq_true,beq_self_eq_true,↓reduceIte]
  exact n5 op out was b[k] i (k + 1) hlen

theorem te {p:List Int} {z:Int} {i:Nat} (hi:i ≤ p.length) (h1 : ∀ j (hj:j < i) (h:j < p.length),p[j] ≤ z) (h2 : ∀ j (hj:i ≤ j) (h:j < p.length),z < p[j]):p.countP (fun x=>decide (x ≤ z)) = i:=by
 conv=>lhs; rw [← List.take_append_drop i p]
 rw [List.countP_append]
 have e1:(p.take i).countP (fun x=>decide (x ≤ z)) = i:=by
  rw [List.countP_eq_length.2]
  ·simp; omega
  ·intro x hx
   obtain ⟨j,hj,rfl⟩:=List.getElem_of_mem hx
   rw [List.getElem_take]
   simp only [List.length_take] at hj
   simpa using h1 j (by omega) (by omega)
 have e2:(p.drop i).countP (fun x=>decide (x ≤ z)) = 0:=jA (by
  intro x hx
  obtain ⟨j,hj,rfl⟩:=List.getElem_of_mem hx
  rw [List.getElem_drop]
  simp only [List.length_drop] at hj
  exact h2 _ (by omega) (by omega))
 omega
theorem xz (n:Nat):di (n + 1) = !di n:=by
 unfold di
 by_cases h:n % 2 = 1
 ·simp [h]; omega
 ·simp [h]; omega
theorem yu {a b:List Int} {op:Int} (hal:a.length ≤ 100000) (hbl:b.length ≤ 100000) (ha:a.Pairwise fun a b=>a < b) (hb:b.Pairwise fun a b=>a < b) :
    ∃ out,fh a b op = some out∧out.Pairwise (fun a b=>a < b)∧(∀ z,odd out z = opB op (odd a z) (odd b z))∧di out.length = opB op (di a.length) (di b.length)∧out.length ≤ a.length + b.length:=by
  refine Exists.elim (wI (body:=fG a b op) (fun s=>∃ (i k:Nat),s.2.1 = (i:Int)∧s.2.2.1 = (k:Int)∧i ≤ a.length∧k ≤ b.length∧s.1.Pairwise (fun a b=>a < b) ∧
      (∀ x ∈ s.1,∀ j (hj:i ≤ j) (h:j < a.length),x < a[j])∧(∀ x ∈ s.1,∀ j (hj:k ≤ j) (h:j < b.length),x < b[j])∧s.2.2.2 = opB op (di i) (di k)∧di s.1.length = s.2.2.2∧s.1.length ≤ i + k ∧
      (∀ j (hj:j < i),∀ h:j < a.length,∀ q (hq:k ≤ q) (hq' : q < b.length),a[j] < b[q])∧(∀ j (hj:j < k),∀ h:j < b.length,∀ q (hq:i ≤ q) (hq' : q < a.length),b[j] < a[q]) ∧
      ∀ z,(∀ j (hj:i ≤ j) (h:j < a.length),z < a[j]) → (∀ j (hj:k ≤ j) (h:j < b.length),z < b[j]) → odd s.1 z = opB op (odd a z) (odd b z))
    (fun s=>(a.length - s.2.1.toNat) + (b.length - s.2.2.1.toNat)) (fun f=>∃ s,f = .ex 0 s∧s.1.Pairwise (fun a b=>a < b)∧(∀ z,odd s.1 z = opB op (odd a z) (odd b z))∧di s.1.length = opB op (di a.length) (di b.length)∧s.1.length ≤ a.length + b.length) ?_
    (([]:List Int),0,0,false) ⟨0,0,rfl,rfl,Nat.zero_le _,Nat.zero_le _,.nil,by simp,by simp,(qi op).symm,rfl,by simp,fun j hj=>absurd hj (Nat.not_lt_zero j),fun j hj=>absurd hj (Nat.not_lt_zero j),fun z h1 h2=>by
      have e1:=jA (p:=a) (y:=z) (fun x hx=>by obtain ⟨j,hj,rfl⟩:=List.getElem_of_mem hx; exact h1 j (Nat.zero_le _) hj)
      have e2:=jA (p:=b) (y:=z) (fun x hx=>by obtain ⟨j,hj,rfl⟩:=List.getElem_of_mem hx; exact h2 j (Nat.zero_le _) hj)
      unfold odd
      rw [e1,e2]
      exact (qi op).symm⟩ (a.length + b.length + ([]:List Int).length + 1) (by simp)) ?_
  · rintro ⟨out, _, _, was⟩ ⟨i, k, rfl, rfl, hi, hk, hp, hxa, hxb, rfl, hodd, hlen, hab, hba, hz⟩
    dsimp only at *
    by_cases hne:i < a.length ∨ k < b.length
    · left
      obtain ⟨y, i', k', h1, h2, h3, h4, h5, h6, h7, h8, h9, h10, h11, h12, h13, h14⟩ := Dc (op := op) (out := out) (was := opB op (di i) (di k)) hal hbl hi hk hne (by omega) ha hb hab hba
      refine ⟨_, h1, ⟨i', k', rfl, rfl, h5, h6, ?_, ?_, ?_, rfl, ?_, ?_, ?_, ?_, ?_⟩, ?_⟩
      · dsimp only
        split
        · rw [List.pairwise_append]
          refine ⟨hp,List.pairwise_singleton _ _,fun x hx y' hy'=>?_⟩
          simp only [List.mem_singleton] at hy'
          subst hy'
          rcases Nat.lt_or_ge i i' with h | h
          · have := hxa x hx i (Nat.le_refl _) (by omega)
            have:=h9 i h (by omega)
            omega
          · have hkk : k < k' := by omega
            have:=hxb x hx k (Nat.le_refl _) (by omega)
            have:=h11 k hkk (by omega)
            omega
        · exact hp
      · dsimp only
        intro x hx j hj h
        have hold:x ∈ out → x < a[j]:=fun hx=>hxa x hx j (by omega) h
        split at hx
        · rcases List.mem_append.1 hx with hx | hx
          · exact hold hx
          · simp only [List.mem_singleton] at hx; subst hx; exact h10 j hj h
        · exact hold hx
      · dsimp only
        intro x hx j hj h
        have hold:x ∈ out → x < b[j]:=fun hx=>hxb x hx j (by omega) h
        split at hx
        · rcases List.mem_append.1 hx with hx | hx
          · exact hold hx
          · simp only [List.mem_singleton] at hx; subst hx; exact h12 j hj h
        · exact hold hx
      · dsimp only
        split
        · rename_i hc
          rw [List.length_append,List.length_singleton,xz,hodd]
          revert hc
          cases opB op (di i') (di k') <;> cases opB op (di i) (di k) <;> simp
        · rename_i hc
          rw [hodd]
          revert hc
          cases opB op (di i') (di k') <;> cases opB op (di i) (di k) <;> simp
      · dsimp only
        split
        · simp; omega
        · omega
      · intro j hj h q hq hq'
        have:=h9 j hj h
        have:=h12 q hq hq'
        omega
      · intro j hj h q hq hq'
        have:=h11 j hj h
        have:=h10 q hq hq'
        omega
      · intro z hz1 hz2
        dsimp only
        rcases Int.lt_or_le z y with hzy | hzy
        · have e := hz z (fun j hj h => by have := h13 j hj h; omega) (fun j hj h => by have := h14 j hj h; omega)
          rw [← e]
          split
          · unfold odd
            rw [List.countP_append,jA (p:=[y]) (by simp; omega)]
            simp
          · rfl
        · have e1 : odd a z = di i' := by unfold odd di; rw [te h5 (fun j hj h => by have := h9 j hj h; omega) hz1]
          have e2:odd b z = di k':=by unfold odd di; rw [te h6 (fun j hj h=>by have:=h11 j hj h; omega) hz2]
          rw [e1,e2]
          have hall : ∀ x ∈ out,x ≤ z:=by
            intro x hx
            rcases Nat.lt_or_ge i i' with h | h
            · have := hxa x hx i (Nat.le_refl _) (by omega)
              have:=h9 i h (by omega)
              omega
            · have := hxb x hx k (Nat.le_refl _) (by omega)
              have:=h11 k (by omega) (by omega)
              omega
          have hfull : ∀ p:List Int,(∀ x ∈ p,x ≤ z) → odd p z = di p.length:=fun p hp=>by
            unfold odd di
            rw [List.countP_eq_length.2 (by simpa using hp)]
          split
          · rename_i hc
            rw [hfull _ (by
              intro x hx
              rcases List.mem_append.1 hx with hx | hx
              · exact hall x hx
              · simp only [List.mem_singleton] at hx; omega),List.length_append,List.length_singleton,xz,hodd]
            revert hc
            cases opB op (di i') (di k') <;> cases opB op (di i) (di k) <;> simp
          · rename_i hc
            rw [hfull _ hall,hodd]
            revert hc
            cases opB op (di i') (di k') <;> cases opB op (di i) (di k) <;> simp
      · dsimp only; simp only [Int.toNat_natCast]; omega
    · right
      obtain rfl:i = a.length:=by omega
      obtain rfl:k = b.length:=by omega
      refine ⟨.ex 0 (out,(a.length:Int),(b.length:Int),opB op (di a.length) (di b.length)),?_,trivial,_,rfl,hp,fun z=>hz z (fun j hj h=>absurd h (by omega)) (fun j hj h=>absurd h (by omega)),hodd,hlen⟩
      unfold fG
      dsimp only
      rw [if_neg (by simp)]
  · rintro f ⟨hf, _, s, rfl, h1, h2, h3, h4⟩
    refine ⟨s.1,?_,h1,h2,h3,h4⟩
    unfold fh
    rw [hf,qb]
theorem we {a b:List ar} {op:Int} (hal:a.length ≤ 40000) (hbl:b.length ≤ 40000) (ha:Canon false (aC a)) (hb:Canon false (aC b)) :
  ∃ c,fh (bE a) (bE b) op = some (bE c)∧Canon false (aC c)∧(∀ y,bX false (aC c) y = opB op (bX false (aC a) y) (bX false (aC b) y))∧c.length ≤ a.length + b.length:=by
 have la:=iC a; have lb:=iC b
 obtain ⟨out,h1,h2,h3,h4,h5⟩:=yu (op:=op) (by omega) (by omega) (oZ ha) (oZ hb)
 have ev : ∀ n:Nat,di (2 * n) = false:=fun n=>by unfold di; simp
 rw [la,lb,ev,ev,qi] at h4
 have hev:out.length = 2 * (out.length / 2):=by unfold di at h4; simp at h4; omega
 obtain ⟨c,rfl,hc⟩:=ED _ hev h2
 have lc:=iC c
 exact ⟨c,h1,hc,fun y=>by rw [pZ hc,pZ ha,pZ hb,h3],by omega⟩


theorem rq {xs:List Int} {s0:List aw × List Int × Int × Int} {i:Nat} (hx:i + 1 < xs.length) (hs:s0.2.2.2 = (i:Int)) (hi:i < 1000000) : ∀ (B A:List aw),A.length + B.length ≤ 1000000000 → ∀ fuel,B.length < fuel →
  ah (gG xs s0) fuel (A ++ B,(A.length:Int)) = some (.ex 2 (A ++ B.map (fun r=>{ r with X1:=xs[i + 1] }),((A ++ B).length:Int)))
 | [], A, hl, fuel, hf => by
  obtain ⟨fuel,rfl⟩ : ∃ m,fuel = m + 1:=⟨fuel - 1,by omega⟩
  have e:gG xs s0 (A ++ [],(A.length:Int)) = some (.ex 2 (A ++ [].map (fun r:aw=>{ r with X1:=xs[i + 1] }),((A ++ []).length:Int))):=by
   unfold gG
   dsimp only
   rw [if_neg (by simp)]
   simp
  simp only [ah,e]
 | r :: B, A, hl, fuel, hf => by
  obtain ⟨fuel,rfl⟩ : ∃ m,fuel = m + 1:=⟨fuel - 1,by omega⟩
  simp only [List.length_cons] at hl hf
  have hg:au (A ++ r::B) (A.length:Int) = some r:=by rw [ae (by simp)]; simp
  have hset : ∀ v,(A ++ r::B).set A.length v = (A ++ [v]) ++ B:=fun v=>by rw [List.set_append_right _ _ (Nat.le_refl _)]; simp
  have e:gG xs s0 (A ++ r::B,(A.length:Int)) = some (.go ((A ++ [{ r with X1:=xs[i + 1] }]) ++ B,((A ++ [{ r with X1:=xs[i + 1] }]).length:Int))):=by
   unfold gG
   dsimp only
   rw [if_pos (by simp; omega),hs,ag (by omega),qb,ae hx,qb,hg,qb,qb,ag (by omega),qb,Int.toNat_natCast,hset]
   simp
  simp only [ah,e]
  exact (rq hx hs hi B _ (by simp; omega) fuel (by omega)).trans (by simp)
theorem yZ {xs:List Int} {s0:List aw × List Int × Int × Int} {i:Nat} (hx:i + 1 < xs.length) (hs:s0.2.2.2 = (i:Int)) (hi:i < 1000000) {c:List ar} (hc:c.length ≤ 1000000) {out:List aw} (ho:out.length ≤ 100000000) {fuel:Nat} (hf:c.length < fuel) :
  ∃ n,ah (iQ xs s0 (bE c)) fuel (out,0) = some (.ex 4 (out ++ c.map fun s=>⟨xs[i]'(by omega),s.from_,xs[i + 1],s.to_⟩,n)):=by
 have hfl:=iC c
 obtain ⟨o,h1,h2,h3⟩:=sV (k:=4) (body:=iQ xs s0 (bE c)) (fun (s:List aw) j=>(s,2 * j)) 0 c.length (Nat.zero_le _)
  (fun j s=>s = out ++ (c.take j).map (fun s=>⟨xs[i]'(by omega),s.from_,xs[i + 1],s.to_⟩)∧s.length ≤ out.length + j) (by
  intro j _ hj s ⟨hI1,hI2⟩
  obtain ⟨g1,g2⟩:=DV hj
  refine ⟨s ++ [⟨xs[i]'(by omega),c[j].from_,xs[i + 1],c[j].to_⟩],?_,?_,by rw [List.length_append,List.length_singleton]; omega⟩
  ·have e1 : aD (2 * (j : Int)) 1 = some (2 * (j : Int) + 1) := aZ (by unfold inI; omega)
   have e2:aD (2 * (j:Int)) 2 = some (2 * ((j + 1:Nat):Int)):=by rw [aZ (by unfold inI; omega)]; exact congrArg some (by omega)
   unfold iQ
   dsimp only
   rw [e1,qb,if_pos (by simp; omega),hs,ae (show i < xs.length by omega),qb,g1,qb,ag (by omega),qb,ae hx,qb,qb,g2,qb,
    aF (by simp; omega),qb,e2,qb]
  ·rw [hI1,List.take_succ_eq_append_getElem hj,List.map_append]; simp) (by
  intro s _
  have e1:aD (2 * (c.length:Int)) 1 = some (2 * (c.length:Int) + 1):=aZ (by unfold inI; omega)
  unfold iQ
  dsimp only
  rw [e1,qb,if_neg (by simp; omega)]) (s0:=out) ⟨by simp,by simp⟩ (fuel:=fuel) (by omega)
 rw [List.take_length] at h2
 refine ⟨2 * (c.length:Int),?_⟩
 rw [← h2]
 exact h1

theorem xl {a b:List aw} {op:Int} (hva : ∀ r ∈ a,VR r) (hvb : ∀ r ∈ b,VR r) (hl:(a ++ b).length ≤ 1000) : ∃ out,jy a b op = some out∧eC (opS op a b) out:=by
  classical
  obtain ⟨xs,hxs,hx⟩:=Bx (a:=a) (b:=b) (by omega)
  have hxl:=hx.len
  have hla:a.length + b.length ≤ 1000:=by simpa using hl
  have hex : ∀ z,∃ c:List ar,Canon false (aC c)∧(∀ y,bX false (aC c) y = opB op (decide (cells a z y)) (decide (cells b z y)))∧c.length ≤ 1000 ∧
      ((gm a z).bind fun p=>(gm b z).bind fun q=>fh p q op) = some (bE c):=by
    intro z
    obtain ⟨ca,h1,h2⟩:=mH (x:=z) hva (by omega)
    obtain ⟨cb,h3,h4⟩:=mH (x:=z) hvb (by omega)
    have l1:=h2.len; have l2:=h4.len
    obtain ⟨c,h5,h6,h7,h8⟩:=we (op:=op) (by omega) (by omega) h2.canon h4.canon
    refine ⟨c,h6,fun y=>?_,by omega,by rw [h1,qb,h3,qb,h5]⟩
    rw [h7]
    congr 1
    · rw [Bool.eq_iff_iff,h2.val,decide_eq_true_iff]
    · rw [Bool.eq_iff_iff,h4.val,decide_eq_true_iff]
  obtain ⟨C,hC⟩:=Classical.axiomOfChoice hex
  have hCb : ∀ i (hi:i + 1 < xs.length) z,xs[i] ≤ z → z < xs[i + 1] → C z = C xs[i]:=by
    intro i hi z h1 h2
    refine eY (mz (hC z).1 (hC _).1 fun y=>?_)
    rw [(hC z).2.1,(hC _).2.1]
    have key : ∀ c:List aw,(∀ r ∈ c,r ∈ a ++ b) → decide (cells c z y) = decide (cells c xs[i] y):=by
      intro c hc
      rw [decide_eq_decide]
      refine exists_congr fun r=>and_congr_right fun hr=>?_
      unfold rin
      have g1:=p9 hx.asc hi ((hx.mem r.X0).2 ⟨r,hc r hr,.inl rfl⟩)
      have g2:=p9 hx.asc hi ((hx.mem r.X1).2 ⟨r,hc r hr,.inr rfl⟩)
      omega
    rw [key a fun r hr=>List.mem_append_left _ hr,key b fun r hr=>List.mem_append_right _ hr]
  obtain ⟨s,h1,h2⟩:=sV (k:=0) (body:=gH a b op xs) (fun (s:List aw × List Int × Int) i=>(s.1,s.2.1,s.2.2,i)) 0 (xs.length - 1) (Nat.zero_le _)
    (fun i s=>∃ G:gu Col,s.1 = eh G∧Canon [] G∧(∀ a b c,(a,b,c) ∈ G → Canon false c)∧(∀ hi:i < xs.length,nO G xs[i]) ∧
      (∀ z,bX [] G z = if (∃ j,∃ h:j + 1 < xs.length,j < i∧xs[j] ≤ z∧z < xs[j + 1]) then aC (C z) else [])∧s.1.length ≤ 1000 * i ∧
      ((i = 0∧G = []) ∨ (0 < i∧∃ c,s.2.1 = bE c∧c.length ≤ 1000∧(c = [] → ∀ r,G.getLast? = some r → ∀ hi:i < xs.length,r.2.1 < xs[i]) ∧
        (c ≠ [] → ∃ G' lo,∃ hi:i < xs.length,G = G' ++ [(lo,xs[i],aC c)]∧s.2.2 = ((eh G').length:Int))))) (by
    rintro i - hi ⟨out,was,last⟩ ⟨G,hI1,hI2,hI3,hI4,hI5,hI6,hI7⟩
    dsimp only at *
    have hi1:i + 1 < xs.length:=by omega
    obtain ⟨hc1,hc2,hc3,hc4⟩:=hC xs[i]
    have hlt:xs[i] < xs[i + 1]:=(List.pairwise_iff_getElem.1 hx.asc) i (i + 1) (by omega) hi1 (by omega)
    have hout:out.length ≤ 1000000 + 1000 * i:=by omega
    -- the columns are those of the reference
    obtain ⟨pa,hpa,_⟩:=mH (x:=xs[i]) hva (by omega)
    obtain ⟨pb,hpb,_⟩:=mH (x:=xs[i]) hvb (by omega)
    have hcomb:fh (bE pa) (bE pb) op = some (bE (C xs[i])):=by
      rw [hpa,qb,hpb,qb] at hc4; exact hc4
    have hq:=BP (e:=[]) (aC (C xs[i])) hI2 (hI4 (by omega)) hlt
    have hval : ∀ z,bX [] (mh [] G xs[i] xs[i + 1] (aC (C xs[i]))) z = if (∃ j,∃ h:j + 1 < xs.length,j < i + 1∧xs[j] ≤ z∧z < xs[j + 1]) then aC (C z) else []:=by
      intro z
      rw [hq.2.2,hI5]
      by_cases c1:xs[i] ≤ z∧z < xs[i + 1]
      · rw [if_pos c1,if_pos ⟨i,hi1,by omega,c1⟩,hCb i hi1 z c1.1 c1.2]
      · rw [if_neg c1]
        by_cases c2 : ∃ j,∃ h:j + 1 < xs.length,j < i∧xs[j] ≤ z∧z < xs[j + 1]
        · rw [if_pos c2, if_pos]
          obtain ⟨j,h,q,r⟩:=c2
          exact ⟨j,h,by omega,r⟩
        · rw [if_neg c2, if_neg]
          rintro ⟨j,h,q,r⟩
          rcases Nat.lt_or_ge j i with h' | h'
          · exact c2 ⟨j, h, h', r⟩
          · have : j = i := by omega
            subst this; exact c1 r
    have hcols : ∀ a b c,(a,b,c) ∈ mh [] G xs[i] xs[i + 1] (aC (C xs[i])) → Canon false c:=by
      intro p q c hm
      by_cases hce:C xs[i] = []
      · unfold mh at hm
        rw [hce,if_pos (show aC [] = [] from rfl)] at hm
        exact hI3 p q c hm
      · have : c = aC (C xs[i]) ∨ ∃ p q, (p, q, c) ∈ G := by
          unfold mh at hm
          rw [if_neg (show ¬ aC (C xs[i]) = ([]:Col) from fun e=>hce (eY (b:=[]) e))] at hm
          split at hm
          · rename_i r c' d w hr
            have hmem:=List.mem_of_getLast? hr
            split at hm
            · rename_i hcw
              rcases List.mem_append.1 hm with h | h
              · exact .inr ⟨_,_,(List.dropLast_sublist _).subset h⟩
              · simp only [List.mem_singleton,Prod.mk.injEq] at h; exact .inl h.2.2
            · rcases List.mem_append.1 hm with h | h
              · exact .inr ⟨_,_,h⟩
              · simp only [List.mem_singleton,Prod.mk.injEq] at h; exact .inl h.2.2
          · simp only [List.mem_singleton,Prod.mk.injEq] at hm; exact .inl hm.2.2
        rcases this with rfl | ⟨p,q,h⟩
        · exact hc1
        · exact hI3 p q c h
    have hfl:=iC (C xs[i])
    -- does it go on as before?
    by_cases hcond:0 < i∧C xs[i] ≠ []∧was = bE (C xs[i])
    · obtain ⟨hi0, hne, rfl⟩ := hcond
      rcases hI7 with ⟨h,_⟩ | ⟨_,c,hcw,hcl,_,hcG⟩
      · omega
      · obtain rfl := wV hcw
        obtain ⟨G', lo, hilt, rfl, rfl⟩ := hcG hne
        have hpush:mh [] (G' ++ [(lo,xs[i],aC (C xs[i]))]) xs[i] xs[i + 1] (aC (C xs[i])) = G' ++ [(lo,xs[i + 1],aC (C xs[i]))]:=by
          unfold mh
          rw [if_neg (show ¬ aC (C xs[i]) = ([]:Col) from fun e=>hne (eY (b:=[]) e))]
          simp
        rw [hpush] at hq hval hcols
        rw [jW,om] at hI1
        have hlen2:(eh (G' ++ [(lo,xs[i + 1],aC (C xs[i]))])).length = out.length:=by rw [jW,om,hI1]; simp
        have hL1:=rq (xs:=xs) (s0:=(out,bE (C xs[i]),((eh G').length:Int),(i:Int))) hi1 rfl (by omega) ((C xs[i]).map fun s=>⟨lo,s.from_,xs[i],s.to_⟩) (eh G') (by rw [hI1] at hout; simp at hout ⊢; omega)
          (a.length + b.length + out.length + xs.length + (bE (C xs[i])).length + 1) (by simp; omega)
        rw [← hI1] at hL1
        refine ⟨(eh (G' ++ [(lo, xs[i + 1], aC (C xs[i]))]), bE (C xs[i]), ((eh G').length : Int)), ?_, _, rfl, hq.1, hcols, fun _ => hq.2.1, hval, by dsimp only; omega, .inr ⟨by omega, C xs[i], rfl, hcl, fun h => absurd h hne, fun _ => ⟨G', lo, hi1, rfl, rfl⟩⟩⟩
        unfold gH
        dsimp only
        have hneL:0 < (C xs[i]).length:=List.length_pos_iff.2 hne
        rw [ag (by omega),qb,if_pos (by simp; omega),ae (show i < xs.length by omega),qb,hpa,qb,qb,hpb,qb,hcomb,qb,
          if_pos (by simp; omega),C1 (by omega),qb,qb,if_pos (by simp),hL1,qb]
        dsimp only
        rw [qb,qb]
        rw [jW,om,List.map_map]
        rfl
    · have hcnd : (if (decide (0 < (i : Int)) && decide (0 < ((bE (C xs[i])).length : Int))) = true then (mU (bE (C xs[i])) was).bind fun x => some x else some false) = some false := by
        by_cases h:0 < i∧C xs[i] ≠ []
        · have hneL : 0 < (C xs[i]).length := List.length_pos_iff.2 h.2
          rw [if_pos (by simp; omega),C1 (by omega),qb]
          congr 1
          rw [decide_eq_false_iff_not]
          exact fun e=>hcond ⟨h.1,h.2,e.symm⟩
        · rw [if_neg]
          simp only [Bool.and_eq_true,decide_eq_true_eq]
          rintro ⟨g1,g2⟩
          refine h ⟨by omega,fun e=>?_⟩
          rw [e] at g2; simp [bE] at g2
      have hpush:mh [] G xs[i] xs[i + 1] (aC (C xs[i])) = if C xs[i] = [] then G else G ++ [(xs[i],xs[i + 1],aC (C xs[i]))]:=by
        unfold mh
        by_cases hce:C xs[i] = []
        · rw [hce,if_pos (show aC [] = [] from rfl),if_pos rfl]
        · rw [if_neg (show ¬ aC (C xs[i]) = ([] : Col) from fun e => hce (eY (b := []) e)), if_neg hce]
          rcases hI7 with ⟨_,rfl⟩ | ⟨hi0,c,hcw,hcl,hce1,hce2⟩
          · rfl
          · by_cases hcn : c = []
            · split
              · rename_i p d w hr
                have h9:d < xs[i]:=hce1 hcn _ hr (by omega)
                rw [if_neg (fun h=>by have:=h.1; omega)]
              · rename_i hr
                rw [List.getLast?_eq_none_iff] at hr
                subst hr; rfl
            · obtain ⟨G', lo, _, rfl, _⟩ := hce2 hcn
              simp only [List.getLast?_append,List.getLast?_singleton,Option.some_or]
              rw [if_neg]
              rintro ⟨_,h⟩
              exact hcond ⟨hi0,hce,by rw [hcw,eY h]⟩
      obtain ⟨n,hL2⟩:=yZ (xs:=xs) (s0:=(out,was,last,(i:Int))) hi1 rfl (by omega) (c:=C xs[i]) (by omega) (out:=out) (by omega) (fuel:=a.length + b.length + out.length + xs.length + (bE (C xs[i])).length + (bE (C xs[i])).length + 1) (by omega)
      have hnew:out ++ (C xs[i]).map (fun s=>(⟨xs[i],s.from_,xs[i + 1],s.to_⟩:aw)) = eh (mh [] G xs[i] xs[i + 1] (aC (C xs[i]))):=by
        rw [hpush]
        by_cases hce:C xs[i] = []
        · rw [if_pos hce,hce,hI1]; simp
        · rw [if_neg hce,jW,om,hI1]
      have hlen2:(eh (mh [] G xs[i] xs[i + 1] (aC (C xs[i])))).length ≤ 1000 * (i + 1):=by rw [← hnew]; simp; omega
      refine ⟨(eh (mh [] G xs[i] xs[i + 1] (aC (C xs[i]))),bE (C xs[i]),(out.length:Int)),?_,_,rfl,hq.1,hcols,fun _=>hq.2.1,hval,hlen2,.inr ⟨by omega,C xs[i],rfl,hc3,fun h r hr _=>?_,fun h=>?_⟩⟩
      · unfold gH
        dsimp only
        rw [ag (by omega),qb,if_pos (by simp; omega),ae (show i < xs.length by omega),qb,hpa,qb,qb,hpb,qb,hcomb,qb,
          hcnd,qb,if_neg (by simp),hL2,qb]
        dsimp only
        rw [qb,qb,hnew]
      · rw [hpush, if_pos h] at hr
        have:=hI4 (by omega) r (List.mem_of_getLast? hr)
        omega
      · rw [hpush, if_neg h]
        exact ⟨G,xs[i],hi1,rfl,by rw [hI1]⟩) (by
    rintro ⟨out,was,last⟩ -
    unfold gH
    dsimp only
    rw [ag (by omega),qb,if_neg (by simp; omega)]) (s0:=(([]:List aw),([]:List Int),0))
      ⟨[],rfl,trivial,by simp,fun _ r hr=>by simp at hr,fun z=>by
        rw [if_neg]
        · rfl
        · rintro ⟨j,_,h,_⟩; omega,by simp,.inl ⟨rfl,rfl⟩⟩ (fuel:=a.length + b.length + ([]:List aw).length + xs.length + ([]:List Int).length + 1) (by simp; omega)
  obtain ⟨G,g1,g2,g3,_,g5,_⟩:=h2
  refine ⟨s.1,?_,G,g2,g3,fun x y=>?_,g1⟩
  · unfold jy
    rw [hxs,qb]
    have h1' : ah (gH a b op xs) (a.length + b.length + ([]:List aw).length + xs.length + ([]:List Int).length + 1) (([]:List aw),([]:List Int),0,0) = some (.ex 0 (s.1,s.2.1,s.2.2,((xs.length - 1:Nat):Int))):=h1
    rw [h1', qb]
  · rw [g5]
    unfold opS
    by_cases c1 : ∃ j,∃ h:j + 1 < xs.length,j < xs.length - 1∧xs[j] ≤ x∧x < xs[j + 1]
    · rw [if_pos c1,(hC x).2.1]
    · rw [if_neg c1]
      have hno : ∀ c:List aw,(∀ r ∈ c,r ∈ a ++ b) → decide (cells c x y) = false:=by
        intro c hc
        rw [decide_eq_false_iff_not]
        rintro ⟨r,hr,⟨r1,r2⟩,_⟩
        obtain ⟨j,hj,q⟩:=nt hx.asc ((hx.mem r.X0).2 ⟨r,hc r hr,.inl rfl⟩) ((hx.mem r.X1).2 ⟨r,hc r hr,.inr rfl⟩) r1 r2
        exact c1 ⟨j,hj,by omega,q⟩
      rw [hno a fun r hr=>List.mem_append_left _ hr,hno b fun r hr=>List.mem_append_right _ hr,qi]
      simp [bX]
theorem Gx {l:List aw} (hv : ∀ r ∈ l,VR r) (hl:l.length ≤ 1000) : ∃ out,jy l [] 0 = some out∧eC (cells l) out:=by
 obtain ⟨out,h1,h2⟩:=xl (a:=l) (b:=[]) (op:=0) hv (by simp) (by simpa using hl)
 exact ⟨out,h1,h2.congr fun x y=>by
  have : ¬ cells [] x y:=by simp [cells]
  unfold opS opB
  simp [this]⟩

theorem yM (r:aw):eO r = some (decide (VR r)):=by rw [← bJ]; rfl
theorem sv {l:List aw} (hl:l.length ≤ 100000) :
  (¬ (∀ r ∈ l,VR r)∧ah (jH l) (l.length + 1) 0 = some (.ret ([],1))) ∨ ((∀ r ∈ l,VR r)∧ah (jH l) (l.length + 1) 0 = some (.ex 0 (l.length:Int))):=by
 rcases jP (l:=l) (body:=jH l) (k:=0) (fun r=>¬ VR r) (fun _=>(([]:List aw),(1:Int))) (by
  intro i hi
  unfold jH
  rw [if_pos (by simpa using hi),ae hi,qb,yM,qb]
  by_cases he:VR l[i]
  ·right
   rw [if_neg (by simpa using he),ag (show i < 4611686018427387904 by omega),qb]
   exact ⟨fun h=>h he,rfl⟩
  ·left
   rw [if_pos (by simpa using he)]
   exact ⟨he,rfl⟩) (by
  unfold jH
  rw [if_neg (by simp)]) (fuel:=l.length + 1) (by omega) with ⟨i,hi,hp,_,h⟩ | ⟨hp,h⟩
 ·exact .inl ⟨fun h'=>hp (h' _ (List.getElem_mem hi)),h⟩
 ·exact .inr ⟨fun r hr=>Classical.not_not.1 (hp r hr),h⟩
theorem FZ {l:List aw} (hl:l.length ≤ 100000) (h : ¬ ∀ r ∈ l,VR r):jZ l = some ([],1):=by
 unfold jZ
 rcases sv hl with ⟨_,h1⟩ | ⟨h1,_⟩
 ·rw [h1,qb]
 ·exact absurd h1 h
theorem E5 {l:List aw} (hl:l.length ≤ 100000) (h : ∀ r ∈ l,VR r) (hm:400 < l.length):jZ l = some ([],6):=by
 unfold jZ
 rcases sv hl with ⟨h1,_⟩ | ⟨_,h1⟩
 ·exact absurd h h1
 ·rw [h1, qb]
  dsimp only
  rw [if_pos (by simp; omega)]
theorem Ec {l:List aw} (h : ∀ r ∈ l,VR r) (hm:l.length ≤ 400) : ∃ out,eC (cells l) out∧jZ l = some (lim out):=by
 unfold jZ
 rcases sv (l:=l) (by omega) with ⟨h1,_⟩ | ⟨_,h1⟩
 ·exact absurd h h1
 ·obtain ⟨out, h4, h5⟩ := Gx h (by omega)
  refine ⟨out,h5,?_⟩
  rw [h1,qb]
  dsimp only
  rw [if_neg (by simp; omega),h4,qb]
  unfold lim
  by_cases h6:200 < out.length
  ·rw [if_pos (by simp; omega),if_pos h6]
  ·rw [if_neg (by simp; omega),if_neg h6]
theorem Is {l:List aw} (hl:l.length ≤ 100000):jZ l = iH l:=by
 by_cases h : ∀ r ∈ l,VR r
 ·rcases Nat.lt_or_ge 400 l.length with hm | hm
  ·rw [E5 hl h hm,na hl h hm]
  ·obtain ⟨o1, h1, h2⟩ := Ec h hm
   obtain ⟨o2,h3,h4⟩:=nf h hm
   rw [h2,h4,h1.unique h3 fun _ _=>Iff.rfl]
 ·rw [FZ hl h,nU hl h]
theorem Ae {a b:List aw} (hb:a.length ≤ 1000000):kM a b = some (decide (a = b)):=by
 unfold kM
 by_cases hl:a.length = b.length
 ·rw [if_neg (by simp [hl])]
  rcases jP (l:=a.zip b) (body:=lG a b) (k:=0) (fun p=>p.1 ≠ p.2) (fun _=>false) (by
   intro i hi
   simp only [List.length_zip] at hi
   have h1:i < a.length:=by omega
   have h2:i < b.length:=by omega
   unfold lG
   rw [if_pos (by simpa using h1),ae h1,qb,ae h2,qb]
   simp only [List.getElem_zip]
   by_cases he:a[i] = b[i]
   ·right
    rw [if_neg (by simpa using he),ag (show i < 4611686018427387904 by omega),qb]
    exact ⟨by simpa using he,rfl⟩
   ·left
    rw [if_pos (by simpa using he)]
    exact ⟨he,rfl⟩) (by
   have e:((a.zip b).length:Int) = (a.length:Int):=by simp; omega
   rw [e]
   unfold lG
   rw [if_neg (by simp)]) (fuel:=a.length + b.length + 1) (by simp; omega) with ⟨i,hi,hp,_,h⟩ | ⟨hp,h⟩
  ·rw [h, qb]
   dsimp only
   congr 1
   symm
   rw [decide_eq_false_iff_not]
   intro e; subst e; simp at hp
  ·rw [h, qb]
   dsimp only
   congr 1
   symm
   rw [decide_eq_true_iff]
   refine List.ext_getElem hl fun i h1 h2=>?_
   have:=hp (a[i],b[i]) (by
    rw [List.mem_iff_getElem]
    exact ⟨i,by simp; omega,by simp⟩)
   simpa using this
 ·rw [if_pos (by simp; omega)]
  congr 1
  symm
  rw [decide_eq_false_iff_not]
  intro e; exact hl (by rw [e])
theorem D5 {a:List aw} (hl:a.length ≤ 100000):nD a = iD a:=by
 unfold nD iD
 rw [Is hl]
 by_cases h : ∀ r ∈ a,VR r
 ·rcases Nat.lt_or_ge 400 a.length with hm | hm
  ·rw [na hl h hm,qb,qb,if_neg (by simp),if_neg (by simp)]
  ·obtain ⟨out, h1, h2⟩ := nf h hm
   rw [h2,qb,qb]
   unfold lim
   by_cases h3:200 < out.length
   ·rw [if_pos h3,if_neg (by simp),if_neg (by simp)]
   ·rw [if_neg h3]
    dsimp only
    rw [Ae (by omega),qW (by omega)]
 ·rw [nU hl h,qb,qb,if_neg (by simp),if_neg (by simp)]


def fe (s:List bk):gu (List aw):=s.map fun x=>(x.Z0,x.Z1,x.Area)
theorem tJ (a:List bk):(fe a).length = a.length:=by simp [fe]
def A3 (s:List bk) (z:Int):List aw:=bX [] (fe s) z
def jz (s:List bk) (x y z:Int):Prop:=cells (A3 s z) x y
instance (s:List bk) (x y z:Int):Decidable (jz s x y z):=inferInstanceAs (Decidable (cells _ _ _))
structure SS (s:List bk):Prop where
 len:s.length ≤ 80
 canon:Canon [] (fe s)
 ok : ∀ b ∈ s,0 ≤ b.Z0∧b.Z1 ≤ 4096∧RR b.Area
theorem zu {s:List bk} {b:bk} (h:b ∈ s):(b.Z0,b.Z1,b.Area) ∈ fe s:=List.mem_map.2 ⟨b,h,rfl⟩
theorem vp {s:List bk} (h:Canon [] (fe s)) {b:bk} (hb:b ∈ s):b.Z0 < b.Z1∧b.Area ≠ []:=su h (zu hb)
theorem AP {s:List bk} (h:Canon [] (fe s)) {b:bk} (hb:b ∈ s) {z:Int} (h1:b.Z0 ≤ z) (h2:z < b.Z1):A3 s z = b.Area:=nz h (zu hb) h1 h2
theorem nv {s:List bk}:Canon [] (fe s) ↔ (∀ i (h:i < s.length),s[i].Z0 < s[i].Z1∧s[i].Area ≠ []) ∧
  ∀ i (h:i + 1 < s.length),s[i].Z1 < s[i + 1].Z0 ∨ (s[i].Z1 = s[i + 1].Z0∧s[i].Area ≠ s[i + 1].Area):=by
 rw [xt]
 simp only [tJ]
 simp only [fe,List.getElem_map]

theorem nZ {s:List bk} (ha : ∀ b ∈ s,b.Area.length ≤ 100000) : ∃ b,jQ s = some b∧(b = true ↔ SS s):=by
 unfold jQ
 by_cases hl:80 < s.length
 ·rw [if_pos (by simp; omega)]
  exact ⟨_,rfl,by simp,fun h=>absurd h.len (by omega)⟩
 ·rw [if_neg (by simp; omega)]
  have hstep : ∀ i,i < s.length → (∀ j,j < i → ¬ ¬ ((∃ h:j < s.length,0 ≤ s[j].Z0∧s[j].Z0 < s[j].Z1∧s[j].Z1 ≤ 4096∧s[j].Area ≠ []∧RR s[j].Area)∧∀ h0:0 < j,∀ h:j < s.length,(s[j - 1]'(by omega)).Z1 < s[j].Z0 ∨ ((s[j - 1]'(by omega)).Z1 = s[j].Z0∧(s[j - 1]'(by omega)).Area ≠ s[j].Area))) →
    (¬ ((∃ h:i < s.length,0 ≤ s[i].Z0∧s[i].Z0 < s[i].Z1∧s[i].Z1 ≤ 4096∧s[i].Area ≠ []∧RR s[i].Area)∧∀ h0:0 < i,∀ h:i < s.length,(s[i - 1]'(by omega)).Z1 < s[i].Z0 ∨ ((s[i - 1]'(by omega)).Z1 = s[i].Z0∧(s[i - 1]'(by omega)).Area ≠ s[i].Area)) ∧
     fE s (i:Int) = some (.ret false)) ∨
    (¬ ¬ ((∃ h:i < s.length,0 ≤ s[i].Z0∧s[i].Z0 < s[i].Z1∧s[i].Z1 ≤ 4096∧s[i].Area ≠ []∧RR s[i].Area)∧∀ h0:0 < i,∀ h:i < s.length,(s[i - 1]'(by omega)).Z1 < s[i].Z0 ∨ ((s[i - 1]'(by omega)).Z1 = s[i].Z0∧(s[i - 1]'(by omega)).Area ≠ s[i].Area)) ∧
     fE s (i:Int) = some (.go ((i + 1:Nat):Int))):=by
   intro i hi _
   obtain ⟨rb,hr1,hr2⟩:=nG (a:=s[i].Area) (ha _ (List.getElem_mem hi))
   unfold fE
   rw [if_pos (by simpa using hi),ae hi,qb]
   by_cases h1:0 ≤ s[i].Z0∧s[i].Z0 < s[i].Z1∧s[i].Z1 ≤ 4096∧s[i].Area ≠ []
   ·have hal : 0 < s[i].Area.length := List.length_pos_iff.2 h1.2.2.2
    rw [if_neg (by simp only [Bool.or_eq_true,decide_eq_true_eq,beq_iff_eq]; omega),hr1,qb,qb]
    cases rb
    ·left
     rw [if_pos (by simp),qb]
     refine ⟨fun h=>?_,rfl⟩
     obtain ⟨⟨_,_,_,_,_,h⟩,_⟩:=h
     exact absurd (hr2.2 h) (by simp)
    ·have hRR := hr2.1 rfl
     rw [if_neg (by simp)]
     rcases Nat.eq_zero_or_pos i with rfl | h0
     ·right
      rw [if_pos (by simp),qb]
      dsimp only
      rw [ag (by omega),qb]
      exact ⟨fun h=>h ⟨⟨hi,h1.1,h1.2.1,h1.2.2.1,h1.2.2.2,hRR⟩,fun h=>absurd h (Nat.lt_irrefl _)⟩,rfl⟩
     ·have hsame : jN (s[i - 1]'(by omega)).Area s[i].Area = some (decide ((s[i - 1]'(by omega)).Area = s[i].Area)) := vZ (by have := ha _ (List.getElem_mem (show i - 1 < s.length by omega)); omega)
      rw [if_neg (by simp; omega),ic h0 (by omega),qb,ae (show i - 1 < s.length by omega),qb]
      have hcond:(if decide (s[i].Z0 < (s[i - 1]'(by omega)).Z1) = true then some true else (if ((s[i - 1]'(by omega)).Z1 == s[i].Z0) = true then (jN (s[i - 1]'(by omega)).Area s[i].Area).bind fun x=>some x else some false).bind fun x=>some x) =
        some (decide (¬ ((s[i - 1]'(by omega)).Z1 < s[i].Z0 ∨ ((s[i - 1]'(by omega)).Z1 = s[i].Z0∧(s[i - 1]'(by omega)).Area ≠ s[i].Area)))):=by
       by_cases c1:s[i].Z0 < (s[i - 1]'(by omega)).Z1
       ·rw [if_pos (by simpa using c1)]; congr 1; simp; omega
       ·rw [if_neg (by simpa using c1), hsame]
        by_cases c2:(s[i - 1]'(by omega)).Z1 = s[i].Z0
        ·rw [if_pos (by simpa using c2)]; simp [c2]
        ·rw [if_neg (by simpa using c2)]; simp; omega
      rw [hcond,qb]
      by_cases c:(s[i - 1]'(by omega)).Z1 < s[i].Z0 ∨ ((s[i - 1]'(by omega)).Z1 = s[i].Z0∧(s[i - 1]'(by omega)).Area ≠ s[i].Area)
      ·right
       rw [if_neg (by simp only [decide_eq_true_eq,Classical.not_not]; exact c),qb]
       dsimp only
       rw [ag (by omega),qb]
       exact ⟨fun h=>h ⟨⟨hi,h1.1,h1.2.1,h1.2.2.1,h1.2.2.2,hRR⟩,fun _ _=>c⟩,rfl⟩
      ·left
       rw [if_pos (decide_eq_true c),qb]
       exact ⟨fun h=>c (h.2 h0 hi),rfl⟩
   ·left
    rw [if_pos (by
     simp only [Bool.or_eq_true,decide_eq_true_eq,beq_iff_eq]
     rcases Int.lt_or_le s[i].Z0 0 with g | g
     ·exact .inl (.inl (.inl g))
     ·rcases Int.lt_or_le s[i].Z0 s[i].Z1 with g2 | g2
      ·rcases Int.lt_or_le 4096 s[i].Z1 with g3 | g3
       ·exact .inl (.inr g3)
       ·right
        have:s[i].Area = []:=Classical.not_not.1 fun h=>h1 ⟨g,g2,g3,h⟩
        rw [this]; rfl
      ·exact .inl (.inl (.inr g2))),qb,if_pos rfl,qb]
    refine ⟨fun h=>h1 ?_,rfl⟩
    obtain ⟨⟨_,a,b,c,d,_⟩,_⟩:=h
    exact ⟨a,b,c,d⟩
  rcases vg (body:=fE s) (k:=0) s.length (fun i=>¬ ((∃ h:i < s.length,0 ≤ s[i].Z0∧s[i].Z0 < s[i].Z1∧s[i].Z1 ≤ 4096∧s[i].Area ≠ []∧RR s[i].Area)∧∀ h0:0 < i,∀ h:i < s.length,(s[i - 1]'(by omega)).Z1 < s[i].Z0 ∨ ((s[i - 1]'(by omega)).Z1 = s[i].Z0∧(s[i - 1]'(by omega)).Area ≠ s[i].Area))) (fun _=>false) hstep (by
    unfold fE
    rw [if_neg (by simp)]) (fuel:=s.length + 1) (by omega) with ⟨i,hi,hp,_,h⟩ | ⟨hp,h⟩
  ·rw [h, qb]
   refine ⟨_,rfl,by simp,fun hS=>absurd ⟨⟨hi,?_⟩,fun h0 _=>?_⟩ hp⟩
   ·have h1 := hS.ok _ (List.getElem_mem hi)
    have h2:=vp hS.canon (List.getElem_mem hi)
    exact ⟨h1.1,h2.1,h1.2.1,h2.2,h1.2.2⟩
   ·have := (nv.1 hS.canon).2 (i - 1) (by omega)
    have e:i - 1 + 1 = i:=by omega
    simp only [e] at this
    exact this
  ·rw [h, qb]
   have hp' : ∀ i (hi:i < s.length),(0 ≤ s[i].Z0∧s[i].Z0 < s[i].Z1∧s[i].Z1 ≤ 4096∧s[i].Area ≠ []∧RR s[i].Area)∧∀ h0:0 < i,(s[i - 1]'(by omega)).Z1 < s[i].Z0 ∨ ((s[i - 1]'(by omega)).Z1 = s[i].Z0∧(s[i - 1]'(by omega)).Area ≠ s[i].Area):=by
    intro i hi
    have:=Classical.not_not.1 (hp i hi)
    exact ⟨this.1.2,fun h0=>this.2 h0 hi⟩
   refine ⟨_,rfl,fun _=>⟨by omega,nv.2 ⟨fun i hi=>⟨(hp' i hi).1.2.1,(hp' i hi).1.2.2.2.1⟩,fun i hi=>(hp' (i + 1) hi).2 (by omega)⟩,fun b hb=>?_⟩,fun _=>rfl⟩
   obtain ⟨i,hi,rfl⟩:=List.getElem_of_mem hb
   have:=(hp' i hi).1
   exact ⟨this.1,this.2.2.1,this.2.2.2.2⟩
theorem sj {s:List bk} (h:SS s):jQ s = some true:=by
 obtain ⟨b,h1,h2⟩:=nZ (s:=s) (fun b hb=>by have:=(h.ok b hb).2.2.2.1; omega)
 rw [h1,h2.2 h]
theorem rU {s:List bk} (ha : ∀ b ∈ s,b.Area.length ≤ 100000) (h : ¬ SS s):jQ s = some false:=by
 obtain ⟨b,h1,h2⟩:=nZ ha
 rw [h1]; cases b
 ·rfl
 ·exact absurd (h2.1 rfl) h



def VB (b:Box):Prop:=VR b.Base∧0 ≤ b.Z0∧b.Z0 < b.Z1∧b.Z1 ≤ 4096
instance (b:Box):Decidable (VB b):=inferInstanceAs (Decidable (_∧_))
def zd (l:List Box) (x y z:Int):Prop:=∃ b ∈ l,rin b.Base x y∧b.Z0 ≤ z∧z < b.Z1
instance (l:List Box) (x y z:Int):Decidable (zd l x y z):=inferInstanceAs (Decidable (∃ b ∈ l,_))


def ji (s:List bk):List Box:=s.flatMap fun x=>x.Area.map fun r=>⟨r,x.Z0,x.Z1⟩
theorem Fw {x:bk} (hx:x.Area.length ≤ 1000000) {o:List Box} (ho:o.length ≤ 100000000) :
  ah (iq x) (x.Area.length + 1) (o,0) = some (.ex 2 (o ++ x.Area.map (fun r=>⟨r,x.Z0,x.Z1⟩),(x.Area.length:Int))):=by
 refine (dz (k:=2) (l:=x.Area) (body:=iq x) (fun (s:List Box) i=>(s,i)) (fun s r=>s ++ [⟨r,x.Z0,x.Z1⟩]) (fun i s=>s.length ≤ 100000000 + i) (by
  intro i hi s hI
  constructor
  ·unfold iq
   dsimp only
   rw [if_pos (by simpa using hi),ae hi,qb,aF (by simp; omega),qb,ag (by omega),qb]
  ·simp; omega) (by
  intro s _
  unfold iq
  dsimp only
  rw [if_neg (by simp)]) (s0:=o) (by omega) (by omega)).1.trans ?_
 rw [foldl_flatMap (fun r:aw=>[(⟨r,x.Z0,x.Z1⟩:Box)]),List.map_eq_flatMap]
theorem sJ {s:List bk} (h:SS s):jC s = some (ji s):=by
 unfold jC
 rw [sj h,qb,if_neg (by simp)]
 have hl:=h.len
 obtain ⟨h1,h2⟩:=dz (k:=0) (l:=s) (body:=ky s) (fun (s:List Box) i=>(s,i)) (fun o x=>o ++ x.Area.map fun r=>⟨r,x.Z0,x.Z1⟩) (fun i o=>o.length ≤ 200 * i) (by
  intro i hi o hI
  have hx:=(h.ok _ (List.getElem_mem hi)).2.2.2.1
  constructor
  ·unfold ky
   dsimp only
   rw [if_pos (by simpa using hi),ae hi,qb,Fw (by omega) (by omega),qb]
   dsimp only
   rw [ag (by omega),qb]
  ·simp; omega) (by
  intro o _
  unfold ky
  dsimp only
  rw [if_neg (by simp)]) (s0:=[]) (by simp) (fuel:=s.length + 1) (by omega)
 rw [h1,qb,foldl_flatMap (fun x:bk=>x.Area.map fun r=>(⟨r,x.Z0,x.Z1⟩:Box))]
 rfl
theorem tK {s:List bk} (ha : ∀ b ∈ s,b.Area.length ≤ 100000) (h : ¬ SS s):jC s = some []:=by
 unfold jC
 rw [rU ha h,qb,if_pos (by simp)]
theorem py {s:List bk} (h:SS s):(ji s).length ≤ 16000:=by
 have hl:=h.len
 have key : ∀ l:List bk,(∀ b ∈ l,b.Area.length ≤ 200) → (ji l).length ≤ 200 * l.length:=by
  intro l
  induction l with
  | nil=>intro _; simp [ji]
  | cons a l ih =>
   intro hb
   have h1:=ih fun b hb'=>hb b (by simp [hb'])
   have h2:=hb a (by simp)
   unfold ji at h1 ⊢
   simp only [List.flatMap_cons,List.length_append,List.length_map,List.length_cons]
   omega
 have:=key s fun b hb=>(h.ok b hb).2.2.2.1
 omega
theorem vP {s:List bk} (h:SS s) : ∀ b ∈ ji s,VB b:=by
 intro b hb
 obtain ⟨x,hx,hb⟩:=List.mem_flatMap.1 hb
 obtain ⟨r,hr,rfl⟩:=List.mem_map.1 hb
 have h1:=h.ok x hx
 have h2:=vp h.canon hx
 exact ⟨h1.2.2.1 r hr,h1.1,h2.1,h1.2.1⟩
theorem kI {s:List bk} (h:Canon [] (fe s)) (x y z:Int):zd (ji s) x y z ↔ jz s x y z:=by
 constructor
 ·rintro ⟨b, hb, h1, h2⟩
  obtain ⟨q,hq,hb⟩:=List.mem_flatMap.1 hb
  obtain ⟨r,hr,rfl⟩:=List.mem_map.1 hb
  unfold jz
  rw [AP h hq h2.1 h2.2]
  exact ⟨r,hr,h1⟩
 ·intro hc
  unfold jz at hc
  rcases ni (e:=[]) (l:=fe s) (x:=z) with h1 | ⟨p,q,h1,h2⟩
  ·unfold A3 at hc; rw [h1] at hc; simp [cells] at hc
  ·obtain ⟨b, hb, he⟩ := List.mem_map.1 h1
   simp only [Prod.mk.injEq] at he
   obtain ⟨r,hr,hr'⟩:=hc
   refine ⟨⟨r, b.Z0, b.Z1⟩, List.mem_flatMap.2 ⟨b, hb, List.mem_map.2 ⟨r, ?_, rfl⟩⟩, hr', by dsimp only; omega⟩
   have:A3 s z = b.Area:=by unfold A3; rw [← he.2.2]
   rw [← this]; exact hr
theorem AH {s:List bk} (h:Canon [] (fe s)) {x y z:Int}:jz s x y z ↔ ∃ b ∈ s,cells b.Area x y∧b.Z0 ≤ z∧z < b.Z1:=by
 constructor
 ·intro hc
  unfold jz at hc
  rcases ni (e:=[]) (l:=fe s) (x:=z) with h1 | ⟨p,q,h1,h2⟩
  ·unfold A3 at hc; rw [h1] at hc; simp [cells] at hc
  ·obtain ⟨b, hb, he⟩ := List.mem_map.1 h1
   simp only [Prod.mk.injEq] at he
   have:A3 s z = b.Area:=by unfold A3; rw [← he.2.2]
   exact ⟨b,hb,by rw [← this]; exact hc,by omega⟩
 ·rintro ⟨b, hb, h1, h2, h3⟩
  unfold jz
  rw [AP h hb h2 h3]; exact h1


def so {V:Type} [DecidableEq V] (e:V):gu V → Bool
 | []=>true
 | (a,b,v)::t=>decide (a < b) && decide (v ≠ e) && (match t with | []=>true | (c,_,w)::_=>decide (b < c) || (decide (b = c) && decide (v ≠ w))) && so e t
theorem nu {V:Type} [DecidableEq V] {e:V} : ∀ {l:gu V},so e l = true → Canon e l
 | [],_=>trivial
 | (a, b, v) :: t, h => by
  simp only [so,Bool.and_eq_true,decide_eq_true_eq] at h
  obtain ⟨⟨⟨h1,h2⟩,h3⟩,h4⟩:=h
  refine ⟨h1,h2,?_,nu h4⟩
  cases t with
  | nil=>trivial
  | cons r t =>
   obtain ⟨c,d,w⟩:=r
   simp only [Bool.or_eq_true,Bool.and_eq_true,decide_eq_true_eq] at h3
   exact h3
def qI:List aw → gu Col
 | []=>[]
 | r :: l => match qI l with
  | []=>[(r.X0,r.X1,[(r.Y0,r.Y1,true)])]
  | (a,b,c)::t=>if r.X0 = a∧r.X1 = b then (a,b,(r.Y0,r.Y1,true)::c)::t else (r.X0,r.X1,[(r.Y0,r.Y1,true)])::(a,b,c)::t
theorem q8 (a b:Int) (c:Col) (t:gu Col):eh ((a,b,c)::t) = (c.map fun s=>⟨a,s.1,b,s.2.1⟩) ++ eh t:=rfl
theorem rE : ∀ l:List aw,eh (qI l) = l
 | []=>rfl
 | r :: l => by
  have ih:=rE l
  simp only [qI]
  split
  ·rename_i h
   rw [h] at ih
   rw [← ih]; rfl
  ·rename_i a b c t h
   rw [h] at ih
   split
   ·rename_i h2
    obtain ⟨rfl,rfl⟩:=h2
    rw [← ih,q8,q8]; rfl
   ·rw [q8,← ih]; rfl
def Fu (l:List aw):Bool:=so [] (qI l) && (qI l).all fun g=>so false g.2.2
theorem Bt {l:List aw} (h:Fu l = true):eC (cells l) l:=by
 unfold Fu at h
 rw [Bool.and_eq_true,List.all_eq_true] at h
 have hf:eC (fun x y=>bX false (bX [] (qI l) x) y = true) l:=⟨qI l,nu h.1,fun a b c hm=>nu (h.2 _ hm),fun _ _=>Iff.rfl,(rE l).symm⟩
 exact hf.self
def rrB (l:List aw):Bool:=l.all (fun r=>decide (VR r)) && decide (l.length ≤ 200) && Fu l
theorem FD {l:List aw} (h:rrB l = true):RR l:=by
 unfold rrB at h
 simp only [Bool.and_eq_true,List.all_eq_true,decide_eq_true_eq] at h
 exact ⟨h.1.1,h.1.2,Bt h.2⟩
def ssB (s:List bk):Bool:=decide (s.length ≤ 80) && so [] (fe s) && s.all fun b=>decide (0 ≤ b.Z0) && decide (b.Z1 ≤ 4096) && rrB b.Area
theorem EP {s:List bk} (h:ssB s = true):SS s:=by
 unfold ssB at h
 simp only [Bool.and_eq_true,List.all_eq_true,decide_eq_true_eq] at h
 exact ⟨h.1.1,nu h.1.2,fun b hb=>⟨(h.2 b hb).1.1,(h.2 b hb).1.2,FD (h.2 b hb).2⟩⟩


end Go.Proofs.YtegglcdhfnjhcaaGreat

