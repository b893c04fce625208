/- The plain part of the proof (no program in sight), part 2 -/
import Derived.Test.YtegglcdhfnjhcaaGreatP1
set_option linter.unusedVariables false
set_option linter.unusedSimpArgs false
set_option linter.unusedSectionVars false
namespace Go.Proofs.YtegglcdhfnjhcaaGreat
open Go.Gb
set_option maxRecDepth 100000
end Go.Proofs.YtegglcdhfnjhcaaGreat

namespace Go.Proofs.YtegglcdhfnjhcaaGreat
open Go.Gb
set_option maxRecDepth 100000
def Ju (s:List bk) (i:Nat):Prop:=∃ h:i < s.length,(0 ≤ s[i].Z0∧s[i].Z0 < s[i].Z1∧s[i].Z1 ≤ 4096∧s[i].Area ≠ []∧RR s[i].Area)∧∀ h0:0 < i,(s[i - 1]'(by omega)).Z1 < s[i].Z0 ∨ ((s[i - 1]'(by omega)).Z1 = s[i].Z0∧(s[i - 1]'(by omega)).Area ≠ s[i].Area)
theorem E6 {s:List bk}:SS s ↔ s.length ≤ 80∧∀ i,i < s.length → Ju s i:=by
 constructor
 ·intro hS
  refine ⟨hS.len,fun i hi=>⟨hi,?_,fun h0=>?_⟩⟩
  ·have h1 := hS.ok _ (List.getElem_mem hi)
   have h2:=vp hS.canon (List.getElem_mem hi)
   exact ⟨h1.1,h2.1,h1.2.1,h2.2,h1.2.2⟩
  ·have := (nv.1 hS.canon).2 (i - 1) (by omega)
   have e:i - 1 + 1 = i:=by omega
   simp only [e] at this
   exact this
 ·rintro ⟨hl, hp⟩
  have hp' : ∀ i (hi:i < s.length),(0 ≤ s[i].Z0∧s[i].Z0 < s[i].Z1∧s[i].Z1 ≤ 4096∧s[i].Area ≠ []∧RR s[i].Area)∧∀ h0:0 < i,(s[i - 1]'(by omega)).Z1 < s[i].Z0 ∨ ((s[i - 1]'(by omega)).Z1 = s[i].Z0∧(s[i - 1]'(by omega)).Area ≠ s[i].Area):=by
   intro i hi
   obtain ⟨_,h⟩:=hp i hi
   exact h
  refine ⟨hl,nv.2 ⟨fun i hi=>⟨(hp' i hi).1.2.1,(hp' i hi).1.2.2.2.1⟩,fun i hi=>(hp' (i + 1) hi).2 (by omega)⟩,fun b hb=>?_⟩
  obtain ⟨i,hi,rfl⟩:=List.getElem_of_mem hb
  have:=(hp' i hi).1
  exact ⟨this.1,this.2.2.1,this.2.2.2.2⟩
theorem rX {s:List bk} (ha : ∀ b ∈ s,b.Area.length ≤ 100000) : ∃ b,jE s = some b∧(b = true ↔ SS s):=by
 unfold jE
 by_cases hl:80 < s.length
 ·rw [if_pos (by simp; omega)]
  exact ⟨_,rfl,by simp,fun h=>absurd h.len (by omega)⟩
 ·rw [if_neg (by simp; omega)]
  rcases vg (body:=kt s) (k:=0) s.length (fun i=>¬ Ju s i) (fun _=>false) (by
   intro i hi _
   obtain ⟨rb,hr1,hr2⟩:=nG (a:=s[i].Area) (ha _ (List.getElem_mem hi))
   rw [← D5 (ha _ (List.getElem_mem hi))] at hr1
   have hg:=ae hi
   unfold kt
   rw [if_pos (by simpa using hi)]
   simp only [hg,qb,hr1]
   by_cases h1:0 ≤ s[i].Z0∧s[i].Z0 < s[i].Z1∧s[i].Z1 ≤ 4096∧s[i].Area ≠ []∧rb = true
   ·obtain ⟨c1, c2, c3, c4, c5⟩ := h1
    have hRR:=hr2.1 c5
    subst c5
    have hal:0 < s[i].Area.length:=List.length_pos_iff.2 c4
    rw [if_neg (by simp; omega),qb,if_neg (by simp; omega),qb,if_neg (by simp; omega),qb,if_neg (by simp; omega),qb,if_neg (by simp)]
    rcases Nat.eq_zero_or_pos i with rfl | h0
    ·right
     rw [if_neg (by simp),qb,if_neg (by simp),ag (by omega),qb]
     exact ⟨fun h=>h ⟨hi,⟨c1,c2,c3,c4,hRR⟩,fun h=>absurd h (Nat.lt_irrefl _)⟩,rfl⟩
    ·have hi1 : i - 1 < s.length := by omega
     have hsame:kM (s[i - 1]'hi1).Area s[i].Area = some (decide ((s[i - 1]'hi1).Area = s[i].Area)):=Ae (by have:=ha _ (List.getElem_mem hi1); omega)
     have hcond:(if decide (s[i].Z0 < (s[i - 1]'hi1).Z1) = true then some true else (if ((s[i - 1]'hi1).Z1 == s[i].Z0) = true then some (decide ((s[i - 1]'hi1).Area = s[i].Area)) else some false).bind fun x=>some x) =
       some (decide (¬ ((s[i - 1]'hi1).Z1 < s[i].Z0 ∨ ((s[i - 1]'hi1).Z1 = s[i].Z0∧(s[i - 1]'hi1).Area ≠ s[i].Area)))):=by
      by_cases c1:s[i].Z0 < (s[i - 1]'hi1).Z1
      ·rw [if_pos (by simpa using c1)]; congr 1; simp; omega
      ·rw [if_neg (by simpa using c1)]
       by_cases c2:(s[i - 1]'hi1).Z1 = s[i].Z0
       ·rw [if_pos (by simpa using c2)]; simp [c2]
       ·rw [if_neg (by simpa using c2)]; simp; omega
     have hs1:bZ (i:Int) 1 = some ((i - 1:Nat):Int):=ic h0 (by omega)
     have hg1:=ae hi1
     simp only [hs1,hg1,hsame,qb]
     rw [if_pos (by simpa using h0),hcond,qb,qb]
     by_cases c:(s[i - 1]'hi1).Z1 < s[i].Z0 ∨ ((s[i - 1]'hi1).Z1 = s[i].Z0∧(s[i - 1]'hi1).Area ≠ s[i].Area)
     ·right
      rw [if_neg (by simp only [decide_eq_true_eq,Classical.not_not]; exact c),ag (by omega),qb]
      exact ⟨fun h=>h ⟨hi,⟨c1,c2,c3,c4,hRR⟩,fun _=>c⟩,rfl⟩
     ·left
      rw [if_pos (decide_eq_true c)]
      exact ⟨fun ⟨_,h⟩=>c (h.2 h0),rfl⟩
   ·left
    refine ⟨fun ⟨_,⟨g1,g2,g3,g4,g5⟩,_⟩=>h1 ⟨g1,g2,g3,g4,hr2.2 g5⟩,?_⟩
    by_cases g1:s[i].Z0 < 0
    ·simp [g1]
    by_cases g2:s[i].Z1 ≤ s[i].Z0
    ·simp [g1,g2]
    by_cases g3:4096 < s[i].Z1
    ·simp [g1,g2,g3]
    by_cases g4:s[i].Area = []
    ·simp [g1,g2,g3,g4]
    have g5:rb = false:=by
     cases rb
     ·rfl
     ·exact absurd ⟨by omega,by omega,by omega,g4,rfl⟩ h1
    simp [g1,g2,g3,g4,g5]) (by
   unfold kt
   rw [if_neg (by simp)]) (fuel:=s.length + 1) (by omega) with ⟨i,hi,hp,_,h⟩ | ⟨hp,h⟩
  ·rw [h, qb]
   exact ⟨_,rfl,by simp,fun hS=>absurd ((E6.1 hS).2 i hi) hp⟩
  ·rw [h, qb]
   exact ⟨_,rfl,fun _=>E6.2 ⟨by omega,fun i hi=>Classical.not_not.1 (hp i hi)⟩,fun _=>rfl⟩
theorem yd {s:List bk} (h:SS s):jE s = some true:=by
 obtain ⟨b,h1,h2⟩:=rX (s:=s) (fun b hb=>by have:=(h.ok b hb).2.2.2.1; omega)
 rw [h1,h2.2 h]
theorem wD {s:List bk} (ha : ∀ b ∈ s,b.Area.length ≤ 100000) (h : ¬ SS s):jE s = some false:=by
 obtain ⟨b,h1,h2⟩:=rX ha
 rw [h1]; cases b
 ·rfl
 ·exact absurd (h2.1 rfl) h
theorem DY {s:List bk} {i:Nat} (hi:i < s.length):s[i].Area.length ≤ (s.flatMap fun b=>b.Area).length:=by
 obtain ⟨a,b,e⟩:=List.append_of_mem (List.getElem_mem hi)
 have:(s.flatMap fun b=>b.Area).length = ((a ++ s[i]::b).flatMap fun b=>b.Area).length:=by rw [← e]
 rw [this,List.flatMap_append,List.flatMap_cons]; simp; omega
theorem De {s:List bk} {i:Nat} (hi:i < s.length) (hx:s[i].Area.length ≤ 1000000) {o:List Box} (ho:o.length ≤ 100000000) :
  ah (ie s (o,(i:Int))) ((s.flatMap fun b=>b.Area).length + 1) (o,0) = some (.ex 2 (o ++ s[i].Area.map (fun r=>⟨r,s[i].Z0,s[i].Z1⟩),(s[i].Area.length:Int))):=by
 have hg:=ae hi
 refine (dz (k:=2) (l:=s[i].Area) (body:=ie s (o,(i:Int))) (fun (s:List Box) i=>(s,i)) (fun p r=>p ++ [(⟨r,s[i].Z0,s[i].Z1⟩:Box)]) (fun i s=>s.length ≤ 100000000 + i) (by
  intro j hj p hI
  constructor
  ·unfold ie
   dsimp only
   rw [hg,qb,if_pos (by simpa using hj),qb,ae hj,qb,qb,qb,aF (by simp; omega),qb,ag (by omega),qb]
  ·simp; omega) (by
  intro p _
  unfold ie
  dsimp only
  rw [hg,qb,if_neg (by simp)]) (s0:=o) (by omega) (by have:=DY hi; omega)).1.trans ?_
 rw [foldl_flatMap (fun r:aw=>[(⟨r,s[i].Z0,s[i].Z1⟩:Box)]),List.map_eq_flatMap]
theorem zg {s:List bk} (h:SS s):jD s = some (ji s):=by
 unfold jD
 rw [yd h,qb,if_neg (by simp)]
 have hl:=h.len
 obtain ⟨h1,h2⟩:=dz (k:=0) (l:=s) (body:=jT s) (fun (s:List Box) i=>(s,i)) (fun o x=>o ++ x.Area.map fun r=>⟨r,x.Z0,x.Z1⟩) (fun i o=>o.length ≤ 200 * i) (by
  intro i hi o hI
  have hx:=(h.ok _ (List.getElem_mem hi)).2.2.2.1
  constructor
  ·unfold jT
   dsimp only
   rw [if_pos (by simpa using hi),De hi (by omega) (by omega),qb]
   dsimp only
   rw [ag (by omega),qb]
  ·simp; omega) (by
  intro o _
  unfold jT
  dsimp only
  rw [if_neg (by simp)]) (s0:=[]) (by simp) (fuel:=s.length + ([]:List Box).length + 1) (by simp)
 rw [h1,qb,foldl_flatMap (fun x:bk=>x.Area.map fun r=>(⟨r,x.Z0,x.Z1⟩:Box))]
 rfl
theorem Bu {s:List bk} (ha : ∀ b ∈ s,b.Area.length ≤ 100000) (h : ¬ SS s):jD s = some []:=by
 unfold jD
 rw [wD ha h,qb,if_pos (by simp)]
end Go.Proofs.YtegglcdhfnjhcaaGreat

namespace Go.Proofs.YtegglcdhfnjhcaaGreat
open Go.Gb
set_option maxRecDepth 100000
def sg (x y:Int):Int:=if x < y then -1 else if y < x then 1 else 0
theorem Bj (x y:Int):cq x y = some (sg x y):=by
 unfold cq cmp_isNaN_int sg
 simp only [bne_self_eq_false,qb,decide_eq_true_eq]
 rw [if_neg (by simp),if_neg (by simp)]
 split
 ·rfl
 ·split <;> rfl
theorem BK {x y M:Int} (h0 : -M ≤ x) (h1:x ≤ M) (h2:0 ≤ y) (h3:y ≤ M) : -(M * M) ≤ x * y∧x * y ≤ M * M:=by
 have a1:=Int.mul_le_mul_of_nonneg_right h0 h2
 have a2:=Int.mul_le_mul_of_nonneg_right h1 h2
 have a3:M * y ≤ M * M:=Int.mul_le_mul_of_nonneg_left h3 (by omega)
 constructor
 ·have : -M * y = -(M * y) := Int.neg_mul M y
  omega
 ·omega

theorem Ff {n1 d1 n2 d2 p q:Int} (hd1:0 < d1) (hd2:0 < d2) (hq:0 < q) (h:n1 * d2 < n2 * d1) (g:n2 * q ≤ p * d2):n1 * q < p * d1:=by
 rcases Int.lt_or_le (n1 * q) (p * d1) with h0 | h0
 ·exact h0
 ·have e1 := Int.mul_le_mul_of_nonneg_right h0 (Int.le_of_lt hd2)
  have e2:=Int.mul_lt_mul_of_pos_right h hq
  have e3:=Int.mul_le_mul_of_nonneg_right g (Int.le_of_lt hd1)
  grind
theorem vl {n1 d1 n2 d2 p q:Int} (hd1:0 < d1) (hd2:0 < d2) (hq:0 < q) (h:n2 * d1 < n1 * d2) (g:p * d2 ≤ n2 * q):p * d1 < n1 * q:=by
 rcases Int.lt_or_le (p * d1) (n1 * q) with h0 | h0
 ·exact h0
 ·have e1 := Int.mul_le_mul_of_nonneg_right h0 (Int.le_of_lt hd2)
  have e2:=Int.mul_lt_mul_of_pos_right h hq
  have e3:=Int.mul_le_mul_of_nonneg_right g (Int.le_of_lt hd1)
  grind
theorem Ba {n1 d1 n2 d2 p q:Int} (hd1:0 < d1) (hd2:0 < d2) (h:n1 * d2 = n2 * d1) (g:n2 * q ≤ p * d2):n1 * q ≤ p * d1:=by
 rcases Int.lt_or_le (p * d1) (n1 * q) with h0 | h0
 ·have e1 := Int.mul_lt_mul_of_pos_right h0 hd2
  have e3:=Int.mul_le_mul_of_nonneg_right g (Int.le_of_lt hd1)
  have e4:n1 * d2 * q = n2 * d1 * q:=by rw [h]
  grind
 ·exact h0
theorem xj {n1 d1 n2 d2 p q:Int} (hd1:0 < d1) (hd2:0 < d2) (h:n1 * d2 = n2 * d1) (g:p * d2 ≤ n2 * q):p * d1 ≤ n1 * q:=by
 rcases Int.lt_or_le (n1 * q) (p * d1) with h0 | h0
 ·have e1 := Int.mul_lt_mul_of_pos_right h0 hd2
  have e3:=Int.mul_le_mul_of_nonneg_right g (Int.le_of_lt hd1)
  have e4:n1 * d2 * q = n2 * d1 * q:=by rw [h]
  grind
 ·exact h0
def loR (n d:Int) (o:Bool) (p q:Int):Prop:=n * q ≤ p * d∧(o = true → n * q < p * d)
def hiR (n d:Int) (o:Bool) (p q:Int):Prop:=p * d ≤ n * q∧(o = true → p * d < n * q)
def nK (n d:Int):Prop:=0 < d∧d ≤ 4194304∧-4194304 ≤ n∧n ≤ 4194304
section
variable {n1 d1 n2 d2 p q:Int} {o1 o2:Bool}
theorem nK.mul (h:nK n1 d1) (g:nK n2 d2):qs n1 d2 = some (n1 * d2):=by
 have:=BK (x:=n1) (y:=d2) (M:=4194304) h.2.2.1 h.2.2.2 (Int.le_of_lt g.1) g.2.1
 exact gJ (by unfold inI; omega)
theorem CW (h:nK n1 d1) (g:nK n2 d2) (hq:0 < q) (hc:n1 * d2 < n2 * d1) (hx:loR n2 d2 o2 p q):loR n1 d1 o1 p q:=by
 have:=Ff h.1 g.1 hq hc hx.1
 exact ⟨by omega,fun _=>this⟩
theorem CB (h:nK n1 d1) (g:nK n2 d2) (hc:n1 * d2 = n2 * d1):(n1 * q ≤ p * d1 ↔ n2 * q ≤ p * d2)∧(n1 * q < p * d1 ↔ n2 * q < p * d2):=by
 have a:=Ba (p:=p) (q:=q) h.1 g.1 hc
 have b:=Ba (p:=p) (q:=q) g.1 h.1 hc.symm
 have c:=xj (p:=p) (q:=q) h.1 g.1 hc
 have d:=xj (p:=p) (q:=q) g.1 h.1 hc.symm
 refine ⟨⟨b,a⟩,⟨fun x=>?_,fun x=>?_⟩⟩
 ·rcases Int.lt_or_le (n2 * q) (p * d2) with y | y
  ·exact y
  ·have:=c y; omega
 ·rcases Int.lt_or_le (n1 * q) (p * d1) with y | y
  ·exact y
  ·have:=d y; omega
theorem Jk (h:nK n1 d1) (g:nK n2 d2) (hc:n1 * d2 = n2 * d1):loR n1 d1 (o1 || o2) p q ↔ loR n1 d1 o1 p q∧loR n2 d2 o2 p q:=by
 obtain ⟨a,b⟩:=CB (p:=p) (q:=q) h g hc
 unfold loR
 rw [← a,← b]
 cases o1 <;> cases o2 <;> simp <;> intro h0 _ <;> exact h0
theorem Cz (h:nK n1 d1) (g:nK n2 d2) (hq:0 < q) (hc:n2 * d1 < n1 * d2) (hx:hiR n2 d2 o2 p q):hiR n1 d1 o1 p q:=by
 have:=vl h.1 g.1 hq hc hx.1
 exact ⟨by omega,fun _=>this⟩
theorem CT (h:nK n1 d1) (g:nK n2 d2) (hc:n1 * d2 = n2 * d1):(p * d1 ≤ n1 * q ↔ p * d2 ≤ n2 * q)∧(p * d1 < n1 * q ↔ p * d2 < n2 * q):=by
 obtain ⟨a,b⟩:=CB (p:=p) (q:=q) h g hc
 constructor
 ·constructor
  ·intro x; rcases Int.lt_or_le (n2 * q) (p * d2) with y | y
   ·have:=b.2 y; omega
   ·exact y
  ·intro x; rcases Int.lt_or_le (n1 * q) (p * d1) with y | y
   ·have:=b.1 y; omega
   ·exact y
 ·constructor
  ·intro x; rcases Int.lt_or_le (p * d2) (n2 * q) with y | y
   ·exact y
   ·have:=a.2 y; omega
  ·intro x; rcases Int.lt_or_le (p * d1) (n1 * q) with y | y
   ·exact y
   ·have:=a.1 y; omega
theorem I3 (h:nK n1 d1) (g:nK n2 d2) (hc:n1 * d2 = n2 * d1):hiR n1 d1 (o1 || o2) p q ↔ hiR n1 d1 o1 p q∧hiR n2 d2 o2 p q:=by
 obtain ⟨a,b⟩:=CT (p:=p) (q:=q) h g hc
 unfold hiR
 rw [← a,← b]
 cases o1 <;> cases o2 <;> simp <;> intro h0 _ <;> exact h0
theorem A6 (h:nK n1 d1) (g:nK n2 d2) (hq:0 < q) (hl:loR n1 d1 o1 p q) (hh:hiR n2 d2 o2 p q):n1 * d2 ≤ n2 * d1∧((o1 = true ∨ o2 = true) → n1 * d2 < n2 * d1):=by
 constructor
 ·rcases Int.lt_or_le (n2 * d1) (n1 * d2) with x | x
  ·have := vl h.1 g.1 hq x hh.1
   have:=hl.1
   omega
  ·exact x
 ·intro ho
  rcases Int.lt_trichotomy (n1 * d2) (n2 * d1) with x | x | x
  ·exact x
  ·obtain ⟨a, b⟩ := CT (p := p) (q := q) h g x
   rcases ho with ho | ho
   ·have:=hl.2 ho; have:=a.2 hh.1; omega
   ·have:=b.2 (hh.2 ho); have:=hl.1; omega
  ·have := vl h.1 g.1 hq x hh.1
   have:=hl.1
   omega
theorem Au (h:nK n1 d1) (g:nK n2 d2) (hc:n1 * d2 < n2 * d1 ∨ (n1 * d2 = n2 * d1∧o1 = false∧o2 = false)) : ∃ p q,0 < q∧loR n1 d1 o1 p q∧hiR n2 d2 o2 p q:=by
 rcases hc with hc | ⟨hc,rfl,rfl⟩
 ·refine ⟨n1 * d2 + n2 * d1, 2 * (d1 * d2), by have := Int.mul_pos h.1 g.1; omega, ?_, ?_⟩
  ·have e := Int.mul_lt_mul_of_pos_right hc h.1
   have:n1 * (2 * (d1 * d2)) < (n1 * d2 + n2 * d1) * d1:=by grind
   exact ⟨by omega,fun _=>this⟩
  ·have e := Int.mul_lt_mul_of_pos_right hc g.1
   have:(n1 * d2 + n2 * d1) * d2 < n2 * (2 * (d1 * d2)):=by grind
   exact ⟨by omega,fun _=>this⟩
 ·exact ⟨n1,d1,h.1,⟨Int.le_refl _,by simp⟩,⟨by omega,by simp⟩⟩
theorem FE (h:nK n1 d1) : ∃ p q,0 < q∧loR n1 d1 o1 p q:=by
 refine ⟨n1 + d1,d1,h.1,?_⟩
 have e:=Int.mul_pos h.1 h.1
 have:n1 * d1 < (n1 + d1) * d1:=by grind
 exact ⟨by omega,fun _=>this⟩
theorem Ft {at' by' from' : Int} (hb:0 < by'):loR (from' - at') by' false p q ↔ from' * q ≤ at' * q + by' * p:=by
 unfold loR
 constructor
 ·intro h; have:=h.1; grind
 ·intro h; refine ⟨?_,by simp⟩; grind
theorem Es {at' by' to' : Int} (hb:0 < by'):hiR (to' - at') by' true p q ↔ at' * q + by' * p < to' * q:=by
 unfold hiR
 constructor
 ·intro h; have:=h.2 rfl; grind
 ·intro h; have : p * by' < (to' - at') * q := by grind
  exact ⟨by omega,fun _=>this⟩
theorem EK {at' by' to' : Int}:loR (at' - to') (0 - by') true p q ↔ at' * q + by' * p < to' * q:=by
 unfold loR
 constructor
 ·intro h; have:=h.2 rfl; grind
 ·intro h; have : (at' - to') * q < p * (0 - by') := by grind
  exact ⟨by omega,fun _=>this⟩
theorem EM {at' by' from' : Int}:hiR (at' - from') (0 - by') false p q ↔ from' * q ≤ at' * q + by' * p:=by
 unfold hiR
 constructor
 ·intro h; have:=h.1; grind
 ·intro h; refine ⟨?_,by simp⟩; grind
end
end Go.Proofs.YtegglcdhfnjhcaaGreat

namespace Go.Proofs.YtegglcdhfnjhcaaGreat
open Go.Gb
set_option maxRecDepth 100000
theorem yp {a b:Int}:0 < sg a b ↔ b < a:=by unfold sg; split <;> (try split) <;> omega
theorem FJ {a b:Int}:sg a b < 0 ↔ a < b:=by unfold sg; split <;> (try split) <;> omega
theorem pY {a b:Int}:sg a b = 0 ↔ a = b:=by unfold sg; split <;> (try split) <;> omega
def bK (x:bz):Prop:=nK x.n x.d
def IvK (i:aW):Prop:=bK i.lo∧(i.top = true → bK i.hi)
def Mem (i:aW) (p q:Int):Prop:=i.none_ = false∧loR i.lo.n i.lo.d i.lo.open_ p q∧(i.top = true → hiR i.hi.n i.hi.d i.hi.open_ p q)
theorem qY {x y:bz} (hx:bK x) (hy:bK y):c0 x y = some (sg (x.n * y.d) (y.n * x.d)):=by
 unfold c0
 rw [nK.mul hx hy,qb,nK.mul hy hx,qb,Bj,qb]
theorem AO {i:aW} {b:bz} (hi:IvK i) (hb:bK b) :
  ∃ j,dG i b = some j∧IvK j∧j.top = i.top∧∀ p q,0 < q → (Mem j p q ↔ Mem i p q∧loR b.n b.d b.open_ p q):=by
 unfold dG
 rw [qY hb hi.1,qb]
 by_cases c1:i.lo.n * b.d < b.n * i.lo.d
 ·rw [if_pos (by rw [decide_eq_true_iff]; exact yp.2 c1), qb]
  refine ⟨_,rfl,⟨hb,hi.2⟩,rfl,fun p q hq=>?_⟩
  unfold Mem
  dsimp only
  constructor
  ·rintro ⟨h1, h2, h3⟩
   exact ⟨⟨h1,CW hi.1 hb hq c1 h2,h3⟩,h2⟩
  ·rintro ⟨⟨h1, _, h3⟩, h2⟩
   exact ⟨h1,h2,h3⟩
 ·rw [if_neg (by rw [decide_eq_true_iff]; exact fun h => c1 (yp.1 h))]
  by_cases c2:b.n * i.lo.d = i.lo.n * b.d
  ·rw [if_pos (by rw [beq_iff_eq]; exact pY.2 c2), qb, qb]
   refine ⟨_,rfl,⟨hi.1,hi.2⟩,rfl,fun p q hq=>?_⟩
   unfold Mem
   dsimp only
   rw [Jk hi.1 hb c2.symm]
   constructor
   ·rintro ⟨h1, ⟨h2, h4⟩, h3⟩
    exact ⟨⟨h1,h2,h3⟩,h4⟩
   ·rintro ⟨⟨h1, h2, h3⟩, h4⟩
    exact ⟨h1,⟨h2,h4⟩,h3⟩
  ·rw [if_neg (by rw [beq_iff_eq]; exact fun h => c2 (pY.1 h)), qb, qb]
   refine ⟨_,rfl,hi,rfl,fun p q hq=>⟨fun h=>⟨h,?_⟩,fun h=>h.1⟩⟩
   exact CW hb hi.1 hq (by omega) h.2.1
theorem zm {i:aW} {b:bz} (hi:IvK i) (hb:bK b) :
  ∃ j,dF i b = some j∧IvK j∧j.top = true∧∀ p q,0 < q → (Mem j p q ↔ Mem i p q∧hiR b.n b.d b.open_ p q):=by
 unfold dF
 by_cases ht:i.top = true
 ·have hh := hi.2 ht
  rw [if_pos ht,qY hb hh,qb,qb]
  by_cases c1:b.n * i.hi.d < i.hi.n * b.d
  ·rw [if_pos (by rw [decide_eq_true_iff]; exact FJ.2 c1), qb]
   refine ⟨_,rfl,⟨hi.1,fun _=>hb⟩,rfl,fun p q hq=>?_⟩
   unfold Mem
   dsimp only
   constructor
   ·rintro ⟨h1, h2, h3⟩
    exact ⟨⟨h1,h2,fun _=>Cz hh hb hq (by omega) (h3 rfl)⟩,h3 rfl⟩
   ·rintro ⟨⟨h1, h2, _⟩, h3⟩
    exact ⟨h1,h2,fun _=>h3⟩
  ·rw [if_neg (by rw [decide_eq_true_iff]; exact fun h => c1 (FJ.1 h))]
   by_cases c2:b.n * i.hi.d = i.hi.n * b.d
   ·rw [if_pos (by rw [beq_iff_eq]; exact pY.2 c2), qb, qb]
    refine ⟨_,rfl,⟨hi.1,fun _=>hh⟩,ht,fun p q hq=>?_⟩
    unfold Mem
    dsimp only
    rw [I3 hh hb c2.symm]
    constructor
    ·rintro ⟨h1, h2, h3⟩
     exact ⟨⟨h1,h2,fun h=>(h3 h).1⟩,(h3 ht).2⟩
    ·rintro ⟨⟨h1, h2, h3⟩, h4⟩
     exact ⟨h1,h2,fun h=>⟨h3 h,h4⟩⟩
   ·rw [if_neg (by rw [beq_iff_eq]; exact fun h => c2 (pY.1 h)), qb, qb]
    refine ⟨_,rfl,hi,ht,fun p q hq=>⟨fun h=>⟨h,?_⟩,fun h=>h.1⟩⟩
    exact Cz hb hh hq (by omega) (h.2.2 ht)
 ·rw [if_neg ht, qb, if_pos (by decide), qb]
  refine ⟨_,rfl,⟨hi.1,fun _=>hb⟩,rfl,fun p q hq=>?_⟩
  unfold Mem
  dsimp only
  constructor
  ·rintro ⟨h1, h2, h3⟩
   exact ⟨⟨h1,h2,fun h=>absurd h ht⟩,h3 rfl⟩
  ·rintro ⟨⟨h1, h2, _⟩, h3⟩
   exact ⟨h1,h2,fun _=>h3⟩
def cK (x:Int):Prop:=-2097152 ≤ x∧x ≤ 2097152
theorem sP {i:aW} {at' by' from' to' : Int} (hi:IvK i) (h1:cK at') (h2:cK by') (h3:cK from') (h4:cK to') :
  ∃ j,cA i at' by' from' to' = some j∧IvK j∧(i.top = true → j.top = true)∧∀ p q,0 < q → (Mem j p q ↔ Mem i p q∧from' * q ≤ at' * q + by' * p∧at' * q + by' * p < to' * q):=by
 unfold cK at h1 h2 h3 h4
 unfold cA
 by_cases c1:0 < by'
 ·rw [if_pos (by simpa using c1), ba (by unfold inI; omega), qb]
  obtain ⟨j, e1, e2, e3, e4⟩ := AO (b := ⟨from' - at', by', false⟩) hi (by unfold bK nK; dsimp only; omega)
  rw [e1,qb,ba (by unfold inI; omega),qb]
  obtain ⟨j', g1, g2, g3, g4⟩ := zm (b := ⟨to' - at', by', true⟩) e2 (by unfold bK nK; dsimp only; omega)
  rw [g1,qb,qb]
  refine ⟨j', rfl, g2, fun _ => g3, fun p q hq => ?_⟩
  rw [g4 p q hq,e4 p q hq]
  dsimp only
  rw [Ft c1,Es c1,and_assoc]
 ·rw [if_neg (by simpa using c1)]
  by_cases c2:by' < 0
  ·rw [if_pos (by simpa using c2), ba (by unfold inI; omega), qb, ba (by unfold inI; omega), qb]
   obtain ⟨j, e1, e2, e3, e4⟩ := AO (b := ⟨at' - to', 0 - by', true⟩) hi (by unfold bK nK; dsimp only; omega)
   rw [e1,qb,ba (by unfold inI; omega),qb,qb]
   obtain ⟨j', g1, g2, g3, g4⟩ := zm (b := ⟨at' - from', 0 - by', false⟩) e2 (by unfold bK nK; dsimp only; omega)
   rw [g1,qb,qb,qb]
   refine ⟨j', rfl, g2, fun _ => g3, fun p q hq => ?_⟩
   rw [g4 p q hq,e4 p q hq]
   dsimp only
   rw [EK,EM,and_assoc]
   exact and_congr_right fun _=>and_comm
  ·have hb : by' = 0 := by omega
   subst hb
   rw [if_neg (by simp)]
   by_cases c3:at' < from' ∨ to' ≤ at'
   ·rw [if_pos (by simpa using c3), qb, qb, qb]
    refine ⟨_,rfl,hi,fun h=>h,fun p q hq=>?_⟩
    unfold Mem
    dsimp only
    constructor
    ·rintro ⟨h,_⟩; simp at h
    ·rintro ⟨_, g1, g2⟩
     rw [Int.zero_mul,Int.add_zero] at g1 g2
     have a1:=Int.le_of_mul_le_mul_right g1 hq
     have a2:=Int.lt_of_mul_lt_mul_right g2 (Int.le_of_lt hq)
     omega
   ·rw [if_neg (by simpa using c3), qb, qb, qb]
    refine ⟨_,rfl,hi,fun h=>h,fun p q hq=>⟨fun h=>⟨h,?_,?_⟩,fun h=>h.1⟩⟩
    ·rw [Int.zero_mul,Int.add_zero]; exact Int.mul_le_mul_of_nonneg_right (by omega) (Int.le_of_lt hq)
    ·rw [Int.zero_mul,Int.add_zero]; exact Int.mul_lt_mul_of_pos_right (by omega) hq
theorem empty_eq {i:aW} (hi:IvK i) : ∃ e,fb i = some e∧(e = false ↔ ∃ p q,0 < q∧Mem i p q):=by
 unfold fb
 by_cases hn:i.none_ = true
 ·rw [if_pos (by simp [hn])]
  exact ⟨_,rfl,by simp [hn],fun ⟨p,q,_,h⟩=>by have:=h.1; rw [hn] at this; simp at this⟩
 ·by_cases ht : i.top = true
  ·have hh := hi.2 ht
   rw [if_neg (by simp [hn,ht]),qY hi.1 hh,qb]
   refine ⟨_,rfl,?_⟩
   have hn' : i.none_ = false:=by simpa using hn
   constructor
   ·intro h
    simp only [Bool.or_eq_false_iff,decide_eq_false_iff_not,Bool.and_eq_false_iff,beq_eq_false_iff_ne] at h
    rw [yp] at h
    obtain ⟨p,q,hq,h1,h2⟩:=Au (o1:=i.lo.open_) (o2:=i.hi.open_) hi.1 hh (by
     rcases Int.lt_trichotomy (i.lo.n * i.hi.d) (i.hi.n * i.lo.d) with x | x | x
     ·exact .inl x
     ·right
      rcases h.2 with h' | h'
      ·exact absurd (pY.2 x) h'
      ·exact ⟨x,h'⟩
     ·exact absurd x h.1)
    exact ⟨p, q, hq, hn', h1, fun _ => h2⟩
   ·rintro ⟨p, q, hq, _, h1, h2⟩
    obtain ⟨g1,g2⟩:=A6 hi.1 hh hq h1 (h2 ht)
    simp only [Bool.or_eq_false_iff,decide_eq_false_iff_not,Bool.and_eq_false_iff,beq_eq_false_iff_ne]
    rw [yp]
    refine ⟨by omega,?_⟩
    by_cases ho:i.lo.open_ = true ∨ i.hi.open_ = true
    ·left
     intro hz
     have:=g2 ho
     rw [pY] at hz
     omega
    ·right
     simpa using ho
  ·rw [if_pos (by simp [ht])]
   have hn' : i.none_ = false:=by simpa using hn
   refine ⟨_,rfl,fun _=>?_,fun _=>hn'⟩
   obtain ⟨p,q,hq,h⟩:=FE (o1:=i.lo.open_) hi.1
   exact ⟨p, q, hq, hn', h, fun h => absurd h ht⟩

def pF (x:Box) (p v:aJ) (a b:Int):Prop:=
 (x.Base.X0 * b ≤ p.X * b + v.X * a∧p.X * b + v.X * a < x.Base.X1 * b)∧(x.Base.Y0 * b ≤ p.Y * b + v.Y * a∧p.Y * b + v.Y * a < x.Base.Y1 * b)∧(x.Z0 * b ≤ p.Z * b + v.Z * a∧p.Z * b + v.Z * a < x.Z1 * b)
def pK (p:aJ):Prop:=cK p.X∧cK p.Y∧cK p.Z
theorem J5 {x:Box} (h:VB x):cK x.Base.X0∧cK x.Base.X1∧cK x.Base.Y0∧cK x.Base.Y1∧cK x.Z0∧cK x.Z1:=by
 unfold VB VR at h; unfold cK; omega
theorem ta {p v:aJ} {t:aW} {l:List Box} (hp:pK p) (hv:pK v) (ht:IvK t) (hl : ∀ x ∈ l,VB x) (hn:l.length ≤ 1000000) :
  ∃ r,(ah (hM p v t l) (l.length + 1) 0).bind (fun f=>match f with | .go _=>none | .ex _ _=>some false | .ret r=>some r) = some r ∧
   (r = true ↔ ∃ x ∈ l,∃ a b,0 < b∧Mem t a b∧pF x p v a b):=by
 rcases jP (l:=l) (body:=hM p v t l) (k:=0) (fun x=>∃ a b,0 < b∧Mem t a b∧pF x p v a b) (fun _=>true) (by
  intro i hi
  obtain ⟨k1,k2,k3,k4,k5,k6⟩:=J5 (hl _ (List.getElem_mem hi))
  obtain ⟨j1,a1,a2,_,a4⟩:=sP ht hp.1 hv.1 k1 k2
  obtain ⟨j2,b1,b2,_,b4⟩:=sP a2 hp.2.1 hv.2.1 k3 k4
  obtain ⟨j3,c1,c2,_,c4⟩:=sP b2 hp.2.2 hv.2.2 k5 k6
  obtain ⟨e,e1,e2⟩:=empty_eq c2
  have he:e = false ↔ ∃ a b,0 < b∧Mem t a b∧pF l[i] p v a b:=by
   rw [e2]
   refine exists_congr fun a=>exists_congr fun b=>and_congr_right fun hb=>?_
   rw [c4 a b hb,b4 a b hb,a4 a b hb]
   unfold pF
   simp only [and_assoc]
  unfold hM
  rw [if_pos (by simpa using hi),ae hi,qb,a1,qb,b1,qb,c1,qb,e1,qb]
  cases e
  ·left
   rw [if_pos (by rfl)]
   exact ⟨he.1 rfl,rfl⟩
  ·right
   rw [if_neg (by simp),ag (by omega),qb]
   exact ⟨fun h=>by simpa using he.2 h,rfl⟩) (by
  unfold hM
  rw [if_neg (by simp)]) (fuel:=l.length + 1) (by omega) with ⟨i,hi,hp,_,h⟩ | ⟨hp,h⟩
 ·rw [h, qb]
  exact ⟨_,rfl,fun _=>⟨_,List.getElem_mem hi,hp⟩,fun _=>rfl⟩
 ·rw [h, qb]
  exact ⟨_,rfl,by simp,fun ⟨x,hx,h⟩=>absurd h (hp x hx)⟩
def Hit (S:Int → Int → Int → Prop) (p v:aJ) (a b:Int):Prop:=S ((p.X * b + v.X * a) / b) ((p.Y * b + v.Y * a) / b) ((p.Z * b + v.Z * a) / b)
theorem Ds {x:Box} {p v:aJ} {a b:Int} (hb:0 < b) :
  pF x p v a b ↔ rin x.Base ((p.X * b + v.X * a) / b) ((p.Y * b + v.Y * a) / b)∧x.Z0 ≤ (p.Z * b + v.Z * a) / b∧(p.Z * b + v.Z * a) / b < x.Z1:=by
 unfold pF rin
 rw [Int.le_ediv_iff_mul_le hb,Int.le_ediv_iff_mul_le hb,Int.le_ediv_iff_mul_le hb,Int.ediv_lt_iff_lt_mul hb,Int.ediv_lt_iff_lt_mul hb,Int.ediv_lt_iff_lt_mul hb]
 simp only [and_assoc]
theorem qq {l:List Box} {p v:aJ} {a b:Int} (hb:0 < b):Hit (zd l) p v a b ↔ ∃ x ∈ l,pF x p v a b:=by
 unfold Hit zd
 exact exists_congr fun x=>and_congr_right fun _=>(Ds hb).symm
theorem AG {s:List bk} {p v:aJ} {t:aW} (hp:pK p) (hv:pK v) (ht:IvK t) (hs : ∀ b ∈ s,b.Area.length ≤ 100000) :
  ∃ r,lR s p v t = some r∧(r = true ↔ SS s∧∃ a b,0 < b∧Mem t a b∧Hit (jz s) p v a b):=by
 unfold lR
 by_cases h:SS s
 ·rw [sJ h, qb]
  obtain ⟨r,h1,h2⟩:=ta hp hv ht (vP h) (by have:=py h; omega)
  refine ⟨r,h1,h2.trans ?_⟩
  constructor
  ·rintro ⟨x, hx, a, b, hb, hm, hi⟩
   refine ⟨h,a,b,hb,hm,?_⟩
   have:=(qq (l:=ji s) hb).2 ⟨x,hx,hi⟩
   unfold Hit at this ⊢
   exact (kI h.canon _ _ _).1 this
  ·rintro ⟨_, a, b, hb, hm, hi⟩
   obtain ⟨x,hx,hi⟩:=(qq (l:=ji s) (p:=p) (v:=v) (a:=a) hb).1 ((kI h.canon _ _ _).2 hi)
   exact ⟨x,hx,a,b,hb,hm,hi⟩
 ·rw [tK hs h, qb]
  obtain ⟨r,h1,h2⟩:=ta (l:=[]) hp hv ht (by simp) (by simp)
  refine ⟨r,h1,h2.trans ⟨fun ⟨x,hx,_⟩=>by simp at hx,fun h'=>absurd h'.1 h⟩⟩
def onP (p:aJ):Prop:=0 ≤ p.X∧p.X ≤ 1048576∧0 ≤ p.Y∧p.Y ≤ 1048576∧0 ≤ p.Z∧p.Z ≤ 4096
instance (p:aJ):Decidable (onP p):=by unfold onP; infer_instance
theorem CS (p:aJ):oy p = some (decide (onP p)):=by
 unfold oy
 congr 1
 rw [Bool.eq_iff_iff,decide_eq_true_iff]
 unfold onP
 simp only [Bool.and_eq_true,decide_eq_true_eq]
 omega
theorem onP.pK {p:aJ} (h:onP p):YtegglcdhfnjhcaaGreat.pK p:=by unfold onP at h; unfold YtegglcdhfnjhcaaGreat.pK cK; omega
def ve (q p:aJ):aJ:=⟨q.X - p.X,q.Y - p.Y,q.Z - p.Z⟩
def Ag (S:Int → Int → Int → Prop) (p q:aJ):Prop:=∃ a b,0 < b∧0 < a∧a < b∧Hit S p (ve q p) a b
def Jf (S:Int → Int → Int → Prop) (p d:aJ):Prop:=∃ a b,0 < b∧0 < a∧Hit S p d a b
theorem uE {s:List bk} {p q:aJ} (hs : ∀ b ∈ s,b.Area.length ≤ 100000) :
  ∃ r,fk s p q = some r∧(r = true ↔ onP p∧onP q∧SS s∧Ag (jz s) p q):=by
 unfold fk
 rw [CS,qb]
 by_cases hp:onP p
 ·by_cases hq : onP q
  ·rw [if_neg (by simp [hp]), CS, qb, qb, if_neg (by simp [hq])]
   have hp':=hp
   have hq':=hq
   unfold onP at hp' hq'
   rw [ba (by unfold inI; omega),qb,ba (by unfold inI; omega),qb,ba (by unfold inI; omega),qb]
   obtain ⟨r,h1,h2⟩:=AG (s:=s) (p:=p) (v:=ve q p) (t:=⟨⟨0,1,true⟩,⟨1,1,true⟩,true,false⟩) hp.pK (by unfold pK cK ve; dsimp only; omega) (by unfold IvK bK nK; dsimp only; omega) hs
   unfold ve at h1
   rw [h1,qb]
   refine ⟨r,rfl,h2.trans ⟨fun ⟨g1,a,b,g2,g3,g4⟩=>⟨hp,hq,g1,a,b,g2,?_,?_,g4⟩,fun ⟨_,_,g1,a,b,g2,g3,g4,g5⟩=>⟨g1,a,b,g2,⟨rfl,?_,fun _=>?_⟩,g5⟩⟩⟩
   ·have:=g3.2.1.2 rfl; dsimp only at this; omega
   ·have:=(g3.2.2 rfl).2 rfl; dsimp only at this; omega
   ·unfold loR; dsimp only; omega
   ·unfold hiR; dsimp only; omega
  ·rw [if_neg (by simp [hp]), CS, qb, qb, if_pos (by simp [hq])]
   exact ⟨_,rfl,by simp,fun h=>absurd h.2.1 hq⟩
 ·rw [if_pos (by simp [hp]), qb, if_pos rfl]
  exact ⟨_,rfl,by simp,fun h=>absurd h.1 hp⟩
def tG (d:aJ):Prop:=¬ (d.X = 0∧d.Y = 0∧d.Z = 0)∧(-1048576 ≤ d.X∧d.X ≤ 1048576)∧(-1048576 ≤ d.Y∧d.Y ≤ 1048576)∧(-1048576 ≤ d.Z∧d.Z ≤ 1048576)
instance (p:aJ):Decidable (tG p):=by unfold tG; infer_instance
theorem Ce {s:List bk} {p d:aJ} (hs : ∀ b ∈ s,b.Area.length ≤ 100000) :
  ∃ r,kT s p d = some r∧(r = true ↔ onP p∧tG d∧SS s∧Jf (jz s) p d):=by
 unfold kT
 rw [CS,qb]
 have hz:d = ⟨0,0,0⟩ ↔ d.X = 0∧d.Y = 0∧d.Z = 0:=by
  obtain ⟨x,y,z⟩:=d
  simp
 by_cases h:onP p∧tG d
 ·obtain ⟨hp, hd⟩ := h
  have hd':=hd
  unfold tG at hd'
  rw [if_neg (by
   simp only [Bool.or_eq_true, Bool.not_eq_true', decide_eq_false_iff_not, decide_eq_true_eq]
   rintro (((h | h) | h) | h)
   ·exact h hp
   ·exact hd.1 (hz.1 h)
   ·omega
   ·omega)]
  obtain ⟨r,h1,h2⟩:=AG (s:=s) (p:=p) (v:=d) (t:=⟨⟨0,1,true⟩,⟨0,0,false⟩,false,false⟩) hp.pK (by unfold pK cK; omega) (by unfold IvK bK nK; dsimp only; exact ⟨by omega,fun h=>by simp at h⟩) hs
  rw [h1,qb]
  refine ⟨r,rfl,h2.trans ⟨fun ⟨g1,a,b,g2,g3,g4⟩=>⟨hp,hd,g1,a,b,g2,?_,g4⟩,fun ⟨_,_,g1,a,b,g2,g3,g5⟩=>⟨g1,a,b,g2,⟨rfl,?_,fun h=>by simp at h⟩,g5⟩⟩⟩
  ·have:=g3.2.1.2 rfl; dsimp only at this; omega
  ·unfold loR; dsimp only; omega
 ·rw [if_pos (by
   simp only [Bool.or_eq_true, Bool.not_eq_true', decide_eq_false_iff_not, decide_eq_true_eq]
   by_cases hp:onP p
   ·by_cases h0 : d = ⟨0, 0, 0⟩
    ·exact .inl (.inl (.inr h0))
    ·have hd : ¬ tG d := fun hd => h ⟨hp, hd⟩
     rw [hz] at h0
     unfold tG at hd
     have : ¬ ((-1048576 ≤ d.X∧d.X ≤ 1048576)∧(-1048576 ≤ d.Y∧d.Y ≤ 1048576)∧(-1048576 ≤ d.Z∧d.Z ≤ 1048576)):=fun hh=>hd ⟨h0,hh⟩
     by_cases hm:min (min d.X d.Y) d.Z < -1048576
     ·exact .inl (.inr hm)
     ·exact .inr (by omega)
   ·exact .inl (.inl (.inl hp)))]
  exact ⟨_,rfl,by simp,fun h'=>absurd ⟨h'.1,h'.2.1⟩ h⟩
end Go.Proofs.YtegglcdhfnjhcaaGreat

namespace Go.Proofs.YtegglcdhfnjhcaaGreat
open Go.Gb
set_option maxRecDepth 100000
def rbK (x:br):Prop:=nK x.N x.D
def RvK (i:fS):Prop:=rbK i.Lo∧rbK i.Hi
def wz (i:fS) (p q:Int):Prop:=i.None = false∧loR i.Lo.N i.Lo.D i.Lo.Open p q∧hiR i.Hi.N i.Hi.D i.Hi.Open p q
theorem qh {x y:br} (hx:rbK x) (hy:rbK y):et x y = some (decide (x.N * y.D < y.N * x.D)):=by
 unfold et
 rw [nK.mul hx hy,qb,nK.mul hy hx,qb]
theorem xi {x y:br} (hx:rbK x) (hy:rbK y) : ∃ c,kq x y = some c∧rbK c∧∀ p q,0 < q → (loR c.N c.D c.Open p q ↔ loR x.N x.D x.Open p q∧loR y.N y.D y.Open p q):=by
 unfold kq
 rw [qh hx hy,qb]
 by_cases c1:x.N * y.D < y.N * x.D
 ·rw [if_pos (by simpa using c1), qb, if_pos rfl]
  exact ⟨y,rfl,hy,fun p q hq=>⟨fun h=>⟨CW hx hy hq c1 h,h⟩,fun h=>h.2⟩⟩
 ·rw [if_neg (by simpa using c1), qh hy hx, qb, qb]
  by_cases c2:y.N * x.D < x.N * y.D
  ·rw [if_neg (by simp [c2])]
   exact ⟨x,rfl,hx,fun p q hq=>⟨fun h=>⟨h,CW hy hx hq c2 h⟩,fun h=>h.1⟩⟩
  ·have c3 : x.N * y.D = y.N * x.D := by omega
   by_cases ho:y.Open = true
   ·rw [if_pos (by simp [ho]; omega)]
    refine ⟨y,rfl,hy,fun p q hq=>⟨fun h=>⟨?_,h⟩,fun h=>h.2⟩⟩
    obtain ⟨a,b⟩:=CB (p:=p) (q:=q) hx hy c3
    exact ⟨a.2 h.1,fun _=>b.2 (h.2 ho)⟩
   ·rw [if_neg (by simp [ho])]
    refine ⟨x,rfl,hx,fun p q hq=>⟨fun h=>⟨h,?_⟩,fun h=>h.1⟩⟩
    obtain ⟨a,b⟩:=CB (p:=p) (q:=q) hx hy c3
    exact ⟨a.1 h.1,fun h'=>absurd h' ho⟩
theorem zH {x y:br} (hx:rbK x) (hy:rbK y) : ∃ c,lN x y = some c∧rbK c∧∀ p q,0 < q → (hiR c.N c.D c.Open p q ↔ hiR x.N x.D x.Open p q∧hiR y.N y.D y.Open p q):=by
 unfold lN
 rw [qh hy hx,qb]
 by_cases c1:y.N * x.D < x.N * y.D
 ·rw [if_pos (by simpa using c1), qb, if_pos rfl]
  exact ⟨y,rfl,hy,fun p q hq=>⟨fun h=>⟨Cz hx hy hq c1 h,h⟩,fun h=>h.2⟩⟩
 ·rw [if_neg (by simpa using c1), qh hx hy, qb, qb]
  by_cases c2:x.N * y.D < y.N * x.D
  ·rw [if_neg (by simp [c2])]
   exact ⟨x,rfl,hx,fun p q hq=>⟨fun h=>⟨h,Cz hy hx hq c2 h⟩,fun h=>h.1⟩⟩
  ·have c3 : x.N * y.D = y.N * x.D := by omega
   by_cases ho:y.Open = true
   ·rw [if_pos (by simp [ho]; omega)]
    refine ⟨y,rfl,hy,fun p q hq=>⟨fun h=>⟨?_,h⟩,fun h=>h.2⟩⟩
    obtain ⟨a,b⟩:=CT (p:=p) (q:=q) hx hy c3
    exact ⟨a.2 h.1,fun _=>b.2 (h.2 ho)⟩
   ·rw [if_neg (by simp [ho])]
    refine ⟨x,rfl,hx,fun p q hq=>⟨fun h=>⟨h,?_⟩,fun h=>h.1⟩⟩
    obtain ⟨a,b⟩:=CT (p:=p) (q:=q) hx hy c3
    exact ⟨a.1 h.1,fun h'=>absurd h' ho⟩
theorem qQ {i:fS} {at' by' from' to' : Int} (hi:RvK i) (h1:cK at') (h2:cK by') (h3:cK from') (h4:cK to') :
  ∃ j,iL i at' by' from' to' = some j∧RvK j∧∀ p q,0 < q → (wz j p q ↔ wz i p q∧from' * q ≤ at' * q + by' * p∧at' * q + by' * p < to' * q):=by
 unfold cK at h1 h2 h3 h4
 unfold iL
 by_cases c1:0 < by'
 ·rw [if_pos (by simpa using c1), ba (by unfold inI; omega), qb]
  obtain ⟨j, e1, e2, e3⟩ := xi (y := ⟨from' - at', by', false⟩) hi.1 (by unfold rbK nK; dsimp only; omega)
  rw [e1,qb,ba (by unfold inI; omega),qb]
  obtain ⟨j', g1, g2, g3⟩ := zH (y := ⟨to' - at', by', true⟩) hi.2 (by unfold rbK nK; dsimp only; omega)
  dsimp only
  rw [g1,qb,qb,if_neg (by simp; omega),qb]
  refine ⟨_,rfl,⟨e2,g2⟩,fun p q hq=>?_⟩
  unfold wz
  dsimp only
  rw [e3 p q hq,g3 p q hq]
  dsimp only
  rw [Ft c1,Es c1]
  have hb:(by' == 0) = false:=by simp; omega
  rw [hb,Bool.false_and,Bool.or_false]
  constructor
  ·rintro ⟨a,⟨b,c⟩,d,e⟩; exact ⟨⟨a,b,d⟩,c,e⟩
  ·rintro ⟨⟨a,b,d⟩,c,e⟩; exact ⟨a,⟨b,c⟩,d,e⟩
 ·rw [if_neg (by simpa using c1), qb]
  by_cases c2:by' < 0
  ·rw [if_pos (by simpa using c2), ba (by unfold inI; omega), qb, ba (by unfold inI; omega), qb]
   obtain ⟨j, e1, e2, e3⟩ := xi (y := ⟨at' - to', 0 - by', true⟩) hi.1 (by unfold rbK nK; dsimp only; omega)
   rw [e1,qb,ba (by unfold inI; omega),qb,qb]
   obtain ⟨j', g1, g2, g3⟩ := zH (y := ⟨at' - from', 0 - by', false⟩) hi.2 (by unfold rbK nK; dsimp only; omega)
   dsimp only
   rw [g1,qb,qb]
   refine ⟨_,rfl,⟨e2,g2⟩,fun p q hq=>?_⟩
   unfold wz
   dsimp only
   rw [e3 p q hq,g3 p q hq]
   dsimp only
   rw [EK,EM]
   have hb:(by' == 0) = false:=by simp; omega
   rw [hb,Bool.false_and,Bool.or_false]
   constructor
   ·rintro ⟨a,⟨b,c⟩,d,e⟩; exact ⟨⟨a,b,d⟩,e,c⟩
   ·rintro ⟨⟨a,b,d⟩,c,e⟩; exact ⟨a,⟨b,e⟩,d,c⟩
  ·have hb : by' = 0 := by omega
   subst hb
   rw [if_neg (by simp),qb]
   refine ⟨_,rfl,hi,fun p q hq=>?_⟩
   unfold wz
   dsimp only
   have e:(from' * q ≤ at' * q + 0 * p∧at' * q + 0 * p < to' * q) ↔ ¬ (at' < from' ∨ to' ≤ at'):=by
    rw [Int.zero_mul,Int.add_zero]
    constructor
    ·rintro ⟨g1, g2⟩
     have a1:=Int.le_of_mul_le_mul_right g1 hq
     have a2:=Int.lt_of_mul_lt_mul_right g2 (Int.le_of_lt hq)
     omega
    ·intro h
     exact ⟨Int.mul_le_mul_of_nonneg_right (by omega) (Int.le_of_lt hq),Int.mul_lt_mul_of_pos_right (by omega) hq⟩
   rw [e]
   simp only [beq_self_eq_true,Bool.true_and,Bool.or_eq_false_iff,decide_eq_false_iff_not,not_or]
   constructor
   ·rintro ⟨⟨a,b,c⟩,d⟩; exact ⟨⟨a,d⟩,b,c⟩
   ·rintro ⟨⟨a,d⟩,b,c⟩; exact ⟨⟨a,b,c⟩,d⟩
theorem rH {p v:aJ} {most:Int} {l:List Box} (hp:pK p) (hv:pK v) (hm:0 ≤ most∧most ≤ 2097152) (hl : ∀ x ∈ l,VB x) (hn:l.length ≤ 1000000) :
  ∃ r,(ah (iv p v most l) (l.length + 1) 0).bind (fun f=>match f with | .go _=>none | .ex _ _=>some false | .ret r=>some r) = some r ∧
   (r = true ↔ ∃ x ∈ l,∃ a b,0 < b∧(0 < a∧a < most * b)∧pF x p v a b):=by
 have ht:RvK ⟨⟨0,1,true⟩,⟨most,1,true⟩,false⟩:=by unfold RvK rbK nK; dsimp only; omega
 have hm0 : ∀ a b,0 < b → (wz ⟨⟨0,1,true⟩,⟨most,1,true⟩,false⟩ a b ↔ 0 < a∧a < most * b):=by
  intro a b hb
  unfold wz loR hiR
  dsimp only
  rw [Int.zero_mul,Int.mul_one]
  constructor
  ·rintro ⟨_,h1,h2⟩; exact ⟨h1.2 rfl,h2.2 rfl⟩
  ·rintro ⟨h1,h2⟩; exact ⟨rfl,⟨by omega,fun _=>h1⟩,by omega,fun _=>h2⟩
 rcases jP (l:=l) (body:=iv p v most l) (k:=0) (fun x=>∃ a b,0 < b∧(0 < a∧a < most * b)∧pF x p v a b) (fun _=>true) (by
  intro i hi
  obtain ⟨k1,k2,k3,k4,k5,k6⟩:=J5 (hl _ (List.getElem_mem hi))
  obtain ⟨j1,a1,a2,a4⟩:=qQ ht hp.1 hv.1 k1 k2
  obtain ⟨j2,b1,b2,b4⟩:=qQ a2 hp.2.1 hv.2.1 k3 k4
  obtain ⟨j3,c1,c2,c4⟩:=qQ b2 hp.2.2 hv.2.2 k5 k6
  have he:(∃ a b,0 < b∧(0 < a∧a < most * b)∧pF l[i] p v a b) ↔ ∃ a b,0 < b∧wz j3 a b:=by
   refine exists_congr fun a=>exists_congr fun b=>and_congr_right fun hb=>?_
   rw [c4 a b hb,b4 a b hb,a4 a b hb,hm0 a b hb]
   unfold pF
   simp only [and_assoc]
  have hg:=ae hi
  unfold iv
  rw [if_pos (by simpa using hi)]
  simp only [hg,qb]
  rw [a1,qb,b1,qb,c1,qb,qh c2.1 c2.2,qb]
  have hcond:(if (!decide (j3.Lo.N * j3.Hi.D < j3.Hi.N * j3.Lo.D)) = true then (et j3.Hi j3.Lo).bind fun x=>some (!x) else some false) = some (decide (j3.Lo.N * j3.Hi.D = j3.Hi.N * j3.Lo.D)):=by
   rw [qh c2.2 c2.1]
   by_cases g:j3.Lo.N * j3.Hi.D < j3.Hi.N * j3.Lo.D
   ·rw [if_neg (by simp [g])]; congr 1; symm; rw [decide_eq_false_iff_not]; omega
   ·rw [if_pos (by simp [g]), qb]; congr 1; rw [Bool.eq_iff_iff, Bool.not_eq_true', decide_eq_false_iff_not, decide_eq_true_iff]; omega
  rw [hcond,qb]
  have hfin : ∃ e,(if (!j3.None) = true then some (decide (j3.Lo.N * j3.Hi.D < j3.Hi.N * j3.Lo.D) || ((decide (j3.Lo.N * j3.Hi.D = j3.Hi.N * j3.Lo.D) && (!j3.Lo.Open)) && (!j3.Hi.Open))) else some false) = some e ∧
    (e = true ↔ ∃ a b,0 < b∧wz j3 a b):=by
   by_cases hno:j3.None = true
   ·rw [if_neg (by simp [hno])]
    exact ⟨_,rfl,by simp,fun ⟨a,b,_,h,_⟩=>by rw [hno] at h; simp at h⟩
   ·rw [if_pos (by simp [hno])]
    refine ⟨_,rfl,?_⟩
    simp only [Bool.or_eq_true, Bool.and_eq_true, Bool.not_eq_true', decide_eq_true_eq]
    have hno' : j3.None = false:=by simpa using hno
    constructor
    ·intro h
     obtain ⟨a,b,hb,h1,h2⟩:=Au (o1:=j3.Lo.Open) (o2:=j3.Hi.Open) c2.1 c2.2 (h.imp id fun h=>⟨h.1.1,h.1.2,h.2⟩)
     exact ⟨a, b, hb, hno', h1, h2⟩
    ·rintro ⟨a, b, hb, _, h1, h2⟩
     obtain ⟨g1,g2⟩:=A6 c2.1 c2.2 hb h1 h2
     by_cases ho:j3.Lo.Open = true ∨ j3.Hi.Open = true
     ·exact .inl (g2 ho)
     ·have ho' : j3.Lo.Open = false ∧ j3.Hi.Open = false := by simpa using ho
      by_cases hl:j3.Lo.N * j3.Hi.D < j3.Hi.N * j3.Lo.D
      ·exact .inl hl
      ·exact .inr ⟨⟨by omega,ho'.1⟩,ho'.2⟩
  obtain ⟨e,hf1,hf2⟩:=hfin
  simp only [qb]
  rw [hf1,qb]
  by_cases hx : ∃ a b,0 < b∧wz j3 a b
  ·left
   rw [if_pos (hf2.2 hx)]
   exact ⟨he.2 hx,rfl⟩
  ·right
   rw [if_neg (fun h=>hx (hf2.1 h)),ag (by omega),qb]
   exact ⟨fun h=>hx (he.1 h),rfl⟩) (by
  unfold iv
  rw [if_neg (by simp)]) (fuel:=l.length + 1) (by omega) with ⟨i,hi,hp,_,h⟩ | ⟨hp,h⟩
 ·rw [h, qb]
  exact ⟨_,rfl,fun _=>⟨_,List.getElem_mem hi,hp⟩,fun _=>rfl⟩
 ·rw [h, qb]
  exact ⟨_,rfl,by simp,fun ⟨x,hx,h⟩=>absurd h (hp x hx)⟩
theorem xr {s:List bk} {p v:aJ} {most:Int} (hp:pK p) (hv:pK v) (hm:0 ≤ most∧most ≤ 2097152) (hs : ∀ b ∈ s,b.Area.length ≤ 100000) :
  ∃ r,l8 s p v most = some r∧(r = true ↔ SS s∧∃ a b,0 < b∧(0 < a∧a < most * b)∧Hit (jz s) p v a b):=by
 unfold l8
 by_cases h:SS s
 ·rw [zg h, qb]
  obtain ⟨r,h1,h2⟩:=rH hp hv hm (vP h) (by have:=py h; omega)
  refine ⟨r,h1,h2.trans ?_⟩
  constructor
  ·rintro ⟨x, hx, a, b, hb, hm, hi⟩
   refine ⟨h,a,b,hb,hm,?_⟩
   have:=(qq (l:=ji s) hb).2 ⟨x,hx,hi⟩
   unfold Hit at this ⊢
   exact (kI h.canon _ _ _).1 this
  ·rintro ⟨_, a, b, hb, hm, hi⟩
   obtain ⟨x,hx,hi⟩:=(qq (l:=ji s) (p:=p) (v:=v) (a:=a) hb).1 ((kI h.canon _ _ _).2 hi)
   exact ⟨x,hx,a,b,hb,hm,hi⟩
 ·rw [Bu hs h, qb]
  obtain ⟨r,h1,h2⟩:=rH (l:=[]) hp hv hm (by simp) (by simp)
  refine ⟨r,h1,h2.trans ⟨fun ⟨x,hx,_⟩=>by simp at hx,fun h'=>absurd h'.1 h⟩⟩
theorem rS (p:aJ):jJ p = some (decide (onP p)):=by
 unfold jJ
 congr 1
 rw [Bool.eq_iff_iff,decide_eq_true_iff]
 unfold onP
 simp only [Bool.and_eq_true,decide_eq_true_eq]
 omega
theorem Ap {s:List bk} {p q:aJ} (hs : ∀ b ∈ s,b.Area.length ≤ 100000) :
  ∃ r,gM s p q = some r∧(r = true ↔ onP p∧onP q∧SS s∧Ag (jz s) p q):=by
 unfold gM
 rw [rS,qb]
 by_cases hp:onP p
 ·by_cases hq : onP q
  ·rw [if_neg (by simp [hp]), rS, qb, qb, if_neg (by simp [hq])]
   have hp':=hp
   have hq':=hq
   unfold onP at hp' hq'
   rw [ba (by unfold inI; omega),qb,ba (by unfold inI; omega),qb,ba (by unfold inI; omega),qb]
   obtain ⟨r,h1,h2⟩:=xr (s:=s) (p:=p) (v:=ve q p) (most:=1) hp.pK (by unfold pK cK ve; dsimp only; omega) (by omega) hs
   unfold ve at h1
   rw [h1,qb]
   refine ⟨r,rfl,h2.trans ⟨fun ⟨g1,a,b,g2,g3,g4⟩=>⟨hp,hq,g1,a,b,g2,g3.1,by omega,g4⟩,fun ⟨_,_,g1,a,b,g2,g3,g4,g5⟩=>⟨g1,a,b,g2,⟨g3,by omega⟩,g5⟩⟩⟩
  ·rw [if_neg (by simp [hp]), rS, qb, qb, if_pos (by simp [hq])]
   exact ⟨_,rfl,by simp,fun h=>absurd h.2.1 hq⟩
 ·rw [if_pos (by simp [hp]), qb, if_pos rfl]
  exact ⟨_,rfl,by simp,fun h=>absurd h.1 hp⟩
theorem wC {s:List bk} (h:SS s) {x y z:Int} (hx:jz s x y z):(0 ≤ x∧x < 1048576)∧(0 ≤ y∧y < 1048576)∧(0 ≤ z∧z < 4096):=by
 rw [AH h.canon] at hx
 obtain ⟨b,hb,⟨r,hr,h1⟩,h2,h3⟩:=hx
 have:=h.ok b hb
 have hv:=this.2.2.1 r hr
 unfold VR at hv
 unfold rin at h1
 omega
theorem reach {b a p d:Int} (hb:0 < b) (ha:0 < a) (hp:0 ≤ p∧p ≤ 1048576) (hd:d ≠ 0) (h1:0 ≤ (p * b + d * a) / b) (h2:(p * b + d * a) / b < 1048576):a < 2097152 * b:=by
 rw [Int.le_ediv_iff_mul_le hb,Int.zero_mul] at h1
 rw [Int.ediv_lt_iff_lt_mul hb] at h2
 have e1:=Int.mul_le_mul_of_nonneg_right hp.1 (Int.le_of_lt hb)
 have e2:=Int.mul_le_mul_of_nonneg_right hp.2 (Int.le_of_lt hb)
 rcases Int.lt_or_le 0 d with g | g
 ·have e3 := Int.mul_le_mul_of_nonneg_right (show (1 : Int) ≤ d by omega) (Int.le_of_lt ha)
  omega
 ·have e3 := Int.mul_le_mul_of_nonneg_right (show d ≤ (-1 : Int) by omega) (Int.le_of_lt ha)
  omega
theorem GR {s:List bk} {p d:aJ} (hs : ∀ b ∈ s,b.Area.length ≤ 100000) :
  ∃ r,mO s p d = some r∧(r = true ↔ onP p∧tG d∧SS s∧Jf (jz s) p d):=by
 unfold mO kj
 rw [rS,qb]
 have hwi : ∀ n:Int,((decide ((-1048576) ≤ n)) && (decide (n ≤ 1048576))) = decide (-1048576 ≤ n∧n ≤ 1048576):=by intro n; simp
 simp only [qb,hwi]
 have hb : ∀ (c t:Bool),(if c = true then some true else some t) = some (c || t):=by intro c t; cases c <;> rfl
 simp only [hb,qb]
 by_cases h:onP p∧tG d
 ·obtain ⟨hp, hd⟩ := h
  have hd':=hd
  unfold tG at hd'
  rw [if_neg (by simp [hp,hd'.2]; omega)]
  obtain ⟨r,h1,h2⟩:=xr (s:=s) (p:=p) (v:=d) (most:=2097152) hp.pK (by unfold pK cK; omega) (by omega) hs
  rw [h1,qb]
  refine ⟨r,rfl,h2.trans ⟨fun ⟨g1,a,b,g2,g3,g4⟩=>⟨hp,hd,g1,a,b,g2,g3.1,g4⟩,fun ⟨_,_,g1,a,b,g2,g3,g5⟩=>⟨g1,a,b,g2,⟨g3,?_⟩,g5⟩⟩⟩
  obtain ⟨k1,k2,k3⟩:=wC g1 g5
  unfold onP at hp
  by_cases z1:d.X = 0
  ·by_cases z2 : d.Y = 0
   ·by_cases z3 : d.Z = 0
    ·exact absurd ⟨z1,z2,z3⟩ hd'.1
    ·exact reach g2 g3 (by omega) z3 k3.1 (by omega)
   ·exact reach g2 g3 (by omega) z2 k2.1 k2.2
  ·exact reach g2 g3 (by omega) z1 k1.1 k1.2
 ·rw [if_pos (by
   by_cases hp:onP p
   ·have hd : ¬ tG d := fun hd => h ⟨hp, hd⟩
    unfold tG at hd
    simp [hp]; omega
   ·simp [hp])]
  exact ⟨_,rfl,by simp,fun h'=>absurd ⟨h'.1,h'.2.1⟩ h⟩
theorem xY {s:List bk} {p q:aJ} (hs : ∀ b ∈ s,b.Area.length ≤ 100000) : ∃ r,fk s p q = some r∧gM s p q = some r:=by
 obtain ⟨r,h1,h2⟩:=uE (p:=p) (q:=q) hs
 obtain ⟨r', g1, g2⟩ := Ap (p := p) (q := q) hs
 exact ⟨r,h1,by rw [g1,Bool.eq_iff_iff.2 (g2.trans h2.symm)]⟩
theorem Fv {s:List bk} {p d:aJ} (hs : ∀ b ∈ s,b.Area.length ≤ 100000) : ∃ r,kT s p d = some r∧mO s p d = some r:=by
 obtain ⟨r,h1,h2⟩:=Ce (p:=p) (d:=d) hs
 obtain ⟨r', g1, g2⟩ := GR (p := p) (d := d) hs
 exact ⟨r,h1,by rw [g1,Bool.eq_iff_iff.2 (g2.trans h2.symm)]⟩
end Go.Proofs.YtegglcdhfnjhcaaGreat

namespace Go.Proofs.YtegglcdhfnjhcaaGreat
open Go.Gb

def Tot {α:Type} (o:Option α):Prop:=∃ r,o = some r
theorem Tot.pure {α:Type} (x:α):Tot (some x):=⟨x,rfl⟩
theorem Tot.bind {α β:Type} {o:Option α} {f:α → Option β} (h:Tot o) (g : ∀ x,o = some x → Tot (f x)):Tot (o.bind f):=by
 obtain ⟨x,hx⟩:=h
 rw [hx]; exact g x hx
theorem Tot.ite {α:Type} {c:Prop} [Decidable c] {x y:Option α} (h:c → Tot x) (g : ¬c → Tot y):Tot (if c then x else y):=by
 split
 ·exact h ‹_›
 ·exact g ‹_›
theorem rk {σ ρ:Type} {body:σ → Option (aN σ ρ)} (idx:σ → Int) (I:σ → Prop) (N:Nat)
  (step : ∀ s i, idx s = ((i : Nat) : Int) → i < N → I s → (∃ s', body s = some (.go s') ∧ idx s' = ((i + 1 : Nat) : Int) ∧ I s') ∨ ∃ f, body s = some f ∧ f.ends)
  (done : ∀ s,idx s = ((N:Nat):Int) → I s → ∃ f,body s = some f∧f.ends) (s0:σ) (h0:idx s0 = 0) (hI:I s0) {fuel:Nat} (hf:N < fuel) : ∃ f,ah body fuel s0 = some f∧f.ends:=by
 obtain ⟨f,h1,h2,_⟩:=aG (body:=body) (fun i s=>idx s = ((i:Nat):Int)∧I s) N (fun _=>True)
  (fun i s hi hs => (step s i hs.1 hi hs.2).imp (fun ⟨s', a, b, c⟩ => ⟨s', a, b, c⟩) fun ⟨f, a, b⟩ => ⟨f, a, b, trivial⟩)
  (fun s hs=>let ⟨f,a,b⟩:=done s hs.1 hs.2; ⟨f,a,b,trivial⟩) s0 ⟨h0,hI⟩ fuel hf
 exact ⟨f,h1,h2⟩
theorem Tot.loop {σ ρ τ:Type} {o:Option (aN σ ρ)} {f:aN σ ρ → Option τ} (h : ∃ x,o = some x∧x.ends) (g : ∀ x,x.ends → Tot (f x)):Tot (o.bind f):=by
 obtain ⟨x,hx,he⟩:=h
 rw [hx]; exact g x he

theorem eJ {body:Int → Option (aN Int Bool)} {id:Nat} (N:Nat) (Q:Nat → Prop) (hN:N ≤ 1000000000)
  (step : ∀ i:Nat,i < N → (∀ m,m < i → Q m) → (Q i∧body (i:Int) = (aD (i:Int) 1).bind fun x=>some (.go x)) ∨ (¬ Q i∧body (i:Int) = some (.ret false)))
  (done:body (N:Int) = some (.ex id (N:Int))) {fuel:Nat} (hf:N < fuel) :
  ((∀ m,m < N → Q m)∧ah body fuel 0 = some (.ex id (N:Int))) ∨ ((∃ m,m < N∧¬ Q m)∧ah body fuel 0 = some (.ret false)):=by
 obtain ⟨f,h1,h2,h3⟩:=aG (body:=body) (fun i s=>s = ((i:Nat):Int)∧∀ m,m < i → Q m) N
  (fun f=>((∀ m,m < N → Q m)∧f = .ex id (N:Int)) ∨ ((∃ m,m < N∧¬ Q m)∧f = .ret false)) (fun i s hi ⟨hs,hI⟩=>by
   subst hs
   rcases step i hi hI with ⟨hq,hb⟩ | ⟨hq,hb⟩
   ·rw [ag (by omega)] at hb
    refine .inl ⟨_,hb,rfl,fun m hm=>?_⟩
    by_cases e:m = i
    ·subst e; exact hq
    ·exact hI m (by omega)
   ·exact .inr ⟨_,hb,trivial,.inr ⟨⟨i,hi,hq⟩,rfl⟩⟩) (fun s ⟨hs,hI⟩=>by
   subst hs
   exact ⟨_,done,trivial,.inl ⟨hI,rfl⟩⟩) 0 ⟨rfl,fun m h=>by omega⟩ fuel hf
 rcases h3 with ⟨h3,rfl⟩ | ⟨h3,rfl⟩
 ·exact .inl ⟨h3,h1⟩
 ·exact .inr ⟨h3,h1⟩
end Go.Proofs.YtegglcdhfnjhcaaGreat

namespace Go.Proofs.YtegglcdhfnjhcaaGreat
open Go.Gb

theorem uQ {α:Type} {n:Nat} {z:α} (h:n ≤ 1000000):xK (n:Int) z = some (List.replicate n z):=by
 unfold xK
 rw [if_pos (by constructor <;> omega)]
 simp
theorem lK {i n:Nat} (h0:0 < n):nm (i:Int) (n:Int) = some ((i % n:Nat):Int):=by
 unfold nm
 rw [if_pos (by omega)]
 congr 1
theorem uX {p:List aT} (h:p.length ≤ 60) : ∃ l,dD p = some l∧l.length = p.length:=by
 unfold dD
 rw [uQ (by omega),qb]
 obtain ⟨f,h1,h2,h3⟩:=aG (body:=cS p) (fun i s=>s.2 = ((i:Nat):Int)∧s.1.length = p.length) p.length
  (fun f=>match f with | .ex _ s=>s.1.length = p.length | _=>False) (fun i s hi ⟨hs,hl⟩=>by
   obtain ⟨l,j⟩:=s
   dsimp only at hs hl
   subst hs
   unfold cS
   dsimp only
   have hm:(i + 1) % p.length < p.length:=Nat.mod_lt _ (by omega)
   rw [if_pos (by simpa using hi),ae hi,qb,ag (by omega),qb,lK (by omega),qb,ae hm,qb,ae (by omega),qb,qb,qb]
   exact .inl ⟨_,rfl,rfl,by simpa using hl⟩) (fun s ⟨hs,hl⟩=>by
   unfold cS
   rw [hs,if_neg (by simp)]
   exact ⟨_,rfl,trivial,hl⟩) (List.replicate p.length ⟨⟨0,0⟩,⟨0,0⟩⟩,0) ⟨rfl,by simp⟩ (p.length + 1) (by omega)
 rw [h1,qb]
 cases f with
 | go _=>exact h2.elim
 | ret _=>exact h3.elim
 | ex _ s=>exact ⟨_,rfl,h3⟩
theorem tc (a b:Int):Tot (cq a b):=by
 unfold cq cmp_isNaN_int
 rw [qb,qb]
 exact Tot.ite (fun _=>Tot.ite (fun _=>Tot.pure _) fun _=>Tot.pure _) fun _=>Tot.ite (fun _=>Tot.pure _) fun _=>Tot.ite (fun _=>Tot.pure _) fun _=>Tot.ite (fun _=>Tot.pure _) fun _=>Tot.pure _
theorem IN {l:List Int} (h:l.length ≤ 100):Tot (kR l):=by
 unfold kR
 refine Tot.loop (rk (fun s=>s) (fun _=>True) l.length ?_ ?_ 0 rfl trivial (by omega)) ?_
 ·intro s i hs hi _
  subst hs
  unfold gK
  rw [if_pos (by simpa using hi),ae hi,qb]
  split
  ·exact .inr ⟨_,rfl,trivial⟩
  ·rw [ag (by omega)]
   exact .inl ⟨_,rfl,rfl,trivial⟩
 ·intro s hs _
  subst hs
  unfold gK
  rw [if_neg (by simp)]
  exact ⟨_,rfl,trivial⟩
 ·intro x hx
  cases x with
  | go _=>exact hx.elim
  | ex _ _=>exact Tot.pure _
  | ret _=>exact Tot.pure _
theorem ye (a b:aT):Tot (dg a b):=by
 unfold dg
 exact Tot.bind (tc _ _) fun _ _=>Tot.bind (tc _ _) fun _ _=>Tot.bind (IN (by simp)) fun _ _=>Tot.pure _
theorem zB {p:List aT} {l:List bj} (h:p.length ≤ 60) (hl:l.length = p.length) : ∃ f,ah (bQ p l) (l.length + 1) 0 = some f∧f.ends:=by
 refine rk (fun s=>s) (fun _=>True) l.length ?_ ?_ 0 rfl trivial (by omega)
 ·intro s i hs hi _
  subst hs
  unfold bQ
  have hm:(i + 1) % l.length < l.length:=Nat.mod_lt _ (by omega)
  rw [if_pos (by simpa using hi),ae hi,qb,ag (by omega),qb,lK (by omega),qb,ae hm,qb]
  unfold kB bp
  rw [qb]
  obtain ⟨c,hc⟩:Tot (if ((!((((decide (0 ≤ l[i].a.X)) && (decide (l[i].a.X ≤ 1048576))) && (decide (0 ≤ l[i].a.Y))) && (decide (l[i].a.Y ≤ 1048576)))) || ((l[i].a.X == l[i].b.X) == (l[i].a.Y == l[i].b.Y))) = true then some true else
    (some (l[i].a.X == l[i].b.X)).bind fun x=>(some (l[(i + 1) % l.length].a.X == l[(i + 1) % l.length].b.X)).bind fun y=>some (x == y)):=Tot.ite (fun _=>Tot.pure _) fun _=>Tot.pure _
  rw [hc,qb]
  split
  ·exact .inr ⟨_,rfl,trivial⟩
  ·obtain ⟨e, he⟩ : Tot (if (decide ((0 : Int) < (i : Int))) = true then (au p 0).bind fun x => (au p (i : Int)).bind fun y => (dg x y).bind fun z => some (decide (0 ≤ z)) else some false) := by
    refine Tot.ite (fun _=>?_) fun _=>Tot.pure _
    rw [show (0:Int) = ((0:Nat):Int) from rfl,ae (by omega),qb,ae (by omega),qb]
    exact Tot.bind (ye _ _) fun _ _=>Tot.pure _
   rw [he,qb]
   split
   ·exact .inr ⟨_,rfl,trivial⟩
   ·rw [qb]
    exact .inl ⟨_,rfl,rfl,trivial⟩
 ·intro s hs _
  subst hs
  unfold bQ
  rw [if_neg (by simp)]
  exact ⟨_,rfl,trivial⟩
theorem Af {l:List bj} {i:Nat} (h:l.length ≤ 60) (hi:i < l.length) : ∃ f,ah (bh l (i:Int)) (l.length + 1) ((i + 2:Nat):Int) = some f∧f.ends:=by
 by_cases hb:l.length ≤ i + 2
 ·refine ⟨.ex 4 ((i + 2 : Nat) : Int), ?_, trivial⟩
  have e:bh l (i:Int) ((i + 2:Nat):Int) = some (.ex 4 ((i + 2:Nat):Int)):=by
   unfold bh
   rw [if_neg (by simp; omega)]
  simp only [ah,e,qb]
 ·obtain ⟨f, h1, h2, _⟩ := aG (body := bh l (i : Int)) (fun m s => s = ((i + 2 + m : Nat) : Int)) (l.length - (i + 2)) (fun _ => True) (fun m s hm hs => by
   subst hs
   unfold bh
   rw [if_pos (by simp; omega),aZ (by constructor <;> omega),qb,ba (by constructor <;> omega),qb,ae hi,qb,ae (by omega),qb]
   unfold ig
   rw [qb]
   obtain ⟨c,hc⟩:Tot (if (decide ((1:Int) < (i:Int) + (l.length:Int) - ((i + 2 + m:Nat):Int))) = true then some ((decide ((max (min l[i].a.X l[i].b.X) (min (l[i + 2 + m]'(by omega)).a.X (l[i + 2 + m]'(by omega)).b.X)) ≤ (min (max l[i].a.X l[i].b.X) (max (l[i + 2 + m]'(by omega)).a.X (l[i + 2 + m]'(by omega)).b.X)))) && (decide ((max (min l[i].a.Y l[i].b.Y) (min (l[i + 2 + m]'(by omega)).a.Y (l[i + 2 + m]'(by omega)).b.Y)) ≤ (min (max l[i].a.Y l[i].b.Y) (max (l[i + 2 + m]'(by omega)).a.Y (l[i + 2 + m]'(by omega)).b.Y))))) else some false):=Tot.ite (fun _=>Tot.pure _) fun _=>Tot.pure _
   rw [hc,qb]
   split
   ·exact .inr ⟨_,rfl,trivial,trivial⟩
   ·rw [ag (by omega)]
    exact .inl ⟨_,rfl,by congr 1⟩) (fun s hs=>by
   subst hs
   unfold bh
   rw [if_neg (by simp; omega)]
   exact ⟨_,rfl,trivial,trivial⟩) ((i + 2:Nat):Int) (by simp) (l.length + 1) (by omega)
  exact ⟨f,h1,h2⟩
theorem BM {p:List aT}:Tot (fu p):=by
 unfold fu
 refine Tot.ite (fun _=>Tot.pure _) fun h=>?_
 simp at h
 have h60:p.length ≤ 60:=by omega
 have h4:4 ≤ p.length:=by omega
 obtain ⟨l,hl,hll⟩:=uX h60
 rw [hl,qb]
 refine Tot.loop (zB h60 hll) fun x hx=>?_
 cases x with
 | go _=>exact hx.elim
 | ret _=>exact Tot.pure _
 | ex _ _ =>
  refine Tot.loop (rk (fun s=>s) (fun _=>True) l.length ?_ ?_ 0 rfl trivial (by omega)) fun x hx=>?_
  ·intro s i hs hi _
   subst hs
   unfold ef
   rw [if_pos (by simpa using hi),aZ (by constructor <;> omega),qb]
   obtain ⟨f,hf,he⟩:=Af (by omega) hi
   rw [show ((i:Int) + 2) = ((i + 2:Nat):Int) by push_cast; rfl,hf,qb]
   cases f with
   | go _=>exact he.elim
   | ret _=>exact .inr ⟨_,rfl,trivial⟩
   | ex _ _ =>
    dsimp only
    rw [ag (by omega)]
    exact .inl ⟨_,rfl,rfl,trivial⟩
  ·intro s hs _
   subst hs
   unfold ef
   rw [if_neg (by simp)]
   exact ⟨_,rfl,trivial⟩
  ·cases x with
   | go _=>exact hx.elim
   | ret _=>exact Tot.pure _
   | ex _ _ =>
    rw [show (0:Int) = ((0:Nat):Int) from rfl,ae (by omega),qb]
    unfold bp
    exact Tot.pure _
theorem zZ {xs:List Int} {l:List bj} {s:List aw × Int} {m:Nat} (hl:l.length ≤ 60) (hm:s.2 = (m:Int)) (hx:m < xs.length) : ∃ f,ah (bS xs l s) (l.length + 1) (([]:List Int),0) = some f∧f.ends∧(match f with | .ex _ t=>t.1.length ≤ 60 | .go _=>False | .ret _=>False):=by
 refine aG (body:=bS xs l s) (fun i t=>t.2 = ((i:Nat):Int)∧t.1.length ≤ i) l.length _ (fun i t hi ⟨ht,hI⟩=>?_) (fun t ⟨ht,hI⟩=>?_) _ ⟨rfl,by simp⟩ _ (by omega)
 ·unfold bS
  rw [ht,hm,if_pos (by simpa using hi),ae hi,qb]
  unfold bp
  rw [qb,ae hx]
  obtain ⟨c,hc⟩:Tot (if (!(l[i].a.X == l[i].b.X)) = true then (some xs[m]).bind fun y=>some (decide ((min l[i].a.X l[i].b.X) ≤ y)) else some false):=Tot.ite (fun _=>Tot.pure _) fun _=>Tot.pure _
  rw [hc,qb]
  obtain ⟨d,hd⟩:Tot (if c = true then (some xs[m]).bind fun y=>some (decide (y < (max l[i].a.X l[i].b.X))) else some false):=Tot.ite (fun _=>Tot.pure _) fun _=>Tot.pure _
  rw [hd,qb]
  cases d with
  | true =>
   rw [if_pos rfl,aF (by simp; omega),qb,qb,ag (by omega)]
   exact .inl ⟨_,rfl,rfl,by simp; omega⟩
  | false =>
   rw [if_neg (by simp),qb,ag (by omega)]
   exact .inl ⟨_,rfl,rfl,by show t.1.length ≤ _; omega⟩
 ·unfold bS
  rw [ht,if_neg (by simp)]
  exact ⟨_,rfl,trivial,by show t.1.length ≤ 60; omega⟩
theorem zJ {xs ys:List Int} {s:List aw × Int} {m fuel:Nat} (hm:s.2 = (m:Int)) (hx:m + 1 < xs.length) (hl:ys.length ≤ 60) (hs:s.1.length ≤ 60 * m) (hm60:m ≤ 60) (hf:ys.length < fuel) :
  ∃ f,ah (bG xs s ys) fuel (s.1,0) = some f∧f.ends∧(match f with | .ex _ t=>t.1.length ≤ 60 * (m + 1) | .go _=>False | .ret _=>False):=by
 refine aG (body:=bG xs s ys) (fun i t=>t.2 = ((2 * i:Nat):Int)∧t.1.length ≤ 60 * m + i) (ys.length / 2) _ (fun i t hi ⟨ht,hI⟩=>?_) (fun t ⟨ht,hI⟩=>?_) _ ⟨rfl,by omega⟩ _ (by omega)
 ·unfold bG
  rw [ht,aZ (by constructor <;> omega),qb,show (((2 * i:Nat):Int) + 1) = ((2 * i + 1:Nat):Int) by push_cast; rfl,if_pos (by simp; omega),hm,ae (by omega),qb,ae (by omega),qb,
   ag (by omega),qb,ae hx,qb,qb,ae (by omega),qb,aF (by simp; omega),qb,aZ (by constructor <;> omega),qb]
  exact .inl ⟨_,rfl,by push_cast; omega,by simp; omega⟩
 ·unfold bG
  rw [ht,aZ (by constructor <;> omega),qb,if_neg (by simp; omega)]
  exact ⟨_,rfl,trivial,by show t.1.length ≤ _; omega⟩
theorem Br {p:List aT} (h:p.length ≤ 12) : ∃ r,bI p = some r∧r.1.length ≤ 1000:=by
 unfold bI
 obtain ⟨b,hb⟩:=BM (p:=p)
 rw [hb,qb]
 cases b with
 | false=>rw [if_pos (by simp)]; exact ⟨_,rfl,by simp⟩
 | true =>
  rw [if_neg (by simp)]
  obtain ⟨f,h1,h2,h3⟩:=aG (body:=cw p) (fun i s=>s.2 = ((i:Nat):Int)∧s.1.length = i) p.length
   (fun f=>match f with | .ex _ s=>s.1.length = p.length | _=>False) (fun i s hi ⟨hs,hl⟩=>by
    unfold cw
    rw [hs,if_pos (by simpa using hi),ae hi,qb,aF (by simp; omega),qb,ag (by omega)]
    exact .inl ⟨_,rfl,rfl,by simp [hl]⟩) (fun s ⟨hs,hl⟩=>by
    unfold cw
    rw [hs,if_neg (by simp)]
    exact ⟨_,rfl,trivial,hl⟩) (([]:List Int),0) ⟨rfl,rfl⟩ (p.length + 1) (by omega)
  rw [h1,qb]
  cases f with
  | go _=>exact h2.elim
  | ret _=>exact h3.elim
  | ex _ s =>
   have h3:s.1.length = p.length:=h3
   dsimp only
   obtain ⟨x1,g1,g2,g3⟩:=iP (l:=s.1) (by omega)
   have g2l:=g2.length_eq
   obtain ⟨x2,k1,_,_,k4⟩:=k8 (l:=x1) (by omega) g3
   rw [g1,qb,k1,qb]
   obtain ⟨l,hl,hll⟩:=uX (p:=p) (by omega)
   rw [hl,qb,ba (by constructor <;> omega),qb]
   obtain ⟨f,e1,e2,e3⟩:=aG (body:=bu x2 l ((x2.length:Int) - 1)) (fun i t=>t.2 = ((i:Nat):Int)∧t.1.length ≤ 60 * i) (x2.length - 1)
    (fun f=>match f with | .ex _ t=>t.1.length ≤ 1000 | _=>False) (fun i t hi ⟨ht,hI⟩=>by
     unfold bu
     rw [if_pos (by rw [ht]; simp; omega)]
     obtain ⟨f2,a1,a2,a3⟩:=zZ (xs:=x2) (l:=l) (s:=t) (by omega) ht (by omega)
     rw [a1,qb]
     cases f2 with
     | go _=>exact a2.elim
     | ret _=>exact a3.elim
     | ex _ t2 =>
      have a3:t2.1.length ≤ 60:=a3
      dsimp only
      obtain ⟨ys,b1,b2,b3⟩:=iP (l:=t2.1) (by omega)
      have b2l:=b2.length_eq
      rw [b1,qb]
      obtain ⟨f3,c1,c2,c3⟩:=zJ (xs:=x2) (ys:=ys) (s:=t) (fuel:=x2.length + l.length + t.1.length + ys.length + 1) ht (by omega) (by omega) hI (by omega) (by omega)
      rw [c1,qb]
      cases f3 with
      | go _=>exact c2.elim
      | ret _=>exact c3.elim
      | ex _ t3 =>
       dsimp only
       rw [ht,ag (by omega)]
       exact .inl ⟨_,rfl,rfl,c3⟩) (fun t ⟨ht,hI⟩=>by
     unfold bu
     rw [if_neg (by rw [ht]; simp; omega)]
     exact ⟨_,rfl,trivial,by show t.1.length ≤ 1000; omega⟩) (([]:List aw),0) ⟨rfl,by simp⟩ (((x2.length:Int) - 1).toNat + 1) (by omega)
   rw [e1,qb]
   cases f with
   | go _=>exact e2.elim
   | ret _=>exact e3.elim
   | ex _ t =>
    have e3:t.1.length ≤ 1000:=e3
    dsimp only
    split
    ·exact ⟨_,rfl,by simp⟩
    ·exact ⟨_,rfl,e3⟩
end Go.Proofs.YtegglcdhfnjhcaaGreat

namespace Go.Proofs.YtegglcdhfnjhcaaGreat
open Go.Gb

def lmd (n:Int):Int:=min (max n (-1099511627776)) 1099511627776
theorem Fc (n:Int):lO n = some (lmd n):=rfl
theorem sY (n:Int) : -1099511627776 ≤ lmd n∧lmd n ≤ 1099511627776:=by unfold lmd; omega
def nmd:List Entry → Cap → Int
 | [],_=>0
 | e::l,c=>(if e.Name = c.Name then lmd e.N else 0) + nmd l c
theorem ui (c:Cap) : ∀ (l m:List Entry),nmd (l ++ m) c = nmd l c + nmd m c
 | [],m=>by simp [nmd]
 | e::l,m=>by simp only [List.cons_append,nmd,ui c l m]; omega
theorem o6 (c:Cap) : ∀ l:List Entry,-(1099511627776 * (l.length:Int)) ≤ nmd l c∧nmd l c ≤ 1099511627776 * (l.length:Int)
 | []=>by simp [nmd]
 | e :: l => by
  have ih:=o6 c l
  have hb:=sY e.N
  simp only [nmd,List.length_cons]
  push_cast
  split <;> omega
theorem Ao {l:List Entry} {c:Cap} (h:l.length ≤ 1000):og l c = some (nmd l c):=by
 obtain ⟨f,h1,h2,h3⟩:=aG (body:=mD l c) (fun i s=>s.2 = ((i:Nat):Int)∧s.1 = nmd (l.take i) c) l.length
  (fun f=>match f with | .ex _ s=>s.1 = nmd l c | _=>False) (fun i s hi ⟨hs,hI⟩=>by
   unfold mD
   have hb:=o6 c (l.take i)
   have hlt:(l.take i).length ≤ 1000:=by simp; omega
   have hl:=sY l[i].N
   rw [hs,if_pos (by simpa using hi),ae hi,qb,← beq_toListBytes,qA]
   have hst:nmd (l.take (i + 1)) c = nmd (l.take i) c + (if l[i].Name = c.Name then lmd l[i].N else 0):=by
    rw [List.take_succ_eq_append_getElem hi,ui]; simp [nmd]
   by_cases hn:l[i].Name = c.Name
   ·rw [if_pos (by simpa using hn), Fc, qb, hI, aZ (by constructor <;> omega), qb, qb, ag (by omega)]
    exact .inl ⟨_,rfl,rfl,by rw [hst,if_pos hn]⟩
   ·rw [if_neg (by simpa using hn), qb, ag (by omega)]
    exact .inl ⟨_,rfl,rfl,by rw [hst,if_neg hn]; show s.1 = _; omega⟩) (fun s ⟨hs,hI⟩=>by
   unfold mD
   rw [hs,if_neg (by simp)]
   rw [List.take_length] at hI
   exact ⟨_,rfl,trivial,hI⟩) (0,0) ⟨rfl,by simp [nmd]⟩ (l.length + 1) (by omega)
 unfold og
 rw [h1,qb]
 cases f with
 | go _=>exact h2.elim
 | ret _=>exact h3.elim
 | ex _ s=>dsimp only at h3 ⊢; rw [h3]
theorem EU {v:af} : ∃ b,bP v = some b∧(b = true → VR v.Box.Base∧0 ≤ v.Box.Z0∧v.Box.Z0 < v.Box.Z1∧v.Box.Z1 ≤ 4096∧0 ≤ v.Use∧v.Use ≤ 5∧0 ≤ v.Units∧v.Units ≤ 1048576):=by
 unfold bP
 rw [bJ,qb]
 split
 ·exact ⟨_,rfl,fun h=>by simp at h⟩
 ·rename_i h
  simp at h
  split
  ·exact ⟨_,rfl,fun h=>by simp at h⟩
  ·refine ⟨_, rfl, fun g => ?_⟩
   simp at g
   exact ⟨h.1.1.1,by omega,by omega,by omega,by omega,by omega,by omega,by omega⟩
def gb (p:an):Prop:=p.Tables.length ≤ 5∧∀ t ∈ p.Tables,t.Rows.length ≤ 10
theorem B0 {s:List Entry} {f:Entry → Option Bool} (hl:s.length ≤ 1000000) (hf : ∀ x,Tot (f x)) : ∃ r,cr s f = some r∧(0 ≤ r → r < (s.length:Int)):=by
 obtain ⟨g,k1,k2,k3⟩:=aG (body:=bF s f) (fun j t=>t = ((j:Nat):Int)) s.length (fun g=>match g with | .ex _ _=>True | .ret r=>0 ≤ r∧r < (s.length:Int) | .go _=>False) (fun j t hj ht=>by
  subst ht
  unfold bF
  obtain ⟨b,hb⟩:=hf s[j]
  rw [if_pos (by simpa using hj),ae hj,qb,hb,qb]
  cases b with
  | true=>exact .inr ⟨_,rfl,trivial,by show (0:Int) ≤ j; omega,by show (j:Int) < _; omega⟩
  | false=>rw [if_neg (by simp),ag (by omega)]; exact .inl ⟨_,rfl,rfl⟩) (fun t ht=>by
  subst ht
  unfold bF
  rw [if_neg (by simp)]
  exact ⟨_,rfl,trivial,trivial⟩) 0 rfl (s.length + 1) (by omega)
 unfold cr
 rw [k1,qb]
 cases g with
 | go _=>exact k2.elim
 | ex _ _=>exact ⟨_,rfl,fun h=>by omega⟩
 | ret r=>exact ⟨_,rfl,fun _=>k3.2⟩
theorem Ev {e:Entry} {q:ByteArray × ByteArray × ByteArray × ByteArray × ByteArray × ByteArray} {u:Int} (h0:0 ≤ u) (h5:u ≤ 5):Tot (gN e q u):=by
 unfold gN
 rw [sH h0 (by simp; omega)]
 exact Tot.pure _
theorem Ch {p:an} {u:Int} (hp:gb p) (h0:0 ≤ u) (h5:u ≤ 5) : ∃ n,jI p u = some n∧0 ≤ n∧n ≤ 1048576:=by
 have hl4:=hp.1
 obtain ⟨f,h1,h2,h3⟩:=aG (body:=bY p u) (fun i s=>s = ((i:Nat):Int)) p.Tables.length
  (fun f=>match f with | .ex _ _=>True | .ret n=>0 ≤ n∧n ≤ 1048576 | .go _=>False) (fun i s hi hs=>by
   subst hs
   unfold bY
   rw [if_pos (by simpa using hi),ae hi,qb]
   split
   ·rw [ag (by omega)]; exact .inl ⟨_,rfl,rfl⟩
   ·have hr8 := hp.2 _ (List.getElem_mem hi)
    obtain ⟨r,hr,hrl⟩:=B0 (s:=p.Tables[i].Rows) (f:=fun y0=>gN y0 (((⟨#[104,111,109,101]⟩:ByteArray),(⟨#[115,104,111,112]⟩:ByteArray),(⟨#[119,111,114,107]⟩:ByteArray),(⟨#[112,97,114,107]⟩:ByteArray),(⟨#[112,108,97,110,116]⟩:ByteArray),(⟨#[104,97,108,108]⟩:ByteArray)):(ByteArray × ByteArray × ByteArray × ByteArray × ByteArray × ByteArray)) u) (by omega) fun x=>Ev h0 h5
    rw [hr,qb]
    obtain ⟨m,hm⟩:Tot (if (decide (0 ≤ r)) = true then (au p.Tables[i].Rows r).bind fun x=>some x.N else some p.Tables[i].Else):=by
     refine Tot.ite (fun h=>?_) fun _=>Tot.pure _
     have h:=of_decide_eq_true h
     rw [sH h (hrl h)]
     exact Tot.pure _
    rw [hm,qb]
    exact .inr ⟨_,rfl,trivial,by show (0:Int) ≤ max 0 (min m 1048576); omega,by show max 0 (min m 1048576) ≤ 1048576; omega⟩) (fun s hs=>by
   subst hs
   unfold bY
   rw [if_neg (by simp)]
   exact ⟨_,rfl,trivial,trivial⟩) 0 rfl (p.Tables.length + 1) (by omega)
 unfold jI
 rw [h1,qb]
 cases f with
 | go _=>exact h2.elim
 | ex _ _=>exact ⟨_,rfl,by omega,by omega⟩
 | ret n=>exact ⟨_,rfl,h3.1,h3.2⟩
theorem As {r:aw} (h:VR r) : ∃ n,kV r = some n∧0 ≤ n∧n ≤ 1099511627776:=by
 unfold kV eV
 have hv:=h
 unfold VR at hv
 rw [bJ,qb,decide_eq_true h,if_pos rfl,qb]
 dsimp only
 rw [ba (by constructor <;> omega),qb,ba (by constructor <;> omega),qb]
 have h1:0 ≤ (r.X1 - r.X0) * (r.Y1 - r.Y0):=Int.mul_nonneg (by omega) (by omega)
 have h2:(r.X1 - r.X0) * (r.Y1 - r.Y0) ≤ 1048576 * 1048576:=Int.mul_le_mul (by omega) (by omega) (by omega) (by omega)
 rw [gJ (by constructor <;> omega),qb]
 exact ⟨_,rfl,h1,by omega⟩
theorem wZ (v:af) : ∃ n,gL v = some n∧0 ≤ n∧n ≤ 2251799813685248:=by
 unfold gL
 obtain ⟨b,hb,hbs⟩:=EU (v:=v)
 rw [hb,qb]
 cases b with
 | false=>rw [if_pos (by simp)]; exact ⟨_,rfl,by omega,by omega⟩
 | true =>
  obtain ⟨hV,h1,h2,h3,_⟩:=hbs rfl
  rw [if_neg (by simp)]
  obtain ⟨a,ha,ha0,ha1⟩:=As hV
  rw [ha,qb]
  obtain ⟨s,hs,hs0,hs1⟩ : ∃ s,eP v = some s∧0 ≤ s∧s ≤ 2048:=by
   unfold eP
   rw [hb]
   cases v.Extra with
   | true=>rw [if_pos rfl,qb,if_pos rfl]; exact ⟨_,rfl,by omega,by omega⟩
   | false =>
    rw [if_neg (by simp),qb,qb,if_neg (by simp),ba (by constructor <;> omega),qb,aZ (by constructor <;> omega),qb,ba (by constructor <;> omega),qb]
    have hq:(v.Box.Z1 - v.Box.Z0 + 3 - 1).tdiv 3 = (v.Box.Z1 - v.Box.Z0 + 3 - 1) / 3:=Int.tdiv_eq_ediv_of_nonneg (by omega)
    unfold qJ
    rw [if_pos ⟨by omega,by rw [hq]; constructor <;> omega⟩,qb]
    exact ⟨_,rfl,by rw [hq]; omega,by rw [hq]; omega⟩
  rw [hs,qb]
  have g1:0 ≤ a * s:=Int.mul_nonneg ha0 hs0
  have g2:a * s ≤ 1099511627776 * 2048:=Int.mul_le_mul ha1 hs1 hs0 (by omega)
  rw [gJ (by constructor <;> omega),qb]
  exact ⟨_,rfl,g1,by omega⟩
theorem zO {p:an} {v:af} (hp:gb p) (h0:0 ≤ v.Use) (h5:v.Use ≤ 5) : ∃ n,eE p v = some n∧0 ≤ n∧n ≤ 1099511627776:=by
 unfold eE
 obtain ⟨r,hr,hr0,hr1⟩:=Ch hp h0 h5
 obtain ⟨f,hf,hf0,hf1⟩:=wZ v
 rw [hr,qb,hf,qb]
 by_cases hz:0 < r
 ·have hq : (109951162777600 : Int).tdiv r = 109951162777600 / r := Int.tdiv_eq_ediv_of_nonneg (by omega)
  have hq0:0 ≤ 109951162777600 / r:=Int.ediv_nonneg (by omega) (by omega)
  have hq1:109951162777600 / r ≤ 109951162777600:=Int.ediv_le_self _ (by omega)
  rw [if_pos (by simpa using hz)]
  unfold qJ
  rw [if_pos ⟨by omega,by rw [hq]; constructor <;> omega⟩,qb,qb,hq]
  by_cases hc:109951162777600 / r < f
  ·rw [if_pos (by simpa using hc)]
   exact ⟨_,rfl,by omega,by omega⟩
  ·rw [if_neg (by simpa using hc)]
   have g0:0 ≤ r * f:=Int.mul_nonneg (by omega) hf0
   have g1:r * f ≤ r * (109951162777600 / r):=Int.mul_le_mul_of_nonneg_left (by omega) (by omega)
   have g2:r * (109951162777600 / r) ≤ 109951162777600:=Int.mul_ediv_self_le (by omega)
   rw [gJ (by constructor <;> omega),qb,aZ (by constructor <;> omega),qb,ba (by constructor <;> omega),qb]
   have hq2:(r * f + 100 - 1).tdiv 100 = (r * f + 100 - 1) / 100:=Int.tdiv_eq_ediv_of_nonneg (by omega)
   rw [if_pos ⟨by omega,by rw [hq2]; constructor <;> omega⟩,qb]
   exact ⟨_,rfl,by rw [hq2]; omega,by rw [hq2]; omega⟩
 ·obtain rfl : r = 0 := by omega
  rw [if_neg (by simp),qb,if_neg (by simp),gJ (by rw [Int.zero_mul]; constructor <;> omega),qb,Int.zero_mul,aZ (by constructor <;> omega),qb,ba (by constructor <;> omega),qb]
  exact ⟨_,rfl,by decide,by decide⟩
theorem nQ {s:List aw} {f:aw → Option Bool} (hl:s.length ≤ 1000000) (hf : ∀ x,Tot (f x)):Tot (aX s f):=by
 unfold aX
 refine Tot.bind ?_ fun _ _=>Tot.pure _
 unfold ez
 refine Tot.loop (rk (fun s=>s) (fun _=>True) s.length ?_ ?_ 0 rfl trivial (by omega)) ?_
 ·intro i n hi hn _
  subst hi
  unfold cc
  obtain ⟨b,hb⟩:=hf s[n]
  rw [if_pos (by simpa using hn),ae hn]
  simp only [qb,hb]
  cases b with
  | true=>exact .inr ⟨_,rfl,trivial⟩
  | false =>
   rw [if_neg (by simp),ag (by omega)]
   exact .inl ⟨_,rfl,rfl,trivial⟩
 ·intro i hi _
  subst hi
  unfold cc
  rw [if_neg (by simp)]
  exact ⟨_,rfl,trivial⟩
 ·intro x hx
  cases x with
  | go _=>exact hx.elim
  | ex _ _=>exact Tot.pure _
  | ret _=>exact Tot.pure _
theorem ql (a b:aw):Tot (cj a b):=by
 unfold cj eV
 simp only [bJ,qb]
 refine Tot.bind (Tot.ite (fun _=>Tot.pure _) fun _=>Tot.pure _) fun _ _=>Tot.ite (fun _=>Tot.pure _) fun _=>Tot.bind (Tot.ite (fun _=>Tot.pure _) fun _=>Tot.pure _) fun _ _=>Tot.pure _
theorem EA {p:an} {c:Cap} {v:af} (hp:gb p) (hc:c.Corners.length ≤ 12) : ∃ n,cR p c v = some n∧0 ≤ n∧n ≤ 1099511627776:=by
 unfold cR
 obtain ⟨b,hb,hbs⟩:=EU (v:=v)
 rw [hb,qb]
 cases b with
 | false=>rw [if_pos (by simp)]; exact ⟨_,rfl,by omega,by omega⟩
 | true =>
  obtain ⟨hV,h1,h2,h3,h4,h5,h6,h7⟩:=hbs rfl
  rw [if_neg (by simp)]
  obtain ⟨r,hr,hrl⟩:=Br hc
  rw [hr,qb]
  obtain ⟨e,he⟩:Tot (if (r.2 != 0) = true then some true else (aX r.1 (fun y0=>ck y0 v)).bind fun x=>some (!x)):=by
   refine Tot.ite (fun _=>Tot.pure _) fun _=>Tot.bind (nQ (by omega) fun x=>?_) fun _ _=>Tot.pure _
   unfold ck
   exact Tot.bind (ql _ _) fun _ _=>Tot.pure _
  rw [he,qb]
  split
  ·exact ⟨_,rfl,by omega,by omega⟩
  ·split
   ·exact ⟨_,rfl,by omega,by omega⟩
   ·split
    ·obtain ⟨n, hn, hn0, hn1⟩ := zO (v := v) hp h4 h5
     rw [hn,qb]
     exact ⟨_,rfl,hn0,hn1⟩
    ·split
     ·obtain ⟨n, hn, hn0, hn1⟩ := As hV
      rw [hn,qb]
      exact ⟨_,rfl,hn0,hn1⟩
     ·exact ⟨_,rfl,by omega,by omega⟩
noncomputable def ld (p:an) (c:Cap) (v:af):Int:=(cR p c v).getD 0
theorem CY {p:an} {c:Cap} {v:af} (hp:gb p) (hc:c.Corners.length ≤ 12):cR p c v = some (ld p c v)∧0 ≤ ld p c v∧ld p c v ≤ 1099511627776:=by
 obtain ⟨n,hn,h0,h1⟩:=EA (v:=v) hp hc
 unfold ld
 rw [hn]
 exact ⟨rfl,h0,h1⟩
noncomputable def lds (p:an) (c:Cap) (l:List af):Int:=(l.map (ld p c)).sum
theorem uc (p:an) (c:Cap) (l m:List af):lds p c (l ++ m) = lds p c l + lds p c m:=by simp [lds]
theorem pX {p:an} {c:Cap} (hp:gb p) (hc:c.Corners.length ≤ 12) : ∀ l:List af,0 ≤ lds p c l∧lds p c l ≤ 1099511627776 * (l.length:Int)
 | []=>by simp [lds]
 | v :: l => by
  have ih:=pX hp hc l
  have hv:=CY (v:=v) hp hc
  have e:lds p c (v::l) = ld p c v + lds p c l:=by simp [lds]
  rw [e,List.length_cons]
  push_cast
  omega
noncomputable def loadT (t:aq) (c:Cap):Int:=nmd t.Base c + lds t.an c (t.Built.map (·.af))
noncomputable def phL (p:an) (c:Cap) (ph:Phase):Int:=-(nmd ph.bd c) + lds p c ph.Volumes
theorem qT {t:aq} {c:Cap} (hp:gb t.an) (hc:c.Corners.length ≤ 12) (hb:t.Built.length ≤ 1000) (hs:t.Base.length ≤ 1000):oE t c = some (loadT t c):=by
 unfold oE
 rw [Ao hs,qb]
 have hn:=o6 c t.Base
 obtain ⟨f,h1,h2,h3⟩:=aG (body:=nq t c) (fun i s=>s.2 = ((i:Nat):Int)∧s.1 = nmd t.Base c + lds t.an c ((t.Built.take i).map (·.af))) t.Built.length
  (fun f => match f with | .ex _ s => s.1 = loadT t c | _ => False) (fun i s hi ⟨hs', hI⟩ => by
   unfold nq
   have hv:=CY (v:=t.Built[i].af) hp hc
   have hl:=pX hp hc ((t.Built.take i).map (·.af))
   have hlen:((t.Built.take i).map (·.af)).length ≤ 1000:=by simp; omega
   rw [hs', if_pos (by simpa using hi), ae hi, qb, hv.1, qb, hI, aZ (by constructor <;> omega), qb, ag (by omega)]
   refine .inl ⟨_,rfl,rfl,?_⟩
   rw [List.take_succ_eq_append_getElem hi,List.map_append,uc]
   simp [lds]; omega) (fun s ⟨hs', hI⟩ => by
   unfold nq
   rw [hs', if_neg (by simp)]
   rw [List.take_length] at hI
   exact ⟨_,rfl,trivial,hI⟩) (nmd t.Base c,0) ⟨rfl,by simp [lds]⟩ (t.Built.length + 1) (by omega)
 rw [h1,qb]
 cases f with
 | go _=>exact h2.elim
 | ret _=>exact h3.elim
 | ex _ s=>dsimp only at h3 ⊢; rw [h3]
theorem zM {p:an} {c:Cap} {ph:Phase} (hp:gb p) (hc:c.Corners.length ≤ 12) (hb:ph.Volumes.length ≤ 1000) (hs:ph.bd.length ≤ 1000):qo p c ph = some (phL p c ph):=by
 unfold qo
 have hn:=o6 c ph.bd
 rw [Ao hs,qb,ba (by constructor <;> omega),qb]
 obtain ⟨f,h1,h2,h3⟩:=aG (body:=mE p c ph) (fun i s=>s.2 = ((i:Nat):Int)∧s.1 = -(nmd ph.bd c) + lds p c (ph.Volumes.take i)) ph.Volumes.length
  (fun f => match f with | .ex _ s => s.1 = phL p c ph | _ => False) (fun i s hi ⟨hs', hI⟩ => by
   unfold mE
   have hv:=CY (v:=ph.Volumes[i]) hp hc
   have hl:=pX hp hc (ph.Volumes.take i)
   have hlen:(ph.Volumes.take i).length ≤ 1000:=by simp; omega
   rw [hs', if_pos (by simpa using hi), ae hi, qb, hv.1, qb, hI, aZ (by constructor <;> omega), qb, ag (by omega)]
   refine .inl ⟨_,rfl,rfl,?_⟩
   rw [List.take_succ_eq_append_getElem hi,uc]
   simp [lds]; omega) (fun s ⟨hs', hI⟩ => by
   unfold mE
   rw [hs', if_neg (by simp)]
   rw [List.take_length] at hI
   exact ⟨_,rfl,trivial,hI⟩) (0 - nmd ph.bd c,0) ⟨rfl,by simp [lds]⟩ (ph.Volumes.length + 1) (by omega)
 rw [h1,qb]
 cases f with
 | go _=>exact h2.elim
 | ret _=>exact h3.elim
 | ex _ s=>dsimp only at h3 ⊢; rw [h3]
end Go.Proofs.YtegglcdhfnjhcaaGreat

namespace Go.Proofs.YtegglcdhfnjhcaaGreat
open Go.Gb

def after (t:aq) (lot:Int) (ph:Phase):aq:=
 { t with Built:=t.Built ++ ph.Volumes.map (fun v=>(⟨lot,v⟩:bf)),Base:=t.Base ++ ph.bd.map (fun g=>(⟨g.Name,-(lmd g.N)⟩:Entry)) }
theorem cZ {α:Type} {s:List α} (h:s.length ≤ 1000000):cg [] s = some s:=by
 rw [aF (by simp; omega),List.nil_append]
theorem uy {t:aq} {lot:Int} {ph:Phase} (hb:t.Built.length + ph.Volumes.length ≤ 1000) (hs:t.Base.length + ph.bd.length ≤ 1000):eX t lot ph = some (after t lot ph):=by
 unfold eX bD bq
 rw [cZ (by omega),qb,qb,cZ (by omega),qb,qb]
 obtain ⟨f,h1,h2,h3⟩:=aG (body:=gw lot ph) (fun i s=>s.2 = ((i:Nat):Int)∧s.1 = { t with Built:=t.Built ++ (ph.Volumes.take i).map (fun v=>(⟨lot,v⟩:bf)) }) ph.Volumes.length
  (fun f => match f with | .ex _ s => s.1 = { t with Built := t.Built ++ ph.Volumes.map (fun v => (⟨lot, v⟩ : bf)) } | _ => False) (fun i s hi ⟨hs', hI⟩ => by
   unfold gw
   rw [hs', if_pos (by simpa using hi), ae hi, qb, hI]
   dsimp only
   rw [aF (by simp; omega),qb,ag (by omega)]
   refine .inl ⟨_,rfl,rfl,?_⟩
   rw [List.take_succ_eq_append_getElem hi,List.map_append,List.append_assoc]
   rfl) (fun s ⟨hs', hI⟩ => by
   unfold gw
   rw [hs', if_neg (by simp)]
   rw [List.take_length] at hI
   exact ⟨_,rfl,trivial,hI⟩) (t,0) ⟨rfl,by simp⟩ (ph.Volumes.length + 1) (by omega)
 rw [h1,qb]
 cases f with
 | go _=>exact h2.elim
 | ret _=>exact h3.elim
 | ex _ s =>
  have h3:s.1 = { t with Built:=t.Built ++ ph.Volumes.map (fun v=>(⟨lot,v⟩:bf)) }:=h3
  dsimp only
  rw [h3]
  obtain ⟨f,g1,g2,g3⟩:=aG (body:=gy ph) (fun i s=>s.2 = ((i:Nat):Int)∧s.1 = { t with Built:=t.Built ++ ph.Volumes.map (fun v=>(⟨lot,v⟩:bf)),Base:=t.Base ++ (ph.bd.take i).map (fun g=>(⟨g.Name,-(lmd g.N)⟩:Entry)) }) ph.bd.length
   (fun f => match f with | .ex _ s => s.1 = after t lot ph | _ => False) (fun i s hi ⟨hs', hI⟩ => by
    unfold gy
    have hb:=sY ph.bd[i].N
    rw [hs', if_pos (by simpa using hi), ae hi, qb, Fc, qb, ba (by constructor <;> omega), qb, hI]
    dsimp only
    rw [aF (by simp; omega),qb,ag (by omega)]
    refine .inl ⟨_,rfl,rfl,?_⟩
    rw [List.take_succ_eq_append_getElem hi,List.map_append,List.append_assoc,Int.zero_sub]
    rfl) (fun s ⟨hs', hI⟩ => by
    unfold gy
    rw [hs', if_neg (by simp)]
    rw [List.take_length] at hI
    exact ⟨_,rfl,trivial,hI⟩) ({ t with Built:=t.Built ++ ph.Volumes.map (fun v=>(⟨lot,v⟩:bf)) },0) ⟨rfl,by simp⟩ (ph.bd.length + 1) (by omega)
  rw [g1,qb]
  cases f with
  | go _=>exact g2.elim
  | ret _=>exact g3.elim
  | ex _ s=>dsimp only at g3 ⊢; rw [g3]
def PhS (ph:Phase):Prop:=ph.Volumes.length ≤ 2∧ph.bd.length ≤ 3
def RtS (r:ax):Prop:=r.aE.Phases.length ≤ 4∧∀ ph ∈ r.aE.Phases,PhS ph
def liv (r:ax):Bool:=((!r.Over) && (decide (0 ≤ r.Used))) && (decide (r.Used < (r.aE.Phases.length:Int)))
def lft (r:ax):List Phase:=if liv r = true then r.aE.Phases.drop r.Used.toNat else []
theorem Dj {l:List Phase} (h:l.length ≤ 1000) (hl : ∀ ph ∈ l,PhS ph):lC l = some l:=by
 unfold lC
 obtain ⟨f,h1,h2,h3⟩:=aG (body:=iK l) (fun i s=>s.2 = ((i:Nat):Int)∧s.1 = l.take i) l.length
  (fun f => match f with | .ex _ s => s.1 = l | _ => False) (fun i s hi ⟨hs', hI⟩ => by
   have hp:=hl _ (List.getElem_mem hi)
   have hp1:=hp.1; have hp2:=hp.2
   unfold iK dT bq
   rw [hs', if_pos (by simpa using hi), ae hi, qb, cZ (by omega), qb, qb, cZ (by omega), qb, qb, hI, aF (by simp; omega), qb, ag (by omega)]
   refine .inl ⟨_,rfl,rfl,?_⟩
   rw [List.take_succ_eq_append_getElem hi]) (fun s ⟨hs', hI⟩ => by
   unfold iK
   rw [hs', if_neg (by simp)]
   rw [List.take_length] at hI
   exact ⟨_,rfl,trivial,hI⟩) ([],0) ⟨rfl,by simp⟩ (l.length + 1) (by omega)
 rw [h1,qb]
 cases f with
 | go _=>exact h2.elim
 | ret _=>exact h3.elim
 | ex _ s=>dsimp only at h3 ⊢; rw [h3]
theorem fD {r:ax} {ph:Phase} (h:ph ∈ lft r):ph ∈ r.aE.Phases:=by
 unfold lft at h
 split at h
 ·exact List.mem_of_mem_drop h
 ·simp at h
theorem gg {r:ax} (h:RtS r):(lft r).length ≤ 4:=by
 have:=h.1
 unfold lft
 split
 ·simp; omega
 ·simp
theorem uk {r:ax} (h:RtS r):gd r = some (lft r):=by
 have h4:=h.1
 unfold gd fj
 rw [qb]
 show (if (!(liv r)) = true then _ else _) = _
 by_cases hl:liv r = true
 ·rw [if_neg (by simp [hl])]
  have hl':=hl
  unfold liv at hl'
  simp at hl'
  rw [eW hl'.1.2 (by omega) (by omega),qb,Int.toNat_natCast,List.take_length]
  unfold lft
  rw [if_pos hl,Dj (by simp; omega) fun ph hp=>h.2 ph (List.mem_of_mem_drop hp),qb]
 ·rw [if_pos (by simpa using hl)]
  unfold lft
  rw [if_neg hl]
theorem BW {p:an} {c:Cap} {ph:Phase} (hp:gb p) (hc:c.Corners.length ≤ 12) (h:PhS ph) : -10995116277760 ≤ phL p c ph∧phL p c ph ≤ 10995116277760:=by
 have h1:=o6 c ph.bd
 have h2:=pX hp hc ph.Volumes
 have h3:=h.1; have h4:=h.2
 unfold phL
 constructor <;> omega
theorem EI {p:an} {c:Cap} {r:ax} (hp:gb p) (hc:c.Corners.length ≤ 12) (h:RtS r):oF p c r = some ((lft r).map (phL p c)):=by
 have hl4:=gg h
 unfold oF
 rw [uk h,qb]
 obtain ⟨f,h1,h2,h3⟩:=aG (body:=ml p c (lft r)) (fun i s=>s.2 = ((i:Nat):Int)∧s.1 = ((lft r).take i).map (phL p c)) (lft r).length
  (fun f => match f with | .ex _ s => s.1 = (lft r).map (phL p c) | _ => False) (fun i s hi ⟨hs', hI⟩ => by
   have hq:=h.2 _ (fD (List.getElem_mem hi))
   unfold ml
   rw [hs', if_pos (by simpa using hi), ae hi, qb, zM hp hc (by have := hq.1; omega) (by have := hq.2; omega), qb, hI, aF (by simp; omega), qb, ag (by omega)]
   refine .inl ⟨_,rfl,rfl,?_⟩
   rw [List.take_succ_eq_append_getElem hi,List.map_append]
   rfl) (fun s ⟨hs', hI⟩ => by
   unfold ml
   rw [hs', if_neg (by simp)]
   rw [List.take_length] at hI
   exact ⟨_,rfl,trivial,hI⟩) ([],0) ⟨rfl,by simp⟩ ((lft r).length + 1) (by omega)
 rw [h1,qb]
 cases f with
 | go _=>exact h2.elim
 | ret _=>exact h3.elim
 | ex _ s=>dsimp only at h3 ⊢; rw [h3]
def nn:Int → List Int → List Int
 | _,[]=>[]
 | a,x::l=>(a + x)::nn (a + x) l
theorem oD : ∀ (a:Int) (l:List Int),(nn a l).length = l.length
 | _,[]=>rfl
 | a,x::l=>by simp [nn,oD]
theorem sN : ∀ (a:Int) (l:List Int) (x:Int),nn a (l ++ [x]) = nn a l ++ [a + l.sum + x]
 | a,[],x=>by simp [nn]
 | a, y :: l, x => by
  simp only [List.cons_append,nn,sN (a + y) l x,List.sum_cons]
  rw [Int.add_assoc a y l.sum]
theorem rC : ∀ (a:Int) (l:List Int) (k:Nat) (h:k < (nn a l).length),(nn a l)[k] = a + (l.take (k + 1)).sum
 | a,[],k,h=>by simp [nn] at h
 | a,x::l,0,h=>by simp [nn]
 | a, x :: l, k + 1, h => by
  simp only [nn,List.getElem_cons_succ,List.take_succ_cons,List.sum_cons]
  rw [rC (a + x) l k (by simpa [nn] using h),Int.add_assoc]
def pk (l:List Int):Int:=(nn 0 l).foldl max 0
theorem CO : ∀ (l:List Int) (m:Int),m ≤ l.foldl max m∧∀ x ∈ l,x ≤ l.foldl max m
 | [],m=>⟨Int.le_refl _,fun x h=>by simp at h⟩
 | y :: l, m => by
  have ih:=CO l (max m y)
  refine ⟨Int.le_trans (Int.le_max_left _ _) ih.1,fun x hx=>?_⟩
  rcases List.mem_cons.1 hx with rfl | hx
  ·exact Int.le_trans (Int.le_max_right _ _) ih.1
  ·exact ih.2 x hx
theorem AJ : ∀ (l:List Int) (m:Int),l.foldl max m = m ∨ l.foldl max m ∈ l
 | [],m=>.inl rfl
 | y :: l, m => by
  rcases AJ l (max m y) with h | h
  ·rw [List.foldl_cons, h]
   by_cases hc:m ≤ y
   ·right; rw [Int.max_eq_right hc]; exact List.mem_cons_self
   ·left; exact Int.max_eq_left (by omega)
  ·right; rw [List.foldl_cons]; exact List.mem_cons_of_mem _ h
theorem Jt (l:List Int) (k:Nat) (h:k ≤ l.length):(l.take k).sum ≤ pk l:=by
 unfold pk
 have hf:=CO (nn 0 l) 0
 cases k with
 | zero=>simpa using hf.1
 | succ k =>
  have hk:k < (nn 0 l).length:=by rw [oD]; omega
  have:=hf.2 _ (List.getElem_mem hk)
  rw [rC] at this
  simpa using this
theorem JK (l:List Int) : ∃ k,k ≤ l.length∧pk l = (l.take k).sum:=by
 unfold pk
 rcases AJ (nn 0 l) 0 with h | h
 ·exact ⟨0,by omega,by simpa using h⟩
 ·obtain ⟨k, hk, he⟩ := List.getElem_of_mem h
  rw [rC,Int.zero_add] at he
  exact ⟨k + 1,by rw [oD] at hk; omega,he.symm⟩
theorem yH {B:Int} : ∀ {l:List Int},(∀ x ∈ l,-B ≤ x∧x ≤ B) → 0 ≤ B → -(B * (l.length:Int)) ≤ l.sum∧l.sum ≤ B * (l.length:Int)
 | [],_,_=>by simp
 | x :: l, h, h0 => by
  have ih:=yH (l:=l) (fun y hy=>h y (List.mem_cons_of_mem _ hy)) h0
  have hx:=h x List.mem_cons_self
  have e:B * (((x::l).length:Nat):Int) = B * (l.length:Int) + B:=by
   rw [List.length_cons]; push_cast; rw [Int.mul_add,Int.mul_one]
  rw [e,List.sum_cons]
  omega
theorem zQ {l:List Int} (h:l.length ≤ 100) (hb : ∀ x ∈ l,-10995116277760 ≤ x∧x ≤ 10995116277760):iZ l = some (0::nn 0 l):=by
 unfold iZ
 obtain ⟨f,h1,h2,h3⟩:=aG (body:=gq l) (fun i s=>s.2 = ((i:Nat):Int)∧s.1 = 0::nn 0 (l.take i)) l.length
  (fun f => match f with | .ex _ s => s.1 = 0 :: nn 0 l | _ => False) (fun i s hi ⟨hs', hI⟩ => by
   unfold gq
   have hx:=hb _ (List.getElem_mem hi)
   have hsum:=yH (B:=10995116277760) (l:=l.take i) (fun x hx=>hb x (List.mem_of_mem_take hx)) (by omega)
   have hlt:(l.take i).length = i:=by simp; omega
   rw [hlt] at hsum
   have hg:au s.1 (i:Int) = some ((l.take i).sum):=by
    rw [hI,ae (by simp [oD]; omega)]
    congr 1
    cases i with
    | zero=>simp
    | succ i=>rw [List.getElem_cons_succ,rC,Int.zero_add,List.take_take,Nat.min_self]
   rw [hs', if_pos (by simpa using hi), ae hi, qb, hg, qb, aZ (by constructor <;> omega), qb, hI, aF (by simp [oD]; omega), qb, ag (by omega)]
   refine .inl ⟨_,rfl,rfl,?_⟩
   rw [List.take_succ_eq_append_getElem hi, sN, Int.zero_add, List.cons_append]) (fun s ⟨hs', hI⟩ => by
   unfold gq
   rw [hs', if_neg (by simp)]
   rw [List.take_length] at hI
   exact ⟨_,rfl,trivial,hI⟩) ([0],0) ⟨rfl,by simp [nn]⟩ (l.length + 1) (by omega)
 rw [h1,qb]
 cases f with
 | go _=>exact h2.elim
 | ret _=>exact h3.elim
 | ex _ s=>dsimp only at h3 ⊢; rw [h3]
theorem max_eq {x:Int} {l:List Int} (h:l.length ≤ 1000):ka (x::l) = some (l.foldl max x):=by
 unfold ka
 rw [if_neg (by simp; omega),show (0:Int) = ((0:Nat):Int) from rfl,ae (by simp),qb]
 obtain ⟨f,h1,h2,h3⟩:=aG (body:=gX (x::l)) (fun i s=>s.2 = ((i + 1:Nat):Int)∧s.1 = (l.take i).foldl max x) l.length
  (fun f => match f with | .ex _ s => s.1 = l.foldl max x | _ => False) (fun i s hi ⟨hs', hI⟩ => by
   unfold gX
   rw [hs', if_pos (by simp; omega), ae (by simp; omega), qb, ag (by omega)]
   refine .inl ⟨_,rfl,rfl,?_⟩
   rw [List.take_succ_eq_append_getElem hi,List.foldl_append,← hI]
   rfl) (fun s ⟨hs', hI⟩ => by
   unfold gX
   rw [hs', if_neg (by simp)]
   rw [List.take_length] at hI
   exact ⟨_,rfl,trivial,hI⟩) (x,1) ⟨rfl,by simp⟩ ((x::l).length + 1) (by simp; omega)
 rw [List.getElem_cons_zero,h1,qb]
 cases f with
 | go _=>exact h2.elim
 | ret _=>exact h3.elim
 | ex _ s=>dsimp only at h3 ⊢; rw [h3]
noncomputable def top (p:an) (c:Cap) (r:ax):Int:=pk ((lft r).map (phL p c))
theorem IA {p:an} {c:Cap} {r:ax} (hp:gb p) (hc:c.Corners.length ≤ 12) (h:RtS r):lQ ((lft r).map (phL p c)) = some (top p c r):=by
 have hl4:=gg h
 unfold lQ
 rw [zQ (by simp; omega) (fun x hx=>by
  obtain ⟨ph,hph,rfl⟩:=List.mem_map.1 hx
  exact BW hp hc (h.2 ph (fD hph))),qb,max_eq (by rw [oD]; simp; omega),qb]
 rfl
theorem Cv {t:aq} {rights:List ax} {c:Cap} (hp:gb t.an) (hc:c.Corners.length ≤ 12) (hb:t.Built.length ≤ 1000) (hs:t.Base.length ≤ 1000) (hr:rights.length ≤ 1000) (h : ∀ r ∈ rights,RtS r) :
  od t rights c = some ⟨c.Name,loadT t c,rights.map (top t.an c)⟩:=by
 unfold od
 rw [qT hp hc hb hs,qb]
 obtain ⟨f,h1,h2,h3⟩:=aG (body:=lM t rights c) (fun i s=>s.2 = ((i:Nat):Int)∧s.1 = ⟨c.Name,loadT t c,(rights.take i).map (top t.an c)⟩) rights.length
  (fun f => match f with | .ex _ s => s.1 = ⟨c.Name, loadT t c, rights.map (top t.an c)⟩ | _ => False) (fun i s hi ⟨hs', hI⟩ => by
   have hq:=h _ (List.getElem_mem hi)
   unfold lM
   rw [hs', if_pos (by simpa using hi), ae hi, qb, EI hp hc hq, qb, IA hp hc hq, qb, hI]
   dsimp only
   rw [aF (by simp; omega),qb,ag (by omega)]
   refine .inl ⟨_,rfl,rfl,?_⟩
   rw [List.take_succ_eq_append_getElem hi,List.map_append]
   rfl) (fun s ⟨hs', hI⟩ => by
   unfold lM
   rw [hs', if_neg (by simp)]
   rw [List.take_length] at hI
   exact ⟨_,rfl,trivial,hI⟩) (⟨c.Name,loadT t c,[]⟩,0) ⟨rfl,by simp⟩ (rights.length + 1) (by omega)
 rw [h1,qb]
 cases f with
 | go _=>exact h2.elim
 | ret _=>exact h3.elim
 | ex _ s=>dsimp only at h3 ⊢; rw [h3]
end Go.Proofs.YtegglcdhfnjhcaaGreat

namespace Go.Proofs.YtegglcdhfnjhcaaGreat
open Go.Gb

theorem nE {α:Type} {o:Option α} {d:α} (h:Tot o):o = some (o.getD d):=by
 obtain ⟨x,rfl⟩:=h; rfl
def rgt (v:af):Bool:=(e9 v).getD false
theorem o0 (v:af):e9 v = some (rgt v):=nE (by unfold e9; rw [bJ]; exact Tot.pure _)
def sld (v:af):List bk:=[⟨v.Box.Z0,v.Box.Z1,[v.Box.Base]⟩]
def ovl (a b:af):Bool:=(cQ a b).getD false
theorem Bp (a b:af):cQ a b = some (ovl a b):=nE (by
 unfold cQ
 rw [o0,qb,o0]
 exact Tot.bind (Tot.ite (fun _=>Tot.pure _) fun _=>Tot.pure _) fun _ _=>Tot.ite (fun _=>Tot.pure _) fun _=>Tot.bind (ql _ _) fun _ _=>Tot.pure _)
noncomputable def oT (s:List bk) (p d:aJ):Bool:=(kT s p d).getD false
noncomputable def pH (s:List bk) (p q:aJ):Bool:=(fk s p q).getD false
def zh (s:List bk):Prop:=∀ b ∈ s,b.Area.length ≤ 100000
theorem oc (v:af):zh (sld v):=fun b hb=>by
 rw [List.mem_singleton.1 hb]; simp
theorem yb {s:List bk} (h:zh s) (p d:aJ):kT s p d = some (oT s p d):=nE (let ⟨r,hr,_⟩:=Ce (p:=p) (d:=d) h; ⟨r,hr⟩)
theorem yz {s:List bk} (h:zh s) (p q:aJ):fk s p q = some (pH s p q):=nE (let ⟨r,hr,_⟩:=uE (p:=p) (q:=q) h; ⟨r,hr⟩)
theorem wv {s:List (List bk)} {f:List bk → Option Bool} {g:List bk → Bool} (hl:s.length ≤ 1000000) (hf : ∀ x ∈ s,f x = some (g x)):dB s f = some (s.any g):=by
 obtain ⟨fl,h1,h2,h3⟩:=aG (body:=dA s f) (fun i t=>t = ((i:Nat):Int)∧∀ m (h:m < s.length),m < i → g s[m] = false) s.length
  (fun fl=>match fl with | .ex _ _=>s.any g = false | .ret r=>0 ≤ r∧s.any g = true | .go _=>False) (fun i t hi ⟨ht,hI⟩=>by
   subst ht
   unfold dA
   rw [if_pos (by simpa using hi),ae hi,qb,hf s[i] (List.getElem_mem hi),qb]
   cases hb:g s[i] with
   | true=>exact .inr ⟨_,rfl,trivial,by show (0:Int) ≤ i; omega,List.any_eq_true.2 ⟨_,List.getElem_mem hi,hb⟩⟩
   | false =>
    rw [if_neg (by simp),ag (by omega)]
    refine .inl ⟨_,rfl,rfl,fun m hm hmi=>?_⟩
    by_cases e:m = i
    ·subst e; exact hb
    ·exact hI m hm (by omega)) (fun t ⟨ht,hI⟩=>by
   subst ht
   unfold dA
   rw [if_neg (by simp)]
   refine ⟨_,rfl,trivial,?_⟩
   rw [List.any_eq_false]
   intro x hx
   obtain ⟨m,hm,rfl⟩:=List.getElem_of_mem hx
   rw [hI m hm hm]; simp) 0 ⟨rfl,fun m _ h=>by omega⟩ (s.length + 1) (by omega)
 unfold dB gR
 rw [h1,qb]
 cases fl with
 | go _=>exact h3.elim
 | ex _ _=>dsimp only at h3; rw [h3]; rfl
 | ret r =>
  obtain ⟨h3,h4⟩:=h3
  rw [h4,qb,decide_eq_true h3]
theorem qv {s:List bf} {f:bf → Option Bool} {g:bf → Bool} (hl:s.length ≤ 1000000) (hf : ∀ x ∈ s,f x = some (g x)):cT s f = some (s.any g):=by
 obtain ⟨fl,h1,h2,h3⟩:=aG (body:=cU s f) (fun i t=>t = ((i:Nat):Int)∧∀ m (h:m < s.length),m < i → g s[m] = false) s.length
  (fun fl=>match fl with | .ex _ _=>s.any g = false | .ret r=>0 ≤ r∧s.any g = true | .go _=>False) (fun i t hi ⟨ht,hI⟩=>by
   subst ht
   unfold cU
   rw [if_pos (by simpa using hi),ae hi,qb,hf s[i] (List.getElem_mem hi),qb]
   cases hb:g s[i] with
   | true=>exact .inr ⟨_,rfl,trivial,by show (0:Int) ≤ i; omega,List.any_eq_true.2 ⟨_,List.getElem_mem hi,hb⟩⟩
   | false =>
    rw [if_neg (by simp),ag (by omega)]
    refine .inl ⟨_,rfl,rfl,fun m hm hmi=>?_⟩
    by_cases e:m = i
    ·subst e; exact hb
    ·exact hI m hm (by omega)) (fun t ⟨ht,hI⟩=>by
   subst ht
   unfold cU
   rw [if_neg (by simp)]
   refine ⟨_,rfl,trivial,?_⟩
   rw [List.any_eq_false]
   intro x hx
   obtain ⟨m,hm,rfl⟩:=List.getElem_of_mem hx
   rw [hI m hm hm]; simp) 0 ⟨rfl,fun m _ h=>by omega⟩ (s.length + 1) (by omega)
 unfold cT fJ
 rw [h1,qb]
 cases fl with
 | go _=>exact h3.elim
 | ex _ _=>dsimp only at h3; rw [h3]; rfl
 | ret r =>
  obtain ⟨h3,h4⟩:=h3
  rw [h4,qb,decide_eq_true h3]
def ec (l:List bf) (β:Int → Bool):List (List bk):=(l.filter fun b=>rgt b.af && !β b.Lot).map fun b=>sld b.af
theorem sE (l:List bf) (b:bf) (β:Int → Bool):ec (l ++ [b]) β = ec l β ++ (if (rgt b.af && !β b.Lot) = true then [sld b.af] else []):=by
 unfold ec
 rw [List.filter_append,List.map_append]
 congr 1
 rw [List.filter_cons]
 split <;> simp
theorem pL (l:List bf) (β:Int → Bool):(ec l β).length ≤ l.length:=by
 unfold ec
 rw [List.length_map]
 exact List.length_filter_le _ _
theorem qn {t:aq} {but:Int → Option Bool} {β:Int → Bool} (hl:t.Built.length ≤ 1000) (hb : ∀ x,but x = some (β x)):iR t but = some (ec t.Built β):=by
 unfold iR
 obtain ⟨f,h1,h2,h3⟩:=aG (body:=iB t but) (fun i s=>s.2 = ((i:Nat):Int)∧s.1 = ec (t.Built.take i) β) t.Built.length
  (fun f => match f with | .ex _ s => s.1 = ec t.Built β | _ => False) (fun i s hi ⟨hs', hI⟩ => by
   unfold iB
   have hlen:=pL (t.Built.take i) β
   have hlt:(t.Built.take i).length ≤ 1000:=by simp; omega
   rw [hs', if_pos (by simpa using hi), ae hi, qb, o0, qb, hb, qb]
   have e:(if rgt t.Built[i].af = true then some (!β t.Built[i].Lot) else some false) = some (rgt t.Built[i].af && !β t.Built[i].Lot):=by cases rgt t.Built[i].af <;> rfl
   rw [e,qb]
   have hst:ec (t.Built.take (i + 1)) β = s.1 ++ (if (rgt t.Built[i].af && !β t.Built[i].Lot) = true then [sld t.Built[i].af] else []):=by
    rw [List.take_succ_eq_append_getElem hi,sE,hI]
   by_cases hc:(rgt t.Built[i].af && !β t.Built[i].Lot) = true
   ·rw [if_pos hc]
    unfold o4
    rw [qb,aF (by rw [hI]; simp; omega),qb,qb,ag (by omega)]
    exact .inl ⟨_,rfl,rfl,by rw [hst,if_pos hc]; rfl⟩
   ·rw [if_neg hc, qb, ag (by omega)]
    exact .inl ⟨_, rfl, rfl, by rw [hst, if_neg hc, List.append_nil]⟩) (fun s ⟨hs', hI⟩ => by
   unfold iB
   rw [hs', if_neg (by simp)]
   rw [List.take_length] at hI
   exact ⟨_,rfl,trivial,hI⟩) ([],0) ⟨rfl,rfl⟩ (t.Built.length + 1) (by omega)
 rw [h1,qb]
 cases f with
 | go _=>exact h2.elim
 | ret _=>exact h3.elim
 | ex _ s=>dsimp only at h3 ⊢; rw [h3]
def fw (ps:List aJ) (ss:List (List bk)) (g:List bk → aJ → Bool):Nat:=ps.countP fun p=>!(ss.any fun s=>g s p)
theorem ua {ps:List aJ} {ss:List (List bk)} {f:List bk → aJ → Option Bool} {g:List bk → aJ → Bool} (hp:ps.length ≤ 1000) (hs:ss.length ≤ 1000) (hf : ∀ s ∈ ss,∀ p,f s p = some (g s p)) :
  lU ps ss f = some (fw ps ss g:Int):=by
 unfold lU
 obtain ⟨fl,h1,h2,h3⟩:=aG (body:=kh ps ss f) (fun i s=>s.2 = ((i:Nat):Int)∧s.1 = (fw (ps.take i) ss g:Int)) ps.length
  (fun f => match f with | .ex _ s => s.1 = (fw ps ss g : Int) | _ => False) (fun i s hi ⟨hs', hI⟩ => by
   unfold kh
   rw [hs', if_pos (by simpa using hi), ae hi, qb, wv (g := fun s => g s ps[i]) (by omega) (fun s hs => by unfold nX; rw [hf s hs, qb]), qb]
   have hst:fw (ps.take (i + 1)) ss g = fw (ps.take i) ss g + (if (!(ss.any fun s=>g s ps[i])) = true then 1 else 0):=by
    unfold fw
    rw [List.take_succ_eq_append_getElem hi,List.countP_append,List.countP_singleton]
   have hle:fw (ps.take i) ss g ≤ 1000:=by
    unfold fw
    refine Nat.le_trans (List.countP_le_length) (by simp; omega)
   by_cases hc:(!(ss.any fun s=>g s ps[i])) = true
   ·rw [if_pos hc, hI, ag (by omega), qb, qb, ag (by omega)]
    exact .inl ⟨_,rfl,rfl,by rw [hst,if_pos hc]⟩
   ·rw [if_neg hc, qb, ag (by omega)]
    exact .inl ⟨_, rfl, rfl, by rw [hst, if_neg hc]; exact hI⟩) (fun s ⟨hs', hI⟩ => by
   unfold kh
   rw [hs', if_neg (by simp)]
   rw [List.take_length] at hI
   exact ⟨_,rfl,trivial,hI⟩) (0,0) ⟨rfl,by simp [fw]⟩ (ps.length + 1) (by omega)
 rw [h1,qb]
 cases fl with
 | go _=>exact h2.elim
 | ret _=>exact h3.elim
 | ex _ s=>dsimp only at h3 ⊢; rw [h3]
noncomputable def oh (t:aq) (w:fm):Nat:=fw t.an.Sun (ec t.Built fun lot=>lot == w.Lot) fun s d=>oT s w.At d
noncomputable def nI (t:aq) (w:View):Nat:=fw w.Targets (ec t.Built fun _=>false) fun s q=>pH s w.Eye q
def vD (t:aq):Prop:=(∀ w ∈ t.Windows,t.an.Hours ≤ (oh t w:Int))∧(∀ w ∈ t.an.Views,w.Least ≤ (nI t w:Int))∧(t.Built.map (·.af)).Pairwise fun a b=>ovl a b = false
end Go.Proofs.YtegglcdhfnjhcaaGreat

namespace Go.Proofs.YtegglcdhfnjhcaaGreat
open Go.Gb

structure o9 (t:aq):Prop where
 plan:gb t.an
 caps:t.an.Caps.length ≤ 1000
 cap : ∀ c ∈ t.an.Caps,c.Corners.length ≤ 12
 sun:t.an.Sun.length ≤ 1000
 views:t.an.Views.length ≤ 1000
 view : ∀ w ∈ t.an.Views,w.Targets.length ≤ 1000
 wins:t.Windows.length ≤ 1000
theorem zt {t:aq} (h:o9 t) (hb:t.Built.length ≤ 1000) : ∃ x,gn t = some x∧(x.2 = true ↔ vD t)∧(x.2 = true → x.1.Kind = 0)∧(x.2 = false → x.1.Kind = 2 ∨ x.1.Kind = 3 ∨ x.1.Kind = 5)∧(¬ (∀ w ∈ t.Windows,t.an.Hours ≤ (oh t w:Int)) → ∃ i:Nat,i < t.Windows.length∧x = (⟨2,⟨#[]⟩,(i:Int)⟩,false)):=by
 have hw:=h.wins; have hv:=h.views; have hs:=h.sun
 unfold gn
 obtain ⟨f,h1,h2,h3⟩:=aG (body:=dM t) (fun i s=>s.1 = ((i:Nat):Int)∧∀ m (hm:m < t.Windows.length),m < i → t.an.Hours ≤ (oh t t.Windows[m]:Int)) t.Windows.length
  (fun f => match f with | .ex _ _ => ∀ w ∈ t.Windows, t.an.Hours ≤ (oh t w : Int) | .ret r => (∃ i : Nat, i < t.Windows.length ∧ r = (⟨2, ⟨#[]⟩, (i : Int)⟩, false)) ∧ ∃ w ∈ t.Windows, ¬ t.an.Hours ≤ (oh t w : Int) | .go _ => False) (fun i s hi ⟨hs', hI⟩ => by
   unfold dM
   have hsl:(ec t.Built fun lot=>lot == t.Windows[i].Lot).length ≤ 1000:=Nat.le_trans (pL _ _) hb
   have hthin : ∀ s ∈ (ec t.Built fun lot=>lot == t.Windows[i].Lot),zh s:=fun s hs=>by
    unfold ec at hs
    obtain ⟨b,_,rfl⟩:=List.mem_map.1 hs
    exact oc _
   rw [hs', if_pos (by simpa using hi), ae hi, qb, qn (but := fun y0 => kA y0 t.Windows[i]) (β := fun lot => lot == t.Windows[i].Lot) hb (fun x => rfl), qb,
    ua (f:=fun y0 y1=>fK y0 y1 t.Windows[i]) (g:=fun s d=>oT s t.Windows[i].At d) hs hsl (fun s hs p=>by unfold fK; rw [yb (hthin s hs),qb]),qb]
   by_cases hc:((fw t.an.Sun (ec t.Built fun lot=>lot == t.Windows[i].Lot) fun s d=>oT s t.Windows[i].At d:Nat):Int) < t.an.Hours
   ·rw [if_pos (by simpa using hc)]
    exact .inr ⟨_,rfl,trivial,⟨i,hi,rfl⟩,_,List.getElem_mem hi,by unfold oh; omega⟩
   ·rw [if_neg (by simpa using hc), ag (by omega)]
    refine .inl ⟨_,rfl,rfl,fun m hm hmi=>?_⟩
    by_cases e:m = i
    ·subst e; unfold oh; omega
    ·exact hI m hm (by omega)) (fun s ⟨hs', hI⟩ => by
   unfold dM
   rw [hs', if_neg (by simp)]
   refine ⟨_,rfl,trivial,fun w hw=>?_⟩
   obtain ⟨m,hm,rfl⟩:=List.getElem_of_mem hw
   exact hI m hm hm) ((0,(⟨0,(⟨#[]⟩:ByteArray),0⟩:aK)):Int × aK) ⟨rfl,fun m _ h=>by omega⟩ (t.Windows.length + 1) (by omega)
 rw [h1,qb]
 cases f with
 | go _=>exact h2.elim
 | ret r =>
  obtain ⟨⟨i,hi,rfl⟩,w,hw,hn⟩:=h3
  exact ⟨_,rfl,⟨fun h=>by simp at h,fun h=>absurd (h.1 w hw) hn⟩,fun h=>by simp at h,fun _=>.inl rfl,fun _=>⟨i,hi,rfl⟩⟩
 | ex _ s0 =>
  have h3 : ∀ w ∈ t.Windows,t.an.Hours ≤ (oh t w:Int):=h3
  dsimp only
  rw [qn (but:=kC) (β:=fun _=>false) hb (fun x=>rfl),qb]
  have hsl:(ec t.Built fun _=>false).length ≤ 1000:=Nat.le_trans (pL _ _) hb
  have hthin : ∀ s ∈ (ec t.Built fun _=>false),zh s:=fun s hs=>by
   unfold ec at hs
   obtain ⟨b,_,rfl⟩:=List.mem_map.1 hs
   exact oc _
  obtain ⟨f,g1,g2,g3⟩:=aG (body:=dK t (ec t.Built fun _=>false)) (fun i s=>s.1 = ((i:Nat):Int)∧∀ m (hm:m < t.an.Views.length),m < i → t.an.Views[m].Least ≤ (nI t t.an.Views[m]:Int)) t.an.Views.length
   (fun f => match f with | .ex _ _ => ∀ w ∈ t.an.Views, w.Least ≤ (nI t w : Int) | .ret r => r.2 = false ∧ r.1.Kind = 3 ∧ ∃ w ∈ t.an.Views, ¬ w.Least ≤ (nI t w : Int) | .go _ => False) (fun i s hi ⟨hs', hI⟩ => by
    unfold dK
    rw [hs', if_pos (by simpa using hi), ae hi, qb,
     ua (f:=fun y0 y1=>fU y0 y1 t.an.Views[i]) (g:=fun s q=>pH s t.an.Views[i].Eye q) (h.view _ (List.getElem_mem hi)) hsl (fun s hs p=>by unfold fU; rw [yz (hthin s hs),qb]),qb]
    by_cases hc:((fw t.an.Views[i].Targets (ec t.Built fun _=>false) fun s q=>pH s t.an.Views[i].Eye q:Nat):Int) < t.an.Views[i].Least
    ·rw [if_pos (by simpa using hc)]
     exact .inr ⟨_,rfl,trivial,rfl,rfl,_,List.getElem_mem hi,by unfold nI; omega⟩
    ·rw [if_neg (by simpa using hc), ag (by omega)]
     refine .inl ⟨_,rfl,rfl,fun m hm hmi=>?_⟩
     by_cases e:m = i
     ·subst e; unfold nI; omega
     ·exact hI m hm (by omega)) (fun s ⟨hs', hI⟩ => by
    unfold dK
    rw [hs', if_neg (by simp)]
    refine ⟨_,rfl,trivial,fun w hw=>?_⟩
    obtain ⟨m,hm,rfl⟩:=List.getElem_of_mem hw
    exact hI m hm hm) (0,s0.2) ⟨rfl,fun m _ h=>by omega⟩ (t.an.Views.length + 1) (by omega)
  rw [g1,qb]
  cases f with
  | go _=>exact g2.elim
  | ret r =>
   obtain ⟨a,b,w,hw,hn⟩:=g3
   exact ⟨r,rfl,⟨fun h=>by rw [a] at h; simp at h,fun h=>absurd (h.2.1 w hw) hn⟩,fun h=>by rw [a] at h; simp at h,fun _=>.inr (.inl b),fun h=>absurd h3 h⟩
  | ex _ s1 =>
   have g3 : ∀ w ∈ t.an.Views,w.Least ≤ (nI t w:Int):=g3
   dsimp only
   obtain ⟨f,k1,k2,k3⟩:=aG (body:=dP t) (fun i s=>s.1 = ((i:Nat):Int)∧∀ m (hm:m < t.Built.length),m < i → ∀ j (hj:j < m),ovl t.Built[j].af t.Built[m].af = false) t.Built.length
    (fun f => match f with | .ex _ _ => ∀ m (hm : m < t.Built.length) j (hj : j < m), ovl t.Built[j].af t.Built[m].af = false | .ret r => r.2 = false ∧ r.1.Kind = 5 ∧ ∃ m, ∃ hm : m < t.Built.length, ∃ j, ∃ hj : j < m, ovl t.Built[j].af t.Built[m].af = true | .go _ => False) (fun i s hi ⟨hs', hI⟩ => by
     unfold dP
     rw [hs', if_pos (by simpa using hi), ae hi, qb, eW (by omega) (by omega) (by omega), qb, show (t.Built.take (i : Int).toNat).drop (0 : Int).toNat = t.Built.take i by simp,
      qv (f:=fun y0=>fW y0 t.Built[i]) (g:=fun a=>ovl a.af t.Built[i].af) (by simp; omega) (fun a _=>by unfold fW; rw [Bp,qb]),qb]
     cases hc:(t.Built.take i).any fun a=>ovl a.af t.Built[i].af with
     | true =>
      rw [if_pos rfl]
      rw [List.any_eq_true] at hc
      obtain ⟨y,hy,ht⟩:=hc
      obtain ⟨j,hj,rfl⟩:=List.getElem_of_mem hy
      have hj' : j < i:=by simp at hj; omega
      rw [List.getElem_take] at ht
      exact .inr ⟨_, rfl, trivial, rfl, rfl, i, hi, j, hj', ht⟩
     | false =>
      rw [if_neg (by simp),ag (by omega)]
      rw [List.any_eq_false] at hc
      refine .inl ⟨_,rfl,rfl,fun m hm hmi j hj=>?_⟩
      by_cases e:m = i
      ·subst e
       have:=hc t.Built[j] (List.mem_take_iff_getElem.2 ⟨j,by omega,rfl⟩)
       simpa using this
      ·exact hI m hm (by omega) j hj) (fun s ⟨hs', hI⟩ => by
     unfold dP
     rw [hs', if_neg (by simp)]
     exact ⟨_,rfl,trivial,fun m hm j hj=>hI m hm hm j hj⟩) (0,s1.2) ⟨rfl,fun m _ h=>by omega⟩ (t.Built.length + 1) (by omega)
   rw [k1,qb]
   cases f with
   | go _=>exact k2.elim
   | ret r =>
    obtain ⟨a,b,m,hm,j,hj,hn⟩:=k3
    refine ⟨r,rfl,⟨fun h=>by rw [a] at h; simp at h,fun h=>?_⟩,fun h=>by rw [a] at h; simp at h,fun _=>.inr (.inr b),fun h=>absurd h3 h⟩
    have:=List.pairwise_iff_getElem.1 h.2.2 j m (by simp; omega) (by simpa using hm) hj
    simp only [List.getElem_map] at this
    rw [hn] at this; simp at this
   | ex _ _ =>
    have k3 : ∀ m (hm:m < t.Built.length) j (hj:j < m),ovl t.Built[j].af t.Built[m].af = false:=k3
    refine ⟨_,rfl,⟨fun _=>⟨h3,g3,List.pairwise_iff_getElem.2 fun j m hj hm hjm=>?_⟩,fun _=>rfl⟩,fun _=>rfl,fun h=>by simp at h,fun h=>absurd h3 h⟩
    simp only [List.getElem_map]
    exact k3 m (by simpa using hm) j hjm
def GZ (t:aq):Prop:=∀ c ∈ t.an.Caps,loadT t c ≤ c.aK
def IW (t:aq):Prop:=GZ t∧vD t
theorem zV {t:aq} (h:o9 t) (hb:t.Built.length ≤ 1000) (hs:t.Base.length ≤ 1000) : ∃ x,dW t = some x∧(x.2 = true ↔ IW t)∧(x.2 = true → x.1.Kind = 0)∧(x.2 = false → x.1.Kind ≠ 0)∧(x.2 = false → x.1.Kind ≠ 1 → ¬ vD t):=by
 have hc:=h.caps
 unfold dW
 obtain ⟨f,h1,h2,h3⟩:=aG (body:=dJ t) (fun i s=>s.1 = ((i:Nat):Int)∧∀ m (hm:m < t.an.Caps.length),m < i → loadT t t.an.Caps[m] ≤ t.an.Caps[m].aK) t.an.Caps.length
  (fun f => match f with | .ex _ _ => GZ t | .ret r => r.2 = false ∧ r.1.Kind = 1 ∧ ¬ GZ t | .go _ => False) (fun i s hi ⟨hs', hI⟩ => by
   unfold dJ
   rw [hs', if_pos (by simpa using hi), ae hi, qb, qT h.plan (h.cap _ (List.getElem_mem hi)) hb hs, qb]
   by_cases hl:t.an.Caps[i].aK < loadT t t.an.Caps[i]
   ·rw [if_pos (by simpa using hl)]
    exact .inr ⟨_,rfl,trivial,rfl,rfl,fun hn=>by have:=hn _ (List.getElem_mem hi); omega⟩
   ·rw [if_neg (by simpa using hl), ag (by omega)]
    refine .inl ⟨_,rfl,rfl,fun m hm hmi=>?_⟩
    by_cases e:m = i
    ·subst e; omega
    ·exact hI m hm (by omega)) (fun s ⟨hs', hI⟩ => by
   unfold dJ
   rw [hs', if_neg (by simp)]
   refine ⟨_,rfl,trivial,fun c hc=>?_⟩
   obtain ⟨m,hm,rfl⟩:=List.getElem_of_mem hc
   exact hI m hm hm) ((0,(⟨0,(⟨#[]⟩:ByteArray),0⟩:aK)):Int × aK) ⟨rfl,fun m _ h=>by omega⟩ (t.an.Caps.length + 1) (by omega)
 rw [h1,qb]
 cases f with
 | go _=>exact h2.elim
 | ret r =>
  obtain ⟨a,b,hn⟩:=h3
  exact ⟨r,rfl,⟨fun h=>by rw [a] at h; simp at h,fun h=>absurd h.1 hn⟩,fun h=>by rw [a] at h; simp at h,fun _=>by omega,fun _ h=>absurd b h⟩
 | ex _ _ =>
  have h3:GZ t:=h3
  dsimp only
  obtain ⟨x,hx,k1,k2,k3,_⟩:=zt h hb
  rw [hx,qb]
  refine ⟨_,rfl,⟨fun h=>⟨h3,k1.1 h⟩,fun h=>k1.2 h.2⟩,k2,fun h=>?_,fun h _ hl=>?_⟩
  ·have:=k3 h; show x.1.Kind ≠ 0; omega
  ·have h : x.2 = false := h
   rw [k1.2 hl] at h; simp at h
def qE (r:ax) (t:aq):aq:=(lft r).foldl (fun u ph=>after u r.aE.Lot ph) t
def iM (rights:List ax) (t:aq):aq:=rights.foldl (fun u r=>qE r u) t
theorem xo {t:aq} {lot:Int} {ph:Phase} (h:PhS ph):(after t lot ph).Built.length ≤ t.Built.length + 2∧(after t lot ph).Base.length ≤ t.Base.length + 3:=by
 have h1:=h.1; have h2:=h.2
 unfold after
 dsimp only
 simp
 omega
theorem jF {lot:Int} : ∀ {l:List Phase} {t:aq},(∀ ph ∈ l,PhS ph) → (l.foldl (fun u ph=>after u lot ph) t).Built.length ≤ t.Built.length + 2 * l.length∧(l.foldl (fun u ph=>after u lot ph) t).Base.length ≤ t.Base.length + 3 * l.length
 | [],t,_=>by simp
 | ph :: l, t, h => by
  have h1:=xo (t:=t) (lot:=lot) (h ph List.mem_cons_self)
  have ih:=jF (lot:=lot) (l:=l) (t:=after t lot ph) fun q hq=>h q (List.mem_cons_of_mem _ hq)
  simp only [List.foldl_cons,List.length_cons]
  omega
theorem DJ {r:ax} {t:aq} (h:RtS r):(qE r t).Built.length ≤ t.Built.length + 8∧(qE r t).Base.length ≤ t.Base.length + 12:=by
 have h4:=gg h
 have:=jF (lot:=r.aE.Lot) (l:=lft r) (t:=t) fun ph hp=>h.2 ph (fD hp)
 unfold qE
 omega
theorem mN : ∀ {rights:List ax} {t:aq},(∀ r ∈ rights,RtS r) → (iM rights t).Built.length ≤ t.Built.length + 8 * rights.length∧(iM rights t).Base.length ≤ t.Base.length + 12 * rights.length
 | [],t,_=>by simp [iM]
 | r :: rights, t, h => by
  have h1:=DJ (t:=t) (h r List.mem_cons_self)
  have ih:=mN (rights:=rights) (t:=qE r t) fun q hq=>h q (List.mem_cons_of_mem _ hq)
  simp only [iM,List.foldl_cons,List.length_cons] at ih ⊢
  omega
end Go.Proofs.YtegglcdhfnjhcaaGreat

namespace Go.Proofs.YtegglcdhfnjhcaaGreat
open Go.Gb

def fA (lot:Int) (l:List Phase) (t:aq):aq:=l.foldl (fun u ph=>after u lot ph) t
theorem ug (lot:Int) (l:List Phase) (ph:Phase) (t:aq):fA lot (l ++ [ph]) t = after (fA lot l t) lot ph:=by simp [fA]
theorem Cw (lot:Int) : ∀ (l:List Phase) (t:aq),(fA lot l t).an = t.an∧(fA lot l t).Windows = t.Windows
 | [],t=>⟨rfl,rfl⟩
 | ph::l,t=>Cw lot l (after t lot ph)
theorem kU : ∀ (rights:List ax) (t:aq),(iM rights t).an = t.an∧(iM rights t).Windows = t.Windows
 | [],t=>⟨rfl,rfl⟩
 | r :: rights, t => by
  have h1:=Cw r.aE.Lot (lft r) t
  have ih:=kU rights (qE r t)
  exact ⟨ih.1.trans h1.1,ih.2.trans h1.2⟩
theorem o9.of {t u:aq} (h:o9 t) (hp:u.an = t.an) (hw:u.Windows = t.Windows):o9 u:=by
 obtain ⟨a,b,c,d,e,f,g⟩:=h
 exact ⟨hp ▸ a,by rw [hp]; exact b,by rw [hp]; exact c,by rw [hp]; exact d,by rw [hp]; exact e,by rw [hp]; exact f,by rw [hw]; exact g⟩
theorem Ez {r:ax} {t:aq} (h:RtS r) (hb:t.Built.length ≤ 900) (hs:t.Base.length ≤ 900) : ∃ n,ah (hK r (lft r)) ((lft r).length + 1) (0,t) = some (.ex 2 (n,qE r t)):=by
 have h4:=gg h
 obtain ⟨f,h1,h2,h3⟩:=aG (body:=hK r (lft r)) (fun i s=>s.1 = ((i:Nat):Int)∧s.2 = fA r.aE.Lot ((lft r).take i) t) (lft r).length
  (fun f => ∃ n, f = .ex 2 (n, qE r t)) (fun i s hi ⟨hs', hI⟩ => by
   have hq:=h.2 _ (fD (List.getElem_mem hi))
   have hl:=jF (lot:=r.aE.Lot) (l:=(lft r).take i) (t:=t) fun ph hp=>h.2 ph (fD (List.mem_of_mem_take hp))
   have hlt:((lft r).take i).length ≤ 4:=by simp; omega
   have hq1:=hq.1; have hq2:=hq.2
   unfold hK
   rw [hs', if_pos (by simpa using hi), ae hi, qb, hI, uy (by unfold fA; omega) (by unfold fA; omega), qb, ag (by omega)]
   refine .inl ⟨_,rfl,rfl,?_⟩
   rw [List.take_succ_eq_append_getElem hi, ug]) (fun s ⟨hs', hI⟩ => by
   obtain ⟨s1,s2⟩:=s
   unfold hK
   rw [if_neg (by rw [hs']; simp)]
   rw [List.take_length] at hI
   exact ⟨_,rfl,trivial,s1,by dsimp only at hI; rw [hI]; rfl⟩) (0,t) ⟨rfl,rfl⟩ ((lft r).length + 1) (by omega)
 obtain ⟨n,rfl⟩:=h3
 exact ⟨n,h1⟩
theorem ze {t:aq} {rights:List ax} (hr:rights.length ≤ 10) (h : ∀ r ∈ rights,RtS r) (hb:t.Built.length ≤ 100) (hs:t.Base.length ≤ 100):l6 t rights = some (iM rights t):=by
 unfold l6 bD bq
 rw [cZ (by omega),qb,qb,cZ (by omega),qb,qb]
 obtain ⟨f,h1,h2,h3⟩:=aG (body:=jY rights) (fun i s=>s.1 = ((i:Nat):Int)∧s.2 = iM (rights.take i) t) rights.length
  (fun f => match f with | .ex _ s => s.2 = iM rights t | _ => False) (fun i s hi ⟨hs', hI⟩ => by
   have hq:=h _ (List.getElem_mem hi)
   have hl:=mN (rights:=rights.take i) (t:=t) fun r hr=>h r (List.mem_of_mem_take hr)
   have hlt:(rights.take i).length ≤ 10:=by simp; omega
   unfold jY
   obtain ⟨n,hn⟩:=Ez (t:=s.2) hq (by rw [hI]; omega) (by rw [hI]; omega)
   rw [hs', if_pos (by simpa using hi), ae hi, qb, uk hq, qb, hn, qb]
   dsimp only
   rw [ag (by omega)]
   refine .inl ⟨_,rfl,rfl,?_⟩
   rw [List.take_succ_eq_append_getElem hi,hI]
   unfold iM
   rw [List.foldl_append]
   rfl) (fun s ⟨hs', hI⟩ => by
   unfold jY
   rw [hs', if_neg (by simp)]
   rw [List.take_length] at hI
   exact ⟨_,rfl,trivial,hI⟩) (0,t) ⟨rfl,rfl⟩ (rights.length + 1) (by omega)
 rw [h1,qb]
 cases f with
 | go _=>exact h2.elim
 | ret _=>exact h3.elim
 | ex _ s=>dsimp only at h3 ⊢; rw [h3]
theorem Cg {p:an} {c:Cap} {r:ax} (hp:gb p) (hc:c.Corners.length ≤ 12) (h:RtS r):0 ≤ top p c r∧top p c r ≤ 43980465111040:=by
 have h4:=gg h
 obtain ⟨k,hk,he⟩:=JK ((lft r).map (phL p c))
 have h0:=Jt ((lft r).map (phL p c)) 0 (by omega)
 have hb:=yH (B:=10995116277760) (l:=((lft r).map (phL p c)).take k) (fun x hx=>by
  obtain ⟨ph,hph,rfl⟩:=List.mem_map.1 (List.mem_of_mem_take hx)
  exact BW hp hc (h.2 ph (fD hph))) (by omega)
 have hlt:(((lft r).map (phL p c)).take k).length ≤ 4:=by simp; omega
 unfold top
 rw [List.take_zero,List.sum_nil] at h0
 constructor
 ·exact h0
 ·rw [he]; omega
noncomputable def fB (p:an) (c:Cap) (rights:List ax):Int:=(rights.map (top p c)).sum
theorem yi {p:an} {c:Cap} (hp:gb p) (hc:c.Corners.length ≤ 12) : ∀ {rights:List ax},(∀ r ∈ rights,RtS r) → 0 ≤ fB p c rights∧fB p c rights ≤ 43980465111040 * (rights.length:Int)
 | [],_=>by simp [fB]
 | r :: l, h => by
  have ih:=yi hp hc (rights:=l) fun q hq=>h q (List.mem_cons_of_mem _ hq)
  have hr:=Cg hp hc (h r List.mem_cons_self)
  have e:fB p c (r::l) = top p c r + fB p c l:=by simp [fB]
  rw [e,List.length_cons]; push_cast; omega
theorem Ak {t:aq} {c:Cap} (hp:gb t.an) (hc:c.Corners.length ≤ 12) (hb:t.Built.length ≤ 1000) (hs:t.Base.length ≤ 1000) : -1099511627776000 ≤ loadT t c∧loadT t c ≤ 2199023255552000:=by
 have h1:=o6 c t.Base
 have h2:=pX hp hc (t.Built.map (·.af))
 have h3:(t.Built.map (·.af)).length = t.Built.length:=List.length_map ..
 rw [h3] at h2
 unfold loadT
 constructor <;> omega
theorem wY (p:an) (c:Cap) (l:List ax) (r:ax):fB p c (l ++ [r]) = fB p c l + top p c r:=by simp [fB]
def Hk (t:aq) (rights:List ax):Prop:=(∀ c ∈ t.an.Caps,loadT t c + fB t.an c rights ≤ c.aK)∧vD (iM rights t)
theorem rA {t:aq} {rights:List ax} (h:o9 t) (hr:rights.length ≤ 10) (hrs : ∀ r ∈ rights,RtS r) (hb:t.Built.length ≤ 100) (hs:t.Base.length ≤ 100) :
  ∃ x,bU t rights = some x∧(x.2 = true ↔ Hk t rights)∧(x.2 = true → x.1.Kind = 0)∧(x.2 = false → x.1.Kind ≠ 0)∧(¬ (∀ c ∈ t.an.Caps,loadT t c + fB t.an c rights ≤ c.aK) → ∃ c ∈ t.an.Caps,x = (⟨1,c.Name,0⟩,false)) ∧
   ((∀ c ∈ t.an.Caps,loadT t c + fB t.an c rights ≤ c.aK) → ¬ (∀ w ∈ t.Windows,t.an.Hours ≤ (oh (iM rights t) w:Int)) → ∃ i:Nat,i < t.Windows.length∧x = (⟨2,⟨#[]⟩,(i:Int)⟩,false)):=by
 have hcl:=h.caps
 unfold bU
 obtain ⟨f,h1,h2,h3⟩:=aG (body:=eu t rights) (fun i s=>s.1 = ((i:Nat):Int)∧∀ m (hm:m < t.an.Caps.length),m < i → loadT t t.an.Caps[m] + fB t.an t.an.Caps[m] rights ≤ t.an.Caps[m].aK) t.an.Caps.length
  (fun f => match f with | .ex _ _ => ∀ c ∈ t.an.Caps, loadT t c + fB t.an c rights ≤ c.aK | .ret r => ∃ c ∈ t.an.Caps, r = (⟨1, c.Name, 0⟩, false) ∧ ¬ loadT t c + fB t.an c rights ≤ c.aK | .go _ => False) (fun i s hi ⟨hs', hI⟩ => by
   have hc:=h.cap _ (List.getElem_mem hi)
   unfold eu
   rw [hs', if_pos (by simpa using hi), ae hi, qb, Cv h.plan hc (by omega) (by omega) (by omega) hrs, qb]
   have hlb:=Ak (c:=t.an.Caps[i]) h.plan hc (by omega) (by omega)
   obtain ⟨f1,a1,a2,a3⟩:=aG (body:=cE ⟨t.an.Caps[i].Name,loadT t t.an.Caps[i],rights.map (top t.an t.an.Caps[i])⟩) (fun j s=>s.2 = ((j:Nat):Int)∧s.1 = loadT t t.an.Caps[i] + fB t.an t.an.Caps[i] (rights.take j)) rights.length
    (fun f => match f with | .ex _ s => s.1 = loadT t t.an.Caps[i] + fB t.an t.an.Caps[i] rights | _ => False) (fun j s hj ⟨hs', hJ⟩ => by
     have hq:=hrs _ (List.getElem_mem hj)
     have ht:=Cg h.plan hc hq
     have hts:=yi h.plan hc (rights:=rights.take j) fun r hr=>hrs r (List.mem_of_mem_take hr)
     have hlt:(rights.take j).length ≤ 10:=by simp; omega
     unfold cE
     dsimp only
     rw [hs', if_pos (by simpa using hj), ae (by simpa using hj), qb, List.getElem_map, hJ, aZ (by constructor <;> omega), qb, ag (by omega)]
     refine .inl ⟨_,rfl,rfl,?_⟩
     rw [List.take_succ_eq_append_getElem hj,wY]
     dsimp only; omega) (fun s ⟨hs', hJ⟩ => by
     unfold cE
     dsimp only
     rw [hs', if_neg (by simp)]
     rw [List.take_length] at hJ
     exact ⟨_,rfl,trivial,hJ⟩) (loadT t t.an.Caps[i],0) ⟨rfl,by simp [fB]⟩ ((rights.map (top t.an t.an.Caps[i])).length + 1) (by simp)
   rw [a1,qb]
   cases f1 with
   | go _=>exact a2.elim
   | ret _=>exact a3.elim
   | ex _ s1 =>
    have a3:s1.1 = loadT t t.an.Caps[i] + fB t.an t.an.Caps[i] rights:=a3
    dsimp only
    rw [a3]
    by_cases hl:t.an.Caps[i].aK < loadT t t.an.Caps[i] + fB t.an t.an.Caps[i] rights
    ·rw [if_pos (by simpa using hl)]
     exact .inr ⟨_,rfl,trivial,_,List.getElem_mem hi,rfl,by omega⟩
    ·rw [if_neg (by simpa using hl), ag (by omega)]
     refine .inl ⟨_,rfl,rfl,fun m hm hmi=>?_⟩
     by_cases e:m = i
     ·subst e; omega
     ·exact hI m hm (by omega)) (fun s ⟨hs', hI⟩ => by
   unfold eu
   rw [hs', if_neg (by simp)]
   refine ⟨_,rfl,trivial,fun c hc=>?_⟩
   obtain ⟨m,hm,rfl⟩:=List.getElem_of_mem hc
   exact hI m hm hm) ((0,(⟨0,(⟨#[]⟩:ByteArray),0⟩:aK)):Int × aK) ⟨rfl,fun m _ h=>by omega⟩ (t.an.Caps.length + 1) (by omega)
 rw [h1,qb]
 cases f with
 | go _=>exact h2.elim
 | ret r =>
  obtain ⟨c,hc,rfl,hn⟩:=h3
  exact ⟨_,rfl,⟨fun h=>by simp at h,fun h=>absurd (h.1 c hc) hn⟩,fun h=>by simp at h,fun _=>by simp,fun _=>⟨c,hc,rfl⟩,fun h=>absurd (h c hc) hn⟩
 | ex _ _ =>
  have h3 : ∀ c ∈ t.an.Caps,loadT t c + fB t.an c rights ≤ c.aK:=h3
  dsimp only
  have hl:=mN (rights:=rights) (t:=t) hrs
  have hpl:=kU rights t
  obtain ⟨x,hx,k1,k2,k3,k4⟩:=zt (t:=iM rights t) (h.of hpl.1 hpl.2) (by omega)
  rw [ze hr hrs hb hs,qb,hx,qb]
  refine ⟨_,rfl,⟨fun h=>⟨h3,k1.1 h⟩,fun h=>k1.2 h.2⟩,k2,fun h=>?_,fun h=>absurd h3 h,fun _ h=>?_⟩
  ·have:=k3 h; show x.1.Kind ≠ 0; omega
  ·rw [hpl.1, hpl.2] at k4
   exact k4 h
def sts:List ax → aq → List aq
 | [],t=>[t]
 | r::rs,t=>(List.range ((lft r).length + 1)).flatMap fun k=>sts rs (fA r.aE.Lot ((lft r).take k) t)
def pg:List ax → Nat
 | []=>1
 | r::rs=>((lft r).length + 1) * pg rs
theorem tY : ∀ (rs:List ax) (t:aq),(sts rs t).length = pg rs
 | [],t=>rfl
 | r :: rs, t => by
  have : ∀ n,((List.range n).flatMap fun k=>sts rs (fA r.aE.Lot ((lft r).take k) t)).length = n * pg rs:=by
   intro n
   induction n with
   | zero=>simp
   | succ n ih=>rw [List.range_succ,List.flatMap_append,List.length_append,ih,List.flatMap_singleton,tY rs,Nat.succ_mul]
  exact this _
theorem yK : ∀ {rs:List ax},(∀ r ∈ rs,RtS r) → pg rs ≤ 5 ^ rs.length
 | [],_=>by simp [pg]
 | r :: rs, h => by
  have ih:=yK (rs:=rs) fun q hq=>h q (List.mem_cons_of_mem _ hq)
  have h4:=gg (h r List.mem_cons_self)
  rw [pg,List.length_cons,Nat.pow_succ,Nat.mul_comm (5 ^ rs.length) 5]
  exact Nat.mul_le_mul (by omega) ih
theorem AT : ∀ rs:List ax,1 ≤ pg rs
 | []=>Nat.le_refl _
 | r::rs=>Nat.mul_pos (by omega) (AT rs)
end Go.Proofs.YtegglcdhfnjhcaaGreat

namespace Go.Proofs.YtegglcdhfnjhcaaGreat
open Go.Gb

theorem ya : ∀ (rs:List ax) (n:Nat) (t:aq) (out:List aq),rs.length < n → (∀ r ∈ rs,RtS r) → t.Built.length + 8 * rs.length ≤ 900 → t.Base.length + 12 * rs.length ≤ 900 → out.length + pg rs ≤ 100000 →
  cu n t rs out = some (out ++ sts rs t)
 | _,0,_,_,h,_,_,_,_=>by omega
 | [], n + 1, t, out, _, _, _, _, ho => by
  show dL (cu n) t [] out = _
  unfold dL
  rw [if_pos (by simp),aF (by simp [pg] at ho ⊢; omega),qb]
  rfl
 | r :: rs, n + 1, t, out, hn, hr, hb, hs, ho => by
  show dL (cu n) t (r::rs) out = _
  have hq:=hr r List.mem_cons_self
  have hrs : ∀ q ∈ rs,RtS q:=fun q h=>hr q (List.mem_cons_of_mem _ h)
  have h4:=gg hq
  have hcp:=AT rs
  rw [List.length_cons] at hb hs hn
  have hsl:gQ (r::rs) 1 ((r::rs).length:Int) = some rs:=by
   rw [eW (by omega) (by simp; omega) (by omega)]; simp
  have hcnt:pg (r::rs) = ((lft r).length + 1) * pg rs:=rfl
  have hmul : ∀ i,i ≤ (lft r).length + 1 → i * pg rs ≤ pg (r::rs):=fun i hi=>by rw [hcnt]; exact Nat.mul_le_mul_right _ hi
  unfold dL
  rw [if_neg (by simp; omega),hsl,qb,ya rs n t out (by omega) hrs (by omega) (by omega) (by have:=hmul 1 (by omega); omega),qb,show (0:Int) = ((0:Nat):Int) from rfl,ae (by simp),qb,List.getElem_cons_zero,uk hq,qb]
  have hlen : ∀ m,m ≤ (lft r).length + 1 → ((List.range m).flatMap fun k=>sts rs (fA r.aE.Lot ((lft r).take k) t)).length = m * pg rs:=by
   intro m
   induction m with
   | zero=>intro _; simp
   | succ m ih=>intro h; rw [List.range_succ,List.flatMap_append,List.length_append,ih (by omega),List.flatMap_singleton,tY rs,Nat.succ_mul]
  obtain ⟨f,h1,h2,h3⟩:=aG (body:=du (cu n) (r::rs) (lft r)) (fun i s=>s.2.1 = ((i:Nat):Int)∧s.2.2 = fA r.aE.Lot ((lft r).take i) t∧s.1 = out ++ (List.range (i + 1)).flatMap fun k=>sts rs (fA r.aE.Lot ((lft r).take k) t)) (lft r).length
   (fun f => match f with | .ex _ s => s.1 = out ++ sts (r :: rs) t | _ => False) (fun i s hi ⟨hs', hT, hO⟩ => by
    obtain ⟨s1,s2,s3⟩:=s
    dsimp only at hs' hT hO
    subst hs'
    have hph:=hq.2 _ (fD (List.getElem_mem hi))
    have hph1:=hph.1; have hph2:=hph.2
    have hl:=jF (lot:=r.aE.Lot) (l:=(lft r).take i) (t:=t) fun ph hp=>hq.2 ph (fD (List.mem_of_mem_take hp))
    have hlt:((lft r).take i).length = i:=by simp; omega
    rw [hlt] at hl
    have hl2:=jF (lot:=r.aE.Lot) (l:=(lft r).take (i + 1)) (t:=t) fun ph hp=>hq.2 ph (fD (List.mem_of_mem_take hp))
    have hlt2:((lft r).take (i + 1)).length = i + 1:=by simp; omega
    rw [hlt2] at hl2
    have hfa:after (fA r.aE.Lot ((lft r).take i) t) r.aE.Lot (lft r)[i] = fA r.aE.Lot ((lft r).take (i + 1)) t:=by
     rw [List.take_succ_eq_append_getElem hi,ug]
    have hol:=hlen (i + 1) (by omega)
    have hm2:=hmul (i + 1 + 1) (by omega)
    have hm1:(i + 1 + 1) * pg rs = (i + 1) * pg rs + pg rs:=Nat.succ_mul _ _
    unfold du
    dsimp only
    rw [if_pos (by simpa using hi),ae hi,qb,show (0:Int) = ((0:Nat):Int) from rfl,ae (by simp),qb,List.getElem_cons_zero,hT,uy (by unfold fA; omega) (by unfold fA; omega),qb,hfa,hsl,qb,
     ya rs n _ s1 (by omega) hrs (by unfold fA; omega) (by unfold fA; omega) (by rw [hO,List.length_append,hol]; omega),qb,ag (by omega)]
    refine .inl ⟨_,rfl,rfl,rfl,?_⟩
    dsimp only
    rw [hO, List.range_succ (n := i + 1), List.flatMap_append, List.flatMap_singleton, List.append_assoc]) (fun s ⟨hs', hT, hO⟩ => by
    unfold du
    rw [hs', if_neg (by simp)]
    exact ⟨_,rfl,trivial,hO⟩) (out ++ sts rs t,0,t) ⟨rfl,rfl,by simp [fA]⟩ ((lft r).length + 1) (by omega)
  have h1' : ah (du (cu n) (r::rs) (lft r)) ((lft r).length + 1) (out ++ sts rs t,((0:Nat):Int),t) = some f:=h1
  rw [h1', qb]
  cases f with
  | go _=>exact h2.elim
  | ret _=>exact h3.elim
  | ex _ s=>dsimp only at h3 ⊢; rw [h3]
theorem xy {t:aq} {rights:List ax} (hr:rights.length ≤ 3) (h : ∀ r ∈ rights,RtS r) (hb:t.Built.length ≤ 100) (hs:t.Base.length ≤ 100):fg t rights = some (sts rights t,0):=by
 unfold fg
 obtain ⟨f,h1,h2,h3⟩:=aG (body:=fP rights) (fun i s=>s.2 = ((i:Nat):Int)∧1 ≤ s.1∧s.1 ≤ ((5 ^ i:Nat):Int)) rights.length
  (fun f => match f with | .ex _ _ => True | _ => False) (fun i s hi ⟨hs', h0, h5⟩ => by
   have hq:=h _ (List.getElem_mem hi)
   have h4:=gg hq
   have hp:(5:Nat) ^ (i + 1) ≤ 125:=by
    have:i + 1 ≤ 3:=by omega
    exact Nat.pow_le_pow_right (by omega) this
   have h6:s.1 * (((lft rights[i]).length:Int) + 1) ≤ ((5 ^ i:Nat):Int) * 5:=Int.mul_le_mul h5 (by omega) (by omega) (by omega)
   have e6:((5 ^ (i + 1):Nat):Int) = ((5 ^ i:Nat):Int) * 5:=by rw [Nat.pow_succ]; push_cast; rfl
   have h7:1 * 1 ≤ s.1 * (((lft rights[i]).length:Int) + 1):=Int.mul_le_mul h0 (by omega) (by omega) (by omega)
   rw [← e6] at h6
   unfold fP
   rw [hs', if_pos (by simpa using hi), ae hi, qb, uk hq, qb, aZ (by constructor <;> omega), qb, gJ (by constructor <;> omega), qb, if_neg (by simp; omega), ag (by omega)]
   exact .inl ⟨_, rfl, rfl, by simpa using h7, h6⟩) (fun s ⟨hs', _⟩ => by
   unfold fP
   rw [hs', if_neg (by simp)]
   exact ⟨_,rfl,trivial,trivial⟩) (1,0) ⟨rfl,by omega,by simp⟩ (rights.length + 1) (by omega)
 rw [h1,qb]
 cases f with
 | go _=>exact h2.elim
 | ret _=>exact h3.elim
 | ex _ s =>
  dsimp only
  unfold bD bq
  have hc:=yK h
  have hp:(5:Nat) ^ rights.length ≤ 125:=Nat.pow_le_pow_right (by omega) hr
  rw [cZ (by omega),qb,qb,cZ (by omega),qb,qb]
  rw [ya rights (rights.length + 1) _ [] (by omega) h (by show t.Built.length + _ ≤ _; omega) (by show t.Base.length + _ ≤ _; omega) (by simp; omega),qb,List.nil_append]
theorem FM (r:ax) (rs:List ax) (t:aq):sts (r::rs) t = (List.range ((lft r).length + 1)).flatMap fun k=>sts rs (fA r.aE.Lot ((lft r).take k) t):=by rw [sts]
end Go.Proofs.YtegglcdhfnjhcaaGreat

namespace Go.Proofs.YtegglcdhfnjhcaaGreat
open Go.Gb

theorem vB {r:ax} : ∃ b,mL r = some b∧(b = true → RtS r):=by
 unfold mL
 rcases eJ (body:=mC r) (id:=0) (min r.aE.Phases.length 5) (fun i=>∀ h:i < r.aE.Phases.length,PhS r.aE.Phases[i]) (by omega) (fun i hi _=>by
  have hlt:i < r.aE.Phases.length:=by omega
  unfold mC db
  rw [if_pos (by simp; omega),ae hlt,qb,qb]
  by_cases hp:PhS r.aE.Phases[i]
  ·have hp1 := hp.1; have hp2 := hp.2
   exact .inl ⟨fun _=>hp,by rw [if_neg (by simp; omega)]⟩
  ·refine .inr ⟨fun h => hp (h hlt), ?_⟩
   rw [if_pos]
   unfold PhS at hp
   simp; omega) (by unfold mC; rw [if_neg (by simp; omega)]) (fuel:=6) (by omega) with ⟨h1,h2⟩ | ⟨⟨m,hm,h1⟩,h2⟩
 ·rw [h2, qb]
  refine ⟨_,rfl,fun h=>?_⟩
  simp at h
  refine ⟨by omega,fun ph hph=>?_⟩
  obtain ⟨m,hm,rfl⟩:=List.getElem_of_mem hph
  exact h1 m (by omega) hm
 ·rw [h2, qb]
  exact ⟨_,rfl,fun h=>by simp at h⟩
structure Il (t:aq) (rights:List ax) (n:Nat):Prop where
 town:o9 t
 caps:t.an.Caps.length ≤ 3
 built:t.Built.length ≤ 8
 base:t.Base.length ≤ 6
 len:rights.length ≤ n
 rts : ∀ r ∈ rights,RtS r
theorem Ew {t:aq} {rights:List ax} {n:Nat} (hn:n ≤ 3) : ∃ b,oG t rights (n:Int) = some b∧(b = true → Il t rights n):=by
 unfold oG
 rcases eJ (body:=my t) (id:=0) (min t.an.Caps.length 4) (fun i=>∀ h:i < t.an.Caps.length,t.an.Caps[i].Corners.length ≤ 12) (by omega) (fun i hi _=>by
  have hlt:i < t.an.Caps.length:=by omega
  unfold my
  rw [if_pos (by simp; omega),ae hlt,qb]
  by_cases hp:t.an.Caps[i].Corners.length ≤ 12
  ·exact .inl ⟨fun _=>hp,by rw [if_neg (by simp; omega)]⟩
  ·exact .inr ⟨fun h=>hp (h hlt),by rw [if_pos (by simp; omega)]⟩) (by unfold my; rw [if_neg (by simp; omega)]) (fuel:=5) (by omega) with ⟨a1,a2⟩ | ⟨_,a2⟩
 ·rw [a2, qb]
  dsimp only
  rcases eJ (body:=mr t) (id:=2) (min t.an.Views.length 4) (fun i=>∀ h:i < t.an.Views.length,t.an.Views[i].Targets.length ≤ 5) (by omega) (fun i hi _=>by
   have hlt:i < t.an.Views.length:=by omega
   unfold mr
   rw [if_pos (by simp; omega),ae hlt,qb]
   by_cases hp:t.an.Views[i].Targets.length ≤ 5
   ·exact .inl ⟨fun _=>hp,by rw [if_neg (by simp; omega)]⟩
   ·exact .inr ⟨fun h=>hp (h hlt),by rw [if_pos (by simp; omega)]⟩) (by unfold mr; rw [if_neg (by simp; omega)]) (fuel:=5) (by omega) with ⟨b1,b2⟩ | ⟨_,b2⟩
  ·rw [b2, qb]
   dsimp only
   rcases eJ (body:=mm t) (id:=4) (min t.an.Tables.length 5) (fun i=>∀ h:i < t.an.Tables.length,t.an.Tables[i].Rows.length ≤ 8) (by omega) (fun i hi _=>by
    have hlt:i < t.an.Tables.length:=by omega
    unfold mm
    rw [if_pos (by simp; omega),ae hlt,qb]
    by_cases hp:t.an.Tables[i].Rows.length ≤ 8
    ·exact .inl ⟨fun _=>hp,by rw [if_neg (by simp; omega)]⟩
    ·exact .inr ⟨fun h=>hp (h hlt),by rw [if_pos (by simp; omega)]⟩) (by unfold mm; rw [if_neg (by simp; omega)]) (fuel:=6) (by omega) with ⟨c1,c2⟩ | ⟨_,c2⟩
   ·rw [c2, qb]
    dsimp only
    rcases eJ (body:=mw rights (n:Int)) (id:=6) (min rights.length (n + 1)) (fun i=>∀ h:i < rights.length,mL rights[i] = some true) (by omega) (fun i hi _=>by
     have hlt:i < rights.length:=by omega
     unfold mw
     rw [if_pos (by simp; omega),ae hlt,qb]
     obtain ⟨b,hb,_⟩:=vB (r:=rights[i])
     rw [hb,qb]
     cases b with
     | true=>exact .inl ⟨fun _=>hb,rfl⟩
     | false=>exact .inr ⟨fun h=>by have:=h hlt; rw [hb] at this; simp at this,rfl⟩) (by unfold mw; rw [if_neg (by simp; omega)]) (fuel:=rights.length + 1) (by omega) with ⟨d1,d2⟩ | ⟨_,d2⟩
    ·rw [d2, qb]
     refine ⟨_,rfl,fun h=>?_⟩
     simp at h
     obtain ⟨⟨⟨⟨⟨⟨⟨e1,e2⟩,e3⟩,e4⟩,e5⟩,e6⟩,e7⟩,e8⟩:=h
     refine ⟨⟨⟨by omega,fun x hx=>?_⟩,by omega,fun c hc=>?_,by omega,by omega,fun w hw=>?_,by omega⟩,by omega,by omega,by omega,by omega,fun r hr=>?_⟩
     ·obtain ⟨m, hm, rfl⟩ := List.getElem_of_mem hx
      exact Nat.le_trans (c1 m (by omega) hm) (by omega)
     ·obtain ⟨m, hm, rfl⟩ := List.getElem_of_mem hc
      exact a1 m (by omega) hm
     ·obtain ⟨m, hm, rfl⟩ := List.getElem_of_mem hw
      have:=b1 m (by omega) hm
      omega
     ·obtain ⟨m, hm, rfl⟩ := List.getElem_of_mem hr
      obtain ⟨b,hb,hbs⟩:=vB (r:=rights[m])
      have:=d1 m (by omega) hm
      rw [hb] at this
      exact hbs (Option.some.inj this)
    ·rw [d2,qb]; exact ⟨_,rfl,fun h=>by simp at h⟩
   ·rw [c2,qb]; exact ⟨_,rfl,fun h=>by simp at h⟩
  ·rw [b2,qb]; exact ⟨_,rfl,fun h=>by simp at h⟩
 ·rw [a2,qb]; exact ⟨_,rfl,fun h=>by simp at h⟩
theorem qL {t:aq} (hb:t.Built.length ≤ 1000) (hs:t.Base.length ≤ 1000):k7 t t = some true:=by
 unfold k7
 rw [if_neg (by simp)]
 rcases eJ (body:=lu t t) (id:=0) t.Built.length (fun _=>True) (by omega) (fun i hi _=>by
  unfold lu
  rw [if_pos (by simpa using hi),ae hi,qb,qb,if_neg (by simp)]
  exact .inl ⟨trivial,rfl⟩) (by unfold lu; rw [if_neg (by simp)]) (fuel:=t.Built.length + 1) (by omega) with ⟨_,a2⟩ | ⟨⟨_,_,h⟩,_⟩
 ·rw [a2, qb]
  dsimp only
  rcases eJ (body:=lr t t) (id:=2) t.Base.length (fun _=>True) (by omega) (fun i hi _=>by
   unfold lr
   rw [if_pos (by simpa using hi),ae hi,qb,qb,if_neg (by simp)]
   exact .inl ⟨trivial,rfl⟩) (by unfold lr; rw [if_neg (by simp)]) (fuel:=t.Base.length + 1) (by omega) with ⟨_,b2⟩ | ⟨⟨_,_,h⟩,_⟩
  ·rw [b2]; rfl
  ·exact absurd trivial h
 ·exact absurd trivial h
end Go.Proofs.YtegglcdhfnjhcaaGreat

namespace Go.Proofs.YtegglcdhfnjhcaaGreat
open Go.Gb

theorem uv : ∀ {l m:List Int},l.Perm m → l.Pairwise (fun a b=>a ≤ b) → m.Pairwise (fun a b=>a ≤ b) → l = m
 | [],m,h,_,_=>h.nil_eq
 | a::l,[],h,_,_=>by simp at h
 | a :: l, b :: m, h, hl, hm => by
  have hab:a = b:=by
   have h1:a ∈ b::m:=h.subset List.mem_cons_self
   have h2:b ∈ a::l:=h.symm.subset List.mem_cons_self
   rcases List.mem_cons.1 h1 with e | h1
   ·exact e
   ·rcases List.mem_cons.1 h2 with e | h2
    ·exact e.symm
    ·have := (List.pairwise_cons.1 hm).1 a h1
     have:=(List.pairwise_cons.1 hl).1 b h2
     omega
  subst hab
  rw [uv ((List.perm_cons a).1 h) (List.pairwise_cons.1 hl).2 (List.pairwise_cons.1 hm).2]
theorem vw : ∀ {l m:List Int},l.Pairwise (fun a b=>a < b) → m.Pairwise (fun a b=>a < b) → (∀ x,x ∈ l ↔ x ∈ m) → l = m
 | [],[],_,_,_=>rfl
 | [],b::m,_,_,h=>by have:=(h b).2 List.mem_cons_self; simp at this
 | a::l,[],_,_,h=>by have:=(h a).1 List.mem_cons_self; simp at this
 | a :: l, b :: m, hl, hm, h => by
  have ha:=(List.pairwise_cons.1 hl).1
  have hb:=(List.pairwise_cons.1 hm).1
  have hab:a = b:=by
   rcases List.mem_cons.1 ((h a).1 List.mem_cons_self) with e | h1
   ·exact e
   ·rcases List.mem_cons.1 ((h b).2 List.mem_cons_self) with e | h2
    ·exact e.symm
    ·have:=hb a h1; have:=ha b h2; omega
  subst hab
  rw [vw (List.pairwise_cons.1 hl).2 (List.pairwise_cons.1 hm).2 fun x=>?_]
  constructor
  ·intro hx
   rcases List.mem_cons.1 ((h x).1 (List.mem_cons_of_mem _ hx)) with e | h1
   ·have:=ha x hx; omega
   ·exact h1
  ·intro hx
   rcases List.mem_cons.1 ((h x).2 (List.mem_cons_of_mem _ hx)) with e | h1
   ·have:=hb x hx; omega
   ·exact h1
theorem yj {l m:List Int} (h:l.length ≤ 1000) (hp:l.Perm m) (hs:m.Pairwise fun a b=>a ≤ b):gE l = some m:=by
 obtain ⟨r, hr, hp', hs'⟩ := iP (l := l) (by omega)
 rw [hr,uv (hp'.trans hp) hs' hs]
theorem uN {l m:List Int} (h:l.length ≤ 1000) (hs:l.Pairwise fun a b=>a ≤ b) (hm:m.Pairwise fun a b=>a < b) (he : ∀ x,x ∈ l ↔ x ∈ m):eb l = some m:=by
 obtain ⟨r,hr,h1,h2,_⟩:=k8 (l:=l) (by omega) hs
 rw [hr,vw h1 hm fun x=>(h2 x).trans (he x)]
def sq:List aT:=[⟨0,0⟩,⟨9,0⟩,⟨9,9⟩,⟨0,9⟩]
def sqS:List bj:=[⟨⟨0,0⟩,⟨9,0⟩⟩,⟨⟨9,0⟩,⟨9,9⟩⟩,⟨⟨9,9⟩,⟨0,9⟩⟩,⟨⟨0,9⟩,⟨0,0⟩⟩]
theorem DB:bI sq = some ([⟨0,0,9,9⟩],0):=by
 have h0:fu sq = some true:=by rfl
 have h1:ah (cw sq) (sq.length + 1) (([]:List Int),0) = some (.ex 0 ([0,9,9,0],4)):=by rfl
 have h2:gE [0,9,9,0] = some [0,0,9,9]:=yj (by simp) (by decide) (by decide)
 have h3:eb [0,0,9,9] = some [0,9]:=uN (by simp) (by decide) (by decide) (fun x=>by simp)
 have h4:dD sq = some sqS:=by rfl
 have h5:gE [0,9] = some [0,9]:=yj (by simp) (List.Perm.refl _) (by decide)
 have h6:ah (bS [0,9] sqS (([]:List aw),0)) (sqS.length + 1) (([]:List Int),0) = some (.ex 4 ([0,9],4)):=by rfl
 have h7:ah (bG [0,9] (([]:List aw),0) [0,9]) 9 (([]:List aw),0) = some (.ex 6 ([⟨0,0,9,9⟩],2)):=by rfl
 have h8:bu [0,9] sqS 1 (([]:List aw),0) = some (.go ([⟨0,0,9,9⟩],1)):=by
  unfold bu
  rw [if_pos (by decide),h6,qb]
  dsimp only
  rw [h5,qb]
  have h7' : ah (bG [0,9] (([]:List aw),0) [0,9]) (([0,9]:List Int).length + sqS.length + ([]:List aw).length + ([0,9]:List Int).length + 1) (([]:List aw),0) = some (.ex 6 ([⟨0,0,9,9⟩],2)):=h7
  rw [h7', qb]
  rfl
 have h9:bu [0,9] sqS 1 ([⟨0,0,9,9⟩],1) = some (.ex 2 ([⟨0,0,9,9⟩],1)):=by rfl
 unfold bI
 rw [h0,qb,if_neg (by simp),h1,qb]
 dsimp only
 rw [h2,qb,h3,qb,h4,qb,show bZ (([0,9]:List Int).length:Int) 1 = some 1 from rfl,qb]
 have h10:ah (bu [0,9] sqS 1) ((1:Int).toNat + 1) (([]:List aw),0) = some (.ex 2 ([⟨0,0,9,9⟩],1)):=by
  show ah _ 2 _ = _
  simp only [ah,h8,h9,qb]
 rw [h10,qb]
 rfl
end Go.Proofs.YtegglcdhfnjhcaaGreat

namespace Go.Proofs.YtegglcdhfnjhcaaGreat
open Go.Gb

def cC:Cap:=⟨(⟨#[99]⟩:ByteArray),0,100,sq⟩
def t0:aq:=⟨⟨[],[],[],[],[cC],[],[],0⟩,[],[],[],[],[]⟩
def hmV (x y u:Int):af:=⟨⟨⟨x,0,y,1⟩,0,3⟩,0,u,false⟩
def r1:ax:=⟨1,0,⟨0,[⟨[hmV 1 2 60],[]⟩,⟨[],[⟨(⟨#[99]⟩:ByteArray),30⟩]⟩]⟩,0,0,false⟩
def r2 (u:Int):ax:=⟨2,0,⟨1,[⟨[hmV 3 4 u],[]⟩]⟩,0,0,false⟩
theorem vb (u:Int):lH u = some (t0,[r1,r2 u]):=rfl
theorem Jx:o9 t0:=⟨⟨by simp [t0],fun t h=>by simp [t0] at h⟩,by simp [t0],fun c h=>by
 have:c = cC:=by simpa [t0] using h
 subst this; simp [cC,sq],by simp [t0],by simp [t0],fun w h=>by simp [t0] at h,by simp [t0]⟩
theorem HF (u:Int) : ∀ r ∈ [r1,r2 u],RtS r:=by
 intro r h
 simp only [List.mem_cons,List.not_mem_nil,or_false] at h
 rcases h with rfl | rfl
 ·refine ⟨by simp [r1], fun ph hp => ?_⟩
  simp only [r1,List.mem_cons,List.not_mem_nil,or_false] at hp
  rcases hp with rfl | rfl <;> exact ⟨by simp,by simp⟩
 ·refine ⟨by simp [r2], fun ph hp => ?_⟩
  simp only [r2,List.mem_cons,List.not_mem_nil,or_false] at hp
  subst hp; exact ⟨by simp,by simp⟩
theorem E8 {v:af} {b:Bool} (h:bP v = some true) (hc:aX [⟨0,0,9,9⟩] (fun y0=>ck y0 v) = some true):ld t0.an cC v = v.Units:=by
 unfold ld cR
 rw [h,qb,if_neg (by simp),show cC.Corners = sq from rfl,DB,qb]
 dsimp only
 rw [hc]
 rfl
theorem ld1:ld t0.an cC (hmV 1 2 60) = 60:=E8 (b:=true) rfl rfl
theorem Ku:ld t0.an cC (hmV 3 4 40) = 40:=E8 (b:=true) rfl rfl
theorem KG:ld t0.an cC (hmV 3 4 41) = 41:=E8 (b:=true) rfl rfl
theorem Jy:top t0.an cC r1 = 60:=by
 have e1:phL t0.an cC ⟨[hmV 1 2 60],[]⟩ = 60:=by simp [phL,nmd,lds,ld1]
 have e2:phL t0.an cC ⟨[],[⟨(⟨#[99]⟩:ByteArray),30⟩]⟩ = -30:=by simp [phL,nmd,lds,cC,lmd]; decide
 have:(lft r1).map (phL t0.an cC) = [60,-30]:=by
  rw [show lft r1 = [⟨[hmV 1 2 60],[]⟩,⟨[],[⟨(⟨#[99]⟩:ByteArray),30⟩]⟩] from rfl]
  simp [e1,e2]
 unfold top
 rw [this]; rfl
theorem I9 {u:Int} (h:ld t0.an cC (hmV 3 4 u) = u) (h0:0 ≤ u):top t0.an cC (r2 u) = u:=by
 have e1:phL t0.an cC ⟨[hmV 3 4 u],[]⟩ = u:=by simp [phL,nmd,lds,h]
 have:(lft (r2 u)).map (phL t0.an cC) = [u]:=by
  rw [show lft (r2 u) = [⟨[hmV 3 4 u],[]⟩] from rfl]
  simp [e1]
 unfold top
 rw [this]
 show max 0 (0 + u) = u
 omega
theorem Ex (u:Int):vD (iM [r1,r2 u] t0):=by
 refine ⟨fun w h=>by simp [(kU _ _).2,t0] at h,fun w h=>by simp [(kU _ _).1,t0] at h,?_⟩
 show ([hmV 1 2 60,hmV 3 4 u].Pairwise fun a b=>ovl a b = false)
 simp only [List.pairwise_cons,List.mem_cons,List.not_mem_nil,or_false,forall_eq,List.Pairwise.nil,and_true,false_implies,implies_true]
 rfl
theorem Eo : ∃ x,bU t0 [r1,r2 40] = some x∧x.2 = true:=by
 obtain ⟨x,hx,h1,_⟩:=rA (rights:=[r1,r2 40]) Jx (by simp) (HF 40) (by simp [t0]) (by simp [t0])
 refine ⟨x,hx,h1.2 ⟨fun c hc=>?_,Ex 40⟩⟩
 have:c = cC:=by simpa [t0] using hc
 subst this
 have e:fB t0.an cC [r1,r2 40] = 100:=by simp [fB,Jy,I9 Ku (by omega)]
 rw [e]
 show 0 + 0 + 100 ≤ _
 decide
theorem HI:bU t0 [r1,r2 41] = some (⟨1,(⟨#[99]⟩:ByteArray),0⟩,false):=by
 obtain ⟨x,hx,_,_,_,h4,_⟩:=rA (rights:=[r1,r2 41]) Jx (by simp) (HF 41) (by simp [t0]) (by simp [t0])
 obtain ⟨c,hc,rfl⟩:=h4 fun h=>by
  have:=h cC (by simp [t0])
  have e:fB t0.an cC [r1,r2 41] = 101:=by simp [fB,Jy,I9 KG (by omega)]
  rw [e] at this
  have e0:loadT t0 cC = 0:=rfl
  rw [e0] at this
  exact absurd this (by decide)
 have:c = cC:=by simpa [t0] using hc
 subst this
 exact hx
end Go.Proofs.YtegglcdhfnjhcaaGreat

namespace Go.Proofs.YtegglcdhfnjhcaaGreat
open Go.Gb

def v2:af:=⟨⟨⟨2,0,3,1⟩,0,9⟩,0,0,false⟩
theorem I4:SS (sld v2):=EP (by decide)
theorem H3:oT (sld v2) ⟨0,0,0⟩ ⟨1,0,1⟩ = true:=by
 obtain ⟨r,hr,hrs⟩:=Ce (p:=⟨0,0,0⟩) (d:=⟨1,0,1⟩) (oc v2)
 unfold oT
 rw [hr]
 refine hrs.2 ⟨by decide,by decide,I4,2,1,by omega,by omega,?_⟩
 show jz (sld v2) _ _ _
 decide
end Go.Proofs.YtegglcdhfnjhcaaGreat

namespace Go.Proofs.YtegglcdhfnjhcaaGreat
open Go.Gb

def wT:aq:=⟨⟨[],[],[],[],[],[],[⟨1,0,1⟩],1⟩,[],[],[⟨7,⟨0,0,0⟩⟩],[],[]⟩
def rW:ax:=⟨3,0,⟨1,[⟨[hmV 9 10 0],[]⟩,⟨[v2],[]⟩]⟩,0,0,false⟩
theorem I5:o9 wT:=⟨⟨by simp [wT],fun t h=>by simp [wT] at h⟩,by simp [wT],fun c h=>by simp [wT] at h,by simp [wT],by simp [wT],fun w h=>by simp [wT] at h,by simp [wT]⟩
theorem K7 : ∀ r ∈ [rW],RtS r:=by
 intro r h
 rw [List.mem_singleton.1 h]
 refine ⟨by simp [rW],fun ph hp=>?_⟩
 simp only [rW,List.mem_cons,List.not_mem_nil,or_false] at hp
 rcases hp with rfl | rfl <;> exact ⟨by simp,by simp⟩
theorem Jr:bU wT [rW] = some (⟨2,(⟨#[]⟩:ByteArray),0⟩,false):=by
 obtain ⟨x,hx,_,_,_,_,h5⟩:=rA (rights:=[rW]) I5 (by simp) K7 (by simp [wT]) (by simp [wT])
 obtain ⟨i,hi,rfl⟩:=h5 (fun c hc=>by simp [wT] at hc) fun h=>by
  have:=h ⟨7,⟨0,0,0⟩⟩ (by simp [wT])
  have e:ec (iM [rW] wT).Built (fun lot=>lot == (7:Int)) = [sld (hmV 9 10 0),sld v2]:=rfl
  have e0:oh (iM [rW] wT) ⟨7,⟨0,0,0⟩⟩ = 0:=by
   unfold oh fw
   dsimp only
   rw [e,(kU _ _).1]
   show List.countP _ [(⟨1,0,1⟩:aJ)] = 0
   simp [H3]
  rw [e0] at this
  exact absurd this (by decide)
 have:i = 0:=by simp [wT] at hi; exact hi
 subst this
 exact hx
theorem ID : ∃ x,dW wT = some x∧x.2 = true:=by
 obtain ⟨x,hx,h1,_⟩:=zV I5 (by simp [wT]) (by simp [wT])
 refine ⟨x,hx,h1.2 ⟨fun c hc=>by simp [wT] at hc,fun w hw=>?_,fun w hw=>by simp [wT] at hw,List.Pairwise.nil⟩⟩
 have:w = ⟨7,⟨0,0,0⟩⟩:=by simpa [wT] using hw
 subst this
 show (1:Int) ≤ ((oh wT ⟨7,⟨0,0,0⟩⟩:Nat):Int)
 have:oh wT ⟨7,⟨0,0,0⟩⟩ = 1:=rfl
 rw [this]; decide
theorem Io:dC t0 [r1] (r2 40) = some 0:=by
 obtain ⟨x,hx,h⟩:=Eo
 unfold dC
 have h1:fj (r2 40) = some true:=rfl
 have h2:bW [r1] (fun y0=>fV y0 (r2 40)) = some false:=rfl
 have h3:eo [r1] = some [r1]:=rfl
 rw [h1,qb,if_neg (by simp),h2,qb,if_neg (by simp),h3,qb,aF (by simp),qb]
 show (bU t0 [r1,r2 40]).bind _ = _
 rw [hx,qb,h]; rfl
theorem yW:ny = some true:=by
 unfold ny
 rw [vb,qb,vb,qb]
 dsimp only
 obtain ⟨x,hx,hx2⟩:=Eo
 rw [hx,qb,HI,qb,show mc 9 0 = some (hmV 9 10 0) from rfl,qb]
 have hw:bU (⟨(⟨[],[],[],[],[],[],[(⟨1,0,1⟩:aJ)],1⟩:an),[],[],[(⟨7,(⟨0,0,0⟩:aJ)⟩:fm)],[],[]⟩:aq) ([(⟨3,0,(⟨1,[(⟨[hmV 9 10 0],[]⟩:Phase),(⟨[(⟨(⟨(⟨2,0,3,1⟩:aw),0,9⟩:Box),0,0,false⟩:af)],[]⟩:Phase)]⟩:aE),0,0,false⟩:ax)]) = some (⟨2,(⟨#[]⟩:ByteArray),0⟩,false):=Jr
 rw [hw,qb]
 obtain ⟨y,hy,hy2⟩:=ID
 have hk:dW (⟨(⟨[],[],[],[],[],[],[(⟨1,0,1⟩:aJ)],1⟩:an),[],[],[(⟨7,(⟨0,0,0⟩:aJ)⟩:fm)],[],[]⟩:aq) = some y:=hy
 rw [hk,qb,xy (by simp) (HF 40) (by simp [t0]) (by simp [t0]),qb]
 dsimp only
 rw [hx2,hy2,tY]
 have hc:pg [r1,r2 40] = 6:=rfl
 rw [hc,if_pos (by simp)]
 have h1:gQ [r1,r2 40] 0 1 = some [r1]:=rfl
 have h2:bZ (([r1,r2 40]:List ax).length:Int) 1 = some 1:=rfl
 have h3:au [r1,r2 40] 1 = some (r2 40):=rfl
 rw [h1,qb,h2,qb,h3,qb,Io]
 rfl
end Go.Proofs.YtegglcdhfnjhcaaGreat

namespace Go.Proofs.YtegglcdhfnjhcaaGreat
open Go.Gb

theorem Bl : ∀ {rights:List ax} {t u:aq},(∀ r ∈ rights,RtS r) → u ∈ sts rights t → u.Built.length ≤ t.Built.length + 8 * rights.length∧u.Base.length ≤ t.Base.length + 12 * rights.length
 | [],t,u,_,h=>by obtain rfl:=List.mem_singleton.1 h; simp
 | r :: rs, t, u, hr, h => by
  unfold sts at h
  obtain ⟨k,hk,hu⟩:=List.mem_flatMap.1 h
  have h4:=gg (hr r List.mem_cons_self)
  have h1:=jF (lot:=r.aE.Lot) (l:=(lft r).take k) (t:=t) fun ph hp=>(hr r List.mem_cons_self).2 ph (fD (List.mem_of_mem_take hp))
  have ih:=Bl (fun q hq=>hr q (List.mem_cons_of_mem _ hq)) hu
  have hk' : ((lft r).take k).length ≤ 4:=by simp; omega
  unfold fA at ih
  rw [List.length_cons]; omega
theorem vC {rights:List ax} {t:aq} (hr : ∀ r ∈ rights,RtS r) (h3:rights.length ≤ 3):(sts rights t).length ≤ 125:=by
 rw [tY]
 refine Nat.le_trans (yK hr) (Nat.le_trans (Nat.pow_le_pow_right (by omega) h3) (by decide))
end Go.Proofs.YtegglcdhfnjhcaaGreat

namespace Go.Proofs.YtegglcdhfnjhcaaGreat
open Go.Gb

theorem wb {s:List ax} {f:ax → Option Bool} {g:ax → Bool} (hl:s.length ≤ 1000000) (hf : ∀ x ∈ s,f x = some (g x)):bW s f = some (s.any g):=by
 obtain ⟨fl,h1,h2,h3⟩:=aG (body:=dk s f) (fun i t=>t = ((i:Nat):Int)∧∀ m (h:m < s.length),m < i → g s[m] = false) s.length
  (fun fl=>match fl with | .ex _ _=>s.any g = false | .ret r=>0 ≤ r∧s.any g = true | .go _=>False) (fun i t hi ⟨ht,hI⟩=>by
   subst ht
   unfold dk
   rw [if_pos (by simpa using hi),ae hi,qb,hf s[i] (List.getElem_mem hi),qb]
   cases hb:g s[i] with
   | true=>exact .inr ⟨_,rfl,trivial,by show (0:Int) ≤ i; omega,List.any_eq_true.2 ⟨_,List.getElem_mem hi,hb⟩⟩
   | false =>
    rw [if_neg (by simp),ag (by omega)]
    refine .inl ⟨_,rfl,rfl,fun m hm hmi=>?_⟩
    by_cases e:m = i
    ·subst e; exact hb
    ·exact hI m hm (by omega)) (fun t ⟨ht,hI⟩=>by
   subst ht
   unfold dk
   rw [if_neg (by simp)]
   refine ⟨_,rfl,trivial,?_⟩
   rw [List.any_eq_false]
   intro x hx
   obtain ⟨m,hm,rfl⟩:=List.getElem_of_mem hx
   rw [hI m hm hm]; simp) 0 ⟨rfl,fun m _ h=>by omega⟩ (s.length + 1) (by omega)
 unfold bW gj
 rw [h1,qb]
 cases fl with
 | go _=>exact h3.elim
 | ex _ _=>dsimp only at h3; rw [h3]; rfl
 | ret r =>
  obtain ⟨h3,h4⟩:=h3
  rw [h4,qb,decide_eq_true h3]
theorem Dt (r:ax):fj r = some (liv r):=rfl
theorem zR {t:aq} {rights:List ax} {r:ax} {n:Nat} (hF:Il t rights n) (hn:n ≤ 2) (hr:RtS r) :
  ∃ x,bU t (rights ++ [r]) = some x∧(x.2 = true ↔ Hk t (rights ++ [r]))∧dC t rights r = some (if liv r = false then 1 else if rights.any (fun q=>q.Id == r.Id) = true then 5 else if x.2 = false then 21 else 0):=by
 have h8:=hF.built; have h6:=hF.base; have hl:=hF.len
 have hrs : ∀ q ∈ rights ++ [r],RtS q:=fun q hq=>by
  rcases List.mem_append.1 hq with h | h
  ·exact hF.rts q h
  ·rw [List.mem_singleton.1 h]; exact hr
 obtain ⟨x,hx,x1,_⟩:=rA (rights:=rights ++ [r]) hF.town (by simp; omega) hrs (by omega) (by omega)
 refine ⟨x,hx,x1,?_⟩
 unfold dC eo
 rw [Dt,qb]
 cases h1:liv r with
 | false=>rfl
 | true =>
  rw [if_neg (by simp),wb (s:=rights) (f:=fun y0=>fV y0 r) (g:=fun q=>q.Id == r.Id) (by omega) (fun q _=>rfl),qb,if_neg (show ¬ (true = false) by simp)]
  cases h2:rights.any (fun q=>q.Id == r.Id) with
  | true=>rfl
  | false =>
   rw [if_neg (by simp),cZ (by omega),qb,qb,aF (by simp; omega),qb,hx,qb]
   cases h3:x.2 with
   | true=>rfl
   | false=>rfl
end Go.Proofs.YtegglcdhfnjhcaaGreat

namespace Go.Proofs.YtegglcdhfnjhcaaGreat
open Go.Gb

theorem BB (a b:aw):cj a b = cj b a:=by
 have e:(⟨max a.X0 b.X0,max a.Y0 b.Y0,min a.X1 b.X1,min a.Y1 b.Y1⟩:aw) = ⟨max b.X0 a.X0,max b.Y0 a.Y0,min b.X1 a.X1,min b.Y1 a.Y1⟩:=by
  rw [Int.max_comm a.X0,Int.max_comm a.Y0,Int.min_comm a.X1,Int.min_comm a.Y1]
 unfold cj
 rw [bJ,bJ,qb,qb,qb,qb,e]
 generalize decide (VR a) = x
 generalize decide (VR b) = y
 cases x <;> cases y <;> rfl
theorem Fz (a b:af):ovl a b = ovl b a:=by
 have e:cQ a b = cQ b a:=by
  unfold cQ
  rw [o0,o0,qb,qb,qb,qb,BB,Int.max_comm a.Box.Z0,Int.min_comm a.Box.Z1]
  cases rgt a <;> cases rgt b <;> rfl
 unfold ovl; rw [e]
end Go.Proofs.YtegglcdhfnjhcaaGreat

namespace Go.Proofs.YtegglcdhfnjhcaaGreat
open Go.Gb

theorem Bf {l:List Phase} (h:l.length ≤ 1000) (hl : ∀ ph ∈ l,PhS ph):mn l = some l:=by
 unfold mn
 obtain ⟨f,h1,h2,h3⟩:=aG (body:=jq l) (fun i s=>s.2 = ((i:Nat):Int)∧s.1 = l.take i) l.length
  (fun f => match f with | .ex _ s => s.1 = l | _ => False) (fun i s hi ⟨hs', hI⟩ => by
   have hp:=hl _ (List.getElem_mem hi)
   have hp1:=hp.1; have hp2:=hp.2
   unfold jq
   rw [hs', if_pos (by simpa using hi), ae hi, qb, cZ (by omega), qb, qb, cZ (by omega), qb, hI, aF (by simp; omega), qb, ag (by omega)]
   refine .inl ⟨_,rfl,rfl,?_⟩
   rw [List.take_succ_eq_append_getElem hi]) (fun s ⟨hs', hI⟩ => by
   unfold jq
   rw [hs', if_neg (by simp)]
   rw [List.take_length] at hI
   exact ⟨_,rfl,trivial,hI⟩) ([],0) ⟨rfl,by simp⟩ (l.length + ([]:List Phase).length + 1) (by simp)
 rw [h1,qb]
 cases f with
 | go _=>exact h2.elim
 | ret _=>exact h3.elim
 | ex _ s=>dsimp only at h3 ⊢; rw [h3]
theorem vG {r:ax} (h:RtS r):ju r = some (lft r):=by
 have h4:=h.1
 unfold ju iz
 rw [qb]
 show (if (!(liv r)) = true then _ else _) = _
 by_cases hl:liv r = true
 ·rw [if_neg (by simp [hl])]
  have hl':=hl
  unfold liv at hl'
  simp at hl'
  rw [eW hl'.1.2 (by omega) (by omega),qb,Int.toNat_natCast,List.take_length]
  unfold lft
  rw [if_pos hl,Bf (by simp; omega) fun ph hp=>h.2 ph (List.mem_of_mem_drop hp),qb]
 ·rw [if_pos (by simpa using hl)]
  unfold lft
  rw [if_neg hl]
theorem r8 {t:aq} {lot:Int} {ph:Phase} (hb:t.Built.length + ph.Volumes.length ≤ 1000) (hs:t.Base.length + ph.bd.length ≤ 1000):hZ t lot ph = some (after t lot ph):=by
 unfold hZ
 rw [cZ (by omega),qb]
 obtain ⟨f,h1,h2,h3⟩:=aG (body:=kD lot ph) (fun i s=>s.2 = ((i:Nat):Int)∧s.1 = t.Built ++ (ph.Volumes.take i).map (fun v=>(⟨lot,v⟩:bf))) ph.Volumes.length
  (fun f => match f with | .ex _ s => s.1 = t.Built ++ ph.Volumes.map (fun v => (⟨lot, v⟩ : bf)) | _ => False) (fun i s hi ⟨hs', hI⟩ => by
   unfold kD
   rw [hs', if_pos (by simpa using hi), ae hi, qb, hI, aF (by simp; omega), qb, ag (by omega)]
   refine .inl ⟨_,rfl,rfl,?_⟩
   rw [List.take_succ_eq_append_getElem hi,List.map_append,List.append_assoc]
   rfl) (fun s ⟨hs', hI⟩ => by
   unfold kD
   rw [hs', if_neg (by simp)]
   rw [List.take_length] at hI
   exact ⟨_,rfl,trivial,hI⟩) (t.Built,0) ⟨rfl,by simp⟩ (ph.Volumes.length + 1) (by omega)
 rw [h1,qb]
 cases f with
 | go _=>exact h2.elim
 | ret _=>exact h3.elim
 | ex _ s =>
  have h3:s.1 = t.Built ++ ph.Volumes.map (fun v=>(⟨lot,v⟩:bf)):=h3
  dsimp only
  rw [cZ (by omega),qb]
  obtain ⟨f,g1,g2,g3⟩:=aG (body:=jV ph) (fun i s=>s.2 = ((i:Nat):Int)∧s.1 = t.Base ++ (ph.bd.take i).map (fun g=>(⟨g.Name,-(lmd g.N)⟩:Entry))) ph.bd.length
   (fun f => match f with | .ex _ s => s.1 = t.Base ++ ph.bd.map (fun g => (⟨g.Name, -(lmd g.N)⟩ : Entry)) | _ => False) (fun i s hi ⟨hs', hI⟩ => by
    unfold jV
    have hb:=sY ph.bd[i].N
    have hlm:dZ ph.bd[i].N = some (lmd ph.bd[i].N):=by unfold dZ lmd; congr 1; omega
    rw [hs', if_pos (by simpa using hi), ae hi, qb, qb, hlm, qb, ba (by constructor <;> omega), qb, hI, aF (by simp; omega), qb, ag (by omega)]
    refine .inl ⟨_,rfl,rfl,?_⟩
    rw [List.take_succ_eq_append_getElem hi,List.map_append,List.append_assoc,Int.zero_sub]
    rfl) (fun s ⟨hs', hI⟩ => by
    unfold jV
    rw [hs', if_neg (by simp)]
    rw [List.take_length] at hI
    exact ⟨_,rfl,trivial,hI⟩) (t.Base,0) ⟨rfl,by simp⟩ (ph.bd.length + 1) (by omega)
  rw [g1,qb]
  cases f with
  | go _=>exact g2.elim
  | ret _=>exact g3.elim
  | ex _ s=>dsimp only at g3 ⊢; rw [g3,h3]; rfl
theorem DH {rights:List ax} {i:Nat} (hi:i < rights.length) {t:aq} (h:RtS rights[i]) (hb:t.Built.length ≤ 900) (hs:t.Base.length ≤ 900) : ∃ n,ah (iU rights ((i:Int),t) (lft rights[i])) (rights.length + (lft rights[i]).length + 1) (0,t) = some (.ex 2 (n,qE rights[i] t)):=by
 have hl4:=gg h
 obtain ⟨f,h1,h2,h3⟩:=aG (body:=iU rights ((i:Int),t) (lft rights[i])) (fun j s=>s.1 = ((j:Nat):Int)∧s.2 = fA rights[i].aE.Lot ((lft rights[i]).take j) t) (lft rights[i]).length
  (fun f => match f with | .ex k s => k = 2 ∧ s.2 = qE rights[i] t | _ => False) (fun j s hj ⟨hs', hI⟩ => by
   have hq:=h.2 _ (fD (List.getElem_mem hj))
   have hn:=jF (lot:=rights[i].aE.Lot) (l:=(lft rights[i]).take j) (t:=t) (fun ph hp=>h.2 ph (fD (List.mem_of_mem_take hp)))
   have hq1:=hq.1; have hq2:=hq.2
   rw [List.length_take] at hn
   unfold iU
   dsimp only
   rw [hs', if_pos (by simpa using hj), ae hi, qb, ae hj, qb, hI, r8 (by unfold fA; omega) (by unfold fA; omega), qb, ag (by omega)]
   refine .inl ⟨_,rfl,rfl,?_⟩
   dsimp only
   rw [List.take_succ_eq_append_getElem hj, ug]) (fun s ⟨hs', hI⟩ => by
   unfold iU
   rw [hs', if_neg (by simp)]
   rw [List.take_length] at hI
   exact ⟨_,rfl,trivial,rfl,hI⟩) (0,t) ⟨rfl,rfl⟩ (rights.length + (lft rights[i]).length + 1) (by omega)
 rw [h1]
 cases f with
 | go _=>exact h2.elim
 | ret _=>exact h3.elim
 | ex k s=>obtain ⟨n,u⟩:=s; obtain ⟨rfl,g⟩:=h3; exact ⟨n,by rw [show u = _ from g]⟩
theorem A2 {t:aq} {rights:List ax} (hr:rights.length ≤ 10) (h : ∀ r ∈ rights,RtS r) (hb:t.Built.length ≤ 100) (hs:t.Base.length ≤ 100):mZ t rights = some (iM rights t):=by
 unfold mZ
 obtain ⟨f,h1,h2,h3⟩:=aG (body:=ll rights) (fun i s=>s.1 = ((i:Nat):Int)∧s.2 = iM (rights.take i) t) rights.length
  (fun f => match f with | .ex _ s => s.2 = iM rights t | _ => False) (fun i s hi ⟨hs', hI⟩ => by
   have hq:=h _ (List.getElem_mem hi)
   have hn:=mN (rights:=rights.take i) (t:=t) (fun r hp=>h r (List.mem_of_mem_take hp))
   rw [List.length_take] at hn
   obtain ⟨n,hn1⟩:=DH hi (t:=iM (rights.take i) t) hq (by omega) (by omega)
   obtain ⟨s1,s2⟩:=s
   dsimp only at hs' hI
   subst hs' hI
   unfold ll
   dsimp only
   rw [if_pos (by simpa using hi),ae hi,qb,vG hq,qb,hn1,qb]
   dsimp only
   rw [ag (by omega)]
   refine .inl ⟨_,rfl,rfl,?_⟩
   dsimp only
   rw [List.take_succ_eq_append_getElem hi]
   unfold iM
   rw [List.foldl_append]
   rfl) (fun s ⟨hs', hI⟩ => by
   unfold ll
   rw [hs', if_neg (by simp)]
   rw [List.take_length] at hI
   exact ⟨_,rfl,trivial,hI⟩) (0,t) ⟨rfl,rfl⟩ (rights.length + 1) (by omega)
 rw [h1,qb]
 cases f with
 | go _=>exact h2.elim
 | ret _=>exact h3.elim
 | ex _ s=>dsimp only at h3 ⊢; rw [h3]
end Go.Proofs.YtegglcdhfnjhcaaGreat

