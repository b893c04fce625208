/- The plain part of the proof (no program in sight), part 3 -/
import Derived.Test.YtegglcdhfnjhcaaGreatP2
set_option linter.unusedVariables false
set_option linter.unusedSimpArgs false
set_option linter.unusedSectionVars false
namespace Go.Proofs.YtegglcdhfnjhcaaGreat
open Go.Gb

def pt (p:List aT) (i:Nat):aT:=p.getD i ⟨0,0⟩
theorem eA {p:List aT} {i:Nat} (h:i < p.length):au p (i:Int) = some (pt p i):=by
 rw [ae h]; simp [pt,h]
def nx (p:List aT) (i:Nat):Nat:=(i + 1) % p.length
theorem xI {p:List aT} (i:Nat) (h:0 < p.length):nx p i < p.length:=Nat.mod_lt _ h
def sd (p:List aT) (i:Nat):bj:=⟨pt p i,pt p (nx p i)⟩
def sds (p:List aT):List bj:=(List.range p.length).map (sd p)
theorem fC (p:List aT):(sds p).length = p.length:=by simp [sds]
theorem ot {p:List aT} {i:Nat} (h:i < p.length):au (sds p) (i:Int) = some (sd p i):=by
 rw [ae (by rw [fC]; exact h)]; simp [sds]
theorem wN {p:List aT} (h:p.length ≤ 60):dD p = some (sds p):=by
 unfold dD
 rw [uQ (by omega),qb]
 obtain ⟨f,h1,h2,h3⟩:=aG (body:=cS p) (fun i s=>s.2 = ((i:Nat):Int)∧s.1 = (List.range i).map (sd p) ++ List.replicate (p.length - i) ⟨⟨0,0⟩,⟨0,0⟩⟩) p.length
  (fun f=>match f with | .ex _ s=>s.1 = sds p | _=>False) (fun i s hi ⟨hs,hl⟩=>by
   obtain ⟨l,j⟩:=s
   dsimp only at hs hl
   subst hs
   unfold cS
   dsimp only
   have hm:(i + 1) % p.length < p.length:=Nat.mod_lt _ (by omega)
   have hll:i < l.length:=by rw [hl]; simp; omega
   rw [if_pos (by simpa using hi),eA hi,qb,ag (by omega),qb,lK (by omega),qb,eA hm,qb,ae hll,qb,qb,qb]
   refine .inl ⟨_,rfl,rfl,?_⟩
   dsimp only
   rw [hl,Int.toNat_natCast,List.set_append,if_neg (by simp),List.range_succ,List.map_append,List.append_assoc]
   congr 1
   have e1:p.length - i = (p.length - (i + 1)) + 1:=by omega
   rw [e1,List.replicate_succ]
   simp [sd,nx]) (fun s ⟨hs,hl⟩=>by
   unfold cS
   rw [hs,if_neg (by simp)]
   refine ⟨_,rfl,trivial,?_⟩
   show s.1 = _
   rw [hl]; simp [sds]) (List.replicate p.length ⟨⟨0,0⟩,⟨0,0⟩⟩,0) ⟨rfl,by simp⟩ (p.length + 1) (by omega)
 rw [h1,qb]
 cases f with
 | go _=>exact h2.elim
 | ret _=>exact h3.elim
 | ex _ s=>exact congrArg some h3
def q1 (p:List aT) (i:Nat):Bool:=
 !((((((decide ((pt p i).X < 0)) || (decide (1048576 < (pt p i).X))) || (decide ((pt p i).Y < 0))) || (decide (1048576 < (pt p i).Y))) || (((pt p i).X == (pt p (nx p i)).X) == ((pt p i).Y == (pt p (nx p i)).Y))) || (((pt p i).X == (pt p (nx p i)).X) == ((pt p (nx p i)).X == (pt p (nx p (nx p i))).X)))
def lss (a b:aT):Bool:=(decide (a.X < b.X)) || ((a.X == b.X) && (decide (a.Y < b.Y)))
def mts (a b c d:aT):Bool:=(decide ((max (min a.X b.X) (min c.X d.X)) ≤ (min (max a.X b.X) (max c.X d.X)))) && (decide ((max (min a.Y b.Y) (min c.Y d.Y)) ≤ (min (max a.Y b.Y) (max c.Y d.Y))))
def q2 (p:List aT) (i:Nat):Prop:=0 < i → lss (pt p 0) (pt p i) = true
def q3 (p:List aT) (i k:Nat):Prop:=nx p k ≠ i → mts (pt p i) (pt p (nx p i)) (pt p k) (pt p (nx p k)) = false
def Poly (p:List aT):Prop:=4 ≤ p.length∧p.length ≤ 60∧(∀ i,i < p.length → q1 p i = true)∧(∀ i,i < p.length → q2 p i)∧(∀ i,i < p.length → ∀ k,i + 2 ≤ k → k < p.length → q3 p i k)∧(pt p 0).Y = (pt p 1).Y
theorem xx {body:Int → Option (aN Int Bool)} {id:Nat} (c N:Nat) (Q:Nat → Prop) (hN:c + N ≤ 1000000000)
  (step : ∀ i:Nat,i < N → (Q (c + i)∧body ((c + i:Nat):Int) = (aD ((c + i:Nat):Int) 1).bind fun x=>some (.go x)) ∨ (¬ Q (c + i)∧body ((c + i:Nat):Int) = some (.ret false)))
  (done:body ((c + N:Nat):Int) = some (.ex id ((c + N:Nat):Int))) {fuel:Nat} (hf:N < fuel) :
  ((∀ m,m < N → Q (c + m))∧ah body fuel (c:Int) = some (.ex id ((c + N:Nat):Int))) ∨ ((∃ m,m < N∧¬ Q (c + m))∧ah body fuel (c:Int) = some (.ret false)):=by
 obtain ⟨f,h1,h2,h3⟩:=aG (body:=body) (fun i s=>s = ((c + i:Nat):Int)∧∀ m,m < i → Q (c + m)) N
  (fun f=>((∀ m,m < N → Q (c + m))∧f = .ex id ((c + N:Nat):Int)) ∨ ((∃ m,m < N∧¬ Q (c + m))∧f = .ret false)) (fun i s hi ⟨hs,hI⟩=>by
   subst hs
   rcases step i hi with ⟨hq,hb⟩ | ⟨hq,hb⟩
   ·rw [ag (by omega)] at hb
    refine .inl ⟨_,hb,rfl,fun m hm=>?_⟩
    by_cases e:m = i
    ·subst e; exact hq
    ·exact hI m (by omega)
   ·exact .inr ⟨_,hb,trivial,.inr ⟨⟨i,hi,hq⟩,rfl⟩⟩) (fun s ⟨hs,hI⟩=>by
   subst hs
   exact ⟨_,done,trivial,.inl ⟨hI,rfl⟩⟩) (c:Int) ⟨rfl,fun m h=>by omega⟩ fuel hf
 rcases h3 with ⟨h3,rfl⟩ | ⟨h3,rfl⟩
 ·exact .inl ⟨h3,h1⟩
 ·exact .inr ⟨h3,h1⟩
theorem nx2 {p:List aT} (i:Nat) (h:0 < p.length):(i + 2) % p.length = nx p (nx p i):=by
 unfold nx
 rw [Nat.mod_add_mod]
theorem Ac {p:List aT} (h4:4 ≤ p.length) (h:p.length ≤ 60):(∀ i,i < p.length → q1 p i = true)∧iS p = some true ∨ (∃ i,i < p.length∧¬ q1 p i = true)∧iS p = some false:=by
 unfold iS
 have hb : ∀ i:Nat,i < p.length → fR p (i:Int) = if (!(q1 p i)) = true then some (.ret false) else (aD (i:Int) 1).bind fun x=>some (.go x):=fun i hi=>by
  have e1:aD (i:Int) 1 = some ((i + 1:Nat):Int):=ag (by omega)
  have e2:nm ((i + 1:Nat):Int) (p.length:Int) = some ((nx p i:Nat):Int):=lK (by omega)
  have e3:aD (i:Int) 2 = some ((i + 2:Nat):Int):=by rw [aZ (by constructor <;> omega)]; rfl
  have e4:nm ((i + 2:Nat):Int) (p.length:Int) = some ((nx p (nx p i):Nat):Int):=by rw [← nx2 i (by omega)]; exact lK (by omega)
  unfold fR
  rw [if_pos (by simpa using hi),eA hi,qb,e1,qb,e2,qb,eA (xI i (by omega)),qb,e3,qb,e4,qb,eA (xI _ (by omega)),qb]
  unfold q1
  rw [Bool.not_not]
 rcases eJ (body:=fR p) (id:=0) p.length (fun i=>q1 p i = true) (by omega) (fun i hi _=>by
  rw [hb i hi]
  cases hq:q1 p i with
  | true=>exact .inl ⟨rfl,rfl⟩
  | false=>exact .inr ⟨by simp,rfl⟩) (by
  unfold fR
  rw [if_neg (by simp)]) (fuel:=p.length + 1) (by omega) with ⟨h1,h2⟩ | ⟨h1,h2⟩
 ·exact .inl ⟨h1,by rw [h2]; rfl⟩
 ·exact .inr ⟨h1,by rw [h2]; rfl⟩

theorem or2 (x y:Int):kR [x,y] = some (if x ≠ 0 then x else y):=by
 unfold kR
 by_cases hx:x = 0
 ·by_cases hy : y = 0
  ·subst hx hy; rfl
  ·subst hx
   have e0:gK [0,y] 0 = some (.go 1):=rfl
   have e1:gK [0,y] 1 = some (.ret y):=by
    show (if (y != 0) = true then _ else _) = _
    rw [if_pos (by simpa using hy)]
   simp [ah,e0,e1]
 ·have e0 : gK [x, y] 0 = some (.ret x) := by
   show (if (x != 0) = true then _ else _) = _
   rw [if_pos (by simpa using hx)]
  simp [ah,e0,hx]
theorem AL (a b:aT) : ∃ c,dg a b = some c∧(decide (0 ≤ c) = !(lss a b)):=by
 unfold dg
 rw [Bj,qb,Bj,qb,or2,qb]
 refine ⟨_,rfl,?_⟩
 rw [Bool.eq_iff_iff]
 unfold lss sg
 simp only [decide_eq_true_eq, Bool.not_eq_true', Bool.or_eq_false_iff, decide_eq_false_iff_not, Bool.and_eq_false_imp, beq_iff_eq]
 by_cases h1:a.X < b.X
 ·simp [h1]
 ·by_cases h2 : b.X < a.X
  ·simp [h1,h2]; omega
  ·have : a.X = b.X := by omega
   by_cases h3:a.Y < b.Y
   ·simp [h1,h2,h3,this]
   ·by_cases h4:b.Y < a.Y <;> simp [h1,h2,h3,h4,this]
theorem Gv {p:List aT} (h4:4 ≤ p.length) (h:p.length ≤ 60) {i:Nat} (hi:i < p.length) (hid:Nat:=2) :
  ((∀ k,i + 2 ≤ k → k < p.length → q3 p i k)∧∃ s,ah (cF p (i:Int)) (p.length + 1) ((i + 2:Nat):Int) = some (.ex 2 s)) ∨ ((∃ k,i + 2 ≤ k∧k < p.length∧¬ q3 p i k)∧ah (cF p (i:Int)) (p.length + 1) ((i + 2:Nat):Int) = some (.ret false)):=by
 by_cases hn:p.length ≤ i + 2
 ·refine .inl ⟨fun k h1 h2 => by omega, ((i + 2 : Nat) : Int), ?_⟩
  have e:cF p (i:Int) ((i + 2:Nat):Int) = some (.ex 2 ((i + 2:Nat):Int)):=by
   unfold cF
   rw [if_neg (by simp; omega)]
  simp only [ah,e,qb]
 ·have hb : ∀ k : Nat, i + 2 ≤ k → k < p.length → (q3 p i k ∧ cF p (i : Int) (k : Int) = (aD (k : Int) 1).bind fun x => some (.go x)) ∨ (¬ q3 p i k ∧ cF p (i : Int) (k : Int) = some (.ret false)) := fun k h1 h2 => by
   have e1:aD (k:Int) 1 = some ((k + 1:Nat):Int):=ag (by omega)
   have e2:nm ((k + 1:Nat):Int) (p.length:Int) = some ((nx p k:Nat):Int):=lK (by omega)
   have e3:aD (i:Int) 1 = some ((i + 1:Nat):Int):=ag (by omega)
   have e4:i + 1 = nx p i:=by unfold nx; rw [Nat.mod_eq_of_lt (by omega)]
   unfold cF
   rw [if_pos (by simpa using h2),e1,qb,e2,qb]
   by_cases hne:nx p k = i
   ·refine .inl ⟨fun h => absurd hne h, ?_⟩
    rw [if_neg (by simp [hne]),qb,if_neg (by simp)]
   ·rw [if_pos (by simp; exact_mod_cast hne), eA hi, qb, e3, qb, eA (show i + 1 < p.length by omega), qb, eA h2, qb, qb, e2, qb, eA (xI k (by omega)), qb, e4]
    show (_∧(if (mts (pt p i) (pt p (nx p i)) (pt p k) (pt p (nx p k))) = true then _ else _) = _) ∨ (_∧(if (mts (pt p i) (pt p (nx p i)) (pt p k) (pt p (nx p k))) = true then _ else _) = _)
    cases hm:mts (pt p i) (pt p (nx p i)) (pt p k) (pt p (nx p k)) with
    | true=>exact .inr ⟨fun h=>by have:=h hne; rw [hm] at this; simp at this,rfl⟩
    | false=>exact .inl ⟨fun _=>hm,rfl⟩
  rcases xx (body:=cF p (i:Int)) (id:=2) (i + 2) (p.length - (i + 2)) (fun k=>q3 p i k) (by omega) (fun m hm=>hb (i + 2 + m) (by omega) (by omega)) (by
   unfold cF
   rw [if_neg (by simp; omega)]) (fuel:=p.length + 1) (by omega) with ⟨h1,h2⟩ | ⟨⟨m,hm,h1⟩,h2⟩
  ·refine .inl ⟨fun k g1 g2 => ?_, _, h2⟩
   have:=h1 (k - (i + 2)) (by omega)
   rwa [show i + 2 + (k - (i + 2)) = k by omega] at this
  ·exact .inr ⟨⟨i + 2 + m,by omega,by omega,h1⟩,h2⟩
theorem xp (p:List aT) : ∃ b,nL p = some b∧(b = true ↔ Poly p):=by
 unfold nL
 by_cases hl:p.length < 4 ∨ 60 < p.length
 ·rw [if_pos (by simpa using hl.imp (by intro h; omega) (by intro h; omega))]
  exact ⟨_,rfl,by simp; intro ⟨h1,h2,_⟩; omega⟩
 ·rw [if_neg (by simp; omega)]
  have h4:4 ≤ p.length:=by omega
  have h6:p.length ≤ 60:=by omega
  rcases Ac h4 h6 with ⟨h1,h2⟩ | ⟨⟨i,hi,h1⟩,h2⟩
  ·have z0 : au p 0 = some (pt p 0) := eA (i := 0) (by omega)
   have z1:au p 1 = some (pt p 1):=eA (i:=1) (by omega)
   rw [h2,qb,if_neg (by simp),z0,qb,z1,qb,qb]
   by_cases hy:(pt p 0).Y = (pt p 1).Y
   ·rw [if_neg (by simp [hy])]
    rcases eJ (body:=kf p) (id:=0) p.length (fun i=>q2 p i∧∀ k,i + 2 ≤ k → k < p.length → q3 p i k) (by omega) (fun i hi _=>by
     unfold kf
     rw [if_pos (by simpa using hi)]
     have e1:(if (decide ((0:Int) < (i:Int))) = true then (au p 0).bind fun x=>(au p (i:Int)).bind fun y=>(oJ x y).bind fun z=>some (!z) else some false) = some (decide (0 < i) && !(lss (pt p 0) (pt p i))):=by
      by_cases h0:0 < i
      ·rw [if_pos (by simpa using h0), z0, qb, eA hi, qb]
       simp [h0,oJ,lss]
      ·rw [if_neg (by simpa using h0)]; simp [h0]
     rw [e1,qb]
     by_cases h2:q2 p i
     ·rw [if_neg (by
       simp only [Bool.and_eq_true,decide_eq_true_eq,Bool.not_eq_true']
       rintro ⟨h0,h5⟩
       rw [h2 h0] at h5; simp at h5),aZ (by constructor <;> omega),qb,show ((i:Int) + 2) = ((i + 2:Nat):Int) by push_cast; rfl]
      rcases Gv h4 h6 hi with ⟨g1,s,g2⟩ | ⟨⟨k,g1,g3,g4⟩,g2⟩
      ·refine .inl ⟨⟨h2, g1⟩, ?_⟩
       rw [g2,qb]
      ·refine .inr ⟨fun h => g4 (h.2 k g1 g3), ?_⟩
       rw [g2,qb]
     ·refine .inr ⟨fun h => h2 h.1, ?_⟩
      rw [if_pos]
      simp only [Bool.and_eq_true,decide_eq_true_eq,Bool.not_eq_true']
      unfold q2 at h2
      by_cases h0:0 < i
      ·refine ⟨h0, ?_⟩
       cases hx:lss (pt p 0) (pt p i) with
       | false=>rfl
       | true=>exact absurd (fun _=>hx) h2
      ·exact absurd (fun h=>absurd h h0) h2) (by
     unfold kf
     rw [if_neg (by simp)]) (fuel:=p.length + 1) (by omega) with ⟨g1,g2⟩ | ⟨⟨m,g1,g3⟩,g2⟩
    ·rw [g2, qb]
     exact ⟨true,rfl,by simp; exact ⟨h4,h6,h1,fun i hi=>(g1 i hi).1,fun i hi=>(g1 i hi).2,hy⟩⟩
    ·rw [g2, qb]
     exact ⟨false,rfl,by simp; exact fun hp=>g3 ⟨hp.2.2.2.1 m g1,hp.2.2.2.2.1 m g1⟩⟩
   ·rw [if_pos (by simpa using hy)]
    exact ⟨false,rfl,by simp; exact fun hp=>hy hp.2.2.2.2.2⟩
  ·rw [h2, qb, if_pos (by simp), qb, if_pos rfl]
   exact ⟨false,rfl,by simp; exact fun hp=>h1 (hp.2.2.1 i hi)⟩


theorem Ji (p:List aT) (i:Nat):((!((((decide (0 ≤ (pt p i).X)) && (decide ((pt p i).X ≤ 1048576))) && (decide (0 ≤ (pt p i).Y))) && (decide ((pt p i).Y ≤ 1048576)))) || (((pt p i).X == (pt p (nx p i)).X) == ((pt p i).Y == (pt p (nx p i)).Y)) || (((pt p i).X == (pt p (nx p i)).X) == ((pt p (nx p i)).X == (pt p (nx p (nx p i))).X))) = !(q1 p i):=by
 unfold q1
 rw [Bool.not_not]
 congr 2
 rw [Bool.eq_iff_iff]
 simp only [Bool.not_eq_true', Bool.and_eq_false_imp, Bool.or_eq_true, decide_eq_true_eq, decide_eq_false_iff_not, Bool.and_eq_true]
 omega
theorem Gy {p:List aT} (h4:4 ≤ p.length) (h:p.length ≤ 60):((∀ i,i < p.length → q1 p i = true∧q2 p i)∧∃ s,ah (bQ p (sds p)) ((sds p).length + 1) 0 = some (.ex 0 s)) ∨ ((∃ i,i < p.length∧¬ (q1 p i = true∧q2 p i))∧ah (bQ p (sds p)) ((sds p).length + 1) 0 = some (.ret false)):=by
 have hb : ∀ i:Nat,i < p.length → ((q1 p i = true∧q2 p i)∧bQ p (sds p) (i:Int) = (aD (i:Int) 1).bind fun x=>some (.go x)) ∨ (¬ (q1 p i = true∧q2 p i)∧bQ p (sds p) (i:Int) = some (.ret false)):=fun i hi=>by
  have e1:aD (i:Int) 1 = some ((i + 1:Nat):Int):=ag (by omega)
  have e2:nm ((i + 1:Nat):Int) ((sds p).length:Int) = some ((nx p i:Nat):Int):=by rw [fC]; exact lK (by omega)
  have z0:au p 0 = some (pt p 0):=eA (i:=0) (by omega)
  obtain ⟨c,hc,hlc⟩:=AL (pt p 0) (pt p i)
  unfold bQ
  rw [if_pos (by rw [fC]; simpa using hi),ot hi,qb,e1,qb,e2,qb,ot (xI i (by omega)),qb]
  unfold kB bp
  rw [qb,qb,qb]
  have e3:(if ((!((((decide (0 ≤ (sd p i).a.X)) && (decide ((sd p i).a.X ≤ 1048576))) && (decide (0 ≤ (sd p i).a.Y))) && (decide ((sd p i).a.Y ≤ 1048576)))) || (((sd p i).a.X == (sd p i).b.X) == ((sd p i).a.Y == (sd p i).b.Y))) = true then some true else some (((sd p i).a.X == (sd p i).b.X) == ((sd p (nx p i)).a.X == (sd p (nx p i)).b.X))) = some (!(q1 p i)):=by
   rw [← Ji]
   show (if (_ || _) = true then some true else _) = _
   unfold sd
   dsimp only
   split
   ·rename_i hx; rw [hx]; rfl
   ·rename_i hx; rw [Bool.not_eq_true] at hx; rw [hx]; rfl
  rw [e3,qb]
  cases h1:q1 p i with
  | false=>exact .inr ⟨by simp,rfl⟩
  | true =>
   rw [if_neg (by simp)]
   have e4:(if (decide ((0:Int) < (i:Int))) = true then (au p 0).bind fun x=>(au p (i:Int)).bind fun y=>(dg x y).bind fun z=>some (decide (0 ≤ z)) else some false) = some (decide (0 < i) && !(lss (pt p 0) (pt p i))):=by
    by_cases h0:0 < i
    ·rw [if_pos (by simpa using h0), z0, qb, eA hi, qb, hc, qb, hlc]
     simp [h0]
    ·rw [if_neg (by simpa using h0)]; simp [h0]
   rw [e4,qb]
   by_cases h2:q2 p i
   ·rw [if_neg (by
     simp only [Bool.and_eq_true,decide_eq_true_eq,Bool.not_eq_true']
     rintro ⟨h0,h5⟩
     rw [h2 h0] at h5; simp at h5)]
    exact .inl ⟨⟨rfl,h2⟩,rfl⟩
   ·refine .inr ⟨fun h => h2 h.2, ?_⟩
    rw [if_pos]
    simp only [Bool.and_eq_true,decide_eq_true_eq,Bool.not_eq_true']
    unfold q2 at h2
    by_cases h0:0 < i
    ·refine ⟨h0, ?_⟩
     cases hx:lss (pt p 0) (pt p i) with
     | false=>rfl
     | true=>exact absurd (fun _=>hx) h2
    ·exact absurd (fun h=>absurd h h0) h2
 rcases eJ (body:=bQ p (sds p)) (id:=0) p.length (fun i=>q1 p i = true∧q2 p i) (by omega) (fun i hi _=>hb i hi) (by
  unfold bQ
  rw [if_neg (by rw [fC]; simp)]) (fuel:=(sds p).length + 1) (by rw [fC]; omega) with ⟨h1,h2⟩ | ⟨⟨m,g1,g3⟩,h2⟩
 ·exact .inl ⟨h1,_,h2⟩
 ·exact .inr ⟨⟨m,g1,g3⟩,h2⟩
theorem GP {p:List aT} (h4:4 ≤ p.length) (h:p.length ≤ 60) {i:Nat} (hi:i < p.length) :
  ((∀ k,i + 2 ≤ k → k < p.length → q3 p i k)∧∃ s,ah (bh (sds p) (i:Int)) ((sds p).length + 1) ((i + 2:Nat):Int) = some (.ex 4 s)) ∨ ((∃ k,i + 2 ≤ k∧k < p.length∧¬ q3 p i k)∧ah (bh (sds p) (i:Int)) ((sds p).length + 1) ((i + 2:Nat):Int) = some (.ret false)):=by
 by_cases hn:p.length ≤ i + 2
 ·refine .inl ⟨fun k h1 h2 => by omega, ((i + 2 : Nat) : Int), ?_⟩
  have e:bh (sds p) (i:Int) ((i + 2:Nat):Int) = some (.ex 4 ((i + 2:Nat):Int)):=by
   unfold bh
   rw [if_neg (by rw [fC]; simp; omega)]
  simp only [ah,e,qb]
 ·have hb : ∀ k : Nat, i + 2 ≤ k → k < p.length → (q3 p i k ∧ bh (sds p) (i : Int) (k : Int) = (aD (k : Int) 1).bind fun x => some (.go x)) ∨ (¬ q3 p i k ∧ bh (sds p) (i : Int) (k : Int) = some (.ret false)) := fun k h1 h2 => by
   have e1:aD (i:Int) ((sds p).length:Int) = some ((i:Int) + (p.length:Int)):=by rw [fC]; exact aZ (by constructor <;> omega)
   have e2:bZ ((i:Int) + (p.length:Int)) (k:Int) = some ((i:Int) + (p.length:Int) - (k:Int)):=ba (by constructor <;> omega)
   have hnx:nx p k = i ↔ ¬ (1 < (i:Int) + (p.length:Int) - (k:Int)):=by
    unfold nx
    by_cases hk:k + 1 = p.length
    ·rw [hk,Nat.mod_self]; omega
    ·rw [Nat.mod_eq_of_lt (by omega)]; omega
   unfold bh
   rw [if_pos (by rw [fC]; simpa using h2),e1,qb,e2,qb]
   by_cases hne:nx p k = i
   ·refine .inl ⟨fun h => absurd hne h, ?_⟩
    rw [if_neg (by simpa using hnx.1 hne),qb,if_neg (by simp)]
   ·rw [if_pos (by have := fun h => hne (hnx.2 h); simpa using Classical.not_not.1 this), ot hi, qb, ot h2, qb]
    show (_∧(if (mts (pt p i) (pt p (nx p i)) (pt p k) (pt p (nx p k))) = true then _ else _) = _) ∨ (_∧(if (mts (pt p i) (pt p (nx p i)) (pt p k) (pt p (nx p k))) = true then _ else _) = _)
    cases hm:mts (pt p i) (pt p (nx p i)) (pt p k) (pt p (nx p k)) with
    | true=>exact .inr ⟨fun h=>by have:=h hne; rw [hm] at this; simp at this,rfl⟩
    | false=>exact .inl ⟨fun _=>hm,rfl⟩
  rcases xx (body:=bh (sds p) (i:Int)) (id:=4) (i + 2) (p.length - (i + 2)) (fun k=>q3 p i k) (by omega) (fun m hm=>hb (i + 2 + m) (by omega) (by omega)) (by
   unfold bh
   rw [if_neg (by rw [fC]; simp; omega)]) (fuel:=(sds p).length + 1) (by rw [fC]; omega) with ⟨h1,h2⟩ | ⟨⟨m,hm,h1⟩,h2⟩
  ·refine .inl ⟨fun k g1 g2 => ?_, _, h2⟩
   have:=h1 (k - (i + 2)) (by omega)
   rwa [show i + 2 + (k - (i + 2)) = k by omega] at this
  ·exact .inr ⟨⟨i + 2 + m,by omega,by omega,h1⟩,h2⟩
theorem ym {p:List aT} {i:Nat} (h:q1 p i = true):((pt p i).X = (pt p (nx p i)).X ↔ ¬ (pt p i).Y = (pt p (nx p i)).Y)∧((pt p i).X = (pt p (nx p i)).X ↔ ¬ (pt p (nx p i)).X = (pt p (nx p (nx p i))).X):=by
 unfold q1 at h
 simp only [Bool.not_eq_true', Bool.or_eq_false_iff, beq_eq_false_iff_ne, ne_eq] at h
 obtain ⟨⟨_,h1⟩,h2⟩:=h
 have key : ∀ a b c d:Int,¬ ((a == b) = (c == d)) → (a = b ↔ ¬ c = d):=fun a b c d h=>by
  by_cases e:a = b <;> by_cases f:c = d
  ·exact absurd (by rw [beq_iff_eq.2 e,beq_iff_eq.2 f]) h
  ·exact ⟨fun _=>f,fun _=>e⟩
  ·exact ⟨fun g=>absurd g e,fun g=>absurd f g⟩
  ·exact absurd (by rw [beq_eq_false_iff_ne.2 e,beq_eq_false_iff_ne.2 f]) h
 exact ⟨key _ _ _ _ h1,key _ _ _ _ h2⟩
theorem p8 (p:List aT) : ∃ b,fu p = some b∧(b = true ↔ Poly p):=by
 unfold fu
 by_cases hl:p.length < 4 ∨ 60 < p.length
 ·rw [if_pos (by simpa using hl.imp (by intro h; omega) (by intro h; omega))]
  exact ⟨_,rfl,by simp; intro ⟨h1,h2,_⟩; omega⟩
 ·rw [if_neg (by simp; omega)]
  have h4:4 ≤ p.length:=by omega
  have h6:p.length ≤ 60:=by omega
  have n0:nx p 0 = 1:=by unfold nx; rw [Nat.mod_eq_of_lt (by omega)]
  rw [wN h6,qb]
  rcases Gy h4 h6 with ⟨h1,s,h2⟩ | ⟨⟨i,hi,h1⟩,h2⟩
  ·rw [h2, qb]
   dsimp only
   rcases eJ (body:=ef (sds p)) (id:=2) p.length (fun i=>∀ k,i + 2 ≤ k → k < p.length → q3 p i k) (by omega) (fun i hi _=>by
    unfold ef
    rw [if_pos (by rw [fC]; simpa using hi),aZ (by constructor <;> omega),qb,show ((i:Int) + 2) = ((i + 2:Nat):Int) by push_cast; rfl]
    rcases GP h4 h6 hi with ⟨g1,s,g2⟩ | ⟨⟨k,g1,g3,g4⟩,g2⟩
    ·refine .inl ⟨g1, ?_⟩
     rw [g2,qb]
    ·refine .inr ⟨fun h => g4 (h k g1 g3), ?_⟩
     rw [g2,qb]) (by
    unfold ef
    rw [if_neg (by rw [fC]; simp)]) (fuel:=(sds p).length + 1) (by rw [fC]; omega) with ⟨g1,g2⟩ | ⟨⟨m,g1,g3⟩,g2⟩
   ·have z0 : au (sds p) 0 = some (sd p 0) := ot (i := 0) (by omega)
    rw [g2,qb]
    dsimp only
    rw [z0,qb]
    unfold bp
    rw [qb]
    refine ⟨_,rfl,?_⟩
    have ha:=(ym (h1 0 (by omega)).1).1
    rw [n0] at ha
    have:((sd p 0).a.X = (sd p 0).b.X) = ((pt p 0).X = (pt p 1).X):=by unfold sd; rw [n0]
    simp only [Bool.not_eq_true', beq_eq_false_iff_ne, ne_eq, this]
    constructor
    ·intro hx
     exact ⟨h4,h6,fun i hi=>(h1 i hi).1,fun i hi=>(h1 i hi).2,g1,Classical.byContradiction fun hy=>hx (ha.2 hy)⟩
    ·intro hp hx
     exact ha.1 hx hp.2.2.2.2.2
   ·rw [g2, qb]
    exact ⟨false,rfl,by simp; exact fun hp=>g3 (hp.2.2.2.2.1 m g1)⟩
  ·rw [h2, qb]
   exact ⟨false,rfl,by simp; exact fun hp=>h1 ⟨hp.2.2.1 i hi,hp.2.2.2.1 i hi⟩⟩


theorem uu {out:List Int} {x:Int} {k:Nat} (hs:out.Pairwise (· < ·)) (hk:k ≤ out.length) (h1 : ∀ m (h:m < out.length),m < k → out[m] < x) (h2 : ∀ h:k < out.length,x < out[k]) :
  (out.take k ++ [x] ++ out.drop k).Pairwise (· < ·):=by
 have ht : ∀ a ∈ out.take k,a < x:=fun a ha=>by
  obtain ⟨m,hm,rfl⟩:=List.mem_iff_getElem.1 ha
  simp at hm
  rw [List.getElem_take]
  exact h1 m (by omega) (by omega)
 have hd : ∀ a ∈ out.drop k,x < a:=fun a ha=>by
  obtain ⟨m,hm,rfl⟩:=List.mem_iff_getElem.1 ha
  simp at hm
  rw [List.getElem_drop]
  have hx:=h2 (by omega)
  by_cases e:m = 0
  ·subst e; exact hx
  ·have := List.pairwise_iff_getElem.1 hs k (k + m) (by omega) (by omega) (by omega)
   omega
 rw [List.pairwise_append,List.pairwise_append]
 refine ⟨⟨hs.sublist (List.take_sublist k out),List.pairwise_singleton _ _,fun a ha b hb=>?_⟩,hs.sublist (List.drop_sublist k out),fun a ha b hb=>?_⟩
 ·rw [List.mem_singleton.1 hb]; exact ht a ha
 ·rcases List.mem_append.1 ha with ha | ha
  ·exact Int.lt_trans (ht a ha) (hd b hb)
  ·rw [List.mem_singleton.1 ha]; exact hd b hb
theorem xU {l out:List Int} {i:Nat} (hi:i < l.length) (hl:l.length ≤ 1000) (ho:out.length ≤ 1000) (hs:out.Pairwise (· < ·)) :
  ∃ k,k ≤ out.length∧ah (eS l (out,(i:Int))) (l.length + out.length + 1) 0 = some (.ex 2 (k:Int))∧(∀ m (h:m < out.length),m < k → out[m] < l[i])∧(∀ h:k < out.length,l[i] ≤ out[k]):=by
 obtain ⟨f,h1,h2,h3⟩:=aG (body:=eS l (out,(i:Int))) (fun k s=>s = ((k:Nat):Int)∧∀ m (h:m < out.length),m < k → out[m] < l[i]) out.length
  (fun f => ∃ k : Nat, f = .ex 2 (k : Int) ∧ k ≤ out.length ∧ (∀ m (h : m < out.length), m < k → out[m] < l[i]) ∧ (∀ h : k < out.length, l[i] ≤ out[k])) (fun k s hk ⟨hs', hI⟩ => by
   subst hs'
   unfold eS
   dsimp only
   rw [if_pos (by simpa using hk),ae hk,qb,ae hi,qb,qb]
   by_cases hlt:out[k] < l[i]
   ·rw [if_pos (by simpa using hlt), ag (by omega)]
    refine .inl ⟨_,rfl,rfl,fun m h hm=>?_⟩
    by_cases e:m = k
    ·subst e; exact hlt
    ·exact hI m h (by omega)
   ·rw [if_neg (by simpa using hlt)]
    exact .inr ⟨_, rfl, trivial, k, rfl, by omega, hI, fun _ => by omega⟩) (fun s ⟨hs', hI⟩ => by
   subst hs'
   unfold eS
   dsimp only
   rw [if_neg (by simp),qb,if_neg (by simp)]
   exact ⟨_,rfl,trivial,out.length,rfl,Nat.le_refl _,hI,fun h=>absurd h (Nat.lt_irrefl _)⟩) 0 ⟨rfl,fun m h hm=>by omega⟩ (l.length + out.length + 1) (by omega)
 obtain ⟨k,rfl,g1,g2,g3⟩:=h3
 exact ⟨k,g1,h1,g2,g3⟩
theorem qR {l:List Int} (hl:l.length ≤ 1000) : ∃ r,eU l = some r∧r.Pairwise (· < ·)∧(∀ x,x ∈ r ↔ x ∈ l)∧r.length ≤ l.length:=by
 unfold eU
 obtain ⟨f,h1,h2,h3⟩:=aG (body:=gF l) (fun i s=>s.2 = ((i:Nat):Int)∧s.1.Pairwise (· < ·)∧(∀ x,x ∈ s.1 ↔ x ∈ l.take i)∧s.1.length ≤ i) l.length
  (fun f => match f with | .ex _ s => s.1.Pairwise (· < ·) ∧ (∀ x, x ∈ s.1 ↔ x ∈ l) ∧ s.1.length ≤ l.length | _ => False) (fun i s hi ⟨hs', hp, hm, hn⟩ => by
   obtain ⟨out,j⟩:=s
   dsimp only at hs' hp hm hn
   subst hs'
   obtain ⟨k,hk,g1,g2,g3⟩:=xU hi hl (show out.length ≤ 1000 by omega) hp
   unfold gF
   dsimp only
   rw [if_pos (by simpa using hi),g1,qb]
   dsimp only
   have hmem : ∀ r:List Int,(∀ x,x ∈ r ↔ x ∈ out ∨ x = l[i]) → ∀ x,x ∈ r ↔ x ∈ l.take (i + 1):=fun r hr x=>by
    rw [hr,hm,List.take_succ_eq_append_getElem hi,List.mem_append,List.mem_singleton]
   by_cases hkl:k < out.length
   ·rw [if_pos (by simpa using hkl), ae hkl, qb, ae hi, qb, qb]
    by_cases he:out[k] = l[i]
    ·rw [if_pos (by simpa using he), qb, ag (by omega)]
     refine .inl ⟨_,rfl,rfl,hp,hmem _ fun x=>⟨.inl,fun h=>h.elim id fun e=>by rw [e,← he]; exact List.getElem_mem _⟩,by show out.length ≤ i + 1; omega⟩
    ·rw [if_neg (by simpa using he), eW (Int.le_refl 0) (by omega) (by omega), qb, aF (by simp; omega), qb, qb, aF (by simp; omega), qb, eW (by omega) (by omega) (by omega), qb, aF (by simp; omega), qb, qb, ag (by omega)]
     simp only [Int.toNat_natCast,Int.toNat_zero,List.drop_zero,List.nil_append,List.take_length]
     refine .inl ⟨_,rfl,rfl,uu hp hk g2 (fun h=>by have:=g3 h; omega),hmem _ fun x=>?_,?_⟩
     ·conv => rhs; rw [← List.take_append_drop k out]
      simp only [List.mem_append,List.mem_singleton]
      constructor
      ·rintro ((h | h) | h)
       ·exact .inl (.inl h)
       ·exact .inr h
       ·exact .inl (.inr h)
      ·rintro ((h | h) | h)
       ·exact .inl (.inl h)
       ·exact .inr h
       ·exact .inl (.inr h)
     ·simp; omega
   ·rw [if_neg (by simpa using hkl), qb, if_neg (by simp), eW (Int.le_refl 0) (by omega) (by omega), qb, aF (by simp; omega), qb, ae hi, qb, aF (by simp; omega), qb, eW (by omega) (by omega) (by omega), qb, aF (by simp; omega), qb, qb, ag (by omega)]
    simp only [Int.toNat_natCast,Int.toNat_zero,List.drop_zero,List.nil_append,List.take_length]
    refine .inl ⟨_,rfl,rfl,uu hp hk g2 (fun h=>absurd h hkl),hmem _ fun x=>?_,?_⟩
    ·conv => rhs; rw [← List.take_append_drop k out]
     simp only [List.mem_append,List.mem_singleton]
     constructor
     ·rintro ((h | h) | h)
      ·exact .inl (.inl h)
      ·exact .inr h
      ·exact .inl (.inr h)
     ·rintro ((h | h) | h)
      ·exact .inl (.inl h)
      ·exact .inr h
      ·exact .inl (.inr h)
    ·simp; omega) (fun s ⟨hs', hp, hm, hn⟩ => by
   unfold gF
   rw [hs', if_neg (by simp)]
   rw [List.take_length] at hm
   exact ⟨_,rfl,trivial,hp,hm,hn⟩) ([],0) ⟨rfl,List.Pairwise.nil,by simp,by simp⟩ (l.length + ([]:List Int).length + 1) (by simp)
 rw [h1,qb]
 cases f with
 | go _=>exact h2.elim
 | ret _=>exact h3.elim
 | ex _ s=>exact ⟨s.1,rfl,h3⟩
def cov (p:List aT) (x:Int) (i:Nat):Bool:=(((pt p i).Y == (pt p (nx p i)).Y) && (decide ((min (pt p i).X (pt p (nx p i)).X) ≤ x))) && (decide (x < (max (pt p i).X (pt p (nx p i)).X)))
def ysL (p:List aT) (x:Int) (n:Nat):List Int:=((List.range n).filter (cov p x)).map fun i=>(pt p i).Y
theorem rL (p:List aT) (x:Int) (n:Nat):ysL p x (n + 1) = ysL p x n ++ if cov p x n = true then [(pt p n).Y] else []:=by
 unfold ysL
 rw [List.range_succ,List.filter_append,List.map_append]
 congr 1
 by_cases h:cov p x n = true <;> simp [h]
theorem ue (p:List aT) (x:Int) (n:Nat):(ysL p x n).length ≤ n:=by
 unfold ysL
 rw [List.length_map]
 exact Nat.le_trans (List.length_filter_le _ _) (by simp)
theorem CR {p:List aT} (h:p.length ≤ 60) (x:Int):jB p x = (eU (ysL p x p.length)).bind some:=by
 unfold jB
 obtain ⟨f,h1,h2,h3⟩:=aG (body:=lj p x) (fun i s=>s.2 = ((i:Nat):Int)∧s.1 = ysL p x i) p.length
  (fun f => match f with | .ex _ s => s.1 = ysL p x p.length | _ => False) (fun i s hi ⟨hs', hI⟩ => by
   have e1:aD (i:Int) 1 = some ((i + 1:Nat):Int):=ag (by omega)
   have e2:nm ((i + 1:Nat):Int) (p.length:Int) = some ((nx p i:Nat):Int):=lK (by omega)
   have hn:=ue p x i
   unfold lj
   rw [hs', if_pos (by simpa using hi), eA hi, qb, e1, qb, e2, qb, eA (xI i (by omega)), qb]
   rw [show (((((pt p i).Y == (pt p (nx p i)).Y) && (decide ((min (pt p i).X (pt p (nx p i)).X) ≤ x))) && (decide (x < (max (pt p i).X (pt p (nx p i)).X))))) = cov p x i from rfl]
   by_cases hc:cov p x i = true
   ·rw [if_pos hc, hI, aF (by simp; omega), qb, qb]
    exact .inl ⟨_,rfl,rfl,by rw [rL,if_pos hc]⟩
   ·rw [if_neg hc, qb]
    exact .inl ⟨_, rfl, rfl, by rw [rL, if_neg hc, List.append_nil]; exact hI⟩) (fun s ⟨hs', hI⟩ => by
   unfold lj
   rw [hs', if_neg (by simp)]
   exact ⟨_,rfl,trivial,hI⟩) ([],0) ⟨rfl,rfl⟩ (p.length + ([]:List Int).length + 1) (by simp)
 rw [h1,qb]
 cases f with
 | go _=>exact h2.elim
 | ret _=>exact h3.elim
 | ex _ s=>dsimp only at h3 ⊢; rw [h3]


theorem zN {p:List aT} {x:Int} {i:Nat} (h:cov p x i = true):(pt p i).Y = (pt p (nx p i)).Y∧min (pt p i).X (pt p (nx p i)).X ≤ x∧x < max (pt p i).X (pt p (nx p i)).X:=by
 unfold cov at h
 simpa [and_assoc] using h
theorem HD {p:List aT} (hP:Poly p) {x:Int} {i k:Nat} (hik:i < k) (hk:k < p.length) (hi:cov p x i = true) (hc:cov p x k = true):(pt p i).Y ≠ (pt p k).Y:=by
 intro he
 obtain ⟨h4,h6,h1,h2,h3,_⟩:=hP
 obtain ⟨a1,a2,a3⟩:=zN hi
 obtain ⟨b1,b2,b3⟩:=zN hc
 have alt : ∀ j,j < p.length → (pt p j).Y = (pt p (nx p j)).Y → ¬ (pt p (nx p j)).Y = (pt p (nx p (nx p j))).Y:=fun j hj e e'=>by
  have c1:=ym (h1 j hj)
  have c2:=ym (h1 (nx p j) (xI j (by omega)))
  have n1 : ¬ (pt p j).X = (pt p (nx p j)).X:=fun h=>c1.1.1 h e
  have n2 : ¬ (pt p (nx p j)).X = (pt p (nx p (nx p j))).X:=fun h=>c2.1.1 h e'
  exact n1 (c1.2.2 n2)
 by_cases hn:nx p i = k
 ·have := alt i (by omega) a1
  rw [hn] at this
  exact this b1
 ·by_cases hm : nx p k = i
  ·have := alt k hk b1
   rw [hm] at this
   exact this a1
  ·have hk2 : i + 2 ≤ k := by
    have:nx p i = i + 1:=by unfold nx; rw [Nat.mod_eq_of_lt (by omega)]
    omega
   have hq:=h3 i (by omega) k hk2 hk hm
   unfold mts at hq
   have:max (min (pt p i).X (pt p (nx p i)).X) (min (pt p k).X (pt p (nx p k)).X) ≤ min (max (pt p i).X (pt p (nx p i)).X) (max (pt p k).X (pt p (nx p k)).X):=by omega
   have hy:max (min (pt p i).Y (pt p (nx p i)).Y) (min (pt p k).Y (pt p (nx p k)).Y) ≤ min (max (pt p i).Y (pt p (nx p i)).Y) (max (pt p k).Y (pt p (nx p k)).Y):=by omega
   simp [this,hy] at hq
theorem Dm {p:List aT} (hP:Poly p) (x:Int):(ysL p x p.length).Nodup:=by
 unfold ysL List.Nodup
 rw [List.pairwise_map]
 refine List.Pairwise.imp_of_mem (R:=(· < ·)) (fun {a b} ha hb hab=>?_) ((List.pairwise_lt_range (n:=p.length)).sublist List.filter_sublist)
 simp at ha hb
 exact HD hP hab hb.1 ha.2 hb.2
theorem yX {l:List Int} (h:l.Pairwise (· < ·)):l.Nodup:=h.imp fun h e=>by omega
theorem qa {p:List aT} (hP:Poly p) (x:Int) : ∃ r,jB p x = some r∧gE (ysL p x p.length) = some r∧r.length ≤ 60:=by
 have hl:=ue p x p.length
 have h6:=hP.2.1
 obtain ⟨r,g1,g2,g3,g4⟩:=qR (l:=ysL p x p.length) (by omega)
 refine ⟨r,by rw [CR h6,g1]; rfl,yj (by omega) ((List.perm_ext_iff_of_nodup (Dm hP x) (yX g2)).2 fun a=>(g3 a).symm) (g2.imp fun h=>by omega),by omega⟩
def rct (xs ys:List Int) (i j:Nat):aw:=⟨xs.getD i 0,ys.getD (2 * j) 0,xs.getD (i + 1) 0,ys.getD (2 * j + 1) 0⟩
def zY (p:List aT) (xs:List Int) (i:Nat):List aw:=(List.range (((jB p (xs.getD i 0)).getD []).length / 2)).map (rct xs ((jB p (xs.getD i 0)).getD []) i)
def pB (p:List aT) (xs:List Int) (m:Nat):List aw:=(List.range m).flatMap (zY p xs)
theorem r6 (p:List aT) (xs:List Int) (m:Nat):pB p xs (m + 1) = pB p xs m ++ zY p xs m:=by
 unfold pB; rw [List.range_succ,List.flatMap_append]; simp
theorem nS {l:List Int} {i:Nat} (h:i < l.length):au l (i:Int) = some (l.getD i 0):=by
 rw [ae h]; simp [h]
theorem GU {xs ys:List Int} {s:List aw × Int} {m fuel:Nat} (hm:s.2 = (m:Int)) (hx:m + 1 < xs.length) (hx2:xs.length ≤ 1000) (hl:ys.length ≤ 60) (hs:s.1.length ≤ 100000) (hf:ys.length < fuel) :
  ∃ n,ah (bG xs s ys) fuel (s.1,0) = some (.ex 6 (s.1 ++ (List.range (ys.length / 2)).map (rct xs ys m),n)):=by
 obtain ⟨f,h1,h2,h3⟩:=aG (body:=bG xs s ys) (fun i t=>t.2 = ((2 * i:Nat):Int)∧t.1 = s.1 ++ (List.range i).map (rct xs ys m)) (ys.length / 2)
  (fun f=>∃ n,f = .ex 6 (s.1 ++ (List.range (ys.length / 2)).map (rct xs ys m),n)) (fun i t hi ⟨ht,hI⟩=>by
  have e1:aD ((2 * i:Nat):Int) 1 = some ((2 * i + 1:Nat):Int):=ag (by omega)
  have e2:aD (m:Int) 1 = some ((m + 1:Nat):Int):=ag (by omega)
  unfold bG
  rw [ht,e1,qb,if_pos (by simp; omega),hm,nS (by omega),qb,nS (by omega),qb,e2,qb,nS hx,qb,qb,nS (by omega),qb,hI,aF (by simp; omega),qb,aZ (by constructor <;> omega),qb]
  refine .inl ⟨_,rfl,by push_cast; omega,?_⟩
  dsimp only
  rw [List.range_succ,List.map_append,List.append_assoc]
  rfl) (fun t ⟨ht,hI⟩=>by
  unfold bG
  rw [ht,aZ (by constructor <;> omega),qb,if_neg (by simp; omega),hI]
  exact ⟨_,rfl,trivial,_,rfl⟩) (s.1,0) ⟨rfl,by simp⟩ fuel (by omega)
 obtain ⟨n,rfl⟩:=h3
 exact ⟨n,h1⟩
theorem Gm {xs ys:List Int} {s:List aw × Int} {m fuel:Nat} (hm:s.2 = (m:Int)) (hx:m + 1 < xs.length) (hx2:xs.length ≤ 1000) (hl:ys.length ≤ 60) (hs:s.1.length ≤ 100000) (hf:ys.length < fuel) :
  ∃ n,ah (gz xs s ys) fuel (s.1,0) = some (.ex 4 (s.1 ++ (List.range (ys.length / 2)).map (rct xs ys m),n)):=by
 obtain ⟨f,h1,h2,h3⟩:=aG (body:=gz xs s ys) (fun i t=>t.2 = ((2 * i:Nat):Int)∧t.1 = s.1 ++ (List.range i).map (rct xs ys m)) (ys.length / 2)
  (fun f=>∃ n,f = .ex 4 (s.1 ++ (List.range (ys.length / 2)).map (rct xs ys m),n)) (fun i t hi ⟨ht,hI⟩=>by
  have e1:aD ((2 * i:Nat):Int) 1 = some ((2 * i + 1:Nat):Int):=ag (by omega)
  have e2:aD (m:Int) 1 = some ((m + 1:Nat):Int):=ag (by omega)
  unfold gz
  rw [ht,e1,qb,if_pos (by simp; omega),hm,nS (by omega),qb,nS (by omega),qb,e2,qb,nS hx,qb,qb,nS (by omega),qb,hI,aF (by simp; omega),qb,aZ (by constructor <;> omega),qb]
  refine .inl ⟨_,rfl,by push_cast; omega,?_⟩
  dsimp only
  rw [List.range_succ,List.map_append,List.append_assoc]
  rfl) (fun t ⟨ht,hI⟩=>by
  unfold gz
  rw [ht,aZ (by constructor <;> omega),qb,if_neg (by simp; omega),hI]
  exact ⟨_,rfl,trivial,_,rfl⟩) (s.1,0) ⟨rfl,by simp⟩ fuel (by omega)
 obtain ⟨n,rfl⟩:=h3
 exact ⟨n,h1⟩
theorem EG {p:List aT} (hP:Poly p) (xs:List Int) (i:Nat):(zY p xs i).length ≤ 30:=by
 obtain ⟨r,g1,_,g2⟩:=qa hP (xs.getD i 0)
 unfold zY
 rw [g1]; simp; omega
theorem uw {p:List aT} (hP:Poly p) (xs:List Int) : ∀ m,(pB p xs m).length ≤ 30 * m
 | 0=>by simp [pB]
 | m + 1 => by
  rw [r6,List.length_append]
  have:=uw hP xs m
  have:=EG hP xs m
  omega
theorem Kf {p:List aT} (hP:Poly p) {xs:List Int} {s:List aw × Int} {m:Nat} (hm:s.2 = (m:Int)) (hx:m < xs.length) : ∃ n,ah (bS xs (sds p) s) ((sds p).length + 1) (([]:List Int),0) = some (.ex 4 (ysL p (xs.getD m 0) p.length,n)):=by
 have h6:=hP.2.1
 obtain ⟨f,h1,h2,h3⟩:=aG (body:=bS xs (sds p) s) (fun i t=>t.2 = ((i:Nat):Int)∧t.1 = ysL p (xs.getD m 0) i) p.length
  (fun f=>∃ n,f = .ex 4 (ysL p (xs.getD m 0) p.length,n)) (fun i t hi ⟨ht,hI⟩=>by
  have hn:=ue p (xs.getD m 0) i
  have ha:=(ym (hP.2.2.1 i hi)).1
  unfold bS
  rw [ht,if_pos (by rw [fC]; simpa using hi),ot hi,qb]
  unfold bp
  rw [qb,hm,nS hx]
  have e1:(!((sd p i).a.X == (sd p i).b.X)) = ((pt p i).Y == (pt p (nx p i)).Y):=by
   show (!((pt p i).X == (pt p (nx p i)).X)) = _
   rw [Bool.eq_iff_iff]
   simp only [Bool.not_eq_true', beq_eq_false_iff_ne, ne_eq, beq_iff_eq]
   exact ⟨fun h=>Classical.byContradiction fun h'=>h (ha.2 h'),fun h h'=>ha.1 h' h⟩
  have e2:(if (!((sd p i).a.X == (sd p i).b.X)) = true then (some (xs.getD m 0)).bind fun y=>some (decide ((min (sd p i).a.X (sd p i).b.X) ≤ y)) else some false) = some (((pt p i).Y == (pt p (nx p i)).Y) && (decide ((min (pt p i).X (pt p (nx p i)).X) ≤ xs.getD m 0))):=by
   rw [e1]
   cases ((pt p i).Y == (pt p (nx p i)).Y) <;> rfl
  rw [e2,qb]
  have e3:(if (((pt p i).Y == (pt p (nx p i)).Y) && (decide ((min (pt p i).X (pt p (nx p i)).X) ≤ xs.getD m 0))) = true then (some (xs.getD m 0)).bind fun y=>some (decide (y < (max (sd p i).a.X (sd p i).b.X))) else some false) = some (cov p (xs.getD m 0) i):=by
   unfold cov
   cases (((pt p i).Y == (pt p (nx p i)).Y) && (decide ((min (pt p i).X (pt p (nx p i)).X) ≤ xs.getD m 0))) <;> rfl
  rw [e3,qb]
  by_cases hc:cov p (xs.getD m 0) i = true
  ·rw [if_pos hc, hI, aF (by show (ysL p (xs.getD m 0) i).length + 1 ≤ _; omega), qb, qb, ag (by omega)]
   exact .inl ⟨_,rfl,rfl,by rw [rL,if_pos hc]; rfl⟩
  ·rw [if_neg hc, qb, ag (by omega)]
   exact .inl ⟨_,rfl,rfl,by rw [rL,if_neg hc,List.append_nil]; exact hI⟩) (fun t ⟨ht,hI⟩=>by
  unfold bS
  rw [ht,if_neg (by rw [fC]; simp),hI]
  exact ⟨_,rfl,trivial,_,rfl⟩) ([],0) ⟨rfl,rfl⟩ ((sds p).length + 1) (by rw [fC]; omega)
 obtain ⟨n,rfl⟩:=h3
 exact ⟨n,h1⟩
theorem sc {p:List aT} (hP:Poly p) : ∃ xs:List Int,xs.Pairwise (· < ·)∧(∀ x ∈ xs,∃ j,j < p.length∧(pt p j).X = x)∧xs.length ≤ 60 ∧
  iE p = (if (decide (200 < ((pB p xs (xs.length - 1)).length:Int))) = true then some ([],6) else some (pB p xs (xs.length - 1),0)) ∧
  bI p = (if (decide (200 < ((pB p xs (xs.length - 1)).length:Int))) = true then some ([],6) else some (pB p xs (xs.length - 1),0)):=by
 obtain ⟨b,hb,hbP⟩:=xp p
 obtain ⟨c,hc,hcP⟩:=p8 p
 obtain rfl:=hbP.2 hP
 obtain rfl:=hcP.2 hP
 have h6:=hP.2.1
 unfold iE bI
 rw [hb,hc,qb,qb]
 rw [if_neg (by simp),if_neg (by simp)]
 obtain ⟨f,h1,h2,h3⟩:=aG (body:=jm p) (fun i s=>s.2 = ((i:Nat):Int)∧s.1 = (List.range i).map fun j=>(pt p j).X) p.length
  (fun f => ∃ n, f = .ex 0 ((List.range p.length).map (fun j => (pt p j).X), n)) (fun i s hi ⟨hs', hI⟩ => by
   unfold jm
   rw [hs', if_pos (by simpa using hi), eA hi, qb, hI, aF (by simp; omega), qb, ag (by omega)]
   refine .inl ⟨_,rfl,rfl,?_⟩
   rw [List.range_succ,List.map_append]
   rfl) (fun s ⟨hs', hI⟩ => by
   unfold jm
   rw [hs', if_neg (by simp), hI]
   exact ⟨_,rfl,trivial,_,rfl⟩) ([],0) ⟨rfl,rfl⟩ (p.length + ([]:List Int).length + 1) (by simp)
 obtain ⟨n,rfl⟩:=h3
 obtain ⟨f,g1,g2,g3⟩:=aG (body:=cw p) (fun i s=>s.2 = ((i:Nat):Int)∧s.1 = (List.range i).map fun j=>(pt p j).X) p.length
  (fun f => ∃ n, f = .ex 0 ((List.range p.length).map (fun j => (pt p j).X), n)) (fun i s hi ⟨hs', hI⟩ => by
   unfold cw
   rw [hs', if_pos (by simpa using hi), eA hi, qb, hI, aF (by simp; omega), qb, ag (by omega)]
   refine .inl ⟨_,rfl,rfl,?_⟩
   rw [List.range_succ,List.map_append]
   rfl) (fun s ⟨hs', hI⟩ => by
   unfold cw
   rw [hs', if_neg (by simp), hI]
   exact ⟨_,rfl,trivial,_,rfl⟩) ([],0) ⟨rfl,rfl⟩ (p.length + 1) (by simp)
 obtain ⟨n', rfl⟩ := g3
 rw [h1,g1,qb,qb]
 dsimp only
 obtain ⟨xs,x1,x2,x3,x4⟩:=qR (l:=(List.range p.length).map fun j=>(pt p j).X) (by simp; omega)
 obtain ⟨ss,s1,s2,s3⟩:=iP (l:=(List.range p.length).map fun j=>(pt p j).X) (by simp; omega)
 have hsl:ss.length = p.length:=by rw [s2.length_eq]; simp
 have hcp:eb ss = some xs:=uN (by omega) s3 x2 fun x=>by rw [x3,s2.mem_iff]
 have hxl:xs.length ≤ 60:=by simp at x4; omega
 rw [x1,s1,qb,qb,hcp,qb,wN h6,qb,ba (by constructor <;> omega),qb]
 have hx0:0 < xs.length:=by
  have:(pt p 0).X ∈ xs:=(x3 _).2 (List.mem_map.2 ⟨0,by simp; have:=hP.1; omega,rfl⟩)
  exact List.length_pos_of_mem this
 have step_r : ∃ n,ah (gC p xs) (p.length + xs.length + ([]:List aw).length + 1) (([]:List aw),0) = some (.ex 2 (pB p xs (xs.length - 1),n)):=by
  obtain ⟨f,k1,k2,k3⟩:=aG (body:=gC p xs) (fun i s=>s.2 = ((i:Nat):Int)∧s.1 = pB p xs i) (xs.length - 1)
   (fun f => ∃ n, f = .ex 2 (pB p xs (xs.length - 1), n)) (fun i s hi ⟨hs', hI⟩ => by
    have hr:=uw hP xs i
    obtain ⟨ys,y1,y2,y3⟩:=qa hP (xs.getD i 0)
    obtain ⟨n,hn⟩:=Gm (xs:=xs) (ys:=ys) (s:=s) (m:=i) (fuel:=p.length + xs.length + s.1.length + ys.length + 1) hs' (by omega) (by omega) y3 (by rw [hI]; omega) (by omega)
    have e1:aD (i:Int) 1 = some ((i + 1:Nat):Int):=ag (by omega)
    have e2:s = (s.1,(i:Int)):=by rw [← hs']
    unfold gC
    rw [hs', e1, qb, if_pos (by simp; omega), nS (by omega), qb, y1, qb, hn, qb]
    dsimp only
    rw [qb]
    refine .inl ⟨_,rfl,rfl,?_⟩
    dsimp only
    rw [r6,hI]
    unfold zY
    rw [y1]
    rfl) (fun s ⟨hs', hI⟩ => by
    unfold gC
    rw [hs', ag (by omega), qb, if_neg (by simp; omega), hI]
    exact ⟨_,rfl,trivial,_,rfl⟩) ([],0) ⟨rfl,rfl⟩ (p.length + xs.length + ([]:List aw).length + 1) (by omega)
  obtain ⟨n,rfl⟩:=k3
  exact ⟨n,k1⟩
 have step_p : ∃ n,ah (bu xs (sds p) ((xs.length:Int) - 1)) (((xs.length:Int) - 1).toNat + 1) (([]:List aw),0) = some (.ex 2 (pB p xs (xs.length - 1),n)):=by
  obtain ⟨f,k1,k2,k3⟩:=aG (body:=bu xs (sds p) ((xs.length:Int) - 1)) (fun i s=>s.2 = ((i:Nat):Int)∧s.1 = pB p xs i) (xs.length - 1)
   (fun f => ∃ n, f = .ex 2 (pB p xs (xs.length - 1), n)) (fun i s hi ⟨hs', hI⟩ => by
    have hr:=uw hP xs i
    obtain ⟨ys,y1,y2,y3⟩:=qa hP (xs.getD i 0)
    obtain ⟨n', hn'⟩ := Kf hP (xs := xs) (s := s) (m := i) hs' (by omega)
    obtain ⟨n,hn⟩:=GU (xs:=xs) (ys:=ys) (s:=s) (m:=i) (fuel:=xs.length + (sds p).length + s.1.length + ys.length + 1) hs' (by omega) (by omega) y3 (by rw [hI]; omega) (by omega)
    unfold bu
    rw [if_pos (by rw [hs']; simp; omega), hn', qb]
    dsimp only
    rw [y2,qb,hn,qb]
    dsimp only
    rw [hs', ag (by omega)]
    refine .inl ⟨_,rfl,rfl,?_⟩
    dsimp only
    rw [r6,hI]
    unfold zY
    rw [y1]
    rfl) (fun s ⟨hs', hI⟩ => by
    unfold bu
    rw [if_neg (by rw [hs']; simp; omega), hs', hI]
    exact ⟨_,rfl,trivial,_,rfl⟩) ([],0) ⟨rfl,rfl⟩ (((xs.length:Int) - 1).toNat + 1) (by omega)
  obtain ⟨n,rfl⟩:=k3
  exact ⟨n,k1⟩
 obtain ⟨n1,k1⟩:=step_r
 obtain ⟨n2,k2⟩:=step_p
 rw [k1,k2]
 exact ⟨xs,x2,fun x hx=>by have:=(x3 x).1 hx; simpa using this,hxl,rfl,rfl⟩
theorem BS (p:List aT):iE p = bI p:=by
 obtain ⟨b,hb,hbP⟩:=xp p
 obtain ⟨c,hc,hcP⟩:=p8 p
 have hbc:b = c:=by rw [Bool.eq_iff_iff,hbP,hcP]
 subst hbc
 cases b with
 | false=>unfold iE bI; rw [hb,hc]; rfl
 | true=>obtain ⟨xs,_,_,_,h1,h2⟩:=sc (hbP.1 rfl); rw [h1,h2]
theorem GK {p:List aT} (hP:Poly p) {xs:List Int} (hs:xs.Pairwise (· < ·)) (hx : ∀ x ∈ xs,∃ j,j < p.length∧(pt p j).X = x) {i:Nat} (hi:i + 1 < xs.length) : ∀ r ∈ zY p xs i,VR r:=by
 have on : ∀ j,j < p.length → (0 ≤ (pt p j).X∧(pt p j).X ≤ 1048576)∧0 ≤ (pt p j).Y∧(pt p j).Y ≤ 1048576:=fun j hj=>by
  have h:=hP.2.2.1 j hj
  unfold q1 at h
  simp only [Bool.not_eq_true', Bool.or_eq_false_iff, decide_eq_false_iff_not] at h
  omega
 obtain ⟨ys,y1,y2,y3⟩:=qa hP (xs.getD i 0)
 have hl:=ue p (xs.getD i 0) p.length
 have h6:=hP.2.1
 obtain ⟨r0,g1,g2,g3,g4⟩:=qR (l:=ysL p (xs.getD i 0) p.length) (by omega)
 have:r0 = ys:=by
  have:=y1
  rw [CR h6,g1] at this
  exact Option.some.inj this
 subst this
 have hy : ∀ y ∈ r0,0 ≤ y∧y ≤ 1048576:=fun y hy=>by
  have:=(g3 y).1 hy
  unfold ysL at this
  obtain ⟨j,hj,rfl⟩:=List.mem_map.1 this
  simp at hj
  exact (on j hj.1).2
 have hxx : ∀ j,j < xs.length → 0 ≤ xs.getD j 0∧xs.getD j 0 ≤ 1048576:=fun j hj=>by
  obtain ⟨m,hm,e⟩:=hx (xs.getD j 0) (by simp [hj])
  rw [← e]; exact (on m hm).1
 intro r hr
 unfold zY at hr
 rw [y1] at hr
 obtain ⟨j,hj,rfl⟩:=List.mem_map.1 hr
 simp at hj
 have a1:=hxx i (by omega)
 have a2:=hxx (i + 1) hi
 have a3:=List.pairwise_iff_getElem.1 hs i (i + 1) (by omega) hi (by omega)
 have a4:=List.pairwise_iff_getElem.1 g2 (2 * j) (2 * j + 1) (by omega) (by omega) (by omega)
 have a5:=hy r0[2 * j] (List.getElem_mem _)
 have a6:=hy r0[2 * j + 1] (List.getElem_mem _)
 have e1:xs.getD i 0 = xs[i]:=by simp [show i < xs.length by omega]
 have e2:xs.getD (i + 1) 0 = xs[i + 1]:=by simp [hi]
 have e3:r0.getD (2 * j) 0 = r0[2 * j]:=by simp [show 2 * j < r0.length by omega]
 have e4:r0.getD (2 * j + 1) 0 = r0[2 * j + 1]:=by simp [show 2 * j + 1 < r0.length by omega]
 unfold rct VR
 show 0 ≤ xs.getD i 0∧xs.getD i 0 < xs.getD (i + 1) 0∧xs.getD (i + 1) 0 ≤ 1048576∧0 ≤ r0.getD (2 * j) 0∧r0.getD (2 * j) 0 < r0.getD (2 * j + 1) 0∧r0.getD (2 * j + 1) 0 ≤ 1048576
 rw [e3,e4]
 rw [e1] at a1 ⊢
 rw [e2] at a2 ⊢
 omega
theorem DI {p:List aT} {a:List aw} (h:bI p = some (a,0)):(∀ r ∈ a,VR r)∧a.length ≤ 200:=by
 obtain ⟨c,hc,hcP⟩:=p8 p
 cases c with
 | false =>
  unfold bI at h
  rw [hc,qb,if_pos (by simp)] at h
  simp at h
 | true =>
  have hP:=hcP.1 rfl
  obtain ⟨xs,h1,h2,h3,_,h4⟩:=sc hP
  rw [h4] at h
  split at h
  ·simp at h
  ·rename_i hl
   simp at h hl
   subst h
   refine ⟨fun r hr=>?_,by omega⟩
   unfold pB at hr
   obtain ⟨i,hi,hr⟩:=List.mem_flatMap.1 hr
   simp at hi
   exact GK hP h1 h2 (by omega) r hr


theorem BC (v:af):dH v = bP v:=by
 have h0:eO v.Box.Base = some (decide (VR v.Box.Base)):=bJ _
 unfold dH mR mj bP
 rw [h0,bJ]
 simp only [qb]
 have ia : ∀ (a b:Bool),(if a = true then some b else some false) = some (a && b):=fun a b=>by cases a <;> rfl
 rw [ia]
 simp only [qb]
 rw [ia]
 simp only [qb]
 have e1:(if ((((!(decide (VR v.Box.Base))) || (decide (v.Box.Z0 < 0))) || (decide (v.Box.Z1 ≤ v.Box.Z0))) || (decide (4096 < v.Box.Z1))) = true then some false else if ((v.Use != 0) && (v.Units != 0)) = true then some false else some ((((decide (0 ≤ v.Use)) && (decide (v.Use < 6))) && (decide (0 ≤ v.Units))) && (decide (v.Units ≤ 1048576)))) =
   some (!((((!(decide (VR v.Box.Base))) || (decide (v.Box.Z0 < 0))) || (decide (v.Box.Z1 ≤ v.Box.Z0))) || (decide (4096 < v.Box.Z1))) && (!((v.Use != 0) && (v.Units != 0)) && ((((decide (0 ≤ v.Use)) && (decide (v.Use < 6))) && (decide (0 ≤ v.Units))) && (decide (v.Units ≤ 1048576))))):=by
  split
  ·rename_i h; rw [h]; rfl
  ·rename_i h
   rw [Bool.not_eq_true] at h
   rw [h]
   split
   ·rename_i h2; rw [h2]; rfl
   ·rename_i h2
    rw [Bool.not_eq_true] at h2
    rw [h2]; rfl
 rw [e1]
 congr 1
 rw [Bool.eq_iff_iff]
 by_cases hv:VR v.Box.Base
 ·simp only [hv, decide_true, Bool.true_and, Bool.not_true, Bool.false_or, Bool.and_eq_true, Bool.or_eq_true, decide_eq_true_eq, beq_iff_eq, Bool.not_eq_true', Bool.or_eq_false_iff, decide_eq_false_iff_not, Bool.and_eq_false_imp, bne_iff_ne, ne_eq, bne_eq_false_iff_eq]
  omega
 ·simp [hv]
theorem xf {r:aw} (h:VR r):l7 r = kV r:=by
 unfold l7 kV eV
 rw [bJ,qb,decide_eq_true h,if_pos rfl,qb]
theorem AU (v:af):lv v = eP v:=by
 unfold lv eP
 rw [BC]
 obtain ⟨b,hb,hbs⟩:=EU (v:=v)
 rw [hb]
 cases v.Extra with
 | true=>rfl
 | false =>
  cases b with
  | false=>rfl
  | true =>
   obtain ⟨hV,h1,h2,h3,_⟩:=hbs rfl
   show ((bZ v.Box.Z1 v.Box.Z0).bind fun x=>(aD x 2).bind fun y=>(qJ y 3).bind fun z=>some z) = ((bZ v.Box.Z1 v.Box.Z0).bind fun x=>(aD x 3).bind fun y=>(bZ y 1).bind fun z=>(qJ z 3).bind fun w=>some w)
   rw [ba (by constructor <;> omega),qb,qb,aZ (by constructor <;> omega),qb,aZ (by constructor <;> omega),qb,ba (by constructor <;> omega),qb]
   rw [show v.Box.Z1 - v.Box.Z0 + 3 - 1 = v.Box.Z1 - v.Box.Z0 + 2 by omega]
theorem Di (v:af):nB v = gL v:=by
 unfold nB gL
 rw [BC,AU]
 obtain ⟨b,hb,hbs⟩:=EU (v:=v)
 rw [hb,qb,qb]
 cases b with
 | false=>rfl
 | true=>rw [if_neg (by simp),if_neg (by simp),xf (hbs rfl).1]
def NM:List ByteArray:=[(⟨#[104,111,109,101]⟩:ByteArray),(⟨#[115,104,111,112]⟩:ByteArray),(⟨#[119,111,114,107]⟩:ByteArray),(⟨#[112,97,114,107]⟩:ByteArray),(⟨#[112,108,97,110,116]⟩:ByteArray),(⟨#[104,97,108,108]⟩:ByteArray)]
def NT:ByteArray × ByteArray × ByteArray × ByteArray × ByteArray × ByteArray:=((⟨#[104,111,109,101]⟩:ByteArray),(⟨#[115,104,111,112]⟩:ByteArray),(⟨#[119,111,114,107]⟩:ByteArray),(⟨#[112,97,114,107]⟩:ByteArray),(⟨#[112,108,97,110,116]⟩:ByteArray),(⟨#[104,97,108,108]⟩:ByteArray))
theorem HZ {u:Int} (h0:0 ≤ u) (h5:u ≤ 5) : ∃ x,au NM u = some x:=⟨_,sH h0 (by simp [NM]; omega)⟩
theorem xJ {α:Type} {s:List α} {g:α → Bool} {i:Nat} (hi:i < s.length):(s.drop i).find? g = if g s[i] = true then some s[i] else (s.drop (i + 1)).find? g:=by
 rw [List.drop_eq_getElem_cons hi,List.find?_cons]
 cases g s[i] <;> rfl
theorem zw {s:List Entry} {f:Entry → Option Bool} {g:Entry → Bool} (hl:s.length ≤ 1000000) (hf : ∀ x,f x = some (g x)) : ∃ r,cr s f = some r∧((¬ 0 ≤ r∧s.find? g = none) ∨ ∃ k:Nat,r = (k:Int)∧∃ h:k < s.length,s.find? g = some s[k]):=by
 obtain ⟨fl,k1,k2,k3⟩:=aG (body:=bF s f) (fun j t=>t = ((j:Nat):Int)∧s.find? g = (s.drop j).find? g) s.length (fun fl=>match fl with | .ex _ _=>s.find? g = none | .ret r=>∃ k:Nat,r = (k:Int)∧∃ h:k < s.length,s.find? g = some s[k] | .go _=>False) (fun j t hj ⟨ht,hI⟩=>by
  subst ht
  unfold bF
  rw [if_pos (by simpa using hj),ae hj,qb,hf,qb]
  rw [xJ hj] at hI
  cases hb:g s[j] with
  | true=>rw [hb,if_pos rfl] at hI; exact .inr ⟨_,rfl,trivial,j,rfl,hj,hI⟩
  | false=>rw [hb,if_neg (by simp)] at hI; rw [if_neg (by simp),ag (by omega)]; exact .inl ⟨_,rfl,rfl,hI⟩) (fun t ⟨ht,hI⟩=>by
  subst ht
  unfold bF
  rw [if_neg (by simp)]
  refine ⟨_,rfl,trivial,?_⟩
  show s.find? g = none
  rw [hI,List.drop_length]; rfl) 0 ⟨rfl,rfl⟩ (s.length + 1) (by omega)
 unfold cr
 rw [k1,qb]
 cases fl with
 | go _=>exact k2.elim
 | ex _ _=>exact ⟨_,rfl,.inl ⟨by omega,k3⟩⟩
 | ret r=>exact ⟨_,rfl,.inr k3⟩
theorem BU {u:Int} {x:ByteArray} (hx:au NM u = some x) {t:Table} {fuel:Nat} (hl:t.Rows.length ≤ 1000) (hf:t.Rows.length < fuel) : ∃ fl,ah (kG u t) fuel 0 = some fl ∧
  (match fl with | .ex _ _=>t.Rows.find? (fun e=>e.Name.toList == x.toList) = none | .ret n=>∃ e,t.Rows.find? (fun e=>e.Name.toList == x.toList) = some e∧n = max 0 (min e.N 1048576) | .go _=>False):=by
 obtain ⟨fl,k1,k2,k3⟩:=aG (body:=kG u t) (fun j s=>s = ((j:Nat):Int)∧t.Rows.find? (fun e=>e.Name.toList == x.toList) = (t.Rows.drop j).find? (fun e=>e.Name.toList == x.toList)) t.Rows.length
  (fun fl=>match fl with | .ex _ _=>t.Rows.find? (fun e=>e.Name.toList == x.toList) = none | .ret n=>∃ e,t.Rows.find? (fun e=>e.Name.toList == x.toList) = some e∧n = max 0 (min e.N 1048576) | .go _=>False) (fun j s hj ⟨hs,hI⟩=>by
  subst hs
  have hu:sn u = some x:=by
   show (au NM u).bind _ = _
   rw [hx]; rfl
  unfold kG
  rw [if_pos (by simpa using hj),ae hj,qb,hu,qb]
  rw [xJ hj] at hI
  cases hb:(t.Rows[j].Name.toList == x.toList) with
  | true=>rw [hb,if_pos rfl] at hI; rw [if_pos rfl]; exact .inr ⟨_,rfl,trivial,_,hI,rfl⟩
  | false=>rw [hb,if_neg (by simp)] at hI; rw [if_neg (by simp),ag (by omega)]; exact .inl ⟨_,rfl,rfl,hI⟩) (fun s ⟨hs,hI⟩=>by
  subst hs
  unfold kG
  rw [if_neg (by simp)]
  refine ⟨_,rfl,trivial,?_⟩
  show t.Rows.find? _ = none
  rw [hI,List.drop_length]; rfl) 0 ⟨rfl,rfl⟩ fuel hf
 exact ⟨fl,k1,k3⟩
theorem CZ {p:an} {u:Int} (hp:gb p) (h0:0 ≤ u) (h5:u ≤ 5) {i:Nat} (hi:i < p.Tables.length) :
  (bY p u (i:Int) = some (.go ((i + 1:Nat):Int))∧gp p u (i:Int) = some (.go ((i + 1:Nat):Int))) ∨ ∃ n,bY p u (i:Int) = some (.ret n)∧gp p u (i:Int) = some (.ret n):=by
 obtain ⟨x,hx⟩:=HZ h0 h5
 have hl4:=hp.1
 have hr8:=hp.2 _ (List.getElem_mem hi)
 unfold bY gp
 rw [if_pos (by simpa using hi),if_pos (by simpa using hi),ae hi,qb,qb]
 split
 ·rw [ag (by omega)]; exact .inl ⟨rfl,rfl⟩
 ·obtain ⟨r, hr, hrl⟩ := zw (s := p.Tables[i].Rows) (f := fun y0 => gN y0 NT u) (g := fun e => e.Name.toList == x.toList) (by omega) fun e => by
   show (au NM u).bind _ = _
   rw [hx]; rfl
  have hfl:p.Tables[i].Rows.length ≤ (p.Tables.flatMap fun t=>t.Rows).length:=by
   have key : ∀ (l:List Table) (t:Table),t ∈ l → t.Rows.length ≤ (l.flatMap fun t=>t.Rows).length:=by
    intro l
    induction l with
    | nil=>intro t h; simp at h
    | cons a l ih =>
     intro t h
     rw [List.flatMap_cons,List.length_append]
     rcases List.mem_cons.1 h with rfl | h
     ·omega
     ·have:=ih t h; omega
   exact key _ _ (List.getElem_mem hi)
  obtain ⟨fl,k1,k2⟩:=BU hx (t:=p.Tables[i]) (fuel:=(p.Tables.flatMap fun t=>t.Rows).length + 1) (by omega) (by omega)
  refine .inr ?_
  rw [qb,k1,qb]
  unfold NT at hr
  rw [hr,qb]
  rcases hrl with ⟨hn,hnone⟩ | ⟨k,rfl,hk,hsome⟩
  ·rw [if_neg (by simpa using hn), qb]
   cases fl with
   | go _=>exact k2.elim
   | ex _ _=>exact ⟨_,rfl,rfl⟩
   | ret n=>obtain ⟨e,he,_⟩:=k2; rw [hnone] at he; simp at he
  ·rw [if_pos (by simp), ae hk, qb, qb]
   cases fl with
   | go _=>exact k2.elim
   | ex _ _=>have k2:_ = none:=k2; rw [hsome] at k2; simp at k2
   | ret n =>
    obtain ⟨e,he,hn⟩:=k2
    rw [hsome] at he
    obtain rfl:=Option.some.inj he
    exact ⟨_,rfl,by rw [hn]⟩
theorem GB {p:an} {u:Int} (hp:gb p) (h0:0 ≤ u) (h5:u ≤ 5):qf p u = jI p u:=by
 have hl4:=hp.1
 obtain ⟨f,h1,h2,h3⟩:=aG (body:=bY p u) (fun i s=>s = ((i:Nat):Int)) p.Tables.length (fun _=>True) (fun i s hi hs=>by
  subst hs
  rcases CZ hp h0 h5 hi with ⟨g1,_⟩ | ⟨n,g1,_⟩
  ·exact .inl ⟨_,g1,rfl⟩
  ·exact .inr ⟨_,g1,trivial,trivial⟩) (fun s hs=>by
  subst hs
  unfold bY
  rw [if_neg (by simp)]
  exact ⟨_,rfl,trivial,trivial⟩) 0 rfl (p.Tables.length + 1) (by omega)
 have key : ∀ fuel i,i ≤ p.Tables.length → ah (gp p u) fuel (i:Int) = ah (bY p u) fuel (i:Int):=by
  intro fuel
  induction fuel with
  | zero=>intro i _; rfl
  | succ n ih =>
   intro i hi
   simp only [ah]
   rcases Nat.lt_or_ge i p.Tables.length with hlt | hge
   ·rcases CZ hp h0 h5 hlt with ⟨g1, g2⟩ | ⟨m, g1, g2⟩
    ·rw [g1, g2]
     exact ih (i + 1) (by omega)
    ·rw [g1,g2]
   ·have e1 : bY p u (i : Int) = some (.ex 0 (i : Int)) := by unfold bY; rw [if_neg (by simp; omega)]
    have e2:gp p u (i:Int) = some (.ex 0 (i:Int)):=by unfold gp; rw [if_neg (by simp; omega)]
    rw [e1,e2]
 unfold qf jI
 (rw [show (0:Int) = ((0:Nat):Int) from rfl,key _ 0 (by omega)]) <;> rfl
theorem zk {p:an} {v:af} (hp:gb p) (h0:0 ≤ v.Use) (h5:v.Use ≤ 5):lI p v = eE p v:=by
 unfold lI eE
 rw [GB hp h0 h5,Di]
 obtain ⟨r,hr,hr0,hr1⟩:=Ch hp h0 h5
 obtain ⟨f,hf,hf0,hf1⟩:=wZ v
 rw [hr,qb,qb,hf,qb,qb]
 by_cases hz:0 < r
 ·have hq : (109951162777600 : Int).tdiv r = 109951162777600 / r := Int.tdiv_eq_ediv_of_nonneg (by omega)
  have hq0:0 ≤ 109951162777600 / r:=Int.ediv_nonneg (by omega) (by omega)
  have hq1:109951162777600 / r ≤ 109951162777600:=Int.ediv_le_self _ (by omega)
  have hqI:qJ 109951162777600 r = some (109951162777600 / r):=by unfold qJ; rw [if_pos ⟨by omega,by rw [hq]; constructor <;> omega⟩,hq]
  have eR:(if (decide (0 < r)) = true then (qJ 109951162777600 r).bind fun x=>some (decide (x < f)) else some false) = some (decide (109951162777600 / r < f)):=by
   rw [if_pos (by simpa using hz),hqI]; rfl
  rw [eR,qb,hqI,qb]
  by_cases hfz:f = 0
  ·subst hfz
   rw [if_pos (by simp),if_neg (by simp; omega),gJ (by rw [Int.mul_zero]; constructor <;> omega),qb,Int.mul_zero]
   rfl
  ·rw [if_neg (by simp; omega)]
   by_cases hc:109951162777600 / r < f
   ·rw [if_pos (by simpa using hc),if_pos (by simpa using hc)]
   ·rw [if_neg (by simpa using hc), if_neg (by simpa using hc)]
    have g0:0 ≤ r * f:=Int.mul_nonneg (by omega) hf0
    have g1:r * f ≤ r * (109951162777600 / r):=Int.mul_le_mul_of_nonneg_left (by omega) (by omega)
    have g2:r * (109951162777600 / r) ≤ 109951162777600:=Int.mul_ediv_self_le (by omega)
    rw [gJ (by constructor <;> omega),qb,qb,aZ (by constructor <;> omega),qb,aZ (by constructor <;> omega),qb,ba (by constructor <;> omega),qb,show r * f + 100 - 1 = r * f + 99 by omega]
 ·obtain rfl : r = 0 := by omega
  rw [if_pos (by simp),if_neg (by simp),qb,if_neg (by simp),gJ (by rw [Int.zero_mul]; constructor <;> omega),qb,Int.zero_mul]
  rfl


theorem vh {s:List aw} {f:aw → Option Bool} {g:aw → Bool} (hl:s.length ≤ 1000000) (hf : ∀ x ∈ s,f x = some (g x)):aX s f = some (s.any g):=by
 obtain ⟨fl,h1,h2,h3⟩:=aG (body:=cc s f) (fun i t=>t = ((i:Nat):Int)∧∀ m (h:m < s.length),m < i → g s[m] = false) s.length
  (fun fl=>match fl with | .ex _ _=>s.any g = false | .ret r=>0 ≤ r∧s.any g = true | .go _=>False) (fun i t hi ⟨ht,hI⟩=>by
   subst ht
   unfold cc
   rw [if_pos (by simpa using hi),ae hi,qb,hf s[i] (List.getElem_mem hi),qb]
   cases hb:g s[i] with
   | true=>exact .inr ⟨_,rfl,trivial,by show (0:Int) ≤ i; omega,List.any_eq_true.2 ⟨_,List.getElem_mem hi,hb⟩⟩
   | false =>
    rw [if_neg (by simp),ag (by omega)]
    refine .inl ⟨_,rfl,rfl,fun m hm hmi=>?_⟩
    by_cases e:m = i
    ·subst e; exact hb
    ·exact hI m hm (by omega)) (fun t ⟨ht,hI⟩=>by
   subst ht
   unfold cc
   rw [if_neg (by simp)]
   refine ⟨_,rfl,trivial,?_⟩
   rw [List.any_eq_false]
   intro x hx
   obtain ⟨m,hm,rfl⟩:=List.getElem_of_mem hx
   rw [hI m hm hm]; simp) 0 ⟨rfl,fun m _ h=>by omega⟩ (s.length + 1) (by omega)
 unfold aX ez
 rw [h1,qb]
 cases fl with
 | go _=>exact h3.elim
 | ex _ _=>dsimp only at h3; rw [h3]; rfl
 | ret r =>
  obtain ⟨h3,h4⟩:=h3
  rw [h4,qb,decide_eq_true h3]
def comm (a b:aw):Bool:=decide (max a.X0 b.X0 < min a.X1 b.X1) && decide (max a.Y0 b.Y0 < min a.Y1 b.Y1)
theorem uV {a b:aw} (ha:VR a) (hb:VR b) : ∃ c,cj a b = some (c,comm a b):=by
 unfold cj
 rw [bJ,qb,decide_eq_true ha,bJ,qb,decide_eq_true hb]
 show ∃ c,(eV ⟨max a.X0 b.X0,max a.Y0 b.Y0,min a.X1 b.X1,min a.Y1 b.Y1⟩).bind (fun x=>some (x.1,x.2)) = some (c,comm a b)
 unfold eV
 rw [bJ,qb]
 unfold VR at ha hb
 have:comm a b = decide (VR ⟨max a.X0 b.X0,max a.Y0 b.Y0,min a.X1 b.X1,min a.Y1 b.Y1⟩):=by
  unfold comm
  rw [Bool.eq_iff_iff,Bool.and_eq_true,decide_eq_true_iff,decide_eq_true_iff,decide_eq_true_iff]
  show _ ↔ 0 ≤ max a.X0 b.X0∧max a.X0 b.X0 < min a.X1 b.X1∧min a.X1 b.X1 ≤ 1048576∧0 ≤ max a.Y0 b.Y0∧max a.Y0 b.Y0 < min a.Y1 b.Y1∧min a.Y1 b.Y1 ≤ 1048576
  omega
 rw [← this]
 cases comm a b with
 | true=>exact ⟨_,rfl⟩
 | false=>exact ⟨_,rfl⟩
theorem Cc {S:Int → Int → Prop} {out:List aw} (h:eC S out):out = [] ↔ ∀ x y,¬ S x y:=by
 constructor
 ·intro he x y hs
  subst he
  obtain ⟨r,hr,_⟩:=(h.cells x y).2 hs
  simp at hr
 ·intro hn
  exact eC.unique h form_nil fun x y=>⟨fun hs=>hn x y hs,False.elim⟩
theorem zb (p:List aT) : ∃ r,bI p = some r∧r.1.length ≤ 1000:=by
 obtain ⟨b,hb,hP⟩:=p8 p
 cases b with
 | false=>exact ⟨([],10),by unfold bI; rw [hb]; rfl,by simp⟩
 | true =>
  obtain ⟨xs,_,_,_,_,h⟩:=sc (hP.1 rfl)
  by_cases c:200 < ((pB p xs (xs.length - 1)).length:Int)
  ·rw [if_pos (by simpa using c)] at h; exact ⟨_,h,by simp⟩
  ·rw [if_neg (by simpa using c)] at h; exact ⟨_,h,by dsimp only; omega⟩
theorem DC {p:an} {c:Cap} {v:af} (hp:gb p):jx p c v = cR p c v:=by
 unfold jx cR
 rw [BC,BS]
 obtain ⟨b,hb,hbs⟩:=EU (v:=v)
 rw [hb,qb,qb]
 cases b with
 | false=>rfl
 | true =>
  obtain ⟨hV,_,_,_,h0,h5,_⟩:=hbs rfl
  obtain ⟨r,hr,hr2⟩:=zb c.Corners
  rw [hr]
  by_cases hk:c.Load < 0 ∨ 3 ≤ c.Load
  ·rw [if_pos (by simpa using hk), if_neg (show ¬ ((!true) = true) by simp), qb]
   obtain ⟨x,hx⟩:Tot (if (r.2 != 0) = true then some true else (aX r.1 (fun y0=>ck y0 v)).bind fun x=>some (!x)):=Tot.ite (fun _=>Tot.pure _) fun _=>Tot.bind (nQ (by omega) fun x=>by
    unfold ck
    exact Tot.bind (ql _ _) fun _ _=>Tot.pure _) fun _ _=>Tot.pure _
   rw [hx,qb]
   split
   ·rfl
   ·rw [if_neg (by simp; omega),if_neg (by simp; omega),if_neg (by simp; omega)]
  ·rw [if_neg (show ¬ ((((!true) || decide (c.Load < 0)) || decide (3 ≤ c.Load)) = true) by simp; omega), if_neg (show ¬ ((!true) = true) by simp), qb, qb]
   have key:(if (r.2 != 0) = true then some true else (jy r.1 [v.Box.Base] 1).bind fun x=>some ((x.length:Int) == 0)) = (if (r.2 != 0) = true then some true else (aX r.1 (fun y0=>ck y0 v)).bind fun x=>some (!x)):=by
    split
    ·rfl
    ·rename_i h2
     have h2:r.2 = 0:=by simpa using h2
     obtain ⟨a,e⟩:=r
     dsimp only at h2
     subst h2
     obtain ⟨ha,hl⟩:=DI hr
     obtain ⟨out,ho,hf⟩:=xl (op:=1) ha (b:=[v.Box.Base]) (by simpa using hV) (by simp; omega)
     dsimp only
     rw [ho,vh (g:=fun r=>comm r v.Box.Base) (by omega) (fun x hx=>by
      unfold ck
      obtain ⟨c,hc⟩:=uV (ha x hx) hV
      rw [hc]; rfl),qb,qb]
     congr 1
     rw [Bool.eq_iff_iff]
     have e1:((out.length:Int) == 0) = true ↔ out = []:=by
      rw [beq_iff_eq]
      constructor
      ·intro h; exact List.length_eq_zero_iff.1 (by omega)
      ·intro h; rw [h]; rfl
     rw [e1, Cc hf, Bool.not_eq_true', List.any_eq_false]
     constructor
     ·intro h x hx hcm
      unfold comm at hcm
      simp at hcm
      refine h (max x.X0 v.Box.Base.X0) (max x.Y0 v.Box.Base.Y0) ?_
      unfold opS opB
      have c1:cells a (max x.X0 v.Box.Base.X0) (max x.Y0 v.Box.Base.Y0):=⟨x,hx,by unfold rin; omega⟩
      have c2:cells [v.Box.Base] (max x.X0 v.Box.Base.X0) (max x.Y0 v.Box.Base.Y0):=⟨_,List.mem_singleton.2 rfl,by unfold rin; omega⟩
      simp [c1,c2]
     ·intro h x y hs
      unfold opS opB at hs
      simp at hs
      obtain ⟨⟨q,hq,q1⟩,⟨w,hw,q2⟩⟩:=hs
      rw [List.mem_singleton.1 hw] at q2
      refine h q hq ?_
      unfold comm
      unfold rin at q1 q2
      simp
      omega
   rw [key]
   obtain ⟨x,hx⟩:Tot (if (r.2 != 0) = true then some true else (aX r.1 (fun y0=>ck y0 v)).bind fun x=>some (!x)):=Tot.ite (fun _=>Tot.pure _) fun _=>Tot.bind (nQ (by omega) fun x=>by
    unfold ck
    exact Tot.bind (ql _ _) fun _ _=>Tot.pure _) fun _ _=>Tot.pure _
   rw [hx,qb,qb,zk hp h0 h5,xf hV]
   split
   ·rfl
   ·split
    ·rfl
    ·split
     ·rfl
     ·rename_i n0 n1
      rw [if_pos (by simp at n0 n1 ⊢; omega)]
theorem Ek {p:an} {c:Cap} {v:af} (hp:gb p) (hc:c.Corners.length ≤ 12):jx p c v = cR p c v:=DC hp


theorem CI (n:Int):dZ n = some (lmd n):=by unfold dZ lmd; congr 1; omega
theorem E9 {p:an} {c:Cap} {v:af} (hp:gb p) (hc:c.Corners.length ≤ 12):jx p c v = some (ld p c v)∧0 ≤ ld p c v∧ld p c v ≤ 1099511627776:=by
 rw [Ek hp hc]; exact CY hp hc
theorem tl {t:aq} {c:Cap} (hp:gb t.an) (hc:c.Corners.length ≤ 12) (hb:t.Built.length ≤ 1000) (hs:t.Base.length ≤ 1000):kS t c = some (loadT t c):=by
 unfold kS
 obtain ⟨f,h1,h2,h3⟩:=aG (body:=lF t c) (fun i s=>s.2 = ((i:Nat):Int)∧s.1 = nmd (t.Base.take i) c) t.Base.length
  (fun f => match f with | .ex _ s => s.1 = nmd t.Base c | _ => False) (fun i s hi ⟨hs', hI⟩ => by
   unfold lF
   have hb:=o6 c (t.Base.take i)
   have hlt:(t.Base.take i).length ≤ 1000:=by simp; omega
   have hl:=sY t.Base[i].N
   rw [hs', if_pos (by simpa using hi), ae hi, qb, ← beq_toListBytes, qA]
   have hst:nmd (t.Base.take (i + 1)) c = nmd (t.Base.take i) c + (if t.Base[i].Name = c.Name then lmd t.Base[i].N else 0):=by
    rw [List.take_succ_eq_append_getElem hi,ui]; simp [nmd]
   by_cases hn:t.Base[i].Name = c.Name
   ·rw [if_pos (by simpa using hn), qb, CI, qb, hI, aZ (by constructor <;> omega), qb, qb, ag (by omega)]
    exact .inl ⟨_,rfl,rfl,by rw [hst,if_pos hn]⟩
   ·rw [if_neg (by simpa using hn), qb, ag (by omega)]
    exact .inl ⟨_, rfl, rfl, by rw [hst, if_neg hn]; show s.1 = _; omega⟩) (fun s ⟨hs', hI⟩ => by
   unfold lF
   rw [hs', if_neg (by simp)]
   rw [List.take_length] at hI
   exact ⟨_,rfl,trivial,hI⟩) (0,0) ⟨rfl,by simp [nmd]⟩ (t.Base.length + 1) (by omega)
 rw [h1,qb]
 cases f with
 | go _=>exact h2.elim
 | ret _=>exact h3.elim
 | ex _ s =>
  have h3:s.1 = nmd t.Base c:=h3
  dsimp only
  rw [h3]
  have hn:=o6 c t.Base
  obtain ⟨f,g1,g2,g3⟩:=aG (body:=ly t c) (fun i s=>s.2 = ((i:Nat):Int)∧s.1 = nmd t.Base c + lds t.an c ((t.Built.take i).map (·.af))) t.Built.length
   (fun f => match f with | .ex _ s => s.1 = loadT t c | _ => False) (fun i s hi ⟨hs', hI⟩ => by
    unfold ly
    have hv:=E9 (v:=t.Built[i].af) hp hc
    have hl:=pX hp hc ((t.Built.take i).map (·.af))
    have hlen:((t.Built.take i).map (·.af)).length ≤ 1000:=by simp; omega
    rw [hs', if_pos (by simpa using hi), ae hi, qb, hv.1, qb, hI, aZ (by constructor <;> omega), qb, ag (by omega)]
    refine .inl ⟨_,rfl,rfl,?_⟩
    rw [List.take_succ_eq_append_getElem hi,List.map_append,uc]
    simp [lds]; omega) (fun s ⟨hs', hI⟩ => by
    unfold ly
    rw [hs', if_neg (by simp)]
    rw [List.take_length] at hI
    exact ⟨_,rfl,trivial,hI⟩) (nmd t.Base c,0) ⟨rfl,by simp [lds]⟩ (t.Built.length + 1) (by omega)
  rw [g1,qb]
  cases f with
  | go _=>exact g2.elim
  | ret _=>exact g3.elim
  | ex _ s=>dsimp only at g3 ⊢; rw [g3]
theorem xN {p:an} {c:Cap} {ph:Phase} (hp:gb p) (hc:c.Corners.length ≤ 12) (hb:ph.Volumes.length ≤ 1000) (hs:ph.bd.length ≤ 1000):ns p c ph = some (phL p c ph):=by
 unfold ns
 obtain ⟨f,h1,h2,h3⟩:=aG (body:=jS p c ph) (fun i s=>s.2 = ((i:Nat):Int)∧s.1 = lds p c (ph.Volumes.take i)) ph.Volumes.length
  (fun f => match f with | .ex _ s => s.1 = lds p c ph.Volumes | _ => False) (fun i s hi ⟨hs', hI⟩ => by
   unfold jS
   have hv:=E9 (v:=ph.Volumes[i]) hp hc
   have hl:=pX hp hc (ph.Volumes.take i)
   have hlen:(ph.Volumes.take i).length ≤ 1000:=by simp; omega
   rw [hs', if_pos (by simpa using hi), ae hi, qb, hv.1, qb, hI, aZ (by constructor <;> omega), qb, ag (by omega)]
   refine .inl ⟨_,rfl,rfl,?_⟩
   rw [List.take_succ_eq_append_getElem hi,uc]
   simp [lds]) (fun s ⟨hs', hI⟩ => by
   unfold jS
   rw [hs', if_neg (by simp)]
   rw [List.take_length] at hI
   exact ⟨_,rfl,trivial,hI⟩) (0,0) ⟨rfl,by simp [lds]⟩ (ph.Volumes.length + 1) (by omega)
 rw [h1,qb]
 cases f with
 | go _=>exact h2.elim
 | ret _=>exact h3.elim
 | ex _ s =>
  have h3:s.1 = lds p c ph.Volumes:=h3
  dsimp only
  rw [h3]
  have hld:=pX hp hc ph.Volumes
  obtain ⟨f,g1,g2,g3⟩:=aG (body:=ko c ph) (fun i s=>s.2 = ((i:Nat):Int)∧s.1 = lds p c ph.Volumes - nmd (ph.bd.take i) c) ph.bd.length
   (fun f => match f with | .ex _ s => s.1 = phL p c ph | _ => False) (fun i s hi ⟨hs', hI⟩ => by
    unfold ko
    have hb:=o6 c (ph.bd.take i)
    have hlt:(ph.bd.take i).length ≤ 1000:=by simp; omega
    have hl:=sY ph.bd[i].N
    rw [hs', if_pos (by simpa using hi), ae hi, qb, ← beq_toListBytes, qA]
    have hst:nmd (ph.bd.take (i + 1)) c = nmd (ph.bd.take i) c + (if ph.bd[i].Name = c.Name then lmd ph.bd[i].N else 0):=by
     rw [List.take_succ_eq_append_getElem hi,ui]; simp [nmd]
    by_cases hn:ph.bd[i].Name = c.Name
    ·rw [if_pos (by simpa using hn), qb, CI, qb, hI, ba (by constructor <;> omega), qb, qb, ag (by omega)]
     exact .inl ⟨_,rfl,rfl,by rw [hst,if_pos hn]; show _ = _; omega⟩
    ·rw [if_neg (by simpa using hn), qb, ag (by omega)]
     exact .inl ⟨_, rfl, rfl, by rw [hst, if_neg hn]; show s.1 = _; omega⟩) (fun s ⟨hs', hI⟩ => by
    unfold ko
    rw [hs', if_neg (by simp)]
    rw [List.take_length] at hI
    exact ⟨_,rfl,trivial,by show s.1 = _; unfold phL; omega⟩) (lds p c ph.Volumes,0) ⟨rfl,by simp [nmd]⟩ (ph.bd.length + 1) (by omega)
  rw [g1,qb]
  cases f with
  | go _=>exact g2.elim
  | ret _=>exact g3.elim
  | ex _ s=>dsimp only at g3 ⊢; rw [g3]
theorem DZ {p:an} {c:Cap} {r:ax} (hp:gb p) (hc:c.Corners.length ≤ 12) (h:RtS r):lZ p c r = some ((lft r).map (phL p c)):=by
 have hl4:=gg h
 unfold lZ
 rw [vG h,qb]
 obtain ⟨f,h1,h2,h3⟩:=aG (body:=kp p c (lft r)) (fun i s=>s.2 = ((i:Nat):Int)∧s.1 = ((lft r).take i).map (phL p c)) (lft r).length
  (fun f => match f with | .ex _ s => s.1 = (lft r).map (phL p c) | _ => False) (fun i s hi ⟨hs', hI⟩ => by
   have hq:=h.2 _ (fD (List.getElem_mem hi))
   unfold kp
   rw [hs', if_pos (by simpa using hi), ae hi, qb, xN hp hc (by have := hq.1; omega) (by have := hq.2; omega), qb, hI, aF (by simp; omega), qb, ag (by omega)]
   refine .inl ⟨_,rfl,rfl,?_⟩
   rw [List.take_succ_eq_append_getElem hi,List.map_append]
   rfl) (fun s ⟨hs', hI⟩ => by
   unfold kp
   rw [hs', if_neg (by simp)]
   rw [List.take_length] at hI
   exact ⟨_,rfl,trivial,hI⟩) ([],0) ⟨rfl,by simp⟩ ((lft r).length + ([]:List Int).length + 1) (by simp)
 rw [h1,qb]
 cases f with
 | go _=>exact h2.elim
 | ret _=>exact h3.elim
 | ex _ s=>dsimp only at h3 ⊢; rw [h3]
theorem IV {l:List Int} (h:l.length ≤ 100) (hb : ∀ x ∈ l,-10995116277760 ≤ x∧x ≤ 10995116277760):kP l = some (pk l):=by
 unfold kP
 obtain ⟨f,h1,h2,h3⟩:=aG (body:=lE l) (fun i s=>s.2.2 = ((i:Nat):Int)∧s.1 = pk (l.take i)∧s.2.1 = (l.take i).sum) l.length
  (fun f => match f with | .ex _ s => s.1 = pk l | _ => False) (fun i s hi ⟨hs', hI, hJ⟩ => by
   unfold lE
   have hs:=yH (l:=l.take i) (B:=10995116277760) (fun x hx=>hb x (List.mem_of_mem_take hx)) (by omega)
   have hlt:(l.take i).length ≤ 100:=by simp; omega
   have hx:=hb l[i] (List.getElem_mem hi)
   rw [hs', if_pos (by simpa using hi), ae hi, qb, hJ, aZ (by constructor <;> omega), qb, ag (by omega)]
   refine .inl ⟨_,rfl,rfl,?_,?_⟩
   ·dsimp only
    rw [hI,List.take_succ_eq_append_getElem hi]
    unfold pk
    rw [sN,List.foldl_append]
    simp
   ·dsimp only
    rw [List.take_succ_eq_append_getElem hi, List.sum_append]; simp) (fun s ⟨hs', hI, hJ⟩ => by
   unfold lE
   rw [hs', if_neg (by simp)]
   rw [List.take_length] at hI
   exact ⟨_,rfl,trivial,hI⟩) (0,0,0) ⟨rfl,by simp [pk,nn],by simp⟩ (l.length + 1) (by omega)
 rw [h1,qb]
 cases f with
 | go _=>exact h2.elim
 | ret _=>exact h3.elim
 | ex _ s=>dsimp only at h3 ⊢; rw [h3]
theorem Gp {p:an} {c:Cap} {r:ax} (hp:gb p) (hc:c.Corners.length ≤ 12) (h:RtS r):kP ((lft r).map (phL p c)) = some (top p c r):=by
 have hl4:=gg h
 exact IV (by simp; omega) fun x hx=>by
  obtain ⟨ph,hph,rfl⟩:=List.mem_map.1 hx
  exact BW hp hc (h.2 ph (fD hph))
theorem Fl {t:aq} {rights:List ax} {c:Cap} (hp:gb t.an) (hc:c.Corners.length ≤ 12) (hb:t.Built.length ≤ 1000) (hs:t.Base.length ≤ 1000) (hr:rights.length ≤ 1000) (h : ∀ r ∈ rights,RtS r) :
  kX t rights c = some ⟨c.Name,loadT t c,rights.map (top t.an c)⟩:=by
 unfold kX
 rw [tl hp hc hb hs,qb]
 obtain ⟨f,h1,h2,h3⟩:=aG (body:=iW t rights c) (fun i s=>s.2 = ((i:Nat):Int)∧s.1 = ⟨c.Name,loadT t c,(rights.take i).map (top t.an c)⟩) rights.length
  (fun f => match f with | .ex _ s => s.1 = ⟨c.Name, loadT t c, rights.map (top t.an c)⟩ | _ => False) (fun i s hi ⟨hs', hI⟩ => by
   have hq:=h _ (List.getElem_mem hi)
   unfold iW
   rw [hs', if_pos (by simpa using hi), ae hi, qb, DZ hp hc hq, qb, Gp hp hc hq, qb, hI]
   dsimp only
   rw [aF (by simp; omega),qb,ag (by omega)]
   refine .inl ⟨_,rfl,rfl,?_⟩
   rw [List.take_succ_eq_append_getElem hi,List.map_append]
   rfl) (fun s ⟨hs', hI⟩ => by
   unfold iW
   rw [hs', if_neg (by simp)]
   rw [List.take_length] at hI
   exact ⟨_,rfl,trivial,hI⟩) (⟨c.Name,loadT t c,[]⟩,0) ⟨rfl,by simp⟩ (rights.length + 1) (by omega)
 rw [h1,qb]
 cases f with
 | go _=>exact h2.elim
 | ret _=>exact h3.elim
 | ex _ s=>dsimp only at h3 ⊢; rw [h3]


theorem tW (v:af):iu v = some (rgt v):=o0 v
theorem Er {s:List bk} (h:zh s) (p d:aJ):mO s p d = some (oT s p d):=by
 obtain ⟨r,h1,h2⟩:=Fv (p:=p) (d:=d) h
 rw [yb h] at h1
 rw [h2,h1]
theorem Fa {s:List bk} (h:zh s) (p q:aJ):gM s p q = some (pH s p q):=by
 obtain ⟨r,h1,h2⟩:=xY (p:=p) (q:=q) h
 rw [yz h] at h1
 rw [h2,h1]
theorem zC (l:List (List bk)) (c:Prop) [Decidable c] (x:List bk) (g:List bk → Bool):(l ++ (if c then [x] else [])).any g = (l.any g || (decide c && g x)):=by
 by_cases h:c <;> simp [h]
theorem H7 {t:aq} {w:fm} {n:Int} {j:Nat} (hj:j < t.an.Sun.length) (hb:t.Built.length ≤ 1000) : ∃ m,ah (ib t w (n,(j:Int))) (t.Built.length + 1) (true,0) = some (.ex 2 (!((ec t.Built fun lot=>lot == w.Lot).any fun s=>oT s w.At t.an.Sun[j]),m)):=by
 obtain ⟨f,h1,h2,h3⟩:=aG (body:=ib t w (n,(j:Int))) (fun i s=>s.2 = ((i:Nat):Int)∧s.1 = !((ec (t.Built.take i) fun lot=>lot == w.Lot).any fun s=>oT s w.At t.an.Sun[j])) t.Built.length
  (fun f => ∃ m, f = .ex 2 (!((ec t.Built fun lot => lot == w.Lot).any fun s => oT s w.At t.an.Sun[j]), m)) (fun i s hi ⟨hs', hI⟩ => by
   unfold ib
   rw [hs', if_pos (by simpa using hi), ae hi, qb, qb]
   have e:(if (t.Built[i].Lot != w.Lot) = true then (iu t.Built[i].af).bind fun x=>some x else some false) = some (rgt t.Built[i].af && !(t.Built[i].Lot == w.Lot)):=by
    rw [tW]
    show (if (!(t.Built[i].Lot == w.Lot)) = true then _ else _) = _
    cases (t.Built[i].Lot == w.Lot) <;> cases rgt t.Built[i].af <;> rfl
   rw [e,qb]
   have hst:(!((ec (t.Built.take (i + 1)) fun lot=>lot == w.Lot).any fun s=>oT s w.At t.an.Sun[j])) = (s.1 && !((rgt t.Built[i].af && !(t.Built[i].Lot == w.Lot)) && oT (sld t.Built[i].af) w.At t.an.Sun[j])):=by
    rw [List.take_succ_eq_append_getElem hi,sE,zC,hI,Bool.not_or,Bool.decide_eq_true]
   cases hc:(rgt t.Built[i].af && !(t.Built[i].Lot == w.Lot)) with
   | true =>
    rw [hc] at hst
    rw [if_pos rfl]
    unfold lT
    rw [qb]
    dsimp only
    rw [ae hj,qb,show ([(⟨t.Built[i].af.Box.Z0,t.Built[i].af.Box.Z1,[t.Built[i].af.Box.Base]⟩:bk)]) = sld t.Built[i].af from rfl,Er (oc _),qb,qb,ag (by omega)]
    exact .inl ⟨_,rfl,rfl,by rw [hst,Bool.true_and]⟩
   | false =>
    rw [hc] at hst
    rw [if_neg (by simp),qb,ag (by omega)]
    exact .inl ⟨_, rfl, rfl, by rw [hst]; simp⟩) (fun s ⟨hs', hI⟩ => by
   unfold ib
   rw [hs', if_neg (by simp)]
   rw [List.take_length] at hI
   exact ⟨_,rfl,trivial,_,by rw [hI]⟩) (true,0) ⟨rfl,by simp [ec]⟩ (t.Built.length + 1) (by omega)
 obtain ⟨m,rfl⟩:=h3
 exact ⟨m,h1⟩
theorem DA {t:aq} {w:fm} (hs:t.an.Sun.length ≤ 1000) (hb:t.Built.length ≤ 1000):nC t w = some (oh t w:Int):=by
 unfold nC
 obtain ⟨fl,h1,h2,h3⟩:=aG (body:=kE t w) (fun i s=>s.2 = ((i:Nat):Int)∧s.1 = (fw (t.an.Sun.take i) (ec t.Built fun lot=>lot == w.Lot) (fun s d=>oT s w.At d):Int)) t.an.Sun.length
  (fun f => match f with | .ex _ s => s.1 = (oh t w : Int) | _ => False) (fun i s hi ⟨hs', hI⟩ => by
   obtain ⟨n,k⟩:=s
   dsimp only at hs' hI
   subst hs'
   unfold kE
   obtain ⟨m,hm⟩:=H7 (w:=w) (n:=n) hi hb
   rw [if_pos (by simpa using hi),hm,qb]
   dsimp only
   have hst:fw (t.an.Sun.take (i + 1)) (ec t.Built fun lot=>lot == w.Lot) (fun s d=>oT s w.At d) = fw (t.an.Sun.take i) (ec t.Built fun lot=>lot == w.Lot) (fun s d=>oT s w.At d) + (if (!((ec t.Built fun lot=>lot == w.Lot).any fun s=>oT s w.At t.an.Sun[i])) = true then 1 else 0):=by
    unfold fw
    rw [List.take_succ_eq_append_getElem hi,List.countP_append,List.countP_singleton]
   have hle:fw (t.an.Sun.take i) (ec t.Built fun lot=>lot == w.Lot) (fun s d=>oT s w.At d) ≤ 1000:=by
    unfold fw
    refine Nat.le_trans (List.countP_le_length) (by simp; omega)
   by_cases hc:(!((ec t.Built fun lot=>lot == w.Lot).any fun s=>oT s w.At t.an.Sun[i])) = true
   ·rw [if_pos hc, hI, ag (by omega), qb, qb, ag (by omega)]
    exact .inl ⟨_,rfl,rfl,by rw [hst,if_pos hc]⟩
   ·rw [if_neg hc, qb, ag (by omega)]
    exact .inl ⟨_, rfl, rfl, by rw [hst, if_neg hc]; exact hI⟩) (fun s ⟨hs', hI⟩ => by
   unfold kE
   rw [hs', if_neg (by simp)]
   rw [List.take_length] at hI
   exact ⟨_,rfl,trivial,hI⟩) (0,0) ⟨rfl,by simp [fw]⟩ (t.an.Sun.length + 1) (by omega)
 rw [h1,qb]
 cases fl with
 | go _=>exact h2.elim
 | ret _=>exact h3.elim
 | ex _ s=>dsimp only at h3 ⊢; rw [h3]
theorem ER {t:aq} {w:View} {n:Int} {j:Nat} (hj:j < w.Targets.length) (hb:t.Built.length ≤ 1000) : ∃ m,ah (fH t w (n,(j:Int))) (t.Built.length + 1) (true,0) = some (.ex 2 (!((ec t.Built fun _=>false).any fun s=>pH s w.Eye w.Targets[j]),m)):=by
 obtain ⟨f,h1,h2,h3⟩:=aG (body:=fH t w (n,(j:Int))) (fun i s=>s.2 = ((i:Nat):Int)∧s.1 = !((ec (t.Built.take i) fun _=>false).any fun s=>pH s w.Eye w.Targets[j])) t.Built.length
  (fun f => ∃ m, f = .ex 2 (!((ec t.Built fun _ => false).any fun s => pH s w.Eye w.Targets[j]), m)) (fun i s hi ⟨hs', hI⟩ => by
   unfold fH
   rw [hs', if_pos (by simpa using hi), ae hi, qb, tW, qb]
   have hst:(!((ec (t.Built.take (i + 1)) fun _=>false).any fun s=>pH s w.Eye w.Targets[j])) = (s.1 && !((rgt t.Built[i].af && !false) && pH (sld t.Built[i].af) w.Eye w.Targets[j])):=by
    rw [List.take_succ_eq_append_getElem hi,sE,zC,hI,Bool.not_or,Bool.decide_eq_true]
   cases hc:rgt t.Built[i].af with
   | true =>
    rw [hc] at hst
    rw [if_pos rfl]
    unfold lT
    rw [qb]
    dsimp only
    rw [ae hj,qb,show ([(⟨t.Built[i].af.Box.Z0,t.Built[i].af.Box.Z1,[t.Built[i].af.Box.Base]⟩:bk)]) = sld t.Built[i].af from rfl,Fa (oc _),qb,qb,ag (by omega)]
    exact .inl ⟨_,rfl,rfl,by rw [hst]; simp⟩
   | false =>
    rw [hc] at hst
    rw [if_neg (by simp),qb,ag (by omega)]
    exact .inl ⟨_, rfl, rfl, by rw [hst]; simp⟩) (fun s ⟨hs', hI⟩ => by
   unfold fH
   rw [hs', if_neg (by simp)]
   rw [List.take_length] at hI
   exact ⟨_,rfl,trivial,_,by rw [hI]⟩) (true,0) ⟨rfl,by simp [ec]⟩ (t.Built.length + 1) (by omega)
 obtain ⟨m,rfl⟩:=h3
 exact ⟨m,h1⟩
theorem zf {t:aq} {w:View} (hs:w.Targets.length ≤ 1000) (hb:t.Built.length ≤ 1000):lA t w = some (nI t w:Int):=by
 unfold lA
 obtain ⟨fl,h1,h2,h3⟩:=aG (body:=iJ t w) (fun i s=>s.2 = ((i:Nat):Int)∧s.1 = (fw (w.Targets.take i) (ec t.Built fun _=>false) (fun s q=>pH s w.Eye q):Int)) w.Targets.length
  (fun f => match f with | .ex _ s => s.1 = (nI t w : Int) | _ => False) (fun i s hi ⟨hs', hI⟩ => by
   obtain ⟨n,k⟩:=s
   dsimp only at hs' hI
   subst hs'
   unfold iJ
   obtain ⟨m,hm⟩:=ER (w:=w) (n:=n) hi hb
   rw [if_pos (by simpa using hi),hm,qb]
   dsimp only
   have hst:fw (w.Targets.take (i + 1)) (ec t.Built fun _=>false) (fun s q=>pH s w.Eye q) = fw (w.Targets.take i) (ec t.Built fun _=>false) (fun s q=>pH s w.Eye q) + (if (!((ec t.Built fun _=>false).any fun s=>pH s w.Eye w.Targets[i])) = true then 1 else 0):=by
    unfold fw
    rw [List.take_succ_eq_append_getElem hi,List.countP_append,List.countP_singleton]
   have hle:fw (w.Targets.take i) (ec t.Built fun _=>false) (fun s q=>pH s w.Eye q) ≤ 1000:=by
    unfold fw
    refine Nat.le_trans (List.countP_le_length) (by simp; omega)
   by_cases hc:(!((ec t.Built fun _=>false).any fun s=>pH s w.Eye w.Targets[i])) = true
   ·rw [if_pos hc, hI, ag (by omega), qb, qb, ag (by omega)]
    exact .inl ⟨_,rfl,rfl,by rw [hst,if_pos hc]⟩
   ·rw [if_neg hc, qb, ag (by omega)]
    exact .inl ⟨_, rfl, rfl, by rw [hst, if_neg hc]; exact hI⟩) (fun s ⟨hs', hI⟩ => by
   unfold iJ
   rw [hs', if_neg (by simp)]
   rw [List.take_length] at hI
   exact ⟨_,rfl,trivial,hI⟩) (0,0) ⟨rfl,by simp [fw]⟩ (w.Targets.length + 1) (by omega)
 rw [h1,qb]
 cases fl with
 | go _=>exact h2.elim
 | ret _=>exact h3.elim
 | ex _ s=>dsimp only at h3 ⊢; rw [h3]


theorem jL {τ ρ:Type} {f g:Int × τ → Option (aN (Int × τ) ρ)} (N:Nat)
  (step : ∀ i : Nat, i < N → ∀ l, (∃ l', f ((i : Int), l) = some (.go (((i + 1 : Nat) : Int), l')) ∧ g ((i : Int), l) = some (.go (((i + 1 : Nat) : Int), l'))) ∨ (∃ r, f ((i : Int), l) = some (.ret r) ∧ g ((i : Int), l) = some (.ret r)))
  (done : ∀ l,∃ j s,f ((N:Int),l) = some (.ex j s)∧g ((N:Int),l) = some (.ex j s)) : ∀ fuel (i:Nat) l,i ≤ N → ah f fuel ((i:Int),l) = ah g fuel ((i:Int),l)
 | 0,_,_,_=>rfl
 | n + 1, i, l, hi => by
  simp only [ah]
  rcases Nat.lt_or_ge i N with h | h
  ·rcases step i h l with ⟨l', h1, h2⟩ | ⟨r, h1, h2⟩
   ·rw [h1,h2]; exact jL N step done n (i + 1) l' h
   ·rw [h1,h2]
  ·obtain rfl : i = N := by omega
   obtain ⟨j,s,h1,h2⟩:=done l
   rw [h1,h2]
theorem GO (a b:af):lD a b = some (ovl a b):=by
 have hv : ∀ v:af,rgt v = true → VR v.Box.Base:=fun v h=>by
  have:=o0 v
  unfold e9 at this
  rw [bJ,qb,h] at this
  simp at this
  exact this.1.1.1.1.1
 rw [← Bp]
 unfold lD cQ
 rw [tW,o0,tW,o0,qb,qb]
 cases ha:rgt a with
 | false=>rfl
 | true =>
  cases hb:rgt b with
  | false=>rfl
  | true =>
   obtain ⟨c,hc⟩:=uV (hv a ha) (hv b hb)
   show some (((true && (decide ((max a.Box.Base.X0 b.Box.Base.X0) < (min a.Box.Base.X1 b.Box.Base.X1)))) && (decide ((max a.Box.Base.Y0 b.Box.Base.Y0) < (min a.Box.Base.Y1 b.Box.Base.Y1)))) && (decide ((max a.Box.Z0 b.Box.Z0) < (min a.Box.Z1 b.Box.Z1)))) = (cj a.Box.Base b.Box.Base).bind _
   rw [hc,qb]
   unfold comm
   rw [Bool.true_and]
theorem Hs (l:List bf) (β:Int → Bool) : ∀ s ∈ ec l β,zh s:=fun s hs=>by
 unfold ec at hs
 obtain ⟨b,_,rfl⟩:=List.mem_map.1 hs
 exact oc _
theorem Gs {t:aq} {l:aK} {i:Nat} (hi:i < t.Built.length) (hb:t.Built.length ≤ 1000) :
  ((t.Built.take i).any (fun a=>ovl a.af t.Built[i].af) = false∧∃ n,ah (eM t ((i:Int),l)) (t.Built.length + 1) (0,l) = some (.ex 6 (n,l))) ∨ ((t.Built.take i).any (fun a=>ovl a.af t.Built[i].af) = true∧ah (eM t ((i:Int),l)) (t.Built.length + 1) (0,l) = some (.ret ((⟨5,(⟨#[]⟩:ByteArray),(i:Int)⟩:aK),false))):=by
 obtain ⟨f,h1,h2,h3⟩:=aG (body:=eM t ((i:Int),l)) (fun k s=>s.1 = ((k:Nat):Int)∧s.2 = l∧(t.Built.take k).any (fun a=>ovl a.af t.Built[i].af) = false) i
  (fun f=>((t.Built.take i).any (fun a=>ovl a.af t.Built[i].af) = false∧∃ n,f = .ex 6 (n,l)) ∨ ((t.Built.take i).any (fun a=>ovl a.af t.Built[i].af) = true∧f = .ret ((⟨5,(⟨#[]⟩:ByteArray),(i:Int)⟩:aK),false))) (fun k s hk ⟨hs,hl,hI⟩=>by
   unfold eM
   dsimp only
   rw [hs,if_pos (by simpa using hk),ae hi,qb,ae (by omega),qb,GO,qb,Fz]
   cases hc:ovl t.Built[k].af t.Built[i].af with
   | true =>
    rw [if_pos rfl]
    exact .inr ⟨_,rfl,trivial,.inr ⟨List.any_eq_true.2 ⟨t.Built[k],List.mem_take_iff_getElem.2 ⟨k,by omega,rfl⟩,hc⟩,rfl⟩⟩
   | false =>
    rw [if_neg (by simp),ag (by omega)]
    refine .inl ⟨_,rfl,rfl,hl,?_⟩
    rw [List.take_succ_eq_append_getElem (by omega),List.any_append,hI]
    simp [hc]) (fun s ⟨hs,hl,hI⟩=>by
   unfold eM
   dsimp only
   rw [hs,if_neg (by simp),hl]
   exact ⟨_,rfl,trivial,.inl ⟨hI,_,rfl⟩⟩) (0,l) ⟨rfl,rfl,by simp⟩ (t.Built.length + 1) (by omega)
 rcases h3 with ⟨h3,n,rfl⟩ | ⟨h3,rfl⟩
 ·exact .inl ⟨h3,n,h1⟩
 ·exact .inr ⟨h3,h1⟩
theorem wM {t:aq} (h:o9 t) (hb:t.Built.length ≤ 1000):kF t = gn t:=by
 have hw:=h.wins; have hv:=h.views; have hs:=h.sun
 unfold kF gn
 have k0:=jL (f:=jj t) (g:=dM t) t.Windows.length (fun i hi l=>by
  unfold jj dM
  have hsl:(ec t.Built fun lot=>lot == t.Windows[i].Lot).length ≤ 1000:=Nat.le_trans (pL _ _) hb
  dsimp only
  rw [if_pos (by simpa using hi),if_pos (by simpa using hi),ae hi,qb,qb,DA hs hb,qb,qn (but:=fun y0=>kA y0 t.Windows[i]) (β:=fun lot=>lot == t.Windows[i].Lot) hb (fun x=>rfl),qb,
   ua (f:=fun y0 y1=>fK y0 y1 t.Windows[i]) (g:=fun s d=>oT s t.Windows[i].At d) hs hsl (fun s hs p=>by unfold fK; rw [yb (Hs _ _ s hs),qb]),qb]
  show (∃ l', (if (decide ((oh t t.Windows[i] : Int) < t.an.Hours)) = true then _ else _) = _ ∧ (if (decide ((oh t t.Windows[i] : Int) < t.an.Hours)) = true then _ else _) = _) ∨ ∃ r, (if (decide ((oh t t.Windows[i] : Int) < t.an.Hours)) = true then _ else _) = _ ∧ (if (decide ((oh t t.Windows[i] : Int) < t.an.Hours)) = true then _ else _) = _
  cases (decide ((oh t t.Windows[i]:Int) < t.an.Hours)) with
  | true=>exact .inr ⟨_,rfl,rfl⟩
  | false=>(first | rw [if_neg (by simp),if_neg (by simp),ag (by omega)] | rw [if_neg (by simp),ag (by omega)]); exact .inl ⟨_,rfl,rfl⟩) (fun l=>by
  unfold jj dM
  dsimp only
  rw [if_neg (by simp),if_neg (by simp)]
  exact ⟨_,_,rfl,rfl⟩) (t.Windows.length + 1) 0 (⟨0,(⟨#[]⟩:ByteArray),0⟩:aK) (by omega)
 rw [show ((0:Int),(⟨0,(⟨#[]⟩:ByteArray),0⟩:aK)) = (((0:Nat):Int),(⟨0,(⟨#[]⟩:ByteArray),0⟩:aK)) from rfl,k0]
 congr 1
 funext f
 cases f with
 | go _=>rfl
 | ret _=>rfl
 | ex _ s =>
  dsimp only
  have hsl:(ec t.Built fun _=>false).length ≤ 1000:=Nat.le_trans (pL _ _) hb
  rw [qn (but:=kC) (β:=fun _=>false) hb (fun x=>rfl),qb]
  have k1:=jL (f:=jc t) (g:=dK t (ec t.Built fun _=>false)) t.an.Views.length (fun i hi l=>by
   unfold jc dK
   have hvw:=h.view _ (List.getElem_mem hi)
   dsimp only
   rw [if_pos (by simpa using hi),if_pos (by simpa using hi),ae hi]
   simp only [qb]
   rw [zf hvw hb,ua (f:=fun y0 y1=>fU y0 y1 t.an.Views[i]) (g:=fun s q=>pH s t.an.Views[i].Eye q) hvw hsl (fun s hs p=>by unfold fU; rw [yz (Hs _ _ s hs),qb])]
   simp only [qb]
   show (∃ l', (if (decide ((nI t t.an.Views[i] : Int) < t.an.Views[i].Least)) = true then _ else _) = _ ∧ (if (decide ((nI t t.an.Views[i] : Int) < t.an.Views[i].Least)) = true then _ else _) = _) ∨ ∃ r, (if (decide ((nI t t.an.Views[i] : Int) < t.an.Views[i].Least)) = true then _ else _) = _ ∧ (if (decide ((nI t t.an.Views[i] : Int) < t.an.Views[i].Least)) = true then _ else _) = _
   cases (decide ((nI t t.an.Views[i]:Int) < t.an.Views[i].Least)) with
   | true=>exact .inr ⟨_,rfl,rfl⟩
   | false=>(first | rw [if_neg (by simp),if_neg (by simp),ag (by omega)] | rw [if_neg (by simp),ag (by omega)]); exact .inl ⟨_,rfl,rfl⟩) (fun l=>by
   unfold jc dK
   dsimp only
   rw [if_neg (by simp),if_neg (by simp)]
   exact ⟨_,_,rfl,rfl⟩) (t.an.Views.length + 1) 0 s.2 (by omega)
  rw [show ((0:Int),s.2) = (((0:Nat):Int),s.2) from rfl,k1]
  congr 1
  funext f
  cases f with
  | go _=>rfl
  | ret _=>rfl
  | ex _ s =>
   dsimp only
   have k2:=jL (f:=jh t) (g:=dP t) t.Built.length (fun i hi l=>by
    unfold jh dP
    dsimp only
    rw [if_pos (by simpa using hi),if_pos (by simpa using hi),ae hi,qb,eW (by omega) (by omega) (by omega),qb,show (t.Built.take (i:Int).toNat).drop (0:Int).toNat = t.Built.take i by simp,
     qv (f:=fun y0=>fW y0 t.Built[i]) (g:=fun a=>ovl a.af t.Built[i].af) (by simp; omega) (fun a _=>by unfold fW; rw [Bp,qb]),qb]
    rcases Gs (l:=l) hi hb with ⟨a1,n,a2⟩ | ⟨a1,a2⟩
    ·rw [a1, a2, qb, if_neg (by simp)]
     dsimp only
     rw [ag (by omega)]
     exact .inl ⟨_,rfl,rfl⟩
    ·rw [a1, a2, qb, if_pos rfl]
     exact .inr ⟨_,rfl,rfl⟩) (fun l=>by
    unfold jh dP
    dsimp only
    rw [if_neg (by simp),if_neg (by simp)]
    exact ⟨_,_,rfl,rfl⟩) (t.Built.length + 1) 0 s.2 (by omega)
   (rw [show ((0:Int),s.2) = (((0:Nat):Int),s.2) from rfl,k2]) <;> rfl
theorem D3 {t:aq} (h:o9 t) (hb:t.Built.length ≤ 1000) (hs:t.Base.length ≤ 1000):nH t = dW t:=by
 have hc:=h.caps
 unfold nH dW
 rw [wM h hb]
 have k0:=jL (f:=ki t) (g:=dJ t) t.an.Caps.length (fun i hi l=>by
  unfold ki dJ
  dsimp only
  have hcp:=h.cap _ (List.getElem_mem hi)
  rw [if_pos (by simpa using hi),if_pos (by simpa using hi),ae hi]
  simp only [qb]
  rw [tl h.plan hcp hb hs,qT h.plan hcp hb hs]
  simp only [qb]
  cases (decide (t.an.Caps[i].aK < loadT t t.an.Caps[i])) with
  | true=>exact .inr ⟨_,rfl,rfl⟩
  | false=>(first | rw [if_neg (by simp),if_neg (by simp),ag (by omega)] | rw [if_neg (by simp),ag (by omega)]); exact .inl ⟨_,rfl,rfl⟩) (fun l=>by
  unfold ki dJ
  dsimp only
  rw [if_neg (by simp),if_neg (by simp)]
  exact ⟨_,_,rfl,rfl⟩) (t.an.Caps.length + 1) 0 (⟨0,(⟨#[]⟩:ByteArray),0⟩:aK) (by omega)
 (rw [show ((0:Int),(⟨0,(⟨#[]⟩:ByteArray),0⟩:aK)) = (((0:Nat):Int),(⟨0,(⟨#[]⟩:ByteArray),0⟩:aK)) from rfl,k0]) <;> rfl
theorem I0 {pk:ct} {n:Nat} (hn:pk.Tops.length = n):ah (nR pk) (n + 1) (pk.Base,0) = ah (cE pk) (pk.Tops.length + 1) (pk.Base,0):=by
 have:nR pk = cE pk:=rfl
 rw [this,hn]
theorem A7 {t:aq} {rights:List ax} (h:o9 t) (hr:rights.length ≤ 10) (hrs : ∀ r ∈ rights,RtS r) (hb:t.Built.length ≤ 100) (hs:t.Base.length ≤ 100):kQ t rights = bU t rights:=by
 have hc:=h.caps
 have hl:=mN (rights:=rights) (t:=t) hrs
 have hpl:=kU rights t
 unfold kQ bU
 rw [A2 hr hrs hb hs,ze hr hrs hb hs]
 have k0:=jL (f:=lB t rights) (g:=eu t rights) t.an.Caps.length (fun i hi l=>by
  have hcp:=h.cap _ (List.getElem_mem hi)
  have hlb:=Ak (c:=t.an.Caps[i]) h.plan hcp (by omega) (by omega)
  obtain ⟨f1,a1,a2,a3⟩:=aG (body:=cE ⟨t.an.Caps[i].Name,loadT t t.an.Caps[i],rights.map (top t.an t.an.Caps[i])⟩) (fun j s=>s.2 = ((j:Nat):Int)∧s.1 = loadT t t.an.Caps[i] + fB t.an t.an.Caps[i] (rights.take j)) rights.length
   (fun f => match f with | .ex _ s => True | _ => False) (fun j s hj ⟨hs', hJ⟩ => by
    have hq:=hrs _ (List.getElem_mem hj)
    have ht:=Cg h.plan hcp hq
    have hts:=yi h.plan hcp (rights:=rights.take j) fun r hr=>hrs r (List.mem_of_mem_take hr)
    have hlt:(rights.take j).length ≤ 10:=by simp; omega
    unfold cE
    dsimp only
    rw [hs', if_pos (by simpa using hj), ae (by simpa using hj), qb, List.getElem_map, hJ, aZ (by constructor <;> omega), qb, ag (by omega)]
    refine .inl ⟨_,rfl,rfl,?_⟩
    rw [List.take_succ_eq_append_getElem hj,wY]
    dsimp only; omega) (fun s ⟨hs', hJ⟩ => by
    unfold cE
    dsimp only
    rw [hs', if_neg (by simp)]
    exact ⟨_,rfl,trivial,trivial⟩) (loadT t t.an.Caps[i],0) ⟨rfl,by simp [fB]⟩ ((rights.map (top t.an t.an.Caps[i])).length + 1) (by simp)
  unfold lB eu
  dsimp only
  rw [if_pos (by simpa using hi),if_pos (by simpa using hi),ae hi]
  simp only [qb]
  rw [Fl h.plan hcp (by omega) (by omega) (by omega) hrs,Cv h.plan hcp (by omega) (by omega) (by omega) hrs]
  simp only [qb]
  rw [I0 (by simp),show ah (cE ⟨t.an.Caps[i].Name,loadT t t.an.Caps[i],rights.map (top t.an t.an.Caps[i])⟩) _ _ = some f1 from a1]
  simp only [qb]
  cases f1 with
  | go _=>exact a2.elim
  | ret _=>exact a3.elim
  | ex _ s1 =>
   dsimp only
   cases (decide (t.an.Caps[i].aK < s1.1)) with
   | true=>exact .inr ⟨_,rfl,rfl⟩
   | false=>(first | rw [if_neg (by simp),if_neg (by simp),ag (by omega)] | rw [if_neg (by simp),ag (by omega)]); exact .inl ⟨_,rfl,rfl⟩) (fun l=>by
  unfold lB eu
  dsimp only
  rw [if_neg (by simp),if_neg (by simp)]
  exact ⟨_,_,rfl,rfl⟩) (t.an.Caps.length + 1) 0 (⟨0,(⟨#[]⟩:ByteArray),0⟩:aK) (by omega)
 rw [show ((0:Int),(⟨0,(⟨#[]⟩:ByteArray),0⟩:aK)) = (((0:Nat):Int),(⟨0,(⟨#[]⟩:ByteArray),0⟩:aK)) from rfl,k0]
 congr 1
 funext f
 cases f with
 | go _=>rfl
 | ret _=>rfl
 | ex _ s =>
  dsimp only
  rw [qb,qb,wM (t:=iM rights t) (h.of hpl.1 hpl.2) (by omega)]


def tS (r:ax) (s:aq) (n:Nat):List aq:=(List.range n).map fun k=>fA r.aE.Lot ((lft r).take k) s
def tN (l:List aq) (r:ax):List aq:=l.flatMap fun s=>tS r s ((lft r).length + 1)
theorem Db (r:ax) (s:aq) (n:Nat):tS r s (n + 1) = tS r s n ++ [fA r.aE.Lot ((lft r).take n) s]:=by
 unfold tS; rw [List.range_succ,List.map_append]; rfl
theorem uL : ∀ (rs:List ax) (l:List aq),rs.foldl tN l = l.flatMap (sts rs)
 | [], l => by
  show l = _
  induction l with
  | nil=>rfl
  | cons a l ih=>rw [List.flatMap_cons,← ih]; rfl
 | r :: rs, l => by
  rw [List.foldl_cons,uL rs]
  unfold tN
  rw [List.flatMap_assoc]
  congr 1
  funext s
  rw [FM]
  unfold tS
  rw [List.flatMap_map]
theorem Ey (rs:List ax) (r:ax) (t:aq):sts (rs ++ [r]) t = tN (sts rs t) r:=by
 have h1:=uL (rs ++ [r]) [t]
 have h2:=uL rs [t]
 simp only [List.flatMap_cons,List.flatMap_nil,List.append_nil] at h1 h2
 rw [← h1,List.foldl_append,h2]; rfl
theorem st2 {rights:List ax} {l out:List aq} {i:Nat} (hi:i < rights.length) {s:aq} (h:RtS rights[i]) (hb:s.Built.length ≤ 500) (hs:s.Base.length ≤ 500) (ho:out.length ≤ 100000) {fuel:Nat} (hf:(lft rights[i]).length < fuel) :
  ∃ n u,ah (eD rights (l,(i:Int)) (lft rights[i])) fuel (out ++ [s],0,s) = some (.ex 4 (out ++ tS rights[i] s ((lft rights[i]).length + 1),n,u)):=by
 have hl4:=gg h
 obtain ⟨f,h1,h2,h3⟩:=aG (body:=eD rights (l,(i:Int)) (lft rights[i])) (fun j q=>q.2.1 = ((j:Nat):Int)∧q.1 = out ++ tS rights[i] s (j + 1)∧q.2.2 = fA rights[i].aE.Lot ((lft rights[i]).take j) s) (lft rights[i]).length
  (fun f => ∃ n u, f = .ex 4 (out ++ tS rights[i] s ((lft rights[i]).length + 1), n, u)) (fun j q hj ⟨hs', hI, hJ⟩ => by
   have hq:=h.2 _ (fD (List.getElem_mem hj))
   have hn:=jF (lot:=rights[i].aE.Lot) (l:=(lft rights[i]).take j) (t:=s) (fun ph hp=>h.2 ph (fD (List.mem_of_mem_take hp)))
   have hq1:=hq.1; have hq2:=hq.2
   rw [List.length_take] at hn
   unfold eD
   dsimp only
   rw [hs', if_pos (by simpa using hj), ae hi, qb, ae hj, qb, hJ, r8 (by unfold fA; omega) (by unfold fA; omega), qb, hI, aF (by unfold tS; simp; omega), qb, ag (by omega)]
   have e:after (fA rights[i].aE.Lot ((lft rights[i]).take j) s) rights[i].aE.Lot (lft rights[i])[j] = fA rights[i].aE.Lot ((lft rights[i]).take (j + 1)) s:=by
    rw [List.take_succ_eq_append_getElem hj,ug]
   refine .inl ⟨_,rfl,rfl,?_,?_⟩
   ·dsimp only
    rw [e,Db rights[i] s (j + 1),List.append_assoc]
   ·exact e) (fun q ⟨hs', hI, hJ⟩ => by
   unfold eD
   dsimp only
   rw [hs', if_neg (by simp), hI]
   exact ⟨_,rfl,trivial,_,_,rfl⟩) (out ++ [s],0,s) ⟨rfl,by simp [tS,fA],by simp [fA]⟩ fuel hf
 obtain ⟨n,u,rfl⟩:=h3
 exact ⟨n,u,h1⟩
theorem st1 {rights:List ax} {l:List aq} {i:Nat} (hi:i < rights.length) (h:RtS rights[i]) (hl:l.length ≤ 1000) (hb : ∀ s ∈ l,s.Built.length ≤ 500∧s.Base.length ≤ 500) {fuel:Nat} (hf:l.length < fuel) :
  ∃ n,ah (eN rights (l,(i:Int)) (lft rights[i])) fuel (([]:List aq),0) = some (.ex 2 (tN l rights[i],n)):=by
 have hl4:=gg h
 have hlen : ∀ m,(tN (l.take m) rights[i]).length ≤ 5 * m:=by
  intro m
  have key : ∀ q:List aq,(tN q rights[i]).length ≤ 5 * q.length:=by
   intro q
   induction q with
   | nil=>simp [tN]
   | cons a q ih =>
    unfold tN at ih ⊢
    rw [List.flatMap_cons,List.length_append]
    simp only [List.length_cons]
    have:(tS rights[i] a ((lft rights[i]).length + 1)).length ≤ 5:=by unfold tS; simp; omega
    omega
  have:=key (l.take m)
  rw [List.length_take] at this
  omega
 obtain ⟨f,h1,h2,h3⟩:=aG (body:=eN rights (l,(i:Int)) (lft rights[i])) (fun j q=>q.2 = ((j:Nat):Int)∧q.1 = tN (l.take j) rights[i]) l.length
  (fun f => ∃ n, f = .ex 2 (tN l rights[i], n)) (fun j q hj ⟨hs', hI⟩ => by
   have hq:=hb _ (List.getElem_mem hj)
   have hlj:=hlen j
   obtain ⟨n,u,hn⟩:=st2 (rights:=rights) (l:=l) (out:=q.1) hi (s:=l[j]) h hq.1 hq.2 (by rw [hI]; omega) (fuel:=rights.length + l.length + (lft rights[i]).length + (q.1 ++ [l[j]]).length + 1) (by omega)
   unfold eN
   dsimp only
   rw [hs', if_pos (by simpa using hj), ae hj, qb, aF (by rw [hI]; simp; omega), qb, hn, qb]
   dsimp only
   rw [ag (by omega)]
   refine .inl ⟨_,rfl,rfl,?_⟩
   dsimp only
   rw [hI,List.take_succ_eq_append_getElem hj]
   unfold tN
   rw [List.flatMap_append]
   simp) (fun q ⟨hs', hI⟩ => by
   unfold eN
   dsimp only
   rw [hs', if_neg (by simp), hI, List.take_length]
   exact ⟨_,rfl,trivial,_,rfl⟩) ([],0) ⟨rfl,by simp [tN]⟩ fuel hf
 obtain ⟨n,rfl⟩:=h3
 exact ⟨n,h1⟩
theorem By {t:aq} {rights:List ax} (hr:rights.length ≤ 3) (h : ∀ r ∈ rights,RtS r) (hb:t.Built.length ≤ 100) (hs:t.Base.length ≤ 100):iF t rights = some (sts rights t,0):=by
 unfold iF
 obtain ⟨f,h1,h2,h3⟩:=aG (body:=gv rights) (fun i q=>q.2 = ((i:Nat):Int)∧q.1 = sts (rights.take i) t) rights.length
  (fun f => match f with | .ex _ q => q.1 = sts rights t | _ => False) (fun i q hi ⟨hs', hI⟩ => by
   obtain ⟨l,k⟩:=q
   dsimp only at hs' hI
   subst hs' hI
   have hq:=h _ (List.getElem_mem hi)
   have hl4:=gg hq
   have hrt : ∀ r ∈ rights.take i,RtS r:=fun r hr=>h r (List.mem_of_mem_take hr)
   have hlt:(rights.take i).length ≤ 3:=by simp; omega
   have hcnt:=vC (t:=t) hrt hlt
   obtain ⟨n,hn⟩:=st1 (rights:=rights) (l:=sts (rights.take i) t) hi hq (by omega) (fun s hs=>by
    have:=Bl hrt hs
    omega) (fuel:=rights.length + (sts (rights.take i) t).length + (lft rights[i]).length + ([]:List aq).length + 1) (by omega)
   unfold gv
   dsimp only
   have hm0:(0:Int) ≤ ((sts (rights.take i) t).length:Int) * (((lft rights[i]).length + 1:Nat):Int):=Int.mul_nonneg (by omega) (by omega)
   have hm:((sts (rights.take i) t).length:Int) * (((lft rights[i]).length + 1:Nat):Int) ≤ 125 * 5:=Int.mul_le_mul (by omega) (by omega) (by omega) (by omega)
   rw [if_pos (by simpa using hi),ae hi,qb,vG hq,qb,ag (by omega),qb,gJ (by constructor <;> omega),qb,if_neg (by simp only [decide_eq_true_eq]; omega),hn,qb]
   dsimp only
   rw [ag (by omega)]
   refine .inl ⟨_,rfl,rfl,?_⟩
   dsimp only
   rw [List.take_succ_eq_append_getElem hi, Ey]) (fun q ⟨hs', hI⟩ => by
   unfold gv
   rw [hs', if_neg (by simp)]
   rw [List.take_length] at hI
   exact ⟨_,rfl,trivial,hI⟩) ([t],0) ⟨rfl,by simp [sts]⟩ (rights.length + ([t]).length + 1) (by omega)
 rw [h1,qb]
 cases f with
 | go _=>exact h2.elim
 | ret _=>exact h3.elim
 | ex _ q=>dsimp only at h3 ⊢; rw [h3]
theorem D0 {t:aq} {rights:List ax} {r:ax} {n:Nat} (hF:Il t rights n) (hn:n ≤ 2) (hr:RtS r):jK t rights r = dC t rights r:=by
 have h8:=hF.built; have h6:=hF.base; have hl:=hF.len
 have hrs : ∀ q ∈ rights ++ [r],RtS q:=fun q hq=>by
  rcases List.mem_append.1 hq with h | h
  ·exact hF.rts q h
  ·rw [List.mem_singleton.1 h]; exact hr
 obtain ⟨x,hx,x1,hg⟩:=zR hF hn hr
 rw [hg]
 unfold jK iz
 rw [qb]
 show (if (!(liv r)) = true then _ else _) = _
 cases h1:liv r with
 | false=>rfl
 | true =>
  rw [if_neg (by simp),if_neg (show ¬ (true = false) by simp)]
  obtain ⟨f,g1,g2,g3⟩:=aG (body:=ir rights r) (fun i s=>s = ((i:Nat):Int)∧(rights.take i).any (fun q=>q.Id == r.Id) = false) rights.length
   (fun f => (rights.any (fun q => q.Id == r.Id) = false ∧ ∃ n, f = .ex 0 n) ∨ (rights.any (fun q => q.Id == r.Id) = true ∧ f = .ret 5)) (fun i s hi ⟨hs', hI⟩ => by
    subst hs'
    unfold ir
    rw [if_pos (by simpa using hi),ae hi,qb]
    cases hc:(rights[i].Id == r.Id) with
    | true=>rw [if_pos rfl]; exact .inr ⟨_,rfl,trivial,.inr ⟨List.any_eq_true.2 ⟨_,List.getElem_mem hi,hc⟩,rfl⟩⟩
    | false =>
     rw [if_neg (by simp),ag (by omega)]
     refine .inl ⟨_,rfl,rfl,?_⟩
     rw [List.take_succ_eq_append_getElem hi,List.any_append,hI]
     simp only [List.any_cons, List.any_nil, hc]; rfl) (fun s ⟨hs', hI⟩ => by
    subst hs'
    unfold ir
    rw [if_neg (by simp)]
    rw [List.take_length] at hI
    exact ⟨_,rfl,trivial,.inl ⟨hI,_,rfl⟩⟩) 0 ⟨rfl,by simp⟩ (rights.length + 1) (by omega)
  rw [g1,qb]
  rcases g3 with ⟨h2,n,rfl⟩ | ⟨h2,rfl⟩
  ·dsimp only
   rw [h2,if_neg (show ¬ (false = true) by simp),cZ (by omega),qb,aF (by simp; omega),qb,A7 hF.town (by simp; omega) hrs (by omega) (by omega),hx,qb]
   cases h3:x.2 with
   | true=>rfl
   | false=>rfl
  ·rw [h2]; rfl
theorem tI (t:aq) (rights:List ax) (r:ax) (lot:Int) (ph:Phase):dI t rights r lot ph = some true:=by
 unfold dI
 rw [yW,qb]
 obtain ⟨b,hb,hbF⟩:=Ew (t:=t) (rights:=rights) (n:=2) (by omega)
 rw [show oG t rights 2 = some b from hb,qb]
 obtain ⟨c,hc,hcR⟩:=vB (r:=r)
 cases b with
 | false=>rfl
 | true =>
  rw [if_neg (by simp),hc,qb]
  cases c with
  | false=>rfl
  | true =>
   have hF:=hbF rfl
   have hr:=hcR rfl
   have h8:=hF.built; have h6:=hF.base; have hl:=hF.len
   by_cases hp:PhS ph
   ·have hp1 := hp.1; have hp2 := hp.2
    have hph:db ph = some true:=by unfold db; congr 1; simp; omega
    first | show ((if (!true) = true then some true else (db ph).bind fun x=>some (!x)).bind _) = _ | (rw [qb]; show ((if (!true) = true then some true else (db ph).bind fun x=>some (!x)).bind _) = _)
    rw [if_neg (by simp),hph,qb,qb,if_neg (by simp)]
    have hll:=mN (rights:=rights) (t:=t) hF.rts
    have hal:=xo (t:=t) (lot:=lot) hp
    rw [uy (by omega) (by omega),qb,r8 (by omega) (by omega),qb,qL (by omega) (by omega),qb,if_neg (by simp),ze (by omega) hF.rts (by omega) (by omega),qb,A2 (by omega) hF.rts (by omega) (by omega),qb,qL (by omega) (by omega),qb,qb,if_neg (by simp)]
    obtain ⟨x,hx,_⟩:=zV hF.town (by omega) (by omega)
    obtain ⟨y,hy,_⟩:=rA (rights:=rights) hF.town (by omega) hF.rts (by omega) (by omega)
    rw [hx,qb,D3 hF.town (by omega) (by omega),hx,qb,hy,qb,A7 hF.town (by omega) hF.rts (by omega) (by omega),hy,qb,xy (by omega) hF.rts (by omega) (by omega),qb,By (by omega) hF.rts (by omega) (by omega),qb,if_neg (by simp)]
    have hcnt:=vC (t:=t) hF.rts (by omega)
    rcases eJ (body:=ff (sts rights t,0) (sts rights t,0)) (id:=0) (sts rights t).length (fun _=>True) (by omega) (fun i hi _=>by
     have hm:=Bl hF.rts (List.getElem_mem hi)
     unfold ff
     dsimp only
     rw [if_pos (by simpa using hi),ae hi,qb,qb,qL (by omega) (by omega),qb,if_neg (by simp)]
     exact .inl ⟨trivial,rfl⟩) (by unfold ff; rw [if_neg (by simp)]) (fuel:=rights.length + (sts rights t).length + (sts rights t).length + 1) (by omega) with ⟨_,a2⟩ | ⟨⟨_,_,hn⟩,_⟩
    ·obtain ⟨z, hz, _, hg⟩ := zR hF (by omega) hr
     dsimp only
     rw [a2,qb]
     dsimp only
     rw [if_pos rfl,D0 hF (by omega) hr,hg,qb,qb,qb,beq_self_eq_true]
    ·exact absurd trivial hn
   ·have hph : db ph = some false := by
     unfold db
     congr 1
     unfold PhS at hp
     rw [Bool.and_eq_false_iff,decide_eq_false_iff_not,decide_eq_false_iff_not]
     omega
    first | show ((if (!true) = true then some true else (db ph).bind fun x=>some (!x)).bind _) = _ | (rw [qb]; show ((if (!true) = true then some true else (db ph).bind fun x=>some (!x)).bind _) = _)
    rw [if_neg (by simp),hph]
    rfl
end Go.Proofs.YtegglcdhfnjhcaaGreat

