/- part 6 of the proof -/
import Derived.Test.YtlckpjpbladknaaGreatL5
set_option linter.unusedVariables false
set_option linter.unusedSimpArgs false
set_option linter.unusedSectionVars false
noncomputable section
namespace Go.Proofs.YtlckpjpbladknaaGreat.Pl
open Go.Gb
def fA(lot:Int)(l:List Phase)(t:aP):aP:=l.foldl (λu ph=>after u lot ph) t
theorem P4(lot:Int)(l:List Phase)(ph:Phase)(t:aP):fA lot (l++[ph]) t=after (fA lot l t) lot ph:=by simp[fA]
theorem JZ(lot:Int):∀(l:List Phase)(t:aP),(fA lot l t).az=t.az/\(fA lot l t).Windows=t.Windows|[],t=>⟨rfl,rfl⟩|ph::l,t=>JZ lot l _
theorem BK:∀(rights:List ai)(t:aP),(ra rights t).az=t.az/\(ra rights t).Windows=t.Windows|[],t=>⟨rfl,rfl⟩|r::rights,t=>by have h1:=JZ r.ax.Lot (lft r) t;have ih:=BK rights (zy r t);exact⟨ih.1.trans h1.1,ih.2.trans h1.2⟩
theorem uA.of{t u:aP}(h:uA t)(hp:u.az=t.az)(hw:u.Windows=t.Windows):uA u:=by have⟨a,b,c,d,e,f,g⟩:=h;exact⟨hp▸a,by rw[hp];exact b,by rw[hp];exact c,by rw[hp];exact d,by rw[hp];exact e,by rw[hp];exact f,by rw[hw];exact g⟩
theorem Oi{r:ai}{t:aP}(h:RtS r)(hb:t.Built.length<=900)(hs:t.Base.length<=900):∃n,ar (jh r (lft r)) ((lft r).length+1) (0,t)=some (.ex 2 (n,zy r t)):=by have h4:=sA h;have⟨f,h1,h2,h3⟩:=cH (body:=jh r (lft r)) (λi s=>s.1=i/\s.2=fA r.ax.Lot ((lft r).take i) t) (lft r).length (λf=>∃n,f= .ex 2 (n,zy r t)) (λi s hi⟨hs',hI⟩=>by
 have hq:=h.2 _ (qv (aN hi));have hl:=yw (lot:=r.ax.Lot) (l:=(lft r).take i) (t:=t) λph hp=>h.2 ph (qv (pH hp));have hlt:((lft r).take i).length<=4:=by simp;omega
 have hq1:=hq.1;have hq2:=hq.2;unfold jh;rw[hs',if_pos (by simpa using hi),af hi,qb,hI,OB (by unfold fA;omega) (by unfold fA;omega),an (by omega)];refine .inl ⟨_,rfl,rfl,?_⟩;rw[dB hi,P4]) (λs⟨hs',hI⟩=>by have⟨s1,s2⟩:=s;unfold jh;rw[if_neg (by rw[hs'];simp)];rw[cQ]at hI;exact⟨_,rfl,trivial,s1,by rw[hI];rfl⟩) (0,t) ⟨rfl,rfl⟩ ((lft r).length+1) (by omega);obtain⟨n,rfl⟩:=h3;exact⟨n,h1⟩
theorem PZ{t:aP}{rights:List ai}(hr:rights.length<=20)(h:∀r∈rights,RtS r)(hb:t.Built.length<=100)(hs:t.Base.length<=100):qy t rights=some (ra rights t):=by unfold qy di bW;rw[eJ (by omega),qb,qb,eJ (by omega),qb,qb];obtain⟨f,h1,h2,h3⟩:=cH (body:=mc rights) (λi s=>s.1=((i:Nat):Int)/\s.2=ra (rights.take i) t) rights.length (λf=>match f with| .ex _ s=>s.2=ra rights t|_=>False) (λi s hi ⟨hs',hI⟩=>by
 have hq:=h _ (aN hi);have hl:=yR (rights:=rights.take i) (t:=t) λr hr=>h r (pH hr);have hlt:(rights.take i).length<=20:=by simp;omega
 unfold mc;obtain⟨n,hn⟩:=Oi (t:=s.2) hq (by rw[hI];omega) (by rw[hI];omega);rw[hs',if_pos (by simpa using hi),af hi,qb,EA hq,qb,hn,qb];dsimp only;rw[an (by omega)];refine .inl ⟨_,rfl,rfl,?_⟩;rw[dB hi,hI];unfold ra;rw[vm];rfl) (λs ⟨hs',hI⟩=>by unfold mc;rw[hs',if_neg (by simp)];rw[cQ]at hI;exact⟨_,rfl,trivial,hI⟩) (0,t) ⟨rfl,rfl⟩ (rights.length+1) (by omega);rw[h1,qb];cases f with|go _=>exact h2.elim;|ret _=>exact h3.elim;|ex _ s=>dsimp only at h3⊢;rw[h3]
theorem Bn{p:az}{c:Cap}{r:ai}(hp:nS p)(hc:c.Corners.length<=12)(h:RtS r):0<=top p c r/\top p c r<=43980465111040:=by
 have h4:=sA h;obtain⟨k,hk,he⟩:=Ub _;have hb:=IU (l:=((lft r).map (phL p c)).take k) (λx hx=>by obtain⟨ph,hph,rfl⟩:=aM.1 (pH hx);exact NO hp hc (h.2 ph (qv hph))) (by omega);have hlt:(((lft r).map (phL p c)).take k).length<=4:=by simp;omega
 unfold top;constructor;.exact(UM _ 0 (by omega))
 .rw[he];omega
def eT(p:az)(c:Cap)(rights:List ai):Int:=(rights.map (top p c)).sum
theorem Af{p:az}{c:Cap}(hp:nS p)(hc:c.Corners.length<=12):∀{rights:List ai},(∀r∈rights,RtS r)->0<=eT p c rights/\eT p c rights<=43980465111040*(rights.length:Int)
 |[],_=>by simp[eT];|r::l,h=>by
  have ih:=Af hp hc λq hq=>h q (bR _ hq);have hr:=Bn hp hc (h r dw);have e:eT p c (r::l)=top p c r+eT p c l:=by simp[eT]
  rw[eU];omega
theorem Ow{t:aP}{c:Cap}(hp:nS t.az)(hc:c.Corners.length<=12)(hb:t.Built.length<=1000)(hs:t.Base.length<=1000):-1099511627776000<=loadT t c/\loadT t c<=2199023255552000:=by have h1:=yj c t.Base;have h2:=BI hp hc (t.Built.map (·.aF));have h3:(t.Built.map (·.aF)).length=t.Built.length:=jv ..;unfold loadT;constructor<;>omega
theorem Ds(p:az)(c:Cap)(l:List ai)(r:ai):eT p c (l++[r])=eT p c l+top p c r:=by simp[eT]
def Us(t:aP)(rights:List ai):Prop:=(∀c∈t.az.Caps,loadT t c+eT t.az c rights<=c.cU)/\M4 (ra rights t)
theorem PC{t:aP}{rights:List ai}(h:uA t)(hr:rights.length<=20)(hrs:∀r∈rights,RtS r)(hb:t.Built.length<=100)(hs:t.Base.length<=100):∃x,lD t rights=some x/\(x.2=true↔Us t rights)/\(x.2=true->x.1.Kind=0)/\(x.2=false->x.1.Kind≠0)/\(¬(∀c∈t.az.Caps,loadT t c+eT t.az c rights<=c.cU)->∃c∈t.az.Caps,x=(⟨1,c.Name,0⟩,false))/\((∀c∈t.az.Caps,loadT t c+eT t.az c rights<=c.cU)->¬(∀w∈t.Windows,t.az.Hours<=(DY (ra rights t) w:Int))->∃i:Nat,i<t.Windows.length/\x=(⟨2,⟨#[]⟩,(i:Int)⟩,false)):=by
 have hcl:=h.vX;unfold lD;obtain⟨f,h1,h2,h3⟩:=cH (body:=lY t rights) (λi s=>s.1=((i:Nat):Int)/\∀m (hm:m<t.az.Caps.length),m<i->loadT t t.az.Caps[m]+eT t.az t.az.Caps[m] rights<=t.az.Caps[m].cU) t.az.Caps.length (λf=>match f with| .ex _ _=>∀c∈t.az.Caps,loadT t c+eT t.az c rights<=c.cU| .ret r=>∃c∈t.az.Caps,r=(⟨1,c.Name,0⟩,false)/\¬loadT t c+eT t.az c rights<=c.cU| .go _=>False) (λi s hi ⟨hs',hI⟩=>by
 have hc:=h.cap _ (aN hi);unfold lY;rw[hs',if_pos (by simpa using hi),af hi,qb,EJ h.plan hc (by omega) (by omega) (by omega) hrs,qb];have hlb:=Ow (c:=t.az.Caps[i]) h.plan hc (by omega) (by omega);obtain⟨f1,a1,a2,a3⟩:=cH (body:=lQ ⟨t.az.Caps[i].Name,loadT t t.az.Caps[i],rights.map (top t.az t.az.Caps[i])⟩) (λj s=>s.2=((j:Nat):Int)/\s.1=loadT t t.az.Caps[i]+eT t.az t.az.Caps[i] (rights.take j)) rights.length (λf=>match f with| .ex _ s=>s.1=loadT t t.az.Caps[i]+eT t.az t.az.Caps[i] rights|_=>False) (λj s hj ⟨hs',hJ⟩=>by
 have hq:=hrs _ (aN hj);have ht:=Bn h.plan hc hq;have hts:=Af h.plan hc (rights:=rights.take j) λr hr=>hrs r (pH hr);have hlt:(rights.take j).length<=20:=by simp;omega
 unfold lQ;dsimp only;rw[hs',if_pos (by simpa using hj),af (by simpa using hj),qb,vy,hJ,cW (by constructor<;>omega),qb,an (by omega)];refine .inl ⟨_,rfl,rfl,?_⟩;rw[dB hj,Ds];dsimp only;omega) (λs ⟨hs',hJ⟩=>by unfold lQ;dsimp only;rw[hs',if_neg (by simp)];rw[cQ]at hJ;exact⟨_,rfl,trivial,hJ⟩) (loadT t t.az.Caps[i],0) ⟨rfl,by simp[eT]⟩ ((rights.map (top t.az t.az.Caps[i])).length+1) (by simp);rw[a1,qb];cases f1 with|go _=>exact a2.elim;|ret _=>exact a3.elim;|ex _ s1=>
 have a3:s1.1=loadT t t.az.Caps[i]+eT t.az t.az.Caps[i] rights:=a3;dsimp only;rw[a3];by_cases hl:t.az.Caps[i].cU<loadT t t.az.Caps[i]+eT t.az t.az.Caps[i] rights;·rw[if_pos (by simpa using hl)];exact .inr ⟨_,rfl,trivial,_,aN hi,rfl,by omega⟩
 · rw[if_neg (by simpa using hl),an (by omega)];refine .inl ⟨_,rfl,rfl,λm hm hmi=>?_⟩;by_cases e:m=i;.subst e;omega
   .exact hI m hm (by omega)) (λs ⟨hs',hI⟩=>by unfold lY;rw[hs',if_neg (by simp)];refine⟨_,rfl,trivial,λc hc=>?_⟩;obtain⟨m,hm,rfl⟩:=br hc;exact hI m hm hm) ((0,(⟨0,(⟨#[]⟩:ByteArray),0⟩:cU)):Int×cU) ⟨rfl,λm _ h=>by omega⟩ (t.az.Caps.length+1) (by omega);rw[h1,qb];cases f with|go _=>exact h2.elim;|ret r=>obtain⟨c,hc,rfl,hn⟩:=h3;exact⟨_,rfl,⟨λh=>by simp at h,λh=>absurd (h.1 c hc) hn⟩,λh=>by simp at h,λ _=>by simp,λ _=>⟨c,hc,rfl⟩,λh=>absurd (h c hc) hn⟩;|ex _ _=>
 have h3:∀c∈t.az.Caps,loadT t c+eT t.az c rights<=c.cU:=h3;dsimp only;have hl:=yR (rights:=rights) (t:=t) hrs;have hpl:=BK rights t;obtain⟨x,hx,k1,k2,k3,k4⟩:=N7 (t:=ra rights t) (h.of hpl.1 hpl.2) (by omega);rw[PZ hr hrs hb hs,qb,hx,qb];refine⟨_,rfl,⟨λh=>⟨h3,k1.1 h⟩,λh=>k1.2 h.2⟩,k2,λh=>?_,λh=>absurd h3 h,λ _ h=>?_⟩;.have:=k3 h;show x.1.Kind≠0;omega
 ·rw[hpl.1,hpl.2]at k4;exact k4 h
set_option maxRecDepth 100000
theorem KA(a b:ay):Tot (sN a b):=by
 unfold sN;rw[ft,qb];by_cases h:VR a
 · rw[if_neg (by simpa using h),ft,qb,qb];by_cases e:VR b;.rw[if_neg (by simpa using e)];unfold VR at h e;unfold yb;rw[db (by unfold inI;omega),db (by unfold inI;omega)];exact⟨_,rfl⟩
   .rw[if_pos (by simpa using e)];exact⟨_,rfl⟩
 .rw[if_pos (by simpa using h)];exact⟨_,rfl⟩
theorem zl{i:Int}{part:List ay}{x:ay}(h:0<=i)(hi:i<part.length)(f:part.length<10000):∃b,yF i part x=some (if b=true then part++[x]else part,b):=by unfold yF;obtain⟨b,e⟩:=KA _ x;rw[vq h hi,qb,e];cases b with|false=>exact⟨false,rfl⟩;|true=>refine⟨true,?_⟩;rw[bS (by simp;omega)];rfl
theorem KE{i:Int}{xs part:List ay}(g:0<=i)(hi:i<part.length)(q:part.length+xs.length<10000):∃p j,MO i xs part=some (p,j)/\((j=-1/\p=part)∨∃h:j.toNat<xs.length,0<=j/\p=part++[xs[j.toNat]]):=by unfold MO;obtain⟨f,u,w,P⟩:=cH (body:=ML i xs) (λn s=>s=(part,(n:Int))) xs.length (λf=>match f with| .ex _ s=>s.1=part| .ret r=>∃h:r.2.toNat<xs.length,0<=r.2/\r.1=part++[xs[r.2.toNat]]| .go _=>False) (by rintro n s e rfl;obtain⟨b,m⟩:=zl (x:=xs[n]) g hi (by omega);unfold ML;rw[if_pos (by simpa using e),af e,qb,m];cases b with|true=>exact .inr ⟨_,rfl,trivial,by simp[e]⟩;|false=>rw[an (by omega)];exact .inl ⟨_,rfl,rfl⟩) (by rintro s rfl;unfold ML;rw[if_neg (by simp)];exact⟨_,rfl,trivial,rfl⟩) _ rfl (xs.length+1) (by omega);grind
theorem LB{i:Int}{xs part:List ay}{P:ay->Prop}(z:0<=i)(hi:i<part.length)(G:part.length+xs.length<10000)(E:∀y∈part,P y)(Q:∀y∈xs,P y):∃p l,OL i xs part=some (p,l)/\p.length+l.length=part.length+xs.length/\part.length<=p.length/\(∀y∈p,P y)/\∀y∈l,P y:=by
 unfold OL;obtain⟨p,j,h1,⟨rfl,rfl⟩|⟨H,I,rfl⟩⟩:=KE (xs:=xs) z hi G;·rw[h1,qb];exact⟨_,_,rfl,rfl,aA _,E,Q⟩
 obtain⟨n,rfl⟩:∃n:Nat,j=n:=⟨j.toNat,by omega⟩;simp only[nI]at H h1;rw[h1,qb,if_neg (by simp),an (by omega),qb];obtain⟨f,J,M,R⟩:=cH (body:=OH i) (λk s=>s.2.2.2=((n+1+k:Nat):Int)/\s.2.1.length=xs.length/\0<=s.2.2.1/\(s.1.length:Int)+s.2.2.1=part.length+s.2.2.2/\s.2.2.1<s.2.2.2/\part.length<s.1.length/\(∀y∈s.1,P y)/\∀y∈s.2.1,P y) (xs.length-(n+1)) (λf=>match f with| .ex _ s=>s.2.1.length=xs.length/\0<=s.2.2.1/\(s.1.length:Int)+s.2.2.1=part.length+xs.length/\s.2.2.1<xs.length/\part.length<s.1.length/\(∀y∈s.1,P y)/\∀y∈s.2.1,P y|_=>False) (by
 rintro k⟨p,u,w,m⟩hk⟨rfl,g1,g2,g3,g4,g5,g6,g7⟩;dsimp only at*;have F:n+1+k<u.length:=by omega
 obtain⟨b,O⟩:=zl (i:=i) (part:=p) (x:=u[n+1+k]) z (by omega) (by omega);unfold OH;refine .inl ?_;dsimp only;rw[if_pos (by simp;omega),af F,qb,O,qb];have q:P u[n+1+k]:=g7 _ (aN F);cases b with
 |true=>
 rw[if_neg (by simp),qb,an (by omega)];refine⟨_,rfl,by simp;omega,g1,g2,?_,?_,?_,?_,g7⟩;.simp;omega
 .dsimp only;omega
 .simp;omega
 · simp only[if_pos];intro y g;simp at g;rcases g with h|rfl;.exact g6 y h
   .exact q|false=>
 rw[if_pos (by simp),vq g2 (by omega),qb,cW (by unfold inI;omega),qb,qb,an (by omega)];refine⟨_,rfl,by simp;omega,by simp[g1],by dsimp only;omega,?_,?_,?_,?_,?_⟩;.simp;omega
 .dsimp only;omega
 .simpa using g5
 .simpa using g6
 · intro y g;rcases List.mem_or_eq_of_mem_set g with h|rfl;.exact g7 y h
   .exact q) (by rintro⟨p,u,w,m⟩⟨rfl,g1,g2,g3,g4,g5,g6,g7⟩;dsimp only at*;unfold OH;rw[if_neg (by simp;omega)];exact⟨_,rfl,trivial,g1,g2,by dsimp only;omega,by dsimp only;omega,g5,g6,g7⟩) (part++[xs[n]],xs,(n:Int),((n+1:Nat):Int)) ⟨rfl,rfl,by dsimp only;omega,by simp;omega,by dsimp only;omega,by simp,by
 intro y q;simp at q;rcases q with h|rfl;.exact E y h
 .exact Q _ (aN _),Q⟩ (xs.length+1) (by omega);rw[J,qb];cases f with|go _=>exact M.elim;|ret _=>exact R.elim;|ex _ s=>obtain⟨g1,g2,g3,g4,g5,g6,g7⟩:=R;dsimp only;rw[if_pos (by omega),nY (gf 0) g2 (by omega),qb];refine⟨_,_,rfl,?_,by omega,g6,λy q=>g7 y (pH (sx q))⟩;simp;omega
theorem GZ{P:ay->Prop}{l part:List ay}{m:Nat}(z:part.length+l.length<=m)(e:m<10000)(g:∀y∈part,P y)(Q:∀y∈l,P y):∃q,ar AF (m+1) (l,part,0)=some (.ex 2 q)/\q.1.length+q.2.1.length=part.length+l.length/\part.length<=q.2.1.length/\(∀y∈q.2.1,P y)/\∀y∈q.1,P y:=by
 obtain⟨f,j,E,R⟩:=xZ (body:=AF) (λs=>0<=s.2.2/\s.2.2<=s.2.1.length/\s.1.length+s.2.1.length=part.length+l.length/\part.length<=s.2.1.length/\(∀y∈s.2.1,P y)/\∀y∈s.1,P y) (λs=>m-s.2.2.toNat) (λf=>∃q,f= .ex 2 q/\q.1.length+q.2.1.length=part.length+l.length/\part.length<=q.2.1.length/\(∀y∈q.2.1,P y)/\∀y∈q.1,P y) (by
 rintro⟨F,p,i⟩⟨g1,g2,g3,g4,g5,g6⟩;dsimp only at*;unfold AF;by_cases hi:i<p.length;·obtain⟨G,u,h1,H,I,w,x⟩:=LB g1 hi (by omega) g5 g6;rw[if_pos (by simpa using hi),h1,cW (by unfold inI;dsimp;omega)];exact .inl ⟨_,rfl,⟨by dsimp;omega,by dsimp;omega,by dsimp;omega,by dsimp;omega,w,x⟩,by dsimp;omega⟩
 ·rw[if_neg (by simpa using hi)];exact .inr ⟨_,rfl,trivial,_,rfl,g3,g4,g5,g6⟩) (l,part,0) ⟨gf 0,by dsimp;omega,by dsimp;omega,aA _,g,Q⟩ (m+1) (by omega);obtain⟨q,rfl,h⟩:=R;exact⟨q,j,h⟩
theorem Lj{a:List ay}(Q:a.length<=300):Tot (jO a):=by unfold jO;obtain⟨b,g,R⟩:=eX (a:=a) (by omega);rw[g,qb];cases b with|false=>exact⟨_,rfl⟩;|true=>have j:=(R.1 rfl).1;rw[if_neg (by simp),if_pos (by omega)];obtain⟨f,u,T,P⟩:=xZ (body:=sQ) (λs=>s.1.length<=a.length/\s.2.length+s.1.length<=a.length/\∀y∈s.1,VR y) (λs=>s.1.length) (λf=>∃s,f= .ex 0 s) (by rintro⟨l,out⟩⟨g1,g2,g3⟩;unfold sQ;cases l with|nil=>rw[if_neg (by simp)];exact .inr ⟨_,rfl,trivial,_,rfl⟩;|cons x l=>simp only[eU]at g1 g2;obtain⟨q,h1,E,F,G,H⟩:=GZ (l:=l) (part:=[x]) (m:=l.length+1) (by simp;omega) (by omega) (by simp;exact g3 x (by simp)) (λy I=>g3 y (by simp[I]));simp only[eU,iC]at E F;obtain⟨st,J,e⟩:=oc (ls:=[q.2.1]) (by simpa using G) (by simp;omega) (by simp);have h:=e.len;simp only[rT,List.flatten_nil,mn]at h e;obtain⟨w,M,_⟩:=Bi e.gapless (by omega) (λs O=>by have:=(e.col s O).len;omega);rw[if_pos (by simp<;>omega),show aL (x::l) 0=some x from rfl,qb,nY (by omega) (by simp;omega) (by simp),qb];simp only[eU,nI,cQ];rw[show List.take _ (x::l)=x::l by simp,show List.drop _ (x::l)=l from rfl,h1,qb];dsimp only;rw[J,qb,M,qb,bS (by simp;omega)];exact .inl ⟨_,rfl,⟨by dsimp only;omega,by simp;omega,H⟩,by dsimp only[List.length_cons];omega⟩) (a,[]) ⟨aA _,by simp,j⟩ (a.length+1) (by dsimp only;omega);obtain⟨s,rfl⟩:=P;rw[u];exact⟨_,rfl⟩
theorem L5{a b:List ay}(h:a.length<=1000000)(e:b.length<=1000000):Tot (ur a b):=Tot.bind (ri h λx=>Tot.bind (ri e λy=>Tot.pure _) λ_ _=>Tot.pure _) λ_ _=>Tot.pure _
theorem QA{l:List Int}(e:l.length<=1000000):Tot (mQ l):=by
 refine mM (λi t=>t=((i+1:Nat):Int)) (l.length-1) Tot (λi t hi h=>?_) (λt h=>?_) rfl (by omega)
 · subst h;unfold ka;rw[if_pos (by simp;omega),pF (by omega) (by omega),qb,af (by omega),qb,af (by omega),qb];split;.exact .inr ⟨_,rfl,trivial,_,rfl⟩
   .rw[an (by omega)];exact .inl ⟨_,rfl,rfl⟩
 .unfold ka;rw[if_neg (by simp;omega)];exact⟨_,rfl,trivial,_,rfl⟩
def zT(t:Lot):Prop:=t.Area.length<=300/\t.From.length<=300
theorem LU{t:Lot}(h:zT t):Tot (sI t):=by refine Tot.bind (Tot.pure _) λ _ _=>Tot.bind (Tot.ite (λ _=>Tot.pure _) λ _=>Tot.pure _) λ _ _=>Tot.bind (Tot.ite (λ _=>Tot.bind (QA (by have:=h.2;omega)) λ _ _=>Tot.pure _) λ _=>Tot.pure _) λ _ _=>Tot.bind (Tot.ite (λ _=>Tot.bind ?_ λ _ _=>Tot.pure _) λ _=>Tot.pure _) λ _ _=>Tot.bind (Tot.ite (λ _=>Tot.bind (Lj h.1) λ _ _=>Tot.pure _) λ _=>Tot.pure _) λ _ _=>Tot.pure _;exact ri (by have:=h.2;omega) λx=>Tot.bind (Tot.pure _) λ _ _=>Tot.pure _
theorem FM{l:List Int}{acc:List (Int×Bool)}(hl:l.length<=1000000):∃s,ar (A6 l) (l.length+1) (acc,0)=some (.ex 2 s):=by obtain⟨f,h,_,h2⟩:=cH (body:=A6 l) (λi s=>s.2=((i:Nat):Int)) l.length (λf=>∃s,f= .ex 2 s) (λi s hi hs=>by unfold A6;rw[hs,if_pos (by simpa using hi),af hi,qb,an (by omega)];exact .inl ⟨_,rfl,rfl⟩) (λs hs=>by unfold A6;rw[hs,if_neg (by simp)];exact⟨_,rfl,trivial,_,rfl⟩) (acc,0) rfl (l.length+1) (by omega);obtain⟨s,rfl⟩:=h2;exact⟨s,h⟩
theorem Er{e:List Lot}{i:Nat}(m:e.length<=100)(hi:i<e.length)(h:∀t∈e,zT t):∃f,ar (kN e (i:Int)) ((i:Int).toNat+1) 0=some f/\f.ends:=lV (λs=>s) (λ_=>True) i (λs k g hk _=>by subst g;unfold kN;obtain⟨b,j⟩:=L5 (a:=e[i].Area) (b:=(e[k]'(by omega)).Area) (by have:=(h _ (aN hi)).1;omega) (by have:=(h _ (aN (show k<e.length by omega))).1;omega);rw[if_pos (by simpa using hk),af hi,qb,af (by omega),qb,j];cases b with|true=>exact .inr ⟨_,rfl,trivial⟩;|false=>rw[an (by omega)];exact .inl ⟨_,rfl,rfl,trivial⟩) (λs g _=>by subst g;unfold kN;rw[if_neg (by simp)];exact⟨_,rfl,trivial⟩) 0 rfl trivial (by simp)
theorem OF{land:List Lot}(hl:land.length<=100)(h:∀t∈land,zT t):Tot (jS land):=by
 unfold jS;refine Tot.ite (λ _=>Tot.pure _) λ _=>?_;refine mM (λi (s:List (Int×Bool)×List (Int×Bool)×Int)=>s.2.2=((i:Nat):Int)) land.length Tot (λi s hi hs=>?_) (λs hs=>?_) rfl (by omega)
 · unfold oJ;obtain⟨b,hb⟩:=LU (h _ (aN hi));obtain⟨u,hu⟩:=FM (l:=land[i].From) (acc:=s.2.1) (by have:=(h _ (aN hi)).2;omega);have hx:∃c,(if(!b)=true then some true else(if decide (0<s.2.2)=true then(fi s.2.2 1).bind λy=>(aL land y).bind λz=>some (decide (land[i].Id<=z.Id))else some false).bind λx=>some x)=some c:=by refine Tot.ite (λ _=>Tot.pure _) λ _=>Tot.bind (Tot.ite (λh0=>?_) λ _=>Tot.pure _) λ _ _=>Tot.pure _;rw[hs]at h0⊢;rw[pF (by simpa using h0) (by omega),qb,af (by omega)];exact⟨_,rfl⟩
   obtain⟨c,hc⟩:=hx;rw[if_pos (by rw[hs];simpa using hi),hs,af hi,qb,hb,qb,<-hs,hc,qb,hu];cases c with|true=>exact .inr ⟨_,rfl,trivial,_,rfl⟩;|false=>rw[if_neg (by simp),qb];dsimp only;rw[hs,an (by omega)];exact .inl ⟨_,rfl,rfl⟩
 · unfold oJ;rw[if_neg (by rw[hs];simp)];refine⟨_,rfl,trivial,?_⟩;dsimp only;unfold Jf E4;refine Tot.ite (λ _=>Tot.pure _) λ _=>?_;refine mM (λi s=>s=((i:Nat):Int)) land.length Tot (λi s hi hs=>?_) (λs hs=>?_) rfl (by omega);·subst hs;unfold oK;obtain⟨f,h1,h2⟩:=Er hl hi h;rw[if_pos (by simpa using hi),h1,qb];cases f with|go _=>exact h2.elim;|ex _ _=>dsimp only;rw[an (by omega)];exact .inl ⟨_,rfl,rfl⟩;|ret r=>exact .inr ⟨_,rfl,trivial,_,rfl⟩
   ·subst hs;unfold oK;rw[if_neg (by simp)];exact⟨_,rfl,trivial,_,rfl⟩
theorem KZ{t:Lot}(h:zT t):oT t=some t:=by have h1:=h.1;have e:=h.2;unfold oT iO dZ;rw[eJ (by omega),eJ (by omega)];rfl
theorem find_spec{f:List Lot}{id:Int}(w:f.length<=1000)(h:∀t∈f,zT t):∃q,qF f id=some q/\zT q.1/\(q.2=true↔∃t∈f,t.Id=id):=by
 refine mM (λi (s:Int×Lot)=>s.1=i/\∀m(g:m<f.length),m<i->f[m].Id≠id) f.length (λo=>∃q:Lot×Bool,o=some q/\zT q.1/\(q.2=true↔∃t∈f,t.Id=id)) (λi s hi⟨j,I⟩=>?_) (λs ⟨j,I⟩=>?_) ⟨rfl,λm _ h=>by omega⟩ (by omega)
 · unfold pM;rw[j,if_pos (by simpa using hi),af hi,qb];by_cases e:f[i].Id=id;.rw[if_pos (by simpa using e),KZ (h _ (aN hi))];exact .inr ⟨_,rfl,trivial,_,rfl,h _ (aN hi),λ _=>⟨_,aN hi,e⟩,λ _=>rfl⟩
   .rw[an (by omega)];grind
 .unfold pM;rw[j,if_neg (by simp)];refine⟨_,rfl,trivial,_,rfl,⟨by simp,by simp⟩,λh=>by simp at h,λ⟨t,u,e⟩=>?_⟩;obtain⟨m,g,rfl⟩:=br u;exact absurd e (I m g g)
theorem Dv(r:ay):∃n,iG r=some n/\0<=n/\n<=1099511627776:=by
 by_cases h:VR r;.exact B9 h
 .unfold iG jJ;rw[ft,qb,if_neg (by simpa using h)];exact⟨0,rfl,by omega,by omega⟩
theorem KW{a:List ay}(g:a.length<=1000):Tot (nQ a):=by
 unfold nQ;obtain⟨b,e,R⟩:=eX (a:=a) (by omega);rw[e];refine Tot.ite (λ _=>Tot.pure _) λ _=>?_;refine mM (λi (s:Int×Int)=>s.2=i/\0<=s.1/\s.1<=1099511627776*i) a.length Tot (λi s hi⟨h,h1,j⟩=>?_) (λs ⟨h,_⟩=>?_) ⟨rfl,by simp,by simp⟩ (by omega);.unfold pY;obtain⟨n,f,m,q⟩:=Dv a[i];rw[h,af hi,qb,f,qb,cW (by unfold inI;omega),an (by omega)];grind
 .unfold pY;rw[h,if_neg (by simp)];exact⟨_,rfl,trivial,_,rfl⟩
theorem Ja{a b:List ay}(f:a.length<=1000)(g:b.length<=1000):∃q,nz a b=some q/\q.1.length<=200:=by
 unfold nz;by_cases h:RR a/\RR b
 · obtain⟨out,_,e⟩:=Eg (keep:=oG) (λ _ _=>rfl) rfl h.1 h.2;rw[e];refine⟨_,rfl,?_⟩;unfold lim;split;.simp
   .dsimp;omega
 .rw[GR (by omega) (by omega) h];exact⟨_,rfl,by simp⟩
theorem LK{p:az}{e:Lot}{d:ax}(H:p.Caps.length<=1000)(j:zT e)(g:SmD d):Tot (ny p e d):=by
 have h1:=j.1;have I:=g.1;unfold ny;refine Tot.bind (ON g) λ _ _=>Tot.bind (Tot.ite (λ _=>Tot.pure _) λ _=>Tot.bind ⟨_,(eX (by omega)).choose_spec.1⟩ λ _ _=>Tot.pure _) λ _ _=>Tot.ite (λ _=>Tot.pure _) λ _=>?_;obtain⟨l,m,u⟩:=Jz g;rw[m,qb];refine mM (λi s=>s=((i:Nat):Int)) l.length Tot (λi s hi h=>?_) (λs h=>?_) rfl (by omega);·subst h;unfold nc;obtain⟨q,w,x⟩:=Ja (a:=e.Area) (b:=[l[i].Box.Base]) (by omega) (by simp);obtain⟨c,y⟩:Tot (if(q.2!=0)=true then some true else(nQ q.1).bind λJ=>(iG l[i].Box.Base).bind λM=>some _):=Tot.ite (λ _=>Tot.pure _) λ _=>Tot.bind (KW (by omega)) λ _ _=>Tot.bind ⟨_,(Dv _).choose_spec.1⟩ λ _ _=>Tot.pure _;rw[if_pos (by simpa using hi),af hi,qb,w,qb,y,qb];cases c with|true=>exact .inr ⟨_,rfl,trivial,_,rfl⟩;|false=>rw[if_neg (by simp),an (by omega)];exact .inl ⟨_,rfl,rfl⟩
 · subst h;unfold nc;rw[if_neg (by simp)];refine⟨_,rfl,trivial,?_⟩;dsimp only;refine mM (λi s=>s=((i:Nat):Int)) d.Phases.length Tot (λi s hi h=>?_) (λs h=>?_) rfl (by omega)
   · subst h;unfold mR;obtain⟨f,h1,z⟩:∃f,ar (jL p d.Phases[i]) (d.Phases[i].cd.length+1) 0=some f/\f.ends:=by
      have O:=(g.2 _ (aN hi)).2;refine lV (λs=>s) (λ _=>True) d.Phases[i].cd.length (λs k h hk _=>?_) (λs h _=>?_) 0 rfl trivial (by omega);·subst h;unfold jL;obtain⟨b,E⟩:Tot (gI p.Caps (λF=>oH F d.Phases[i].cd[k])):=ri (by omega) λ _=>Tot.pure _;rw[if_pos (by simpa using hk),af hk,qb,E,qb];cases b with|true=>rw[if_neg (by simp),an (by omega)];exact .inl ⟨_,rfl,rfl,trivial⟩;|false=>exact .inr ⟨_,rfl,trivial⟩
      ·subst h;unfold jL;rw[if_neg (by simp)];exact⟨_,rfl,trivial⟩
     rw[if_pos (by simpa using hi),af hi,qb,h1,qb];cases f with|go _=>exact z.elim;|ex _ _=>dsimp only;rw[an (by omega)];exact .inl ⟨_,rfl,rfl⟩;|ret r=>exact .inr ⟨_,rfl,trivial,_,rfl⟩
   ·subst h;unfold mR;rw[if_neg (by simp)];exact⟨_,rfl,trivial,_,rfl⟩
theorem Nk{t:aP}{r:ai}(e:t.az.Caps.length<=1000)(f:t.Land.length<=100)(h:∀x∈t.Land,zT x)(g:SmD r.ax):Tot (fm t r):=by unfold fm;obtain⟨q,j,m,_⟩:=find_spec (by omega) h;rw[j,qb];exact Tot.bind (Tot.pure _) λ _ _=>Tot.bind (Tot.ite (λ _=>Tot.bind (OF f h) λ _ _=>Tot.pure _) λ _=>Tot.pure _) λ _ _=>Tot.bind (Tot.ite (λ _=>Tot.bind (LK e m g) λ _ _=>Tot.pure _) λ _=>Tot.pure _) λ _ _=>Tot.pure _
theorem Ic{j q:Type}{l:List j}{body:Int->Option (aY Int Bool)}{K:aY Int Bool->Option q}{Q:Option q->Prop}(P:j->Prop)(n id:Nat){f:Nat}(z:n<f)(step:∀i(hi:i<l.length),i<n->(P l[i]/\body (i:Int)=some (.go ((i+1:Nat):Int)))∨body (i:Int)=some (.ret false))(done:body ((min l.length n:Nat):Int)=some (.ex id ((min l.length n:Nat):Int)))(h1:(l.length<=n->∀x∈l,P x)->∀s,Q (K (.ex id s)))(w:Q (K (.ret false))):Q ((ar body f 0).bind K):=by
 refine mM (λi s=>s=(i:Int)/\∀m(u:m<l.length),m<i->P l[m]) (min l.length n) Q (λi s hi⟨g,I⟩=>?_) (λs ⟨g,I⟩=>?_) ⟨rfl,λm _ h=>by omega⟩ (by omega)
 · subst g;rcases step i (by omega) (by omega)with⟨h,e⟩|e;.grind
   .exact .inr ⟨_,e,trivial,w⟩
 .subst g;refine⟨_,done,trivial,h1 (λE x y=>?_) _⟩;obtain⟨m,u,rfl⟩:=br y;exact I m u (by omega)
theorem wm{r:ai}:∃b,oB r=some b/\(b=true->RtS r):=by
 refine Ic (l:=r.ax.Phases) (Q:=λo=>∃b,o=some b/\(b=true->RtS r)) (λp=>PhS p) 4 0 (by omega) (λi hi f=>?_) ?_ (λh s=>?_) ⟨_,rfl,λh=>by simp at h⟩
 · unfold py;rw[if_pos (by simp;omega),af hi,qb,qb];by_cases h1:r.ax.Phases[i].Volumes.length<=2
   · rw[if_neg (by simp;omega),qb];by_cases g:r.ax.Phases[i].cd.length<=2;.rw[if_neg (by simp;omega),an (by omega)];exact .inl ⟨⟨h1,by omega⟩,rfl⟩
     .rw[if_pos (by simp;omega)];exact .inr rfl
   .rw[if_pos (by simp;omega)];exact .inr rfl
 .unfold py;rw[if_neg (by simp;omega)]
 .refine⟨_,rfl,λe=>?_⟩;simp at e;exact⟨by omega,h (by omega)⟩
structure Few(t:aP)(rights:List ai):Prop where
 town:uA t
 land:t.Land.length<=5lots:∀x∈t.Land,zT x
 vX:t.az.Caps.length<=2built:t.Built.length<=4base:t.Base.length<=4len:rights.length<=3rts:∀r∈rights,RtS r
theorem Ua{t:aP}{rights:List ai}:∃b,rE t rights=some b/\(b=true->Few t rights):=by
 unfold rE;have f:∃b,some false=some b/\(b=true->Few t rights):=⟨_,rfl,λh=>by simp at h⟩;refine Ic (l:=t.Land) (Q:=λo=>∃b,o=some b/\(b=true->Few t rights)) (λx=>zT x) 6 0 (by omega) (λi hi g=>?_) (by unfold ti;rw[if_neg (by simp;omega)]) (λa s=>?_) f
 · unfold ti;rw[if_pos (by simp;omega),af hi,qb,qb];by_cases h1:t.Land[i].Area.length<=4
   · rw[if_neg (by simp;omega),qb];by_cases u:t.Land[i].From.length<=6;.rw[if_neg (by simp;omega),an (by omega)];exact .inl ⟨⟨by omega,by omega⟩,rfl⟩
     .rw[if_pos (by simp;omega)];exact .inr rfl
   .rw[if_pos (by simp;omega)];exact .inr rfl
 dsimp only;refine Ic (l:=t.az.Caps) (Q:=λo=>∃b,o=some b/\(b=true->Few t rights)) (λx=>x.Corners.length<=12) 3 2 (by omega) (λi hi g=>?_) (by unfold td;rw[if_neg (by simp;omega)]) (λb s=>?_) f
 · unfold td;rw[if_pos (by simp;omega),af hi,qb];by_cases h1:t.az.Caps[i].Corners.length<=12;.rw[if_neg (by simp;omega),an (by omega)];exact .inl ⟨h1,rfl⟩
   .rw[if_pos (by simp;omega)];exact .inr rfl
 dsimp only;refine Ic (l:=t.az.Views) (Q:=λo=>∃b,o=some b/\(b=true->Few t rights)) (λx=>x.Targets.length<=3) 3 4 (by omega) (λi hi g=>?_) (by unfold sK;rw[if_neg (by simp;omega)]) (λc s=>?_) f
 · unfold sK;rw[if_pos (by simp;omega),af hi,qb];by_cases h1:t.az.Views[i].Targets.length<=3;.rw[if_neg (by simp;omega),an (by omega)];exact .inl ⟨h1,rfl⟩
   .rw[if_pos (by simp;omega)];exact .inr rfl
 dsimp only;refine Ic (l:=t.az.Tables) (Q:=λo=>∃b,o=some b/\(b=true->Few t rights)) (λx=>x.Rows.length<=8) 3 6 (by omega) (λi hi g=>?_) (by unfold sT;rw[if_neg (by simp;omega)]) (λd s=>?_) f
 · unfold sT;rw[if_pos (by simp;omega),af hi,qb];by_cases h1:t.az.Tables[i].Rows.length<=8;.rw[if_neg (by simp;omega),an (by omega)];exact .inl ⟨h1,rfl⟩
   .rw[if_pos (by simp;omega)];exact .inr rfl
 refine Ic (l:=rights) (Q:=λo=>∃b,o=some b/\(b=true->Few t rights)) (λx=>RtS x) 4 8 (by omega) (λi hi g=>?_) (by unfold tF;rw[if_neg (by simp;omega)]) (λe s=>?_) f;·unfold tF;obtain⟨b,j,R⟩:=wm (r:=rights[i]);rw[if_pos (by simp;omega),af hi,qb,j,qb];cases b with|true=>rw[if_neg (by simp),an (by omega)];exact .inl ⟨R rfl,rfl⟩;|false=>exact .inr rfl
 refine⟨_,rfl,λh=>?_⟩;simp at h;exact⟨⟨⟨by omega,λx m=>by have:=d (by omega) x m;omega⟩,by omega,b (by omega),by omega,by omega,λw q=>by have:=c (by omega) w q;omega,by omega⟩,by omega,a (by omega),by omega,by omega,by omega,by omega,e (by omega)⟩
def ins(l:List Int)(n:Int):Bool:=decide (n∈l)
theorem Dl{c:bN}(E:c.district.Pairwise (.<.))(J:c.district.length<=1000)(n:Int):eh c n=some (ins c.district n):=by
  unfold eh gR;generalize c.district=l at E J;have F:=fK.1 E;obtain⟨m,P,h1,w⟩:=bsearch (l:=l) (p:=λx=>decide (x<n)) (body:=eg l n) (k:=0) (by omega) (λi j f G H=>by have:=F i j (by omega) G f;simp only[decide_eq_true_eq]at H⊢;omega) (λi j f G=>by
 unfold eg;dsimp only;rw[if_pos (by simpa using f),cW (by unfold inI;omega),qb];have M:∀n,(IntKind.i64.wrap (IK.shr _ 1).n)=Bz n:=λ _=>rfl;simp only[M,xS (show i<1000000 by omega) (show j<1000000 by omega),af (show(i+j)/2<l.length by omega),qb];have O:cmp_Less_int (l[(i+j)/2]'(by omega)) n=some (decide (l[(i+j)/2]'(by omega)<n)):=by unfold cmp_Less_int cmp_isNaN_int;grind
 rw[O,qb];by_cases h:(l[(i+j)/2]'(by omega))<n;.rw[if_pos (by simpa using h),an (by omega),qb,qb,if_pos (by simpa using h)]
 .rw[if_neg (by simpa using h),qb,if_neg (by simpa using h)]) (λi=>by unfold eg;rw[if_neg (by simp)]) (fuel:=l.length+1) (by omega);rw[h1,qb];dsimp only;rcases bJ m l.length with g|g
  · rw[if_pos (by simpa using g),af g,qb];have H:∀e:l[m]=n∨l[m]≠n,True:=λ _=>trivial;by_cases e:l[m]=n;·rw[if_pos (by simpa using e),qb,qb,qb];unfold ins;rw[decide_eq_true (by rw[<-e];exact aN g)]
    · rw[if_neg (by simpa using e),qb];unfold jD;rw[qb,if_neg (by simp),qb,qb,qb,qb];unfold ins;rw[decide_eq_false];intro y;obtain⟨q,u,rfl⟩:=br y;have:=w m g;have z:=w q u;simp at this z;rcases Nat.lt_trichotomy q m with h|h|h;.omega
      .subst h;exact e rfl
      .have:=F m q g u h;omega
  ·rw[if_neg (by simp;omega),qb,qb];unfold ins;rw[decide_eq_false];intro y;obtain⟨q,u,rfl⟩:=br y;have z:=w q u;simp at z;omega
def okV(v:aF):Bool:=((((decide (VR v.Box.Base)&&decide (0<=v.Box.Z0))&&decide (v.Box.Z0<v.Box.Z1))&&decide (v.Box.Z1<=4096))&&decide (0<=v.Use))&&decide (v.Use<6)
def yo(l:List Phase):List (List ct):=l.flatMap λh=>(h.Volumes.filter okV).map sld
theorem KQ(l:List Phase)(h:Phase):yo (l++[h])=yo l++(h.Volumes.filter okV).map sld:=by simp[yo]
theorem GH{l:List Phase}(h:∀e∈l,PhS e):(yo l).length<=2*l.length:=by induction l with|nil=>simp[yo];|cons e l g=>have h1:=(h e (by simp)).1;have:=g λx j=>h x (by simp[j]);have m:=yi okV e.Volumes;simp[yo]at*;omega
theorem Qy{r:ai}(h:RtS r):mi r=some (yo (lft r)):=by
  have z:=sA h;have f:∀g∈lft r,PhS g:=λg q=>h.2 g (qv q);unfold mi;rw[EA h,qb];refine mM (λi (s:List _×Int)=>s.2=((i:Nat):Int)/\s.1=yo ((lft r).take i)) (lft r).length (.=some _) (λi s hi⟨u,I⟩=>?_) (λs ⟨u,I⟩=>?_) ⟨rfl,rfl⟩ (by omega)
  · have E:=(f _ (aN hi)).1;have F:=GH (l:=(lft r).take i) λg q=>f g (pH q);have G:((lft r).take i).length<=4:=by simp;omega
    unfold lP;rw[u,if_pos (by simpa using hi),af hi,qb];have y:=dz (l:=(lft r)[i].Volumes) (body:=iP (lft r)[i]) (k:=2) (λ (s:List _)j=>(s,j)) (λs v=>if okV v=true then s++[sld v]else s) (λj s=>s.length<=s.length/\s.length<=100+j) (by
 intro j w s J;unfold iP;dsimp only;rw[if_pos (by simpa using w),af w,qb,ft,qb];by_cases m:okV (lft r)[i].Volumes[j]=true;·have e:=m;unfold okV at e;rw[if_pos m,if_pos e,bS (by simp;omega),qb,qb,an (by omega)];exact⟨rfl,by simp;omega⟩
 ·have e:=m;unfold okV at e;rw[if_neg m,if_neg e,qb,an (by omega)];exact⟨rfl,by omega⟩) (by intro s J;unfold iP;rw[if_neg (by simp)]) (s0:=s.1) ⟨aA _,by rw[I];omega⟩ (fuel:=(lft r)[i].Volumes.length+1) (by omega);rw[y.1,qb];dsimp only;rw[foldl_filterMap,an (by omega)];exact .inl ⟨_,rfl,rfl,by rw[dB hi,KQ,I]⟩
  ·unfold lP;rw[u,if_neg (by simp)];exact⟨_,rfl,trivial,by dsimp only;rw[I,cQ]⟩
def CO(d:List Int)(t:aP)(s:List ct):Bool:=t.Windows.any λw=>!(ins d w.Lot)&&t.az.Sun.any λp=>Ia s w.At p
def C3(t:aP)(s:List ct):Bool:=t.az.Views.any λv=>v.Targets.any λq=>HZ s v.Eye q
theorem yV{u w:Type}{l:List u}{body:Int->Option (aY Int Bool)}{K:aY Int Bool->Option w}{Q:Option w->Prop}(g:u->Bool)(id:Nat){f:Nat}(z:l.length<f)(G:l.length<=1000000)(step:∀i(hi:i<l.length),body (i:Int)=if g l[i]=true then some (.ret true)else(bh (i:Int) 1).bind λj=>some (.go j))(done:body (l.length:Int)=some (.ex id (l.length:Int)))(h1:l.any g=false->Q (K (.ex id (l.length:Int))))(E:l.any g=true->Q (K (.ret true))):Q ((ar body f 0).bind K):=by
 refine mM (λi s=>s=(i:Int)/\∀m(e:m<l.length),m<i->g l[m]=false) l.length Q (λi s hi⟨q,I⟩=>?_) (λs⟨q,I⟩=>?_) ⟨rfl,λm _ h=>by omega⟩ z
 · subst q;rw[step i hi];by_cases y:g l[i]=true;.rw[if_pos y];exact .inr ⟨_,rfl,trivial,E (oe.2 ⟨_,aN hi,y⟩)⟩
   .rw[an (by omega)];grind
 .subst q;refine⟨_,done,trivial,h1 ?_⟩;rw[vN];intro x F;obtain⟨m,e,rfl⟩:=br F;rw[I m e e];simp
theorem Hr{c:bN}{t:aP}{r:ai}(z:c.district.Pairwise (.< .))(E:c.district.length<=1000)(y:uA t)(h:RtS r):jB c t r=some (!(ins c.district r.ax.Lot)||(yo (lft r)).any λs=>CO c.district t s||C3 t s):=by
 have I:=y.wins;have J:=y.views;have G:=GH (l:=lft r) λF H=>h.2 F (qv H);have M:=sA h;unfold jB;rw[Dl z E,qb];by_cases hi:ins c.district r.ax.Lot=true
 · rw[hi,if_neg (by simp),Qy h,qb];have f:∀s∈yo (lft r),LG s:=λs m=>by unfold yo at m;obtain⟨F,_,m⟩:=vz.1 m;obtain⟨v,_,rfl⟩:=aM.1 m;exact AO _
   generalize yo (lft r)=L at G f;refine yV (l:=L) (Q:=λo=>o=some _) _ 0 (by omega) (by omega) (λi hi=>?_) (by unfold ub;rw[if_neg (by simp)]) (λh=>by rw[h];rfl) (λh=>by rw[h];rfl);have m:=f _ (aN hi);unfold ub;rw[if_pos (by simpa using hi),af hi,qb];show _=(if(CO c.district t L[i]||C3 t L[i])=true then some _ else(bh (i:Int) 1).bind λj=>some (.go j):Option (aY Int Bool));generalize u:(if(CO c.district t L[i]||C3 t L[i])=true then some (.ret true)else(bh (i:Int) 1).bind λj=>some (.go j):Option (aY Int Bool))=X;refine yV (l:=t.Windows) (Q:=(.=X)) (λw=>!(ins c.district w.Lot)&&t.az.Sun.any λp=>Ia L[i] w.At p) 2 (by omega) (by omega) (λk hk=>?_) (by unfold uP;rw[if_neg (by simp)]) (λx=>?_) (λx=>?_)
   · unfold uP;rw[if_pos (by simpa using hk),af hk,qb,Dl z E,qb];have e:dy t.az.Sun (λd=>tE d L[i] t.Windows[k])=some _:=vE (g:=λp=>Ia L[i] t.Windows[k].At p) (by have:=y.sun;omega) λp _=>by unfold tE;rw[JB m];rfl
     grind
   · dsimp only;rw[show CO c.district t L[i]=false from x]at u;refine yV (l:=t.az.Views) (Q:=(.=X)) (λv=>v.Targets.any λq=>HZ L[i] v.Eye q) 4 (by omega) (by omega) (λk hk=>?_) (by unfold uh;rw[if_neg (by simp)]) (λx=>?_) (λx=>?_)
     · unfold uh;have e:dy t.az.Views[k].Targets (λq=>th q L[i] t.az.Views[k])=some _:=vE (g:=λq=>HZ L[i] t.az.Views[k].Eye q) (by have:=y.view _ (aN hk);omega) λp _=>by unfold th;rw[Jq m];rfl
       rw[if_pos (by simpa using hk),af hk,qb,e,qb]
     .rw[show C3 t L[i]=false from x,if_neg (by simp)]at u;dsimp only;exact u
     .rw[show C3 t L[i]=true from x,if_pos (by simp)]at u;dsimp only;exact u
   .rw[show CO c.district t L[i]=true from x,if_pos (by simp)]at u;dsimp only;exact u
 .rw[Bool.not_eq_true]at hi;rw[hi,if_pos (by simp)];rfl
theorem TJ{a b:List aF}(h:a.length<=1000):jZ a b=some (decide (a=b)):=Ee (by omega)
theorem Su{a b:List Entry}(h:a.length<=1000):kY a b=some (decide (a=b)):=Ee (by omega)
theorem Dc(a b:Phase):a=b↔a.Volumes=b.Volumes/\a.cd=b.cd:=by cases a;cases b;simp
theorem Sd{a b:Phase}(h:PhS a):jg a b=some (decide (a=b)):=by
 have h1:=h.1;have f:=h.2;unfold jg;rw[TJ (by omega),qb];by_cases e:a.Volumes=b.Volumes;.rw[Su (by omega)];simp[Dc,e]
 .rw[if_neg (by simpa using e),qb,decide_eq_false λh=>e (by rw[h])]
theorem M0{a b:Phase}(h:PhS a):kG a b=some (decide (a=b)):=by
 have h1:=h.1;have m:=h.2;unfold kG;by_cases f:a.Volumes.length=b.Volumes.length/\a.cd.length=b.cd.length
 · rw[if_neg (by simp[f.1,f.2])];refine uu (Q:=(.=some _)) 0 f.1 (by omega) (by omega) (λi hi j=>?_) (by unfold lg;rw[if_neg (by simp)]) (λe=>?_) (λe=>by rw[decide_eq_false λh=>e (by rw[h])]);.unfold lg;rw[if_pos (by simpa using hi),af hi,qb,af j,qb]
   .refine uu (Q:=(.=some _)) 2 f.2 (by omega) (by omega) (λi hi j=>?_) (by unfold kZ;rw[if_neg (by simp)]) (λg=>by rw[decide_eq_true ((Dc a b).2 ⟨e,g⟩)]) (λe=>by rw[decide_eq_false λh=>e (by rw[h])]);unfold kZ;rw[if_pos (by simpa using hi),af hi,qb,af j,qb]
 .rw[if_pos (by simp;omega),decide_eq_false λe=>f ⟨by rw[e],by rw[e]⟩]
theorem DH(a b:ai):a=b↔((((a.Id=b.Id/\a.Holder=b.Holder)/\a.Used=b.Used)/\a.Until=b.Until)/\a.Over=b.Over)/\a.ax.Lot=b.ax.Lot/\a.ax.Phases=b.ax.Phases:=by have⟨e,a2,⟨a3,a4⟩,a5,f,g⟩:=a;have⟨h,j,⟨m,q⟩,u,w,x⟩:=b;grind
theorem Vx{a b:ai}(h:RtS a):counter_same a b=some (decide (a=b)):=by
 have m:=h.1;unfold counter_same;by_cases e1:(((a.Id=b.Id/\a.Holder=b.Holder)/\a.Used=b.Used)/\a.Until=b.Until)/\a.Over=b.Over
 · rw[if_pos (by simpa using e1)];unfold sY;by_cases f:a.ax.Lot=b.ax.Lot
   · rw[if_pos (by simpa using f)];have y:cX a.ax.Phases b.ax.Phases jg=some (decide (a.ax.Phases=b.ax.Phases)):=by
      unfold cX;by_cases g:a.ax.Phases.length=b.ax.Phases.length;.rw[if_neg (by simp[g])];refine uu (Q:=(.=some _)) 0 g (by omega) (by omega) (λi hi j=>?_) (by unfold dC;rw[if_neg (by simp)]) (λe=>by rw[decide_eq_true e]) (λe=>by rw[decide_eq_false e]);unfold dC;rw[if_pos (by simpa using hi),af hi,qb,af j,qb,Sd (h.2 _ (aN hi)),qb]
      .rw[if_pos (by simp;omega),decide_eq_false λe=>g (by rw[e])]
     rw[y];simp[DH,e1,f]
   .rw[if_neg (by simpa using f),qb,qb,qb,decide_eq_false λh=>f (by rw[h])]
 .rw[if_neg (by simpa using e1),qb,decide_eq_false λh=>e1 (by simp[h])]
theorem OV{a b:ai}(h:RtS a)(g:RtS b):pB a b=some (decide (a=b)):=by
 have m:=h.1;unfold pB;by_cases e1:((((a.Id=b.Id/\a.Holder=b.Holder)/\a.Used=b.Used)/\a.Until=b.Until)/\a.Over=b.Over)/\a.ax.Lot=b.ax.Lot
 · rw[if_pos (by simpa using e1)];have y:jI a.ax.Phases b.ax.Phases=some (decide (a.ax.Phases=b.ax.Phases)):=by
    unfold jI;by_cases f:a.ax.Phases.length=b.ax.Phases.length;.rw[if_neg (by simp[f])];refine uu (Q:=(.=some _)) 0 f (by omega) (by omega) (λi hi j=>?_) (by unfold jX;rw[if_neg (by simp)]) (λe=>by rw[decide_eq_true e]) (λe=>by rw[decide_eq_false e]);unfold jX;rw[if_pos (by simpa using hi),af hi,qb,af j,qb,M0 (h.2 _ (aN hi)),qb]
    .rw[if_pos (by simp;omega),decide_eq_false λe=>f (by rw[e])]
   rw[y];simp[DH,e1]
 .rw[if_neg (by simpa using e1),qb,decide_eq_false λh=>e1 (by simp[h])]
theorem OA{r:ai}(h:RtS r):lI r=some r:=by
 have f:=h.1;refine mM (λi(s:List Phase×Int)=>s.2=i/\s.1=r.ax.Phases.take i) r.ax.Phases.length (.=some r) (λi s hi⟨e,I⟩=>?_) (λs ⟨e,I⟩=>?_) ⟨rfl,by simp⟩ (by omega);.have h1:=(h.2 _ (aN hi)).1;have g:=(h.2 _ (aN hi)).2;unfold pI ew bW;rw[e,if_pos (by simpa using hi),af hi,qb,eJ (by omega),qb,qb,eJ (by omega),qb,qb,bS (by rw[I];simp;omega),an (by omega)];exact .inl ⟨_,rfl,rfl,by rw[dB hi,I]⟩
 .unfold pI;rw[e,if_neg (by simp)];exact⟨_,rfl,trivial,by rw[I,cQ]⟩
def Nl(l:List aq):Prop:=∀f∈l,RtS f.ai
theorem sF{l:List aq}(h:Nl l)(f:l.length<=10000):bI l=some l:=by
 refine mM (λi(s:List aq×Int)=>s.2=i/\s.1=l.take i) l.length (.=some l) (λi s hi⟨e,I⟩=>?_) (λs ⟨e,I⟩=>?_) ⟨rfl,by simp⟩ (by omega);.unfold k8;rw[e,if_pos (by simpa using hi),af hi,qb,OA (h _ (aN hi)),qb,bS (by rw[I];simp;omega),an (by omega)];exact .inl ⟨_,rfl,rfl,by rw[dB hi,I]⟩
 .unfold k8;rw[e,if_neg (by simp)];exact⟨_,rfl,trivial,by rw[I,cQ]⟩
def oq(a b:aq):Int:=if a.Counter<b.Counter then-1 else if b.Counter<a.Counter then 1 else if a.Number<b.Number then-1 else if b.Number<a.Number then 1 else 0
theorem JY(x y:Int):cE x y=some (if x<y then-1 else if y<x then 1 else 0):=by unfold cE cmp_isNaN_int;grind
theorem VS(x y:Int):mV [x,y]=some (if x=0 then y else x):=by
 unfold mV;simp[ar,nw];by_cases h:x=0
 · by_cases e:y=0;.subst h;subst e;rfl
   .subst h;simp[aL,bh,inI,e]
 .simp[aL,h]
theorem Ft(a b:aq):eM a b=some (oq a b):=by
 unfold eM oq;rw[JY,JY];repeat' split
 all_goals first|rfl|omega
theorem vJ(a b:aq):oq a b<0↔a.Counter<b.Counter∨(a.Counter=b.Counter/\a.Number<b.Number):=by unfold oq;all_goals omega
theorem Ah(a b:aq):oq a b=0↔a.Counter=b.Counter/\a.Number=b.Number:=by unfold oq;all_goals omega
def Asc(l:List aq):Prop:=l.Pairwise λa b=>oq a b<0
theorem SE{l:List aq}(h:Asc l)(R:l.length<=100000)(x:aq):∃n:Nat,n<=l.length/\bsF l x=some ((n:Int),decide (∃y∈l,oq y x=0))/\(∀i(hi:i<l.length),oq l[i] x<0↔i<n)/\((∃y∈l,oq y x=0)->∃E:n<l.length,oq l[n] x=0):=by
  have H:=fK.1 h;obtain⟨n,E,h1,O⟩:=bsearch (l:=l) (p:=λy=>decide (oq y x<0)) (body:=cj l x eM) (by omega) (λi j g I P=>by have:=H i j (by omega) I g;simp[decide_eq_true_eq]at P⊢;rw[vJ]at*;omega) (λi j g I=>by
 unfold cj;rw[if_pos (by simpa using g),cW (by unfold inI;omega)];have Q:∀n,(IntKind.i64.wrap (IK.shr _ 1).n)=Bz n:=λ _=>rfl;simp only[Q,xS (show i<1000000 by omega) (show j<1000000 by omega),af (show(i+j)/2<l.length by omega),qb,Ft];by_cases z:oq (l[(i+j)/2]'(by omega)) x<0;.rw[if_pos (by simpa using z),an (by omega),qb,qb,if_pos (by simpa using z)]
 .rw[if_neg (by simpa using z),qb,if_neg (by simpa using z)]) (λi=>by unfold cj;rw[if_neg (by simp)]) (fuel:=l.length+1) (by omega);have m:∀i(hi:i<l.length),oq l[i] x<0↔i<n:=λi hi=>by rw[<-O i hi];simp
  have F:(∃y∈l,oq y x=0)->∃E:n<l.length,oq l[n] x=0:=by
   rintro⟨y,u,e⟩;obtain⟨q,M,rfl⟩:=br u;have T:=m q M;have f:n<l.length:=by omega
   have G:=m n f;refine⟨f,?_⟩;rcases Nat.lt_trichotomy n q with w|rfl|w;·have:=H n q f M w;rw[vJ]at*;rw[Ah]at*;omega
   .exact e
   .omega
  refine⟨n,E,?_,m,F⟩;unfold bsF cJ;rw[h1];dsimp;rcases bJ n l.length with f|f
  · rw[if_pos (by simpa using f),af f,qb,Ft];by_cases e:oq l[n] x=0;.rw[decide_eq_true ⟨_,aN f,e⟩];simp[e]
    .rw[decide_eq_false λu=>by have⟨_,G⟩:=F u;exact e G];simp[e]
  .rw[if_neg (by simp;omega),qb,decide_eq_false λu=>by have⟨G,_⟩:=F u;omega]
def tX:List aq->aq->List aq|[],f=>[f]|g::l,f=>if oq g f<0 then g::tX l f else if oq g f=0 then g::l else f::g::l
theorem Gw:∀{l:List aq}{f:aq},Asc l->(∃y∈l,oq y f=0)->tX l f=l
 |[],f,_,⟨y,j,_⟩=>by simp at j;|g::l,f,h,⟨y,j,e⟩=>by
  have m:=km.1 h;unfold tX;by_cases h1:oq g f<0
  · rw[if_pos h1];rcases bD.1 j with rfl|j;.omega
    .rw [Gw m.2 ⟨y,j,e⟩]
  · rw[if_neg h1,if_pos];rcases bD.1 j with rfl|j;.exact e
    .have:=m.1 y j;rw[vJ]at*;rw[Ah]at*;omega
theorem ER:∀{l:List aq}{f:aq}{n:Nat},n<=l.length->(∀i(hi:i<l.length),oq l[i] f<0↔i<n)->(¬∃y∈l,oq y f=0)->tX l f=l.take n++[f]++l.drop n|[],f,n,m,_,_=>by simp[tX];|g::l,f,0,m,h,j=>by unfold tX;grind;|g::l,f,n+1,m,h,j=>by have:=h 0 (by simp);simp[List.getElem_cons_zero]at this;unfold tX;rw[if_pos (by omega),ER (by simpa using m) (λi hi=>by have:=h (i+1) (by simpa using hi);simpa using this) λ ⟨y,q,e⟩=>j ⟨y,by simp[q],e⟩];simp
theorem Qx{c:CC}{f:aq}(h:Asc c.reg)(m:c.reg.length<=10000):K8 c f=some {c with reg:=tX c.reg f}:=by
 unfold K8;have⟨n,g,h1,j,q⟩:=SE h (by omega) f;rw[h1,qb];by_cases e:∃y∈c.reg,oq y f=0;.rw[if_neg (by simpa using e),Gw h e]
 .rw[if_pos (by simpa using e)];unfold Ea;rw[if_pos ⟨by omega,by simpa using g,by simp,by simp;omega⟩,ER g j e];rfl
theorem FZ:∀{l:List aq}{f g:aq},g∈tX l f->g∈l∨g=f
 |[],f,g,h=>by simp[tX]at h;exact .inr h;|x::l,f,g,h=>by
  unfold tX at h;split at h
  · rcases bD.1 h with rfl|h;.exact .inl (by simp)
    .exact(FZ h).imp (λh=>by simp[h]) λh=>h
  grind
theorem Gy:∀{l:List aq}{f:aq},Asc l->Asc (tX l f)
 |[],f,_=>by simp[tX,Asc];|x::l,f,h=>by
  have j:=km.1 h;unfold tX;split
  · rename_i h1;refine km.2 ⟨λg e=>?_,Gy j.2⟩;rcases FZ e with e|rfl;.exact j.1 g e
    .exact h1
  · split;.exact h
    · rename_i h1 m;refine km.2 ⟨λg e=>?_,h⟩;have q:oq f x<0:=by rw[vJ]at*;rw[Ah]at m;omega
      rcases bD.1 e with rfl|e;.exact q
      .have:=j.1 g e;rw[vJ]at*;omega
instance(l:List aq):Decidable (Asc l):=inferInstanceAs (Decidable (l.Pairwise λa b=>oq a b<0))
theorem Ld{n:Int}{d:List Int}{l:List aG}(M:d.length<=1000):uN n d l=some (none,1)∨∃dc,uN n d l=some (some ⟨n,d,dc,[]⟩,0)/\(lT n l).1=some dc/\d.Pairwise (.< .)/\∀x∈d,1<=x:=by
 unfold uN;by_cases g:(lT n l).2=0
 · rw[if_neg (by simpa using g)];obtain⟨dc,q⟩:∃dc,(lT n l).1=some dc:=by
    unfold lT at g⊢;split at g;.rename_i h;rw[if_pos h];exact⟨_,rfl⟩
    .simp at g
   refine mM (λi (s:Int)=>s=i/\(∀m(f:m<d.length),m<i->1<=d[m])/\∀a b(w:a<d.length)(z:b<d.length),a<b->b<i->d[a]<d[b]) d.length (λo:Option (Option CC×Int)=>o=some _∨∃dc,o=some (some ⟨n,d,dc,[]⟩,0)/\(lT n l).1=some dc/\d.Pairwise (.<.)/\∀x∈d,1<=x) (λi s hi ⟨E,h1,y⟩=>?_) (λs⟨E,h1,y⟩=>?_) ⟨rfl,λm _ h=>by omega,λa b _ _ _ h=>by omega⟩ (by omega)
   · subst E;unfold xy;rw[if_pos (by simpa using hi),af hi,qb];by_cases g1:d[i]<1∨1073741824<d[i];.rw[if_pos (by simpa using g1)];exact .inr ⟨_,rfl,trivial, .inl rfl⟩
     · rw[if_neg (by simpa using g1)];by_cases g2:0<i
       · rw[if_pos (by simpa using g2),pF g2 (by omega),qb,af (by omega),qb,qb,qb];by_cases g3:d[i]<=d[i-1];.rw[if_pos (by simpa using g3)];exact .inr ⟨_,rfl,trivial, .inl rfl⟩
         · rw[if_neg (by simpa using g3),an (by omega)];refine .inl ⟨_,rfl,rfl,λm f F=>?_,λa b w z u G=>?_⟩
           · by_cases e:m=i;.subst e;omega
             .exact h1 m f (by omega)
           · by_cases e:b=i
             · subst e;by_cases e:a=b-1;.subst e;omega
               .have:=y a (b-1) w (by omega) (by omega) (by omega);omega
             .exact y a b w z u (by omega)
       · rw[if_neg (by simpa using g2),an (by omega)];refine .inl ⟨_,rfl,rfl,λm f F=>?_,λa b w z u G=>by omega⟩;obtain rfl:m=i:=by omega
         omega
   · subst E;unfold xy;rw[if_neg (by simp)];refine⟨_,rfl,trivial, .inr ⟨dc,?_,q,fK.2 λi j hi I H=>y i j hi I H I,λx J=>?_⟩⟩;·unfold dZ;rw[eJ (by omega),qb,qb,q]
     ·obtain⟨m,f,rfl⟩:=br J;exact h1 m f f
 .rw[if_pos (by simpa using g)];exact .inl rfl
theorem ma{i:Nat}(h:i<4611686018427387904):tD (i:Int) 1=some ((i+1:Nat):Int):=by unfold tD;rw[IntKind.wrap_i64];exact congrArg some (by omega)
def ndm(t:aP)(r:ai):List (ByteArray×Int):=t.az.Caps.foldl (λm c=>dQ m c.Name (IntKind.i64.wrap ((bz m c.Name).getD 0+top t.az c r))) []
theorem B1{t:aP}{r:ai}(ht:uA t)(hb:t.Built.length<=1000)(hs:t.Base.length<=1000)(h:RtS r):dN t r=some (ndm t r):=by have hc:=ht.vX;unfold dN;have key:=dz (l:=t.az.Caps) (body:=oV t r) (k:=0) (λ (m:List (ByteArray×Int)) i=>(m,i)) (λm c=>dQ m c.Name (IntKind.i64.wrap ((bz m c.Name).getD 0+top t.az c r))) (λ _ _=>True) (λi hi m _=>by unfold oV;dsimp only;rw[if_pos (by simpa using hi),af hi,qb,EJ ht.plan (ht.cap _ (aN hi)) hb hs (by simp) (by simpa using h),qb];have k2:=dz (l:=[top t.az t.az.Caps[i] r]) (body:=oW t.az.Caps[i] [top t.az t.az.Caps[i] r]) (k:=2) (λ (m:List (ByteArray×Int)) i=>(m,i)) (λm n=>dQ m t.az.Caps[i].Name (IntKind.i64.wrap ((bz m t.az.Caps[i].Name).getD 0+n))) (λ _ _=>True) (λj hj m _=>by unfold oW;dsimp only;rw[if_pos (by simp at hj⊢;omega),af hj,qb];rw[ma (by simp at hj;omega)];unfold tD;rw[qb,qb];exact⟨rfl,trivial⟩) (λm _=>by unfold oW;rw[if_neg (by simp)]) (s0:=m) trivial (fuel:=2) (by simp);rw[show List.map (top t.az t.az.Caps[i]) [r]=[top t.az t.az.Caps[i] r]from rfl];dsimp only[List.length_cons,List.length_nil];rw[k2.1,qb];dsimp only[List.foldl_cons,List.foldl_nil];rw[ma (by omega)];exact⟨rfl,trivial⟩) (λm _=>by unfold oV;rw[if_neg (by simp)]) (s0:=[]) trivial (fuel:=t.az.Caps.length+1) (by omega);rw[key.1];rfl
def Lg(t:aP)(r:ai):Bool:=(fm t r).getD false
def Pw(d:List Int)(t:aP)(r:ai):Bool:=!(ins d r.ax.Lot)||(yo (lft r)).any λs=>CO d t s||C3 t s
def idB(e:List ai)(r:ai):Bool:=e.any λx=>x.Id==r.Id
def HG(t:aP)(l:List ai):Bool:=match lD t l with|some x=>x.2|none=>false
def IZ(num:Int)(reg:List aq):Int:=reg.foldl (λn f=>if(f.Counter==num)=true then n+1 else n) 1
def iY(c:CC):List ai:=c.reg.map (·.ai)
structure CtS(c:CC)(n:Nat):Prop where
 asc:c.dist.Pairwise (.<.)dl:c.dist.length<=1000reg:Asc c.reg
 rts:Nl c.reg
 len:c.reg.length<=n
structure TwS(t:aP):Prop where
 town:uA t
 land:t.Land.length<=5lots:∀x∈t.Land,zT x
 built:t.Built.length<=4base:t.Base.length<=4
theorem Few.tw{t:aP}{l:List ai}(h:Few t l):TwS t:=⟨h.town,h.land,h.lots,h.built,h.base⟩
theorem RtS.sm{r:ai}(h:RtS r):SmD r.ax:=⟨by have:=h.1;omega,λp e=>⟨by have:=(h.2 p e).1;omega,by have:=(h.2 p e).2;omega⟩⟩
theorem pg{c:CC}{t:aP}{e:List ai}{r:ai}{n f:Nat}{b:Bool}(g:n<6)(h:xJ c t e r n=some b):ar (Dg c t e r) (f+1) (n:Int)=if b=true then some (.ret (ua n))else ar (Dg c t e r) f ((n+1:Nat):Int):=by rw[ar];unfold Dg;rw[if_pos (by simp;omega),nI,h];cases b with|true=>rfl;|false=>rw[an (by omega)];rfl
theorem count_eq(num:Int){reg:List aq}(h:reg.length<=10000):∃j,ar (wJ num reg) (reg.length+1) (1,0)=some (.ex 6 (IZ num reg,j))/\1<=IZ num reg/\IZ num reg<=reg.length+1:=by
 have y:=dz (l:=reg) (body:=wJ num reg) (λ (n:Int)i=>(n,i)) (λn f=>if(f.Counter==num)=true then n+1 else n) (λi n=>1<=n/\n<=i+1) (λi hi n I=>by
 unfold wJ;rw[if_pos (by simpa using hi),af hi,qb];by_cases e:(reg[i].Counter==num)=true;.rw[if_pos e,if_pos e,cW (by unfold inI;omega),an (by omega)];exact⟨rfl,by omega,by omega⟩
 .rw[if_neg e,if_neg e,an (by omega)];exact⟨rfl,by omega,by omega⟩) (λn _=>by unfold wJ;rw[if_neg (by simp)]) (s0:=1) ⟨by omega,by omega⟩ (fuel:=reg.length+1) (by omega);exact⟨_,y.1,y.2⟩
def granted(c:CC)(t:aP)(r:ai):CC:={c with dc:=dE c.dc (ndm t r),reg:=tX c.reg ⟨c.num,IZ c.num c.reg,r⟩}
theorem Ma{c:CC}{t:aP}{rights:List ai}{r:ai}(hc:CtS c 100)(ht:TwS t)(hr:RtS r)(hrs:∀x∈rights,RtS x)(hn:rights.length+c.reg.length+1<=20):wk c t rights r=some (if Lg t r=true then if Pw c.dist t r=true then(c,27)else if idB (rights++iY c) r=true then(c,5)else if HG t (rights++iY c++[r])=true then if si c.dc (ndm t r)=true then(c,26)else(granted c t r,0)else(c,21)else(c,1)):=by
 have hb:=ht.built;have hs:=ht.base;have hl:=ht.land;unfold wk ll;rw[eJ (by omega),qb,qb];have k1:=dz (l:=c.reg) (body:=Nz c.reg) (k:=0) (λ (l:List ai) i=>(l,i)) (λl f=>l++[f.ai]) (λi l=>l.length=rights.length+i) (λi hi l hI=>by unfold Nz;dsimp only;rw[if_pos (by simpa using hi),af hi,qb,bS (by simp;omega),qb,an (by omega)];exact⟨rfl,by simp;omega⟩) (λl _=>by unfold Nz;rw[if_neg (by simp)]) (s0:=rights) rfl (fuel:=c.reg.length+1) (by omega);rw[k1.1,qb];dsimp only;have hall:c.reg.foldl (λl f=>l++[f.ai]) rights=rights++iY c:=by rw[foldl_flatMap (λf:aq=>[f.ai])];simp[iY,List.map_eq_flatMap]
 rw[hall];have hlen:(rights++iY c).length=rights.length+c.reg.length:=by simp[iY]
 have hrl:(iY c).length=c.reg.length:=by simp[iY]
 have hrt:∀x∈rights++iY c++[r],RtS x:=by
  intro x hx;simp only[dq,iY,aM,eR]at hx;rcases hx with(hx|⟨f,hf,rfl⟩)|rfl;.exact hrs x hx
  .exact hc.rts f hf
  .exact hr
 obtain⟨x,hx,_⟩:=PC (rights:=rights++iY c++[r]) ht.town (by simp only[bA,List.length_singleton];omega) hrt (by omega) (by omega);have t0:xJ c t (rights++iY c) r 0=some (!Lg t r):=by have:=nL (d:=false) (Nk (t:=t) (r:=r) (by have:=ht.town.vX;omega) (by omega) ht.lots hr.sm);show(fm t r).bind _=_;rw[this];rfl
 have t1:xJ c t (rights++iY c) r 1=some (Pw c.dist t r):=Hr (c:=⟨c.num,c.dist,⟨none⟩,c.reg⟩) hc.asc hc.dl ht.town hr;have t2:xJ c t (rights++iY c) r 2=some (idB (rights++iY c) r):=vE (s:=rights++iY c) (f:=λx=>Ey x r) (g:=λx=>x.Id==r.Id) (by omega) λx _=>rfl;have t3:xJ c t (rights++iY c) r 3=some false:=by show some (decide _)=_;rw[decide_eq_false (by omega)]
 have t4:xJ c t (rights++iY c) r 4=some (!HG t (rights++iY c++[r])):=by show(Gx t (rights++iY c) r).bind _=_;unfold Gx HG;rw[bS (by simp only[List.length_singleton];omega),qb,hx];rfl
 have t5:xJ c t (rights++iY c) r 5=some (si c.dc (ndm t r)):=by show(dN t r).bind _=_;rw[B1 ht.town (by omega) (by omega) hr];rfl
 rw[show(0:Int)=((0:Nat):Int)from rfl,pg (by omega) t0];cases hf:Lg t r with|false=>rw[if_pos (by simp),qb];rfl;|true=>rw[if_neg (by simp),if_pos rfl,pg (by omega) t1];cases Pw c.dist t r with|true=>rw[if_pos rfl,qb];rfl;|false=>rw[if_neg (by simp),if_neg (by simp),pg (by omega) t2];cases idB (rights++iY c) r with|true=>rw[if_pos rfl,qb];rfl;|false=>rw[if_neg (by simp),if_neg (by simp),pg (by omega) t3,if_neg (by simp),pg (by omega) t4];cases HG t (rights++iY c++[r])with|false=>rw[if_pos (by simp),qb];rfl;|true=>rw[if_neg (by simp),if_pos rfl,pg (by omega) t5];cases si c.dc (ndm t r)with|true=>rw[if_pos rfl,qb];rfl;|false=>rw[if_neg (by simp),if_neg (by simp)];have e6:ar (Dg c t (rights++iY c) r) 1 ((5+1:Nat):Int)=some (.ex 2 6):=rfl;rw[e6,qb];dsimp only;unfold AL;obtain⟨j,hj,_⟩:=count_eq c.num (reg:=c.reg) (by omega);rw[B1 ht.town (by omega) (by omega) hr,qb,hj,qb];dsimp only;rw[OA hr,qb,Qx (c:={c with dc:=dE c.dc (ndm t r)}) hc.reg (by dsimp only;omega),qb];rfl
theorem CtS.mono{c:CC}{n m:Nat}(h:CtS c n)(e:n<=m):CtS c m:=⟨h.asc,h.dl,h.reg,h.rts,bB h.len e⟩
theorem F3(c:CC)(t:aP)(l:List ai)(r:ai):yk (some c) t l r=(wk c t l r).bind λr=>some (some r.1,r.2):=rfl
end Go.Proofs.YtlckpjpbladknaaGreat.Pl
namespace Go.Proofs.YtlckpjpbladknaaGreat
open Go.Gb
set_option maxRecDepth 100000
theorem AN{d:dS}{c:DC}(h:Can d c):tv d=some c.L/\((d.L.map (·.2)).map (·.Cap)).Nodup:=by have hn:((d.L.map (·.2)).map (·.Cap)).Nodup:=(h.p.map (·.Cap)).nodup_iff.2 (yd h.i.so);refine⟨?_,hn⟩;unfold tv;have:=h.p.length_eq;have:=h.i.len;simp only[jv]at*;rw[if_pos (by omega)];congr 1;obtain⟨h1,h2⟩:=fR (d.L.map (·.2));refine Ay (h1.trans h.p) ((h1.map (·.Cap)).nodup_iff.2 hn) h2 ?_;exact List.Pairwise.imp (λ {a b}h=>yA h) h.i.so
theorem Ih{k0:K}{c:DC}{F:FP}{v0:Value}(h:mI c F v0 k0):Calls Tryz.prog 21 #[v0] k0.w (Ret k0 (IsV c.L)):=by obtain⟨d,⟨b,bl,bt,hh,T,rfl,D,rfl⟩,hc⟩:=h;exact Cg D (AN hc).1 (AN hc).2
theorem No{k0:K}{c:DC}{F:FP}{v0:Value}(h:mI c F v0 k0):Calls Tryz.prog 58 #[v0] k0.w (Ret k0 λu k=>∃G,mI c G u k/\Lo k0 G):=by obtain⟨d,⟨b,bl,bt,hh,T,rfl,D,rfl⟩,hc⟩:=h;have ol:=hc.i.ol;have se:=hc.i.se;refine Calls.mono (Ret.ofC (Hb D (by rw[hc.o];omega))) λe w he=>?_;cases e with|returned u=>obtain⟨k',hw,hg,L',hp,G,hG,hL⟩:=he;exact⟨k',hw,hg,G,⟨_,hG,⟨hc.n,hc.o,hc.s,hc.t,(hp.map _).trans hc.p,λp hp'=>hc.k p (hp.mem_iff.1 hp'),hc.i⟩⟩,hL⟩|panicked c=>exact he.elim;|outgrown=>exact he.elim
def c33:Cx tb:=⟨Tryz.prog,tid,eqs,gx [k49],fN (P:=Tryz.prog) [],false,[3,5,16,19],Tryz.f33.results.toList,Tryz.f33.ntmps,vU,λc=>c∈fQ (body Tryz.f33),gE (P:=Tryz.prog) []⟩
theorem SJ:rX c33:=⟨lq [k49],jr (P:=Tryz.prog) [],uk.at,lS,rfl,jk (P:=Tryz.prog) []⟩
def Rc:Rv tb:=⟨0, .n, .n,[.list (.st 28)],HL tb.S [.list (.st 28)],λr=>r.2.2,λr=>((),(),r),λ _=>rfl⟩
def e33(l:List aq):Env tb:=[(0, .own true 54 (.st 28) l)]
def m33:Kt tb (Rc.D tb) (List aq):=⟨λ _=>none,λ _ _=>none,λ (e:List aq)=>some e⟩
theorem Xt(l:List aq):ev c33 Rc (body Tryz.f33) (.s .n (.s .n (.s (.s .n (.l [] [(3, .o 54 (.st 28)),(8, .v .int)] [(0,[8],[])] (fI 7) .n)) (.s (.f [3] .n) .n)))) (List aq) (e33 l) m33=bI l:=by kernel_rfl
theorem Um{a:Act}{k:K}{W:List Nat}{l:List aq}(hs:a.tmps.size=Tryz.f33.ntmps)(hd:a.defers=[])(h0:ah 0 54 l (a.get 0) k):Hl Tryz.f33.ntmps noF k W a (e33 l) a k:=by
 have hlk:∀t,lk (e33 l) t=if 0=t then .own true 54 (.st 28) l else .top:=λt=>by show lk ((0,_)::_) t=_;rw[bg];rfl
 refine⟨Chg.refl _ k,hs,hd,λ _ _=>rfl,λt=>?_,λt s h=>?_,λt h=>?_,λt u hne b h h'=>?_,gok⟩
 · rw[hlk];split;.rename_i e;rw[<-e];exact h0
   .trivial
 .rw[hlk]at h;split at h<;>cases h
 .rw[hlk]at h;split at h<;>cases h
 · rw[hlk]at h h';split at h
   · split at h';.rename_i e e';exact hne (e.symm.trans e')
     .exact h'.elim
   .exact h.elim
theorem O4{k0:K}{rv:Value}{y q:List aq}(i0:ah 0 54 y rv k0)(hr:bI y=some q):Calls Tryz.prog 33 #[rv] k0.w (Ret k0 (IsV q)):=by refine Ret.ofC ?_;refine cO Tryz.func33 (show Tryz.f33.body=some (body Tryz.f33)from rfl) rfl (show 1<=Tryz.f33.ntmps by decide) λa k hk0 hs hd ha=>?_;obtain⟨e0,_⟩:=ha;subst hk0;refine kW SJ (qq rfl) (body Tryz.f33) (λ _ h=>h) _ _ _ _ q ((Xt y).trans hr) noF k _ a a k _ (λt ht=>ht) (λhN=>by cases hN) (Um hs hd (by rw[e0];exact i0)) (λe' a' k' g=>by cases g) (λi e' a' k' g=>by cases g) (λy a' k' g hret=>?_);obtain rfl:=ae g;obtain⟨h1,_,k2,h2,h3,_,_,h4⟩:=hret;obtain⟨v,h5,h6,_⟩:=h4 Tryz.f33 rfl;rw[<-h2];exact gB h1 h5 h3 ((gQ (T:=tb) (t:= .list (.st 28))).1 h6)
def T1:Cx tb:={c33 with own:=[2,3,5,16,19]}
theorem QC:rX T1:=⟨lq [k49],jr (P:=Tryz.prog) [],uk.at,lS,rfl,jk (P:=Tryz.prog) []⟩
def Nr:Rv tb:=⟨0, .n, .o 54 (.st 28),[],List aq,λr=>r.2.1,λr=>((),r,()),λ _=>rfl⟩
def WM:Kt tb (Nr.D tb) (List aq):=⟨λ _=>none,λ _ _=>none,λ (e:List aq)=>some e⟩
theorem UW(l:List aq):ev T1 Nr (body Tryz.f33) (.s .n (.s .n (.s (.s .n (.l [] [(3, .o 54 (.st 28)),(8, .v .int)] [(0,[8],[])] (fI 7) .n)) (.s .n .n)))) (List aq) (e33 l) WM=bI l:=by kernel_rfl
theorem Pf{k0:K}{rv:Value}{y q:List aq}(i0:ah 0 54 y rv k0)(hr:bI y=some q):Calls Tryz.prog 33 #[rv] k0.w (Ret k0 λv k=>ah 0 54 q v k/\∀b,obF v b->k0.w.heap.size<=b):=by refine Ret.ofC ?_;refine cO Tryz.func33 (show Tryz.f33.body=some (body Tryz.f33)from rfl) rfl (show 1<=Tryz.f33.ntmps by decide) λa k hk0 hs hd ha=>?_;obtain⟨e0,_⟩:=ha;subst hk0;refine kW QC (qq rfl) (body Tryz.f33) (λ _ h=>h) _ _ _ _ q ((UW y).trans hr) noF k _ a a k _ (λt ht=>ht) (λhN=>by cases hN) (Um hs hd (by rw[e0];exact i0)) (λe' a' k' g=>by cases g) (λi e' a' k' g=>by cases g) (λy a' k' g hret=>?_);obtain rfl:=ae g;obtain⟨h1,_,k2,h2,h3,_,_,h4⟩:=hret;obtain⟨v,h5,h6,h7,_⟩:=h4 Tryz.f33 rfl;rw[<-h2];exact gB h1 h5 h3 ⟨h6,λb hb=>(h7 b hb).resolve_left λf=>f.elim⟩
theorem Pc{k0:K}{c:CC}{b:Nat}{dv pv rv:Value}{F:FP}{q:List aq}(C:CnO c b dv pv rv F k0)(hr:bI c.reg=some q):Calls Tryz.prog 12 #[aw b] k0.w (Ret k0 (IsV q)):=by
 refine Ret.ofC ?_;refine cO Tryz.func12 rfl Tryz.ntmps12 (show 1<=8 by decide) λa k hk0 hs hd ha=>?_;obtain⟨e0,_⟩:=ha;have i0:Is (aw b) (a.get 0) k:=e0;have hg:Chg noF k0 k:=by rw[hk0];exact Chg.refl _ k0
 replace C:CnO c b dv pv rv F k:=by rw[hk0];exact C
 clear e0;refine aK 1 (⟨some ij,[]⟩::[]) rfl ⟨hg,hs,hd⟩ (by kernel_rfl) ⟨ob1 rfl λb q h n=>aQ rfl je,trivial⟩ [⟨_,_⟩,⟨0,λ _ k=>CnO c b dv pv rv F k⟩] (λb q p=>⟨p.ke 0 rfl i0,C.grow p.grow,trivial⟩) ?_;clear i0 C hg hs hd;rintro a k ⟨⟨hg,hs,hd⟩,i0,C,_⟩;replace C:CnO c b dv pv rv F k:=C;refine aK 6 (_::⟨some (Is (aw b)),[(3,some 0)]⟩::⟨some (cw b 3),[(4,some 1)]⟩::⟨some (Is rv),[(5,some 2)]⟩::⟨some (IsV q),[(6,some 3)]⟩::_::[]) rfl ⟨hg,hs,hd⟩ (by kernel_rfl) ⟨mu rfl i0,ob1 rfl λ _ _ g n=>aO rfl ⟨_,n.1⟩ n.1,ob1 rfl λ _ _ g n=>aV rfl oR n.1,ob1 rfl λ _ _ g n=>bV rfl zz n.1 (C.grow g).box rfl,ob1 rfl λb' _ g n=>bU rfl Tryz.call33 (by show Calls _ _ #[b'.get 6] _ _;rw[show b'.get 6=rv from n.1];exact O4 (C.grow g).rg hr),cp 4 rfl rfl,trivial⟩ [⟨2,IsV q⟩] (λb' q' p=>⟨p.ou 5 2 rfl,trivial⟩) ?_;rintro a k ⟨⟨hg,hs,hd⟩,i2,_⟩;refine wp_ret ?_;exact cZ rfl hd hg i2
theorem PW{f:FuncId}{vs:Array Value}{k:K}{R S:Pred}(h:Calls Tryz.prog f vs k.w (Ret k R))(hR:∀v k',bE k k'->R v k'->S v k'):Calls Tryz.prog f vs k.w (Ret k S):=by refine Calls.mono h λe w he=>?_;cases e with|returned v=>obtain⟨k',h1,h2,h3⟩:=he;exact⟨k',h1,h2,hR _ _ h2 h3⟩;|panicked c=>exact he.elim;|outgrown=>exact he.elim
def XR:FkQ tbg Tryz.prog:=⟨12,⟨false,0,[],[.list (.st 28)],λ (y:Option CC) _=>y.bind λc=>bI c.reg⟩,⟨Tryz.call12,λk0 u vs z F x r hG hF hx hr=>by obtain⟨c,hyc,hr⟩:=bind_some (show Option.bind (z:Option CC) _=some r from hr);rw[hyc]at hF;obtain⟨b,dv,pv,rv,F0,rfl,C,_⟩:=(show CnS c F u k0 from hF);cases vs with|cons=>exact hx.elim;|nil=>exact tB (Pc C hr) λv k h=>TD (K9 h)⟩⟩
def VM:FkQ tbg Tryz.prog:=⟨18,⟨false,0,[],[.pv],λ (y:Option CC) _=>y.bind λ _=>some (⟨none⟩:Ptr)⟩,⟨Tryz.call18,λk0 u vs z F x r hG hF hx hr=>by
 obtain⟨c,hyc,_⟩:=bind_some (show Option.bind (z:Option CC) _=some r from hr);rw[hyc]at hF;obtain⟨b,dv,pv,rv,F0,rfl,C,_⟩:=(show CnS c F u k0 from hF);obtain⟨bp,rfl⟩:∃bp,pv=aw bp:=by obtain⟨d',⟨b,bl,bt,hh,T,rfl,_⟩,_⟩:=C.dk;exact⟨_,rfl⟩
 cases vs with|cons=>exact hx.elim;|nil=>exact PW (OO C) λv k g hv=>XV (show SPV tbg 0 (aw b) v k from⟨.st 36,λ (x:qJ)=>x.p.a,b,(⟨⟨⟩,⟨⟩,⟨some ⟨bp,0,none⟩⟩,⟨⟩⟩:qJ),⟨bp,0,none⟩,rfl,rfl,SP (C.grow g).box,rfl,hv⟩)⟩⟩
def Wm:FkQ tbg Tryz.prog:=⟨21,⟨false,1,[],[.list (.st 32)],λ (y:Option DC) _=>y.bind λc=>some c.L⟩,⟨Tryz.call21,λk0 u vs z F x r hG hF hx hr=>by obtain⟨c,hyc,hr⟩:=bind_some (show Option.bind (z:Option DC) _=some r from hr);obtain rfl:=ae hr;rw[hyc]at hF;cases vs with|cons=>exact hx.elim;|nil=>exact tB (Ih (show mI c F u k0 from hF)) λv k h=>TD (K9 h)⟩⟩
def BF(c:CC):Option CC:=(dZ c.dist).bind λd=>(bI c.reg).bind λr=>some {c with dist:=d,reg:=r}
theorem UB:Ty Tryz.prog 38 fD:=⟨⟨_,Tryz.underlying38,rfl⟩,by kernel_rfl⟩
theorem VC{k:K}{v0 v1 v2 v3:Value}{n:Int}{l:List Int}{dc:DC}{reg:List aq}(e0:v0= .int .i64 n)(h1:IsV l v1 k)(h2:∃b,v2=aw b)(h3:ah 0 54 reg v3 k):∃v,(∀w,(Instr.build 106 #[(0,v0),(1,v1),(2,v2),(3,v3)]).run Tryz.prog w= .ok v w)/\IsV (⟨fP ⟨n,l,dc,reg⟩ v1 v2 v3⟩:dt 4) v k:=by
 subst e0;obtain⟨x,y,z,rfl⟩:=JD h1;obtain⟨b,rfl⟩:=h2;obtain⟨x',y',z',rfl⟩:∃x y z,v3= .slice x y z:=by rcases h3 with⟨e1,_⟩|⟨_,e1,_⟩|⟨_,_,_,_,_,e1,_⟩<;>exact⟨_,_,_,e1⟩
 refine⟨.agg #[.int .i64 n, .slice x y z,aw b, .slice x' y' z'],λw=>?_,Ux rfl (by simp[fP];exact⟨rfl,rfl,rfl,rfl⟩)⟩;have c1:(Value.int .i64 n).cells=#[.int .i64 n]:=rfl;have c2:(Value.slice x y z).cells=#[.slice x y z]:=rfl;have c3:(aw b).cells=#[aw b]:=rfl;have c4:(Value.slice x' y' z').cells=#[.slice x' y' z']:=rfl;simp[Instr.build,Instr.fill,jF,c1,c2,c3,c4]
def R4(num:Int)(d:List Int)(dc:DC)(rg:List aq):FP->Pred:=λF v k=>∃dv pv rv G,IsV (⟨fP ⟨num,d,dc,rg⟩ dv pv rv⟩:dt 4) v k/\IsV d dv k/\mI dc G pv k/\ah 0 54 rg rv k/\bj G (obF rv)/\F=λi=>G i∨obF rv i
instance{num:Int}{d:List Int}{dc:DC}{rg:List aq}:Cy (R4 num d dc rg):=⟨λ⟨dv,pv,rv,G,h0,h1,h2,h3,h4,eF⟩c ha hn=>⟨dv,pv,rv,G,aW.pers (c.le hn) h0,aW.pers (c.le hn) h1,Rsc.keep h2 c (λi hi=>ha i (by rw[eF];exact .inl hi)) hn,h3.keep c (λi hi=>ha i (by rw[eF];exact .inr hi)) hn,h4,eF⟩,λ⟨dv,pv,rv,G,h0,h1,h2,h3,h4,eF⟩b hb=>by
 rw[eF]at hb;rcases hb with hb|hb;.exact⟨Rsc.lt h2 b hb,Rsc.nsh h2 b hb⟩
 .exact⟨h3.ltF b hb,h3.jl b hb⟩⟩
theorem xM{P:Program}{es:List mP}{a0:Act}{k0:K}{F0:FP}{o:Oper}{d:Nat}{need:List (Nat×Option Nat)}{cons:List Nat}{R:FP->Pred}[Cy R](hd:o.dst=some d)(hd2:d<a0.tmps.size)(h:∀a (k:K) G,Chg F0 k0 k->p7 es a0 a k need->wK es a k cons G->aX P o a k λv k'=>∃G',R G' v k'/\∀b,G' b->G b∨k.w.heap.size<=b):ObX P es a0 k0 F0 o ⟨R,d,need,cons⟩:=⟨inferInstance,λa k G hsz hch hkn htk next Q hQ hn=>h a k G hch hkn htk next Q hQ λv k' hg⟨G',hR,hG⟩=>hn v k' G' (Chg.of hg) hG (by rw[DO hd (by rw[hsz];exact hd2)];exact hR)⟩
theorem LX{k0:K}{c r:CC}{b:Nat}{dv pv rv:Value}{F:FP}(C:CnO c b dv pv rv F k0)(hr:BF c=some r):Calls Tryz.prog 17 #[aw b] k0.w (Ret k0 λu k=>∃G,CnS r G u k/\Lo k0 G):=by
 unfold BF at hr;obtain⟨d,hd1,hr⟩:=bind_some hr;obtain⟨rg,hr1,hr⟩:=bind_some hr;obtain rfl:=ae hr;refine Ret.ofC ?_;refine cO Tryz.func17 rfl Tryz.ntmps17 (show 1<=24 by decide) λa k hk0 hs hd ha=>?_;obtain⟨e0,_⟩:=ha;have i0:Is (aw b) (a.get 0) k:=e0;have hg:Chg noF k0 k:=by rw[hk0];exact Chg.refl _ k0
 replace C:CnO c b dv pv rv F k:=by rw[hk0];exact C
 have hQ:Gb.LetsOut (bodyPost Tryz.prog Tryz.f17 (cr noF k0 λu k=>∃G,CnS {c with dist:=d,reg:=rg} G u k/\Lo k0 G)):=ch;clear e0;refine aK 1 (⟨some (Is (.pointer none)),[]⟩::[]) rfl ⟨hg,hs,hd⟩ (by kernel_rfl) ⟨ob1 rfl λ _ _ h n=>aQ rfl rfl,trivial⟩ [⟨_,_⟩,⟨0,λ _ k=>CnO c b dv pv rv F k⟩] (λb' q p=>⟨p.ke 0 rfl i0,C.grow p.grow,trivial⟩) ?_;clear i0 C hg hs hd;rintro a0 k ⟨⟨hg,hs,hd⟩,i0,C,_⟩;replace C:CnO c b dv pv rv F k:=C;refine wp_seq ?_;refine cut (λa' k'=>∃G,Bs noF k0 24 a' k'/\CnS {c with dist:=d,reg:=rg} G (a'.get 2) k'/\Lo k0 G) ?_ hQ ?_
 .intro Q1 W1 w1;refine Hc (F0:=noF) [⟨dF (Is (aw b)),3,[(0,none)],[]⟩,⟨dF (Is (aw b)),4,[(3,some 0)],[]⟩,⟨dF (cw b 0),5,[(4,some 1)],[]⟩,⟨dF (Is (.int .i64 c.num)),6,[(5,some 2)],[]⟩,⟨dF (Is (aw b)),7,[(0,none)],[]⟩,⟨dF (Is (aw b)),8,[(7,some 4)],[]⟩,⟨dF (cw b 1),9,[(8,some 5)],[]⟩,⟨dF (Is dv),10,[(9,some 6)],[]⟩,⟨dF (IsV d),11,[(10,some 7)],[]⟩,⟨dF (Is (aw b)),12,[(0,none)],[]⟩,⟨dF (Is (aw b)),13,[(12,some 9)],[]⟩,⟨dF (cw b 2),14,[(13,some 10)],[]⟩,⟨dF (Is pv),15,[(14,some 11)],[]⟩,⟨mI c.dc,16,[(15,some 12)],[]⟩,⟨dF (Is (aw b)),17,[(0,none)],[]⟩,⟨dF (Is (aw b)),18,[(17,some 14)],[]⟩,⟨dF (cw b 3),19,[(18,some 15)],[]⟩,⟨dF (Is rv),20,[(19,some 16)],[]⟩,⟨HU 54 rg,21,[(20,some 17)],[]⟩,⟨R4 c.num d c.dc rg,22,[(6,some 3),(11,some 8)],[13,18]⟩,⟨CnS {c with dist:=d,reg:=rg},23,[],[19]⟩,⟨CnS {c with dist:=d,reg:=rg},2,[],[20]⟩,⟨dF (Is (aw b)),0,[],[]⟩] lS hs (by kernel_rfl) ?_ W1 ⟨dF (Is (aw b)),0,[],[]⟩ rfl (wy λh _ _=>h) ⟨rfl,i0⟩ λFs a' k' p=>?_
  .intro i o e ho he;rcases i with _|_|_|_|_|_|_|_|_|_|_|_|_|_|_|_|_|_|_|_|_|_|i;·obtain rfl:=ae ho;obtain rfl:=ae he;exact cF rfl (by rw[hs];decide) λa k1 hch n=>du rfl (show a.get 0=_ by rw[n.1];exact i0)
   ·obtain rfl:=ae ho;obtain rfl:=ae he;exact cF rfl (by rw[hs];decide) λa k1 hch n=>by obtain⟨_,_,h1⟩:=n.1;exact aO rfl ⟨_,h1⟩ h1
   ·obtain rfl:=ae ho;obtain rfl:=ae he;exact cF rfl (by rw[hs];decide) λa k1 hch n=>by obtain⟨_,_,h1⟩:=n.1;exact aV rfl EU h1
   ·obtain rfl:=ae ho;obtain rfl:=ae he;exact cF rfl (by rw[hs];decide) λa k1 hch n=>by obtain⟨_,_,h1⟩:=n.1;exact bV rfl MF h1 (C.grow hch.grow).box rfl
   ·obtain rfl:=ae ho;obtain rfl:=ae he;exact cF rfl (by rw[hs];decide) λa k1 hch n=>du rfl (show a.get 0=_ by rw[n.1];exact i0)
   ·obtain rfl:=ae ho;obtain rfl:=ae he;exact cF rfl (by rw[hs];decide) λa k1 hch n=>by obtain⟨_,_,h1⟩:=n.1;exact aO rfl ⟨_,h1⟩ h1
   ·obtain rfl:=ae ho;obtain rfl:=ae he;exact cF rfl (by rw[hs];decide) λa k1 hch n=>by obtain⟨_,_,h1⟩:=n.1;exact aV rfl Qt h1
   ·obtain rfl:=ae ho;obtain rfl:=ae he;exact cF rfl (by rw[hs];decide) λa k1 hch n=>by obtain⟨_,_,h1⟩:=n.1;exact bV rfl UB h1 (C.grow hch.grow).box rfl
   ·obtain rfl:=ae ho;obtain rfl:=ae he;exact cF rfl (by rw[hs];decide) λa k1 hch n=>by obtain⟨_,_,h1⟩:=n.1;exact bU rfl Tryz.call29 (jW (show IsV c.dist (a.get 10) k1 by rw[show a.get 10=dv from h1];exact aZ.mono hch.grow C.od) hd1)
   ·obtain rfl:=ae ho;obtain rfl:=ae he;exact cF rfl (by rw[hs];decide) λa k1 hch n=>du rfl (show a.get 0=_ by rw[n.1];exact i0)
   ·obtain rfl:=ae ho;obtain rfl:=ae he;exact cF rfl (by rw[hs];decide) λa k1 hch n=>by obtain⟨_,_,h1⟩:=n.1;exact aO rfl ⟨_,h1⟩ h1
   ·obtain rfl:=ae ho;obtain rfl:=ae he;exact cF rfl (by rw[hs];decide) λa k1 hch n=>by obtain⟨_,_,h1⟩:=n.1;exact aV rfl zX h1
   ·obtain rfl:=ae ho;obtain rfl:=ae he;exact cF rfl (by rw[hs];decide) λa k1 hch n=>by obtain⟨_,_,h1⟩:=n.1;exact bV rfl J3 h1 (C.grow hch.grow).box rfl
   ·obtain rfl:=ae ho;obtain rfl:=ae he;exact xM rfl (by rw[hs];decide) λa k1 G hch n htk=>by
     obtain⟨_,_,h1⟩:=n.1;have hcall:Calls Tryz.prog 58 #[a.get 15] k1.w (Ret k1 λu k=>∃G,mI c.dc G u k/\Lo k1 G):=by rw[show a.get 15=pv from h1];exact No (C.grow hch.grow).dk
     exact cu (bU (as_:=[.tmp 15]) rfl Tryz.call58 hcall) λv k' _ ⟨G,hD,hL⟩=>⟨G,hD,λi hi=> .inr (hL i hi)⟩
   ·obtain rfl:=ae ho;obtain rfl:=ae he;exact cF rfl (by rw[hs];decide) λa k1 hch n=>du rfl (show a.get 0=_ by rw[n.1];exact i0)
   ·obtain rfl:=ae ho;obtain rfl:=ae he;exact cF rfl (by rw[hs];decide) λa k1 hch n=>by obtain⟨_,_,h1⟩:=n.1;exact aO rfl ⟨_,h1⟩ h1
   ·obtain rfl:=ae ho;obtain rfl:=ae he;exact cF rfl (by rw[hs];decide) λa k1 hch n=>by obtain⟨_,_,h1⟩:=n.1;exact aV rfl oR h1
   ·obtain rfl:=ae ho;obtain rfl:=ae he;exact cF rfl (by rw[hs];decide) λa k1 hch n=>by obtain⟨_,_,h1⟩:=n.1;exact bV rfl zz h1 (C.grow hch.grow).box rfl
   ·obtain rfl:=ae ho;obtain rfl:=ae he;exact xM rfl (by rw[hs];decide) λa k1 G hch n htk=>by
     obtain⟨_,_,h1⟩:=n.1;have hcall:Calls Tryz.prog 33 #[a.get 20] k1.w (Ret k1 λv k=>ah 0 54 rg v k/\∀b,obF v b->k1.w.heap.size<=b):=by rw[show a.get 20=rv from h1];exact Pf (C.grow hch.grow).rg hr1
     exact cu (bU (as_:=[.tmp 20]) rfl Tryz.call33 hcall) λv k' _ ⟨hO,hL⟩=>⟨obF v,⟨rfl,hO⟩,λi hi=> .inr (hL i hi)⟩
   ·obtain rfl:=ae ho;obtain rfl:=ae he;exact xM rfl (by rw[hs];decide) λa k1 G hch n htk=>by
     obtain⟨⟨_,_,h1⟩,⟨_,_,h2⟩,_⟩:=n;obtain⟨F1,H1,hD,⟨F2,H2,hO,e2,_,e3⟩,hap,e1⟩:=htk;have hD:mI c.dc F1 (a.get 16) k1:=hD;have hO:F2=obF (a.get 21)/\ah 0 54 rg (a.get 21) k1:=hO;have e2:H2=noF:=e2;have hap:bj F1 H1:=hap (by decide);obtain⟨w,hw,hi⟩:=VC (n:=c.num) (show a.get 6=_ from h1) (show IsV d (a.get 11) k1 from h2) (show∃b,a.get 16=aw b by obtain⟨d',⟨b,bl,bt,hh,T,e,_⟩,_⟩:=hD;exact⟨_,e⟩) hO.2;have eG:G=λi=>F1 i∨obF (a.get 21) i:=by rw[e1,e3,e2,hO.1];funext i;simp[noF]
     have hap:bj F1 (obF (a.get 21)):=λi h h'=>hap i h (by rw[e3,hO.1];exact .inl h');exact cu (fF (ps:=[(0, .tmp 6),(1, .tmp 11),(2, .tmp 16),(3, .tmp 21)]) (x:=(⟨fP ⟨c.num,d,c.dc,rg⟩ (a.get 11) (a.get 16) (a.get 21)⟩:dt 4)) rfl ⟨w,hw,hi⟩) λv k' hg hv=>⟨G,⟨a.get 11,a.get 16,a.get 21,F1,hv,aZ.mono hg h2,Rsc.grow hD hg,aZ.mono hg hO.2,hap,eG⟩,λi hi=> .inl hi⟩
   ·obtain rfl:=ae ho;obtain rfl:=ae he;exact xM rfl (by rw[hs];decide) λa k1 G hch n htk=>by obtain⟨dv',pv',rv',G',hv,h1,h2,h3,h4,eF⟩:=(show R4 c.num d c.dc rg G (a.get 22) k1 from AD htk rfl);exact cu (AX (x:=(⟨fP ⟨c.num,d,c.dc,rg⟩ dv' pv' rv'⟩:dt 4)) k1.w.heap.size (aA _) rfl (show IsV _ (a.eval (.tmp 22)) k1 from hv)) λv k' hg ⟨b',e1,hb,hB⟩=>⟨CFP b' rv' G',⟨b',dv',pv',rv',G',e1,⟨hB,aZ.mono hg h1,Rsc.grow h2 hg,aZ.mono hg h3,λh=>by have:=Rsc.lt h2 b' h;omega,λh=>by have:=h3.ltF b' h;omega,h4⟩,rfl⟩,λi hi=>by
 rw[eF];rcases hi with rfl|hi|hi;.exact .inr hb
 .exact .inl (.inl hi)
 .exact .inl (.inr hi)⟩
   ·obtain rfl:=ae ho;obtain rfl:=ae he;exact xM rfl (by rw[hs];decide) λa k1 G hch n htk=>cu (aQ (R:=λv k=>CnS {c with dist:=d,reg:=rg} G v k) rfl (show CnS {c with dist:=d,reg:=rg} G (a.eval (.tmp 23)) k1 from AD htk rfl)) λv k' hg hv=>⟨G,hv,λi hi=> .inl hi⟩
   .cases ho
  ·have h2:=p.out 21 _ rfl rfl;exact w1 _ _ ⟨Fs 21,⟨hg.step p.chg (λi hi=> .inl hi),p.size.trans hs,p.defers.trans hd⟩,h2,λi hi=>bB hg.size ((p.own 21 i hi).1.resolve_left λf=>f.elim)⟩
 clear hg hs hd i0 C;rintro a k ⟨G,⟨hg,hs,hd⟩,i2,hL⟩;refine wp_ret ?_;exact cZ rfl hd hg (show gg _ _ _ (.tmp 2) (λu k=>∃G,CnS {c with dist:=d,reg:=rg} G u k/\Lo k0 G)from⟨G,i2,hL⟩)
def VV:FkR tbg Tryz.prog:=⟨17,⟨[.tu], .c 0, .n, .c 0,[],Option CC×Option CC,λr=>(r.1,r.2,()),λ _ (y:Option CC) _=>y.bind λc=>(BF c).bind λd=>some (some c,some d)⟩,⟨Tryz.call17,λk0 vs u1 u2 x y z q hG hi hy hz hap hr=>by
 obtain⟨c,hyc,hr⟩:=bind_some (show Option.bind (y:Option CC) _=some q from hr);obtain⟨d,hd,hr⟩:=bind_some hr;obtain rfl:=ae hr;obtain⟨vs0,rfl,h1⟩:=hi.tu;obtain rfl:=h1.nil;obtain⟨F,hF⟩:=hy;have e1:=iB (T:=tbg) (m:=0) hF;rw[hyc]at hF;have hF0:CnS c F u1 k0:=hF;obtain⟨b,dv,pv,rv,F0,rfl,C,eF⟩:=hF0;refine zm (LX C hd) λv k' g ⟨G,hD,hL⟩=>?_;have hF1:CnS c F (aw b) k':=⟨b,dv,pv,rv,F0,rfl,C.grow g,eF⟩;have e2:=iB (T:=tbg) (m:=0) (x:=some c) (F:=F) (v:=aw b) (k:=k') hF1;have e3:=iB (T:=tbg) (m:=0) (x:=some d) (F:=G) (v:=v) (k:=k') hD;refine⟨⟨F,hF1⟩,⟨G,hD⟩,λi hi hi'=>?_,λi hi=>?_,λi hi=>?_⟩;·have hi:Rk.fp tbg (.c 0) (aw b) k' i:=hi;have hi':Rk.fp tbg (.c 0) v k' i:=hi';rw[e2]at hi;rw[e3]at hi';have:=(C.lt i (by rw[eF]at hi;exact hi)).1;have:=hL i hi';omega
 ·have hi:Rk.fp tbg (.c 0) (aw b) k' i:=hi;rw[e2]at hi;show(Rk.fp tbg (.c 0) (aw b) k0 i∨False)∨_;rw[e1];exact .inl (.inl hi)
 ·have hi:Rk.fp tbg (.c 0) v k' i:=hi;rw[e3]at hi;exact .inr (hL i hi)⟩⟩
def RC(y:Option CC):Option (Option CC×Option CC):=y.bind λc=>(BF c).bind λd=>some (some c,some d)
def EV(z:Option CC):Option (List aq):=z.bind λc=>bI c.reg
def cLs(z:Option DC):Option (List aG):=z.bind λc=>some c.L
def cDk(z:Option CC):Option Ptr:=z.bind λ _=>some (⟨none⟩:Ptr)
def dkO(z:Option CC):Option DC:=z.map λc=>c.dc
def zW(t_:aP)(rights_:List ai)(ops_:List fM)(s:Option CC×Int):Option (aY (Option CC×Int) Bool):=if decide (s.2<(ops_.length:Int))then(RC s.1).bind λd=>if d.2.isNone then some (.ret false)else(aL ops_ s.2).bind λo=>(yk d.1 t_ rights_ o.ai).bind λf=>(cDk f.1).bind λ_=>(cDk d.2).bind λ_=>(if f.2!=0 then(EV f.1).bind λr1=>(EV d.2).bind λr2=>(s8 r1 r2).bind λs1=>(if !s1 then some true else(cLs (dkO f.1)).bind λl1=>(cLs (dkO d.2)).bind λl2=>(jC l1 l2).bind λs2=>some (!s2)).bind λb=>some b else some false).bind λb=>if b then some (.ret false)else(if f.2==0 then(aL ops_ s.2).bind λo=>(gy o.ai).bind λlv=>(if !lv then some true else(EV f.1).bind λr1=>(EV d.2).bind λr2=>(tD (r2.length:Int) 1).bind λn=>some ((r1.length:Int)!=n)).bind λb=>some b else some false).bind λb=>if b then some (.ret false)else(tD s.2 1).bind λj=>some (.go (f.1,j))else some (.ex 0 s)
def xb(t_:aP)(r:List aq)(k:Int)(s:Int×Int):Option (aY (Int×Int) Bool):=if decide (s.2<(r.length:Int))then(aL r s.2).bind λf=>(aL t_.az.Caps k).bind λc=>(pG t_ [f.ai] c).bind λp=>if((p.Tops.length:Int)!=1)then some (.ret false)else(aL p.Tops 0).bind λx=>(tD s.1 x).bind λu=>(tD s.2 1).bind λj=>some (.go (u,j))else some (.ex 6 s)
def xG(t_:aP)(l_:List aG)(r:List aq)(i:Int)(s:Int×Int):Option (aY (Int×Int) Bool):=if decide (s.2<(t_.az.Caps.length:Int))then(aL t_.az.Caps s.2).bind λc=>(aL l_ i).bind λx=>if !(c.Name.toList==x.Cap.toList)then(tD s.2 1).bind λj=>some (.go (s.1,j))else(ar (xb t_ r s.2) (r.length+1) (s.1,0)).bind λf=>match f with| .go _=>none| .ret b=>some (.ret b)| .ex _ u=>(tD s.2 1).bind λj=>some (.go (u.1,j))else some (.ex 4 s)
def xt(t_:aP)(l_:List aG)(r:List aq)(now:List aG)(i:Int):Option (aY Int Bool):=if decide (i<(l_.length:Int))then(aL l_ i).bind λx=>(ar (xG t_ l_ r i) (t_.az.Caps.length+1) (x.Used,0)).bind λf=>match f with| .go _=>none| .ret b=>some (.ret b)| .ex _ u=>(aL now i).bind λy=>(aL l_ i).bind λx=>(if !(y.Cap.toList==x.Cap.toList)then some true else(aL now i).bind λy=>some (y.Used !=u.1)).bind λb=>(if b then some true else(aL now i).bind λy=>(aL l_ i).bind λx=>some (y.Held !=x.Held)).bind λb=>if b then some (.ret false)else(tD i 1).bind λj=>some (.go j)else some (.ex 2 i)
def eW(t_:aP)(rights_:List ai)(district_:List Int)(l_:List aG)(ops_:List fM):Option Bool:=(rE t_ rights_).bind λfw=>(if !fw then some true else(oE ops_).bind λsh=>some (!sh)).bind λno=>if((no||decide (5<(district_.length:Int)))||decide (3<(l_.length:Int)))then some true else(uN 0 district_ l_).bind λc=>if c.1.isNone then some (c.2==1)else(ar (zW t_ rights_ ops_) (ops_.length+1) (c.1,0)).bind λf=>match f with| .go _=>none| .ret b=>some b| .ex _ s=>(EV s.1).bind λr=>(cDk s.1).bind λ_=>(cLs (dkO s.1)).bind λnow=>if((now.length:Int)!=(l_.length:Int))then some false else(ar (xt t_ l_ r now) (l_.length+1) 0).bind λf=>match f with| .go _=>none| .ret b=>some b| .ex _ _=>some true
def k5:=mkC true 5 [.st 7, .list (.st 29), .list .int, .list (.st 32), .list (.st 35)] [.bool] (λx=>eW x.1 x.2.1 x.2.2.1 x.2.2.2.1 x.2.2.2.2) [k6,k7.lift glv giv gl0,k16.lift glv giv gl0,k19.lift glv giv gl0,k20.lift glv giv gl0,k22.lift glv giv gl0,k23.lift glv giv gl0] [kr8,S5,VV] [XR,VM,Wm] [12,15] Tryz.f5 (.s .n (.s .n (.s .n (.s .n (.s .n (.s (.s .n (.l [] [(12, .c 0),(14, .v .int)] [(0,[14],[])] (fL [4]) .n)) (.s .n (.s .n (.s .n (.s .n (.s .n (.s (.s .n (.l [] [(22, .v .int)] [(2,[22],[])] (fL [3]) (.s .n (.s (.s .n (.s (.s .n (.l [] [(23, .v .int),(24, .v .int)] [(4,[24],[])] (λe=>(gt e 5 (.rf (.st 7)):aP).az.Caps.length+1) (.s .n (.s (.s .n (.s .n (.l [] [(23, .v .int),(25, .v .int)] [(6,[25],[])] (fL [19]) .n))) .n)))) .n)) .n)))) .n)))))))))))) Tryz.func5 Tryz.call5 rfl rfl λx=>by kernel_rfl
end Go.Proofs.YtlckpjpbladknaaGreat
namespace Go.Proofs.YtlckpjpbladknaaGreat.Pl
open Go.Gb
set_option maxRecDepth 100000
theorem yK{κ β:Type}[DecidableEq κ]:∀(l:List (κ×β))(n m:κ)(v:β),bz (dQ l n v) m=if m=n then some v else bz l m
 |[],n,m,v=>by simp only[dQ,bz];|(a,u)::l,n,m,v=>by
  simp only[dQ];split
  · rename_i e;subst e;simp only[bz];by_cases h:m=n;.rw [if_pos h,if_pos h]
    .rw [if_neg h,if_neg h,if_neg h]
  · rename_i e;simp only[bz,yK l n m v];by_cases h:m=a;.subst h;rw[if_pos rfl,if_neg (λh=>e h.symm),if_pos rfl]
    .rw [if_neg h,if_neg h]
def wW(p:az)(r:ai)(cap:ByteArray)(l:List Cap):Int:=(l.map λc=>if c.Name=cap then top p c r else 0).sum
theorem JQ{p:az}{r:ai}(hp:nS p)(hr:RtS r)(cap:ByteArray):∀{l:List Cap},(∀c∈l,c.Corners.length<=12)->0<=wW p r cap l/\wW p r cap l<=43980465111040*(l.length:Int)
 |[],_=>by simp[wW];|c::l,h=>by
  have ih:=JQ hp hr cap (l:=l) λx hx=>h x (bR _ hx);have ht:=Bn hp (h c dw) hr;have e:wW p r cap (c::l)=(if c.Name=cap then top p c r else 0)+wW p r cap l:=by simp[wW]
  rw[e,eU];push_cast;split<;>omega
theorem FI{p:az}{r:ai}(hp:nS p)(hr:RtS r):∀(l:List Cap)(m:List (ByteArray×Int))(n:Nat),(∀c∈l,c.Corners.length<=12)->n+l.length<=1000->(∀cap,0<=(bz m cap).getD 0/\(bz m cap).getD 0<=43980465111040*(n:Int))->∀cap,(bz (l.foldl (λm c=>dQ m c.Name (IntKind.i64.wrap ((bz m c.Name).getD 0+top p c r))) m) cap).getD 0=(bz m cap).getD 0+wW p r cap l
 |[],m,n,_,_,_,cap=>by simp[wW];|c::l,m,n,h,hn,hm,cap=>by
  have ht:=Bn hp (h c dw) hr;have hc:=hm c.Name;simp only[eU]at hn;have hw:IntKind.i64.wrap ((bz m c.Name).getD 0+top p c r)=(bz m c.Name).getD 0+top p c r:=by rw[IntKind.wrap_i64];omega
  have e:wW p r cap (c::l)=(if c.Name=cap then top p c r else 0)+wW p r cap l:=by simp[wW]
  rw[iw,hw,FI hp hr l _ (n+1) (λx hx=>h x (bR _ hx)) (by omega) (λk=>?_) cap,yK,e]
  · by_cases e:cap=c.Name;.subst e;rw[if_pos rfl,if_pos rfl];simp only[eD];omega
    .rw[if_neg e,if_neg (λh=>e h.symm)];omega
  · rw[yK];have:=hm k;split;.simp only[eD];push_cast;omega
    .push_cast;omega
theorem Kh{t:aP}{r:ai}(ht:uA t)(hr:RtS r)(cap:ByteArray):(bz (ndm t r) cap).getD 0=wW t.az r cap t.az.Caps:=by have:=FI ht.plan hr t.az.Caps [] 0 ht.cap (by have:=ht.vX;omega) (λcap=>by simp[bz]) cap;exact(show(bz (ndm t r) cap).getD 0=_ from this).trans (by simp[bz])
theorem FG{g:aG->aG}(hg:∀x,(g x).Cap=x.Cap):∀(l:List aG)(cap:ByteArray),jT (l.map g) cap=(jT l cap).map g
 |[],_=>rfl|x::l,cap=>by
  simp only[cf,jT,hg];split;.rfl
  .exact FG hg l cap
def zU(f:ByteArray->Int)(dc:DC):DC:={dc with L:=dc.L.map λx=>{x with Used:=x.Used+f x.Cap}}
theorem Dk(dc:DC):zU (λ_=>0) dc=dc:=by
 unfold zU;have:(λx:aG=>({x with Used:=x.Used+0}:aG))=id:=by funext x;cases x;simp
 rw[this,List.map_id]
theorem Ll(f:ByteArray->Int)(dc:DC):(zU f dc).L.map (·.Cap)=dc.L.map (·.Cap):=by unfold zU;rw[dX];rfl
theorem Px{γ:Type}{m:List (ByteArray×γ)}{n:ByteArray}(h:¬n∈m.map (·.1)):bz m n=none:=by cases e:bz m n with|none=>rfl;|some v=>exact absurd (aM.2 ⟨_,rB e,rfl⟩) h
theorem JX{γ:Type}:∀{m:List (ByteArray×γ)}{p:ByteArray×γ},(m.map (·.1)).Nodup->p∈m->bz m p.1=some p.2
 |(n,v)::m,p,hn,hp=>by
  have hn':=gv.1 hn;simp only[bz];rcases bD.1 hp with rfl|hp;.rw[if_pos rfl]
  ·rw[if_neg λh=>hn'.1 (aM.2 ⟨p,hp,h⟩)];exact JX hn'.2 hp
theorem Pu{n:ByteArray}{v:Int}{dc:DC}(hL:(dc.L.map (·.Cap)).Nodup)(hI:∀x∈dc.L,0<=x.Used/\x.Held<=1099511627776)(h0:0<=v)(h1:v<=oA dc n):(if 0<v then(tZ dc n v).1 else dc)=zU (λcap=>if cap=n then v else 0) dc:=by
 by_cases hv:0<v;·rw[if_pos hv];unfold oA at h1;cases hx:jT dc.L n with|none=>rw[hx]at h1;dsimp only at h1;omega;|some x=>
  rw[hx]at h1;dsimp only at h1;obtain⟨hmem,hcap⟩:=mq hx;have:=hI x hmem;unfold tZ;rw[if_pos ⟨by omega,by omega⟩,hx];dsimp only;rw[if_neg (by omega)];unfold zU s6;dsimp only;congr 1;refine nH λy hy=>?_;by_cases e:y.Cap=n;·have h2:=J6 hL hy;rw[e,hx]at h2;obtain rfl:=ae h2;rw[if_pos e,if_pos e]
  .rw[if_neg e,if_neg e,Int.add_zero]
 · obtain rfl:v=0:=by omega
   rw[if_neg hv];have:(λcap:ByteArray=>if cap=n then(0:Int)else 0)=λ _=>0:=by funext c;split<;>rfl
   rw[this,Dk]
theorem CW:∀(m:List (ByteArray×Int))(dc:DC),(m.map (·.1)).Nodup->(dc.L.map (·.Cap)).Nodup->(∀x∈dc.L,0<=x.Used/\x.Held<=1099511627776)->(∀p∈m,0<=p.2/\p.2<=oA dc p.1)->dE dc m=zU (λcap=>(bz m cap).getD 0) dc
 |[],dc,_,_,_,_=>(Dk dc).symm|(n,v)::m,dc,hn,hL,hI,hm=>by
  have h1:=hm (n,v) dw;have hn':=gv.1 hn;have e:dE dc ((n,v)::m)=dE (if 0<v then(tZ dc n v).1 else dc) m:=rfl;rw[e,Pu hL hI h1.1 h1.2,CW m _ hn'.2 (by rw[Ll];exact hL) (λx hx=>?_) (λp hp=>⟨(hm p (bR _ hp)).1,?_⟩)]
  · unfold zU;dsimp only;rw[dX];congr 1;refine nH λx hx=>?_;simp only[Function.comp,bz];by_cases hc:x.Cap=n;·have hno:bz m x.Cap=none:=Px (by rw[hc];exact hn'.1);rw[if_pos hc,if_pos hc,hno];simp
    .rw[if_neg hc,if_neg hc];simp
  ·unfold zU at hx;obtain⟨y,hy,rfl⟩:=aM.1 hx;have:=hI y hy;dsimp only;split<;>omega
  · have h2:=(hm p (bR _ hp)).2;have hne:¬p.1=n:=λh=>hn'.1 (aM.2 ⟨p,hp,h⟩);have h3:oA (zU (λcap=>if cap=n then v else 0) dc) p.1=oA dc p.1:=by unfold oA zU;dsimp only;rw[FG (g:=λx=>{x with Used:=x.Used+if x.Cap=n then v else 0}) (λ _=>rfl)];cases hx:jT dc.L p.1 with|none=>rfl;|some x=>have:=(mq hx).2;simp only[dW];rw[if_neg (by rw[this];exact hne),Int.add_zero]
    rw[h3];exact h2
def pJ(t:aP)(rs:List ai)(cap:ByteArray):Int:=(t.az.Caps.map λk=>if k.Name=cap then eT t.az k rs else 0).sum
theorem Jl(t:aP)(cap:ByteArray):pJ t [] cap=0:=by unfold pJ;induction t.az.Caps with|nil=>rfl;|cons c l ih=>simp only[cf,px,ih];simp[eT]
theorem FR(t:aP)(rs:List ai)(r:ai)(cap:ByteArray):pJ t (rs++[r]) cap=pJ t rs cap+wW t.az r cap t.az.Caps:=by unfold pJ wW;generalize t.az.Caps=l;induction l with|nil=>rfl;|cons c l ih=>simp only[cf,px];rw[ih,Ds];split<;>omega
theorem LD{t:aP}(ht:uA t){rs:List ai}(h:∀r∈rs,RtS r)(cap:ByteArray):0<=pJ t rs cap:=by have hc:=ht.cap;unfold pJ;generalize t.az.Caps=l at hc;induction l with|nil=>simp;|cons c l ih=>have h1:=Af ht.plan (hc c dw) h;have h2:=ih λx hx=>hc x (bR _ hx);simp only[cf,px];split<;>omega
structure LsS (l:List aG):Prop where
 nd:(l.map (·.Cap)).Nodup
 bd:∀x∈l,0<=x.Used/\x.Used<=x.Held/\x.Held<=1099511627776
theorem Ox{n:Int}{l:List aG}{dc:DC}(h:(lT n l).1=some dc):dc.L=l/\LsS l:=by
 unfold lT at h;split at h
 · rename_i hg;obtain rfl:=ae h;refine⟨rfl,?_⟩;have hg:=bG.1 hg.2.2;have key:∀i (hi:i<l.length),(0<=l[i].Held/\l[i].Held<=1099511627776/\0<=l[i].Used/\l[i].Used<=l[i].Held)/\(0<i->∃h:i-1<l.length,bLt l[i-1].Cap l[i].Cap=true):=λi hi=>by
    have:=hg i (eH.2 hi);unfold tJ at this;rw[bZ hi]at this;simp only[aD,decide_eq_true_eq]at this;obtain⟨⟨⟨_,h1,h2⟩,h3,h4⟩,h5⟩:=this;refine⟨⟨h1,h2,h3,h4⟩,λh0=>⟨by omega,?_⟩⟩;rw[bZ (by omega)]at h5;rw[bT]at h5;rcases h5 with h5|h5;.simp at h5;omega
    .exact h5
   have so:∀i j (hi:i<l.length) (hj:j<l.length),i<j->bLt l[i].Cap l[j].Cap=true:=by intro i j;induction j with|zero=>intro _ _ h;omega;|succ j ih=>
    intro hi hj h;obtain⟨_,h1⟩:=(key (j+1) hj).2 (by omega);by_cases e:i=j;.subst e;exact h1
    .exact sd (ih hi (by omega) (by omega)) h1
   refine⟨yd (fK.2 λi j hi hj hij=>so i j hi hj hij),λx hx=>?_⟩;obtain⟨i,hi,rfl⟩:=br hx;have:=(key i hi).1;omega
 .simp at h
structure UsI (t:aP)(l:List aG)(c:CC)(n:Nat):Prop where
 cs:CtS c n
 num:c.num=0
 own:∀i (h:i<c.reg.length),c.reg[i].Counter=0/\c.reg[i].Number=(i:Int)+1L:c.dc.L=l.map λx=>{x with Used:=x.Used+pJ t (iY c) x.Cap}
theorem Ng:∀(reg:List aq),(∀f∈reg,f.Counter=0)->IZ 0 reg=reg.length+1:=by
 have key:∀(reg:List aq) (a:Int),(∀f∈reg,f.Counter=0)->reg.foldl (λn f=>if(f.Counter==0)=true then n+1 else n) a=a+reg.length:=by intro reg;induction reg with|nil=>intro a _;simp;|cons f l ih=>intro a h;rw[iw,if_pos (by simp[h f]),ih _ λx hx=>h x (bR _ hx),eU];push_cast;omega
 intro reg h;unfold IZ;rw[key reg 1 h];omega
theorem UsI.Uj{t:aP}{l:List aG}{c:CC}{n:Nat}{r:ai}(h:UsI t l c n)(ht:TwS t)(hl:LsS l)(hr:RtS r)(ho:si c.dc (ndm t r)=false):UsI t l (granted c t r) (n+1)/\(granted c t r).reg.length=c.reg.length+1:=by
 have hb:=ht.built;have hs:=ht.base;have hco:∀f∈c.reg,f.Counter=0:=λf hf=>by obtain⟨i,hi,rfl⟩:=br hf;exact(h.own i hi).1
 have hreg:tX c.reg ⟨c.num,IZ c.num c.reg,r⟩=c.reg++[⟨0,(c.reg.length:Int)+1,r⟩]:=by rw[h.num,Ng _ hco,ER (n:=c.reg.length) (aA _) (λi hi=>⟨λ _=>hi,λ _=>by rw[vJ];exact .inr ⟨(h.own i hi).1,by rw[(h.own i hi).2];dsimp only;omega⟩⟩) (λ ⟨y,hy,e⟩=>by obtain⟨i,hi,rfl⟩:=br hy;rw[Ah,(h.own i hi).2]at e;have:=e.2;dsimp only at this;omega),cQ,List.drop_length,mn]
 have hgr:(granted c t r).reg=c.reg++[⟨0,(c.reg.length:Int)+1,r⟩]:=hreg;have hrr:iY (granted c t r)=iY c++[r]:=by unfold iY;rw[hgr];simp
 have hdc:(granted c t r).dc=dE c.dc (ndm t r):=rfl;have hlen:=h.cs.len;have hrt:∀x∈iY c,RtS x:=λx hx=>by obtain⟨f,hf,rfl⟩:=aM.1 hx;exact h.cs.rts f hf
 have hm:=B1 ht.town (by omega) (by omega) hr;refine⟨⟨⟨h.cs.asc,h.cs.dl,by rw[show(granted c t r).reg=tX _ _ from rfl];exact Gy h.cs.reg,λf hf=>?_,by rw[hgr];simp;omega⟩,h.num,λi hi=>?_,?_⟩,by rw[hgr];simp⟩
 · rw[hgr]at hf;rcases dq.1 hf with hf|hf;.exact h.cs.rts f hf
   .obtain rfl:=eR.1 hf;exact hr
 · simp only[hgr]at hi⊢;by_cases e:i<c.reg.length;.rw[yY e];exact h.own i e
   · have:i=c.reg.length:=by simp at hi;omega
     subst this;rw[List.getElem_append_right (by omega)];simp
 · rw[hdc,CW _ _ (uE hm) (by rw[h.L,dX];exact hl.nd) (λx hx=>?_) (λp hp=>⟨?_,?_⟩)];·unfold zU;dsimp only;rw[h.L,dX,hrr];refine nH λx _=>?_;simp only[Function.comp];rw[Kh ht.town hr,FR,Int.add_assoc]
   ·rw[h.L]at hx;obtain⟨y,hy,rfl⟩:=aM.1 hx;have h1:=LD ht.town hrt y.Cap;have h2:=hl.bd y hy;dsimp only;omega
   ·have h1:=JX (uE hm) hp;have h2:=Kh ht.town hr p.1;rw[h1]at h2;rw[show p.2=_ from h2];exact(JQ ht.town.plan hr p.1 ht.town.cap).1
   ·have:=vN.1 ho p hp;simpa using this
theorem NW{t:aP}{reg:List aq}{k:Nat}(ht:TwS t)(hr:Nl reg)(hl:reg.length<=100)(hk:k<t.az.Caps.length){u:Int}(h0:0<=u)(h1:u<=1000000000000000000):∃j,ar (xb t reg (k:Int)) (reg.length+1) (u,0)=some (.ex 6 (u+eT t.az t.az.Caps[k] (reg.map (·.ai)),j)):=by
 have hb:=ht.built;have hs:=ht.base;have hcl:=ht.town.cap _ (aN hk);have key:=dz (l:=reg) (body:=xb t reg (k:Int)) (k:=6) (λ (u:Int) i=>(u,i)) (λu f=>u+top t.az t.az.Caps[k] f.ai) (λi v=>u<=v/\v<=u+43980465111040*(i:Int)) (λi hi v hI=>by have hq:RtS reg[i].ai:=hr _ (aN hi);have htb:=Bn ht.town.plan hcl hq;unfold xb;dsimp only;rw[if_pos (by simpa using hi),af hi,qb,af hk,qb,EJ ht.town.plan hcl (by omega) (by omega) (by simp) (by simpa using hq),qb];dsimp only[List.map_cons,List.map_nil,List.length_cons,List.length_nil];rw[if_neg (by simp),show(0:Int)=((0:Nat):Int)from rfl,af (by simp),qb];simp only[cf,ir,List.getElem_cons_zero];rw[show tD v (top t.az t.az.Caps[k] reg[i].ai)=some (v+top t.az t.az.Caps[k] reg[i].ai)by unfold tD;rw[IntKind.wrap_i64];exact congrArg some (by omega),qb,ma (by omega),qb];exact⟨rfl,by omega,by push_cast;omega⟩) (λv _=>by unfold xb;rw[if_neg (by simp)]) (s0:=u) ⟨by omega,by omega⟩ (fuel:=reg.length+1) (by omega);have hf:∀(l:List aq) (u:Int),l.foldl (λu f=>u+top t.az t.az.Caps[k] f.ai) u=u+eT t.az t.az.Caps[k] (l.map (·.ai)):=by intro l;induction l with|nil=>intro u;simp[eT];|cons f l ih=>intro u;rw[iw,ih];simp only[cf,eT,px];omega
 exact⟨(reg.length:Int),by rw[key.1,hf]⟩
theorem O0{t:aP}{l:List aG}{reg:List aq}{i:Nat}(ht:TwS t)(hc:t.az.Caps.length<=2)(hr:Nl reg)(hl:reg.length<=100)(hi:i<l.length){u:Int}(h0:0<=u)(h1:u<=1099511627776):∃j,ar (xG t l reg (i:Int)) (t.az.Caps.length+1) (u,0)=some (.ex 4 (u+pJ t (reg.map (·.ai)) l[i].Cap,j)):=by
  have hrt:∀r∈reg.map (·.ai),RtS r:=λr h=>by obtain⟨f,hf,rfl⟩:=aM.1 h;exact hr f hf
  have key:=dz (l:=t.az.Caps) (body:=xG t l reg (i:Int)) (k:=4) (λ (u:Int) i=>(u,i)) (λu c=>if c.Name=l[i].Cap then u+eT t.az c (reg.map (·.ai))else u) (λk v=>u<=v/\v<=u+4398046511104000*(k:Int)) (λk hk v hI=>by
 have htb:=Af ht.town.plan (ht.town.cap _ (aN hk)) hrt;rw[jv]at htb;unfold xG;dsimp only;rw[if_pos (by simpa using hk),af hk,qb,af hi,qb,BL];by_cases e:t.az.Caps[k].Name=l[i].Cap;·obtain⟨j,hj⟩:=NW (u:=v) ht hr hl hk (by omega) (by omega);rw[if_neg (by simp[e]),hj,qb,if_pos e];dsimp only;rw[ma (by omega),qb];exact⟨rfl,by omega,by push_cast;omega⟩
 ·rw[if_pos (by simp[e]),if_neg e,ma (by omega),qb];exact⟨rfl,by omega,by push_cast;omega⟩) (λv _=>by unfold xG;rw[if_neg (by simp)]) (s0:=u) ⟨by omega,by omega⟩ (fuel:=t.az.Caps.length+1) (by omega);have hf:∀(cs:List Cap) (u:Int),cs.foldl (λu c=>if c.Name=l[i].Cap then u+eT t.az c (reg.map (·.ai))else u) u=u+(cs.map λk=>if k.Name=l[i].Cap then eT t.az k (reg.map (·.ai))else 0).sum:=by intro cs;induction cs with|nil=>intro u;simp;|cons c cs ih=>intro u;rw[iw,ih];simp only[cf,px];split<;>omega
  refine⟨(t.az.Caps.length:Int),key.1.trans ?_⟩;rw[hf];rfl
theorem NQ{t:aP}{l:List aG}{c:CC}{n:Nat}(ht:TwS t)(hc:t.az.Caps.length<=2)(hu:UsI t l c n)(hn:n<=100)(hl:LsS l)(hll:l.length<=1000):∃s,ar (xt t l c.reg c.dc.L) (l.length+1) 0=some (.ex 2 s):=by have hlen:=hu.cs.len;have key:=dz (l:=l) (body:=xt t l c.reg c.dc.L) (k:=2) (λ (_:Unit) i=>i) (λu _=>u) (λ _ _=>True) (λi hi _ _=>by
 have hb:=hl.bd _ (aN hi);obtain⟨j,hj⟩:=O0 (l:=l) (i:=i) ht hc hu.cs.rts (by omega) hi hb.1 (by omega);have hi':i<c.dc.L.length:=by rw[hu.L];simpa using hi
 have e:c.dc.L[i]={l[i]with Used:=l[i].Used+pJ t (iY c) l[i].Cap}:=by simp only[hu.L,vy]
 unfold xt;rw[if_pos (by simpa using hi),af hi,qb,hj,qb];dsimp only;rw[af hi',qb,e,qb,BL];dsimp only;rw[if_neg (by simp),qb,qb,if_neg (by simp[iY]),qb,qb,qb];dsimp only;rw[if_neg (by simp),ma (by omega),qb];exact⟨rfl,trivial⟩) (λ _ _=>by unfold xt;rw[if_neg (by simp)]) (s0:=()) trivial (fuel:=l.length+1) (by omega);exact⟨_,key.1⟩
theorem UsI.mono{t:aP}{l:List aG}{c:CC}{n m:Nat}(h:UsI t l c n)(hn:n<=m):UsI t l c m:=⟨h.cs.mono hn,h.num,h.own,h.L⟩
theorem PV{t:aP}{r:ai}(h:Lg t r=true):liv r=true:=by cases hl:liv r with|true=>rfl;|false=>exfalso;have hL:gy r=some false:=(show gy r=some (liv r)from rfl).trans (by rw[hl]);unfold Lg fm at h;cases hq:qF t.Land r.ax.Lot with|none=>rw[hq]at h;simp at h;|some q=>rw[hq,qb,hL,qb]at h;simp at h
theorem HW{t:aP}{l:List aG}{c:CC}{n:Nat}{rights:List ai}{r:ai}(h:UsI t l c n)(hn:rights.length+n+1<=20)(ht:TwS t)(hl:LsS l)(hr:RtS r)(hrs:∀x∈rights,RtS x):∃c' e,yk (some c) t rights r=some (some c',e)/\UsI t l c' (n+1)/\((e≠0/\c'=c)∨(e=0/\liv r=true/\c'.reg.length=c.reg.length+1)):=by have hlen:=h.cs.len;have no:∀e:Int,e≠0->∃c' e',(some (some c,e):Option (Option CC×Int))=some (some c',e')/\UsI t l c' (n+1)/\((e'≠0/\c'=c)∨(e'=0/\liv r=true/\c'.reg.length=c.reg.length+1)):=λe he=>⟨c,e,rfl,h.mono (gN n), .inl ⟨he,rfl⟩⟩;rw[F3,Ma (h.cs.mono (by omega)) ht hr hrs (by omega),qb];cases hf:Lg t r with|false=>exact no 1 (by decide);|true=>rw[if_pos rfl];cases Pw c.dist t r with|true=>exact no 27 (by decide);|false=>rw[if_neg (by simp)];cases idB (rights++iY c) r with|true=>exact no 5 (by decide);|false=>rw[if_neg (by simp)];cases HG t (rights++iY c++[r])with|false=>exact no 21 (by decide);|true=>rw[if_pos rfl];cases ho:si c.dc (ndm t r)with|true=>exact no 26 (by decide);|false=>rw[if_neg (by simp)];obtain⟨g1,g2⟩:=h.Uj ht hl hr ho;exact⟨_,0,rfl,g1, .inr ⟨rfl,PV hf,g2⟩⟩
theorem OX{c:CC}{n:Nat}(h:CtS c n)(hn:n<=1000):BF c=some c:=by have h1:=h.dl;have h2:=h.len;unfold BF dZ;rw[eJ (by omega),qb,qb,sF h.rts (by omega),qb]
theorem Io{l:List aq}(h:Nl l)(hl:l.length<=1000):s8 l l=some true:=by
 unfold s8;rw[if_neg (by simp)];refine mM (λi (s:Int)=>s=((i:Nat):Int)) l.length (.=some true) (λi s hi hs=>?_) (λs hs=>?_) rfl (by omega);·subst hs;unfold qL;have hq:RtS l[i].ai:=h _ (aN hi);rw[if_pos (by simpa using hi),af hi,qb,qb,if_neg (by simp),qb,qb,qb,if_neg (by simp),qb,qb,OV hq hq,qb,qb,if_neg (by simp),an (by omega)];exact .inl ⟨_,rfl,rfl⟩
 ·subst hs;unfold qL;rw[if_neg (by simp)];exact⟨_,rfl,trivial,rfl⟩
theorem I4{l:List aG}(hl:l.length<=1000):jC l l=some true:=by
 unfold jC;rw[if_neg (by simp)];refine mM (λi (s:Int)=>s=((i:Nat):Int)) l.length (.=some true) (λi s hi hs=>?_) (λs hs=>?_) rfl (by omega);·subst hs;unfold kc;rw[if_pos (by simpa using hi),af hi,qb,qb,if_neg (by simp),an (by omega)];exact .inl ⟨_,rfl,rfl⟩
 ·subst hs;unfold kc;rw[if_neg (by simp)];exact⟨_,rfl,trivial,rfl⟩
theorem Pb{ops:List fM}:∃b,oE ops=some b/\(b=true->ops.length<=12/\∀o∈ops,RtS o.ai):=by
 unfold oE;refine Ic (l:=ops) (Q:=λo=>∃b,o=some b/\(b=true->ops.length<=12/\∀o∈ops,RtS o.ai)) (λo=>RtS o.ai) 13 0 (by omega) (λi hi hn=>?_) (by unfold p6;rw[if_neg (by simp;omega)]) (λh s=>?_) ⟨_,rfl,λh=>by simp at h⟩;·unfold p6;obtain⟨b,hb,hR⟩:=wm (r:=ops[i].ai);rw[if_pos (by simp;omega),af hi,qb,hb,qb];cases b with|false=>rw[if_pos (by simp),qb,if_pos rfl];exact .inr rfl;|true=>
  rw[if_neg (by simp),qb,qb];by_cases h4:ops[i].Filings.length<=4
  · rw[if_neg (by simp;omega)];obtain⟨f,h1,h2⟩:∃f,ar (jd ops (i:Int)) 5 0=some f/\((∃s,f= .ex 2 s)∨f= .ret false):=by obtain⟨f,h1,_,h3⟩:=cH (body:=jd ops (i:Int)) (λj s=>s=((j:Nat):Int)) ops[i].Filings.length (λf=>(∃s,f= .ex 2 s)∨f= .ret false) (λj s hj hs=>by subst hs;unfold jd;obtain⟨b,hb,_⟩:=wm (r:=ops[i].Filings[j].ai);rw[af hi,qb,if_pos (by simpa using hj),qb,af hj,qb,hb,qb];cases b with|false=>exact .inr ⟨_,rfl,trivial, .inr rfl⟩;|true=>rw[if_neg (by simp),an (by omega)];exact .inl ⟨_,rfl,rfl⟩) (λs hs=>by subst hs;unfold jd;rw[af hi,qb,if_neg (by simp)];exact⟨_,rfl,trivial, .inl ⟨_,rfl⟩⟩) 0 rfl 5 (by omega);exact⟨f,h1,h3⟩
    rw[h1,qb];rcases h2 with⟨s,rfl⟩|rfl;.dsimp only;rw[an (by omega)];exact .inl ⟨hR rfl,rfl⟩
    .exact .inr rfl
  .rw[if_pos (by simp;omega)];exact .inr rfl
 ·refine⟨_,rfl,λhb=>?_⟩;simp at hb;exact⟨by omega,h (by omega)⟩
theorem zI(t:aP)(rights:List ai)(d:List Int)(l:List aG)(ops:List fM):eW t rights d l ops=some true:=by
 unfold eW;obtain⟨b,hb,hF⟩:=Ua (t:=t) (rights:=rights);obtain⟨s,hs,hS⟩:=Pb (ops:=ops);have hno:(if(!b)=true then some true else(oE ops).bind λsh=>some (!sh))=some (!(b&&s)):=by rw[hs,qb];cases b<;>rfl
 rw[hb,qb,hno,qb];by_cases h:((!(b&&s)||decide (5<(d.length:Int)))||decide (3<(l.length:Int)))=true;.rw[if_pos h]
 rw[if_neg h];simp only[bT,cN,decide_eq_true_eq,not_or,vf,aD]at h;obtain⟨⟨⟨rfl,rfl⟩,h5⟩,h3⟩:=h;have hF:=hF rfl;obtain⟨ho,hor⟩:=hS rfl;have ht:=hF.tw;have hc2:=hF.vX;have hrl:=hF.len;rcases Ld (n:=0) (d:=d) (l:=l) (by omega)with e|⟨dc,e,hdc,hasc,_⟩;.rw[e,qb];rfl
 rw[e,qb];dsimp only;rw[if_neg (by simp)];obtain⟨hL,hls⟩:=Ox hdc;have c0:UsI t l ⟨0,d,dc,[]⟩ 0:=⟨⟨hasc,by dsimp only;omega, .nil,λf hf=>by simp at hf,aA _⟩,rfl,λi h=>by simp at h,by
 show dc.L=_;have:(λx:aG=>({x with Used:=x.Used+pJ t (iY ⟨0,d,dc,[]⟩) x.Cap}:aG))=id:=by funext x;rw[show iY ⟨0,d,dc,[]⟩=[]from rfl,Jl];cases x;simp
 rw[this,List.map_id];exact hL⟩;obtain⟨f,h1,_,h4⟩:=cH (body:=zW t rights ops) (λi s=>s.2=((i:Nat):Int)/\∃c,s.1=some c/\UsI t l c i) ops.length (λf=>∃c j,f= .ex 0 (some c,j)/\UsI t l c ops.length) (λi s hi ⟨hs,c,hc,hu⟩=>by
 obtain⟨s1,s2⟩:=s;dsimp only at hs hc;subst hs hc;have hq:=hor _ (aN hi);obtain⟨c',e',g1,g2,g3⟩:=HW (rights:=rights) hu (by omega) ht hls hq hF.rts;have hl1:=hu.cs.len;have hl2:=g2.cs.len;have hf1:bI c.reg=some c.reg:=sF hu.cs.rts (by omega);have hf2:bI c'.reg=some c'.reg:=sF g2.cs.rts (by omega);have hcl:c.dc.L.length<=1000:=by rw[hu.L,jv];omega
 refine .inl ⟨(some c',((i+1:Nat):Int)),?_,rfl,c',rfl,g2⟩;unfold zW;dsimp only;rw[if_pos (by simpa using hi),show RC (some c)=(BF c).bind λd=>some (some c,some d)from rfl,OX hu.cs (by omega),qb,qb];dsimp only;rw[if_neg (by simp),af hi,qb,g1,qb];dsimp only;rw[show cDk (some c')=some ⟨none⟩from rfl,qb,show cDk (some c)=some ⟨none⟩from rfl,qb];rcases g3 with⟨g3,rfl⟩|⟨rfl,g4,g5⟩
 · have k1:(e' !=0)=true:=by simpa using g3
   have k2:(e'==0)=false:=by simpa using g3
   rw[if_pos k1,show EV (some c')=bI c'.reg from rfl,hf2,qb,qb,Io g2.cs.rts (by omega),qb,if_neg (by simp),show cLs (dkO (some c'))=some c'.dc.L from rfl,qb,qb,I4 hcl,qb,qb,qb,if_neg (by simp),if_neg (by rw[k2];simp),qb,if_neg (by simp),ma (by omega),qb]
 .rw[if_neg (by simp),qb,if_neg (by simp),if_pos (by simp),qb,show gy ops[i].ai=some (liv ops[i].ai)from rfl,g4,qb,if_neg (by simp),show EV (some c')=bI c'.reg from rfl,hf2,qb,show EV (some c)=bI c.reg from rfl,hf1,qb,ma (by omega),qb,qb,qb,if_neg (by rw[g5];simp),ma (by omega),qb]) (λs ⟨hs,c,hc,hu⟩=>by obtain⟨s1,s2⟩:=s;dsimp only at hs hc;subst hs hc;unfold zW;rw[if_neg (by simp)];exact⟨_,rfl,trivial,c,_,rfl,hu⟩) (some ⟨0,d,dc,[]⟩,0) ⟨rfl,_,rfl,c0⟩ (ops.length+1) (by omega);obtain⟨c,j,rfl,hu⟩:=h4;have hl1:=hu.cs.len;rw[h1,qb];dsimp only;rw[show EV (some c)=bI c.reg from rfl,sF hu.cs.rts (by omega),qb,show cDk (some c)=some ⟨none⟩from rfl,qb,show cLs (dkO (some c))=some c.dc.L from rfl,qb,if_neg (by rw[hu.L];simp)];obtain⟨s,hs⟩:=NQ ht hc2 hu (by omega) hls (by omega);rw[hs,qb]
end Go.Proofs.YtlckpjpbladknaaGreat.Pl
