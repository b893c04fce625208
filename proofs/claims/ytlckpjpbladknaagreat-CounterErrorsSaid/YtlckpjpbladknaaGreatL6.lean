/- part 6 of the proof -/
import Derived.Test.YtlckpjpbladknaaGreatL5
set_option linter.unusedVariables false
set_option linter.unusedSimpArgs false
set_option linter.unusedSectionVars false
noncomputable section
namespace Go.Proofs.YtlckpjpbladknaaGreat.Pl
open Go.Gb
instance(l:List aC)(x y:Int):Decidable (cells l x y):=inferInstanceAs (Decidable (∃r∈l,rin r x y))
theorem AQ{a b:List aC}(h:a.length<=1000000):ig a b=some (decide (a=b)):=De h
theorem Bc{a b:List aC}(h:a.length<=1000000):kP a b=some (decide (a=b)):=by unfold kP;rw[AQ h,qb]
def lim(out:List aC):List aC×Int:=if 200<out.length then([],6)else(out,0)
theorem Ax(out:List aC):iC out=some (lim out):=by unfold iC lim;grind
theorem AJ{l:List aC}(m:l.length<=100000):(¬(∀r∈l,VR r)/\az (jz l) (l.length+1) 0=some (.ret ([],1)))∨((∀r∈l,VR r)/\az (jz l) (l.length+1) 0=some (.ex 0 (l.length:Int))):=by
 rcases CF (body:=jz l) (λr=>¬VR r) _ (by
 intro i hi;unfold jz;rw[if_pos (by simpa using hi)];simp only[ag hi,qb,fm];by_cases e:VR l[i];.right;rw[if_neg (by simpa using e)];simp only[aj (show i<4611686018427387904 by omega),qb];exact⟨λh=>h e,trivial⟩
 .left;rw[if_pos (by simpa using e)];exact⟨e,rfl⟩) (by unfold jz;rw[if_neg (by simp)]) (fuel:=l.length+1) (by omega)with⟨i,hi,f,_,h⟩|⟨f,h⟩;.exact .inl ⟨λg=>f (g _ (aQ hi)),h⟩
 .exact .inr ⟨λr j=>Classical.not_not.1 (f r j),h⟩
theorem BG{l:List aC}(e:l.length<=100000)(h:¬∀r∈l,VR r):lj l=some ([],1):=by
 unfold lj;rcases AJ e with⟨_,h1⟩|⟨h1,_⟩;.rw[h1,qb]
 .exact absurd h1 h
theorem AB{l:List aC}(e:l.length<=100000)(h:∀r∈l,VR r)(m:400<l.length):lj l=some ([],6):=by
 unfold lj;rcases AJ e with⟨h1,_⟩|⟨_,h1⟩;.exact absurd h h1
 grind
theorem AN{l:List aC}(h:∀r∈l,VR r)(u:l.length<=400):∃out,vL (cells l) out/\lj l=some (lim out):=by
 unfold lj;rcases AJ (l:=l) (by omega)with⟨h1,_⟩|⟨_,h1⟩;.exact absurd h h1
 .obtain⟨st,g,e⟩:=nQ (ls:=[l]) (by simpa using h) (by simp;omega) (by simp);rw[show[l].flatten=l by simp]at e;have f:=e.len;obtain⟨out,j,m⟩:=AY e.gapless (by omega) (λs q=>by have:=(e.col s q).len;omega) e.val;refine⟨out,m,?_⟩;rw[h1,qb,if_neg (by simp;omega),g,qb,j,qb,Ax,qb]
def RR(a:List aC):Prop:=(∀r∈a,VR r)/\a.length<=200/\vL (cells a) a
theorem eQ{a:List aC}(g:a.length<=100000):∃b,dP a=some b/\(b=true↔RR a):=by
 unfold dP;by_cases h:∀r∈a,VR r
 · rcases bw 400 a.length with m|m;.rw[AB g h m];exact⟨_,rfl,by simp,λh=>absurd h.2.1 (by omega)⟩
   · obtain⟨out,h1,j⟩:=AN h m;rw[j];unfold lim;by_cases f:200<out.length;.rw[if_pos f];refine⟨_,rfl,by simp,λh=>?_⟩;have:=h.2.2.unique h1 (λ _ _=>ia);rw[this]at h;exact absurd h.2.1 (by omega)
     · rw[if_neg f];dsimp;rw[AQ (by omega)];simp;constructor;.intro e;rw[e]at h1 f;exact⟨h,by omega,h1⟩
       .intro q;exact h1.unique q.2.2 (λ _ _=>ia)
 .rw[BG g h];exact⟨_,rfl,by simp,λu=>absurd u.1 h⟩
theorem lB{a:List aC}(h:RR a):dP a=some true:=by obtain⟨b,h1,e⟩:=eQ (a:=a) (by have:=h.2.1;omega);rw[h1,e.2 h]
theorem o7{a:List aC}(e:a.length<=100000)(h:¬RR a):dP a=some false:=by
 obtain⟨b,h1,f⟩:=eQ e;rw[h1];cases b;.rfl
 .exact absurd (f.1 rfl) h
theorem G5{keep:Bool->Bool->Option Bool}{Q:Bool->Bool->Bool}(hk:∀a b,keep a b=some (Q a b))(h0:Q false false=false){a b:List aC}{one w g:List aH}(H:tP a one)(I:tP b w)(u:tP (a++b) g)(hal:a.length<=200)(hbl:b.length<=200):∃st,az (fS keep one w g) (g.length+1) (g,0)=some (.ex 0 (st,(g.length:Int)))/\iW st/\st.length<=800/\(∀s∈st,s.column.length<=1000)/\∀x y,cj false (cj [] (bG st) x) y=Q (decide (cells a x y)) (decide (cells b x y)):=by
 have l1:=H.len;have l2:=I.len;have l3:=u.len;simp only[bp]at l3;obtain⟨st,h1,h2,E⟩:=Gn (k:=0) (l:=g) (body:=fS keep one w g) (λ (s:List aH)i=>(s,i)) (λi s=>s.length=g.length/\∀j(q:j<s.length)(F:j<g.length),s[j].x0=g[j].x0/\s[j].x1=g[j].x1/\(j<i->Canon false (aJ s[j].column)/\s[j].column.length<=1000/\∀y,cj false (aJ s[j].column) y=Q (cj false (cj [] (bG one) g[j].x0) y) (cj false (cj [] (bG w) g[j].x0) y))) (by
 intro i hi s⟨T,J⟩;obtain⟨ca,c1,c2,c3⟩:=IT H.gapless (by omega) g[i].x0;obtain⟨cb,d1,d2,d3⟩:=IT I.gapless (by omega) g[i].x0;have U:Canon false (aJ ca)/\ca.length<=200:=by
  rcases c3 with rfl|⟨s,m,rfl⟩;.exact⟨trivial,by simp⟩
  .exact⟨(H.col s m).canon,by have:=(H.col s m).len;omega⟩
 have V:Canon false (aJ cb)/\cb.length<=200:=by
  rcases d3 with rfl|⟨s,m,rfl⟩;.exact⟨trivial,by simp⟩
  .exact⟨(I.col s m).canon,by have:=(I.col s m).len;omega⟩
 obtain⟨c,m1,m2,m3,m4⟩:=HE hk h0 U.1 V.1 (by omega) (by omega);refine⟨s.set i {s[i]'(by omega)with column:=c},?_,by simpa using T,λj q F=>?_⟩;·rw[<-(J i (by omega) hi).1]at c1 d1;unfold fS;dsimp only;rw[if_pos (by simpa using hi),ag (show i<s.length by omega),qb,c1,qb,d1,qb,m1,qb,qb,qb,aj (by omega),qb,nT]
 · rw[qy]at q;obtain⟨e1,G,W⟩:=J j q F;simp only[List.getElem_set];by_cases M:i=j;·subst M;rw[if_pos rfl];refine⟨e1,G,λ _=>⟨m2,by dsimp only;omega,λy=>?_⟩⟩;rw[<-c2,<-d2];exact m3 y
   ·rw[if_neg M];exact⟨e1,G,λh=>W (by omega)⟩) (by intro s _;unfold fS;dsimp only;rw[if_neg (by simp)]) (s0:=g) ⟨rfl,λj q F=>⟨rfl,rfl,λh=>absurd h (fB j)⟩⟩ (fuel:=g.length+1) (by omega);have hg:iW st:=by
  refine⟨λs m=>?_,λi hi=>?_,λs m=>?_⟩;·obtain⟨j,q,rfl⟩:=bR m;obtain⟨e1,G,_⟩:=E j q (by omega);rw[e1,G];exact u.gapless.pos _ (aQ _)
  ·rw[(E i (by omega) (by omega)).2.1,(E (i+1) hi (by omega)).1];exact u.gapless.next i (by omega)
  ·obtain⟨j,q,rfl⟩:=bR m;exact((E j q (by omega)).2.2 (by omega)).1
 refine⟨st,h1,hg,by omega,λs m=>?_,λx y=>?_⟩;·obtain⟨j,q,rfl⟩:=bR m;exact((E j q (by omega)).2.2 (by omega)).2.1
 · by_cases m:∃s∈g,s.x0<=x/\x<s.x1
   · obtain⟨s,m,x1,x2⟩:=m;obtain⟨j,q,rfl⟩:=bR m;obtain⟨e1,G,W⟩:=E j (by omega) q;obtain⟨_,_,e4⟩:=W (by omega);rw[sV hg (show j<st.length by omega) (by omega) (by omega),e4];have O:∀(c:List aC)(so:List aH),tP c so->(∀r∈c,r∈a++b)->cj false (cj [] (bG so) g[j].x0) y=decide (cells c x y):=by intro c so hc hcm;rw[oK,hc.val,decide_eq_true_eq];refine exists_congr λr=>and_congr_right λz=>?_;have:=u.same _ m x x1 x2 r (hcm r z);unfold rin;rw[this]
     rw[O a one H (λr z=>qL _ z),O b w I (λr z=>xJ _ z)]
   · have P:∀c:List aC,(∀r∈c,r∈a++b)->decide (cells c x y)=false:=by intro c hc;rw[decide_eq_false_iff_not];rintro⟨r,z,⟨r1,r2⟩,_⟩;exact m (u.cover r (hc r z) x r1 r2)
     rw[P a (λr z=>qL _ z),P b (λr z=>xJ _ z),h0];rcases px (e:=[]) (l:=bG st) (x:=x)with R|⟨f,t,R,h8⟩;.rw[R];rfl
     ·simp only[bG,aS,Prod.mk.injEq]at R;obtain⟨s,hs',q1,q2,_⟩:=R;obtain⟨j,q,rfl⟩:=bR hs';obtain⟨e1,G,_⟩:=E j q (by omega);exact absurd ⟨_,aQ (show j<g.length by omega),by omega,by omega⟩ m
theorem Gg{keep:Bool->Bool->Option Bool}{a b:List aC}(e:a.length<=100000)(f:b.length<=100000)(h:¬(RR a/\RR b)):gv a b keep=some ([],1):=by
 unfold gv;by_cases g:RR a;.have j:¬RR b:=λj=>h ⟨g,j⟩;rw[lB g,qb,if_neg (by simp),o7 f j,qb,qb,if_pos (by simp)]
 .rw[o7 e g,qb,if_pos (by simp),qb,if_pos (by simp)]
theorem DT{keep:Bool->Bool->Option Bool}{kb:Bool->Bool->Bool}(hk:∀a b,keep a b=some (kb a b))(q:kb false false=false){a b:List aC}(h:RR a)(e:RR b):∃out,vL (λx y=>kb (decide (cells a x y)) (decide (cells b x y))=true) out/\gv a b keep=some (lim out):=by have u:=h.2.1;have w:=e.2.1;obtain⟨one,o1,f⟩:=nQ (ls:=[a]) (by simpa using h.1) (by simp;omega) (by simp);obtain⟨z,t1,t2⟩:=nQ (ls:=[b]) (by simpa using e.1) (by simp;omega) (by simp);obtain⟨E,F,j⟩:=nQ (ls:=[a,b]) (by intro r m;simp[ra]at m;exact m.elim (h.1 r) (e.1 r)) (by simp;omega) (by simp);rw[show[a].flatten=a by simp]at f;rw[show[b].flatten=b by simp]at t2;rw[show[a,b].flatten=a++b by simp]at j;obtain⟨st,G,H,O,s4,I⟩:=G5 hk q f t2 j u w;obtain⟨out,J,M⟩:=AY H (by omega) s4 (λx y=>by rw[I]);refine⟨out,M,?_⟩;unfold gv;rw[lB h,qb,if_neg (by simp),lB e,qb,qb,o1,qb,t1,qb,F,qb,G];dsimp;rw[J,qb,Ax,qb]
def jO(s:List cg):ic (List aC):=s.map λx=>(x.Z0,x.Z1,x.Area)
theorem KT(a:List cg):(jO a).length=a.length:=by simp[jO]
def LL(s:List cg)(z:Int):List aC:=cj [] (jO s) z
def vK(s:List cg)(x y z:Int):Prop:=cells (LL s z) x y
instance(s:List cg)(x y z:Int):Decidable (vK s x y z):=inferInstanceAs (Decidable (cells _ _ _))
structure SS(s:List cg):Prop where len:s.length<=80canon:Canon [] (jO s)ok:∀b∈s,0<=b.Z0/\b.Z1<=4096/\RR b.Area
theorem Ew{s:List cg}{b:cg}(h:b∈s):(b.Z0,b.Z1,b.Area)∈jO s:=aS.2 ⟨b,h,rfl⟩
theorem El{s:List cg}(h:Canon [] (jO s)){b:cg}(e:b∈s):b.Z0<b.Z1/\b.Area≠[]:=xj h (Ew e)
theorem Lj{s:List cg}(h:Canon [] (jO s)){b:cg}(e:b∈s){z:Int}(h1:b.Z0<=z)(f:z<b.Z1):LL s z=b.Area:=tS h (Ew e) h1 f
theorem ym{s:List cg}:Canon [] (jO s)↔(∀i (h:i<s.length),s[i].Z0<s[i].Z1/\s[i].Area≠[])/\∀i(h:i+1<s.length),s[i].Z1<s[i+1].Z0∨(s[i].Z1=s[i+1].Z0/\s[i].Area≠s[i+1].Area):=by rw[CG];simp[jO]
theorem qo{s:List cg}(G:∀b∈s,b.Area.length<=100000):∃b,kY s=some b/\(b=true↔SS s):=by
 unfold kY;by_cases P:80<s.length;·rw[if_pos (by simp;omega)];exact⟨_,rfl,by simp,λh=>absurd h.len (by omega)⟩
 .rw[if_neg (by simp;omega)];have q:∀i,i<s.length->(∀j,j<i->¬¬((∃h:j<s.length,0<=s[j].Z0/\s[j].Z0<s[j].Z1/\s[j].Z1<=4096/\s[j].Area≠[]/\RR s[j].Area)/\∀f:0<j,∀h:j<s.length,(s[j-1]'(by omega)).Z1<s[j].Z0∨((s[j-1]'(by omega)).Z1=s[j].Z0/\(s[j-1]'(by omega)).Area≠s[j].Area)))->(¬((∃h:i<s.length,0<=s[i].Z0/\s[i].Z0<s[i].Z1/\s[i].Z1<=4096/\s[i].Area≠[]/\RR s[i].Area)/\∀f:0<i,∀h:i<s.length,(s[i-1]'(by omega)).Z1<s[i].Z0∨((s[i-1]'(by omega)).Z1=s[i].Z0/\(s[i-1]'(by omega)).Area≠s[i].Area))/\gk s (i:Int)=some (.ret false))∨(¬¬((∃h:i<s.length,0<=s[i].Z0/\s[i].Z0<s[i].Z1/\s[i].Z1<=4096/\s[i].Area≠[]/\RR s[i].Area)/\∀f:0<i,∀h:i<s.length,(s[i-1]'(by omega)).Z1<s[i].Z0∨((s[i-1]'(by omega)).Z1=s[i].Z0/\(s[i-1]'(by omega)).Area≠s[i].Area))/\gk s (i:Int)=some (.go ((i+1:Nat):Int))):=by
   intro i hi _;obtain⟨J,z,y⟩:=eQ (a:=s[i].Area) (G _ (aQ hi));unfold gk;rw[if_pos (by simpa using hi),ag hi,qb];by_cases h1:0<=s[i].Z0/\s[i].Z0<s[i].Z1/\s[i].Z1<=4096/\s[i].Area≠[]
   · have M:0<s[i].Area.length:=List.length_pos_iff.2 h1.2.2.2;rw[if_neg (by simp only[bU,decide_eq_true_eq,beq_iff_eq];omega),z,qb,qb];cases J;·left;rw[if_pos (by simp),qb];refine⟨λh=>?_,rfl⟩;obtain⟨⟨_,_,_,_,_,h⟩,_⟩:=h;exact absurd (y.2 h) (by simp)
     · have R:=y.1 rfl;rw[if_neg (by simp)];rcases qp i with rfl|f;·right;rw[if_pos (by simp),qb];dsimp only;rw[aj (by omega),qb];exact⟨λh=>h ⟨⟨hi,h1.1,h1.2.1,h1.2.2.1,h1.2.2.2,R⟩,λh=>absurd h (fU _)⟩,rfl⟩
       · have u:kP (s[i-1]'(by omega)).Area s[i].Area=some _:=Bc (by have:=G _ (aQ (show i-1<s.length by omega));omega);rw[if_neg (by simp;omega),nu f (by omega),qb,ag (show i-1<s.length by omega),qb];have w:(if decide (s[i].Z0<(s[i-1]'(by omega)).Z1)=true then some true else(if((s[i-1]'(by omega)).Z1==s[i].Z0)=true then(kP (s[i-1]'(by omega)).Area s[i].Area).bind λx=>some x else some false).bind λx=>some x)=some (decide (¬((s[i-1]'(by omega)).Z1<s[i].Z0∨((s[i-1]'(by omega)).Z1=s[i].Z0/\(s[i-1]'(by omega)).Area≠s[i].Area)))):=by
          by_cases c1:s[i].Z0<(s[i-1]'(by omega)).Z1;.rw[if_pos (by simpa using c1)];congr 1;simp;omega
          · rw[if_neg (by simpa using c1),u];by_cases c2:(s[i-1]'(by omega)).Z1=s[i].Z0;.rw[if_pos (by simpa using c2)];simp[c2]
            .rw[if_neg (by simpa using c2)];simp;omega
         rw[w,qb];by_cases c:(s[i-1]'(by omega)).Z1<s[i].Z0∨((s[i-1]'(by omega)).Z1=s[i].Z0/\(s[i-1]'(by omega)).Area≠s[i].Area);·right;rw[if_neg (by simp only[decide_eq_true_eq,Classical.not_not];exact c),qb];dsimp only;rw[aj (by omega),qb];exact⟨λh=>h ⟨⟨hi,h1.1,h1.2.1,h1.2.2.1,h1.2.2.2,R⟩,λ _ _=>c⟩,rfl⟩
         ·left;rw[if_pos (decide_eq_true c),qb];exact⟨λh=>c (h.2 f hi),rfl⟩
   ·left;rw[if_pos (by
  simp only[bU,decide_eq_true_eq,beq_iff_eq];rcases jP s[i].Z0 0 with g|g;.exact .inl (.inl (.inl g))
  · rcases jP s[i].Z0 s[i].Z1 with g2|g2
    · rcases jP 4096 s[i].Z1 with g3|g3;.exact .inl (.inr g3)
      ·right;have:s[i].Area=[]:=Classical.not_not.1 λh=>h1 ⟨g,g2,g3,h⟩;rw[this];rfl
    .exact .inl (.inl (.inr g2))),qb,if_pos rfl,qb];refine⟨λh=>h1 ?_,rfl⟩;obtain⟨⟨_,a,b,c,d,_⟩,_⟩:=h;exact⟨a,b,c,d⟩
  rcases G4 (body:=gk s) (k:=0) s.length _ _ q (by unfold gk;rw[if_neg (by simp)]) (fuel:=s.length+1) (by omega)with⟨i,hi,E,_,h⟩|⟨E,h⟩
  · rw[h,qb];refine⟨_,rfl,by simp,λF=>absurd ⟨⟨hi,?_⟩,λf _=>?_⟩ E⟩;·have h1:=F.ok _ (aQ hi);have I:=El F.canon (aQ hi);exact⟨h1.1,I.1,h1.2.1,I.2,h1.2.2⟩
    · have:=(ym.1 F.canon).2 (i-1) (by omega);have e:i-1+1=i:=by omega
      simp only[e]at this;exact this
  · rw[h,qb];have m:∀i(hi:i<s.length),(0<=s[i].Z0/\s[i].Z0<s[i].Z1/\s[i].Z1<=4096/\s[i].Area≠[]/\RR s[i].Area)/\∀f:0<i,(s[i-1]'(by omega)).Z1<s[i].Z0∨((s[i-1]'(by omega)).Z1=s[i].Z0/\(s[i-1]'(by omega)).Area≠s[i].Area):=by intro i hi;have:=Classical.not_not.1 (E i hi);exact⟨this.1.2,λf=>this.2 f hi⟩
    refine⟨_,rfl,λ _=>⟨by omega,ym.2 ⟨λi hi=>⟨(m i hi).1.2.1,(m i hi).1.2.2.2.1⟩,λi hi=>(m (i+1) hi).2 (by omega)⟩,λb O=>?_⟩,λ _=>rfl⟩;obtain⟨i,hi,rfl⟩:=bR O;have:=(m i hi).1;exact⟨this.1,this.2.2.1,this.2.2.2.2⟩
theorem xW{s:List cg}(h:SS s):kY s=some true:=by obtain⟨b,h1,e⟩:=qo (λb f=>by have:=(h.ok b f).2.2.2.1;omega);rw[h1,e.2 h]
theorem wN{s:List cg}(e:∀b∈s,b.Area.length<=100000)(h:¬SS s):kY s=some false:=by
 have⟨b,h1,f⟩:=qo e;rw[h1];cases b;.rfl
 .exact absurd (f.1 rfl) h
def VB(b:Box):Prop:=VR b.Base/\0<=b.Z0/\b.Z0<b.Z1/\b.Z1<=4096
instance(b:Box):Decidable (VB b):=inferInstanceAs (Decidable (_/\_))
def GO(l:List Box)(x y z:Int):Prop:=∃b∈l,rin b.Base x y/\b.Z0<=z/\z<b.Z1
instance(l:List Box)(x y z:Int):Decidable (GO l x y z):=inferInstanceAs (Decidable (∃b∈l,_))
def sr(s:List cg):List Box:=s.flatMap λx=>x.Area.map λr=>⟨r,x.Z0,x.Z1⟩
theorem L9{x:cg}(h:x.Area.length<=1000000){o:List Box}(e:o.length<=100000000):az (lW x) (x.Area.length+1) (o,0)=some (.ex 2 (o++x.Area.map (λr=>⟨r,x.Z0,x.Z1⟩),(x.Area.length:Int))):=by
 refine(ep _ (λs r=>s++[⟨r,x.Z0,x.Z1⟩]) (λi s=>s.length<=100000000+i) (by
 intro i hi s I;constructor;.unfold lW;rw[if_pos (by simpa using hi),ag hi,qb,bP (by simp;omega),qb,aj (by omega),qb]
 .simp;omega) (by intro s _;unfold lW;rw[if_neg (by simp)]) (by omega) (by omega)).1.trans ?_;rw[foldl_flatMap _,List.map_eq_flatMap]
theorem yb{s:List cg}(h:SS s):k8 s=some (sr s):=by
 unfold k8;rw[xW h];have e:=h.len;obtain⟨h1,g⟩:=ep (l:=s) (body:=lO s) (λ (s:List Box)i=>(s,i)) (λo x=>o++x.Area.map λr=>⟨r,x.Z0,x.Z1⟩) (λi o=>o.length<=200*i) (by
 intro i hi o I;have j:=(h.ok _ (aQ hi)).2.2.2.1;constructor;.unfold lO;dsimp only;rw[if_pos (by simpa using hi),ag hi,qb,L9 (by omega) (by omega),qb];dsimp only;rw[aj (by omega),qb]
 .simp;omega) (by intro o _;unfold lO;rw[if_neg (by simp)]) (s0:=[]) (by simp) (fuel:=s.length+1) (by omega);rw[h1,foldl_flatMap _];rfl
theorem yI{s:List cg}(e:∀b∈s,b.Area.length<=100000)(h:¬SS s):k8 s=some []:=by unfold k8;rw[wN e h,qb,if_pos (by simp)]
theorem Aq{s:List cg}(h:SS s):(sr s).length<=16000:=by
 have q:=h.len;have e:∀l:List cg,(∀b∈l,b.Area.length<=200)->(sr l).length<=200*l.length:=by intro l;induction l with|nil=>intro _;simp[sr];|cons a l m=>intro f;have h1:=m λb g=>f b (by simp[g]);unfold sr at h1⊢;grind
 have:=e s λb f=>(h.ok b f).2.2.2.1;omega
theorem Hr{s:List cg}(h:SS s):∀b∈sr s,VB b:=by intro b e;obtain⟨x,f,e⟩:=uN.1 e;obtain⟨r,g,rfl⟩:=aS.1 e;have h1:=h.ok x f;have j:=El h.canon f;exact⟨h1.2.2.1 r g,h1.1,j.1,h1.2.1⟩
theorem sL{s:List cg}(h:Canon [] (jO s))(x y z:Int):GO (sr s) x y z↔vK s x y z:=by
 constructor;.rintro⟨b,f,h1,j⟩;obtain⟨q,E,f⟩:=uN.1 f;obtain⟨r,m,rfl⟩:=aS.1 f;unfold vK;rw[Lj h E j.1 j.2];exact⟨r,m,h1⟩
 · intro g;unfold vK at g;rcases px (e:=[])with h1|⟨p,q,h1,j⟩;.unfold LL at g;rw[h1]at g;simp[cells]at g
   · obtain⟨b,f,w⟩:=aS.1 h1;simp[Prod.mk.injEq]at w;obtain⟨r,m,u⟩:=g;refine⟨_,uN.2 ⟨b,f,aS.2 ⟨r,?_,rfl⟩⟩,u,by dsimp;omega⟩;have:LL s z=b.Area:=by unfold LL;rw[<-w.2.2]
     rw[<-this];exact m
set_option maxRecDepth 100000
def sg(x y:Int):Int:=if x<y then-1 else if y<x then 1 else 0
theorem cmp_eq(x y:Int):cq x y=some (sg x y):=by unfold cq cmp_isNaN_int sg;grind
theorem Ha{x y M:Int}(e:-M<=x)(h1:x<=M)(h:0<=y)(f:y<=M):-(M*M)<=x*y/\x*y<=M*M:=by have g:=nz e h;have a2:=nz h1 h;have a3:M*y<=M*M:=Int.mul_le_mul_of_nonneg_left f (by omega);grind
theorem Mj{n1 d1 n2 d2 p q:Int}(hd1:0<d1)(e:0<d2)(j:0<q)(h:n1*d2<n2*d1)(g:n2*q<=p*d2):n1*q<p*d1:=by
 rcases jP (n1*q) (p*d1)with f|f;.exact f
 .have e1:=nz f (nH e);have m:=oJ h j;have u:=nz g (nH hd1);grind
theorem zq{n1 d1 n2 d2 p q:Int}(hd1:0<d1)(e:0<d2)(j:0<q)(h:n2*d1<n1*d2)(g:p*d2<=n2*q):p*d1<n1*q:=by
 rcases jP (p*d1) (n1*q)with f|f;.exact f
 .have e1:=nz f (nH e);have m:=oJ h j;have u:=nz g (nH hd1);grind
theorem FZ{n1 d1 n2 d2 p q:Int}(hd1:0<d1)(e:0<d2)(h:n1*d2=n2*d1)(g:n2*q<=p*d2):n1*q<=p*d1:=by
 rcases jP (p*d1) (n1*q)with f|f;.have e1:=oJ f e;have j:=nz g (nH hd1);grind
 .exact f
theorem CJ{n1 d1 n2 d2 p q:Int}(hd1:0<d1)(e:0<d2)(h:n1*d2=n2*d1)(g:p*d2<=n2*q):p*d1<=n1*q:=by
 rcases jP (n1*q) (p*d1)with f|f;.have e1:=oJ f e;have j:=nz g (nH hd1);grind
 .exact f
def loR(n d:Int)(o:Bool)(p q:Int):Prop:=n*q<=p*d/\(o=true->n*q<p*d)
def hiR(n d:Int)(o:Bool)(p q:Int):Prop:=p*d<=n*q/\(o=true->p*d<n*q)
def nK(n d:Int):Prop:=0<d/\d<=4194304/\-4194304<=n/\n<=4194304
section
variable{n1 d1 n2 d2 p q:Int}{o1 o2:Bool}
theorem nK.mul(h:nK n1 d1)(g:nK n2 d2):Dx n1 d2=some (n1*d2):=by have:=Ha h.2.2.1 h.2.2.2 (nH g.1) g.2.1;exact qJ (by unfold inI;omega)
theorem Pk(h:nK n1 d1)(g:nK n2 d2)(e:0<q)(f:n1*d2<n2*d1)(x:loR n2 d2 o2 p q):loR n1 d1 o1 p q:=by have:=Mj h.1 g.1 e f x.1;exact⟨by omega,λ _=>this⟩
theorem PA(h:nK n1 d1)(g:nK n2 d2)(e:n1*d2=n2*d1):(n1*q<=p*d1↔n2*q<=p*d2)/\(n1*q<p*d1↔n2*q<p*d2):=by have a:=FZ (p:=p) (q:=q) h.1 g.1 e;have b:=FZ (p:=p) (q:=q) g.1 h.1 e.symm;have c:=CJ (p:=p) (q:=q) h.1 g.1 e;have d:=CJ (p:=p) (q:=q) g.1 h.1 e.symm;grind
theorem Tf(h:nK n1 d1)(g:nK n2 d2)(e:n1*d2=n2*d1):loR n1 d1 (o1||o2) p q↔loR n1 d1 o1 p q/\loR n2 d2 o2 p q:=by obtain⟨a,b⟩:=PA (p:=p) (q:=q) h g e;unfold loR;grind
theorem Pc(h:nK n1 d1)(g:nK n2 d2)(e:0<q)(f:n2*d1<n1*d2)(x:hiR n2 d2 o2 p q):hiR n1 d1 o1 p q:=by have:=zq h.1 g.1 e f x.1;exact⟨by omega,λ _=>this⟩
theorem PH(h:nK n1 d1)(g:nK n2 d2)(e:n1*d2=n2*d1):(p*d1<=n1*q↔p*d2<=n2*q)/\(p*d1<n1*q↔p*d2<n2*q):=by obtain⟨a,b⟩:=PA (p:=p) (q:=q) h g e;grind
theorem R7(h:nK n1 d1)(g:nK n2 d2)(e:n1*d2=n2*d1):hiR n1 d1 (o1||o2) p q↔hiR n1 d1 o1 p q/\hiR n2 d2 o2 p q:=by obtain⟨a,b⟩:=PH (p:=p) (q:=q) h g e;unfold hiR;grind
theorem L3(h:nK n1 d1)(g:nK n2 d2)(m:0<q)(f:loR n1 d1 o1 p q)(j:hiR n2 d2 o2 p q):n1*d2<=n2*d1/\((o1=true∨o2=true)->n1*d2<n2*d1):=by
 constructor
 · rcases jP _ (n1*d2)with x|x;.have:=zq h.1 g.1 m x j.1;have:=f.1;omega
   .exact x
 · intro e;rcases uh (n1*d2) (n2*d1)with x|x|x;.exact x
   · obtain⟨a,b⟩:=PH h g x;rcases e with e|e;.have:=f.2 e;have:=a.2 j.1;omega
     .have:=b.2 (j.2 e);have:=f.1;omega
   .have:=zq h.1 g.1 m x j.1;have:=f.1;omega
theorem Nz(h:nK n1 d1)(g:nK n2 d2)(f:n1*d2<n2*d1∨(n1*d2=n2*d1/\o1=false/\o2=false)):∃p q,0<q/\loR n1 d1 o1 p q/\hiR n2 d2 o2 p q:=by
 rcases f with f|⟨f,rfl,rfl⟩
 · refine⟨n1*d2+n2*d1,2*(d1*d2),by have:=Int.mul_pos h.1 g.1;omega,?_,?_⟩
   · have e:=oJ f h.1;have:n1*(2*(d1*d2))<(n1*d2+n2*d1)*d1:=by grind
     exact⟨by omega,λ _=>this⟩
   · have e:=oJ f g.1;have:(n1*d2+n2*d1)*d2<n2*(2*(d1*d2)):=by grind
     exact⟨by omega,λ _=>this⟩
 .exact⟨n1,d1,h.1,⟨fN _,by simp⟩,⟨by omega,by simp⟩⟩
theorem Nn(h:nK n1 d1):∃p q,0<q/\loR n1 d1 o1 p q:=by
 refine⟨n1+d1,d1,h.1,?_⟩;have e:=Int.mul_pos h.1 h.1;have:n1*d1<(n1+d1)*d1:=by grind
 exact⟨by omega,λ _=>this⟩
theorem Rx{e y f:Int}(h:0<y):loR (f-e) y false p q↔f*q<=e*q+y*p:=by unfold loR;grind
theorem QT{e y f:Int}(h:0<y):hiR (f-e) y true p q↔e*q+y*p<f*q:=by unfold hiR;grind
theorem QH{e y f:Int}:loR (e-f) (0-y) true p q↔e*q+y*p<f*q:=by unfold loR;grind
theorem QS{e y f:Int}:hiR (e-f) (0-y) false p q↔f*q<=e*q+y*p:=by unfold hiR;grind
end
theorem DI{a b:Int}:0<sg a b↔b<a:=by unfold sg;split<;>omega
theorem L0{a b:Int}:sg a b<0↔a<b:=by unfold sg;split<;>omega
theorem ud{a b:Int}:sg a b=0↔a=b:=by unfold sg;split<;>omega
def bK(x:bZ):Prop:=nK x.n x.d
def IvK(i:bj):Prop:=bK i.lo/\(i.top=true->bK i.hi)
def Mem(i:bj)(p q:Int):Prop:=i.none_=false/\loR i.lo.n i.lo.d i.lo.open_ p q/\(i.top=true->hiR i.hi.n i.hi.d i.hi.open_ p q)
theorem vk{x y:bZ}(h:bK x)(e:bK y):eu x y=some (sg (x.n*y.d) (y.n*x.d)):=by unfold eu;rw[nK.mul h e,qb,nK.mul e h,qb,cmp_eq,qb]
theorem Fu{i:bj}{b:bZ}(hi:IvK i)(e:bK b):∃j,eI i b=some j/\IvK j/\j.top=i.top/\∀p q,0<q->(Mem j p q↔Mem i p q/\loR b.n b.d b.open_ p q):=by
 unfold eI;rw[vk e hi.1,qb];by_cases c1:i.lo.n*b.d<b.n*i.lo.d
 · rw[if_pos (by rw[decide_eq_true_iff];exact DI.2 c1)];refine⟨_,rfl,⟨e,hi.2⟩,rfl,λp q f=>?_⟩;constructor;.rintro⟨h1,g,m⟩;exact⟨⟨h1,Pk hi.1 e f c1 g,m⟩,g⟩
   .rintro⟨⟨h1,_,m⟩,g⟩;exact⟨h1,g,m⟩
 · rw[if_neg (by rw[decide_eq_true_iff];exactλh=>c1 (DI.1 h))];by_cases c2:b.n*i.lo.d=i.lo.n*b.d;.rw[if_pos (by rw[beq_iff_eq];exact ud.2 c2)];refine⟨_,rfl,⟨hi.1,hi.2⟩,rfl,λp q f=>?_⟩;unfold Mem;rw[Tf hi.1 e c2.symm];grind
   .rw[if_neg (by rw[beq_iff_eq];exactλh=>c2 (ud.1 h))];refine⟨_,rfl,hi,rfl,λp q f=>⟨λh=>⟨h,?_⟩,λh=>h.1⟩⟩;exact Pk e hi.1 f (by omega) h.2.1
theorem E9{i:bj}{b:bZ}(hi:IvK i)(e:bK b):∃j,eM i b=some j/\IvK j/\j.top=true/\∀p q,0<q->(Mem j p q↔Mem i p q/\hiR b.n b.d b.open_ p q):=by
 unfold eM;by_cases f:i.top=true
 · have g:=hi.2 f;rw[if_pos f,vk e g,qb,qb];by_cases c1:b.n*i.hi.d<i.hi.n*b.d
   · rw[if_pos (by rw[decide_eq_true_iff];exact L0.2 c1)];refine⟨_,rfl,⟨hi.1,λ _=>e⟩,rfl,λp q m=>?_⟩;unfold Mem;constructor;.rintro⟨h1,w,u⟩;exact⟨⟨h1,w,λ _=>Pc g e m (by omega) (u rfl)⟩,u rfl⟩
     grind
   · rw[if_neg (by rw[decide_eq_true_iff];exactλh=>c1 (L0.1 h))];by_cases c2:b.n*i.hi.d=i.hi.n*b.d;.rw[if_pos (by rw[beq_iff_eq];exact ud.2 c2)];refine⟨_,rfl,⟨hi.1,λ _=>g⟩,f,λp q m=>?_⟩;unfold Mem;rw[R7 g e c2.symm];grind
     .rw[if_neg (by rw[beq_iff_eq];exactλh=>c2 (ud.1 h))];refine⟨_,rfl,hi,f,λp q m=>⟨λh=>⟨h,?_⟩,λh=>h.1⟩⟩;exact Pc e g m (by omega) (h.2.2 f)
 .rw[if_neg f];refine⟨_,rfl,⟨hi.1,λ _=>e⟩,rfl,λp q m=>?_⟩;unfold Mem;grind
def cK(x:Int):Prop:=-2097152<=x/\x<=2097152
theorem xI{i:bj}{e y f g:Int}(hi:IvK i)(h1:cK e)(E:cK y)(F:cK f)(G:cK g):∃j,dH i e y f g=some j/\IvK j/\(i.top=true->j.top=true)/\∀p q,0<q->(Mem j p q↔Mem i p q/\f*q<=e*q+y*p/\e*q+y*p<g*q):=by
 unfold cK at h1 E F G;unfold dH;by_cases c1:0<y;·rw[if_pos (by simpa using c1),cZ (by unfold inI;omega),qb];obtain⟨j,e1,u,H,w⟩:=Fu (b:=⟨f-e,y,false⟩) hi (by unfold bK nK;dsimp only;omega);rw[e1,qb,cZ (by unfold inI;omega),qb];obtain⟨x,g1,g2,g3,g4⟩:=E9 (b:=⟨g-e,y,true⟩) u (by unfold bK nK;dsimp only;omega);rw[g1,qb,qb];refine⟨x,rfl,g2,λ _=>g3,λp q m=>?_⟩;rw[g4 p q m,w p q m];dsimp only;rw[Rx c1,QT c1,and_assoc]
 · rw[if_neg (by simpa using c1)];by_cases c2:y<0;·rw[if_pos (by simpa using c2),cZ (by unfold inI;omega),qb,cZ (by unfold inI;omega),qb];obtain⟨j,e1,u,H,w⟩:=Fu (b:=⟨e-g,0-y,true⟩) hi (by unfold bK nK;dsimp only;omega);rw[e1,qb,cZ (by unfold inI;omega),qb,qb];obtain⟨x,g1,g2,g3,g4⟩:=E9 (b:=⟨e-f,0-y,false⟩) u (by unfold bK nK;dsimp only;omega);rw[g1,qb,qb,qb];refine⟨x,rfl,g2,λ _=>g3,λp q m=>?_⟩;rw[g4 p q m,w p q m];dsimp only;rw[QH,QS,and_assoc];exact and_congr_right λ _=>and_comm
   · have I:y=0:=by omega
     subst I;rw[if_neg (by simp)];by_cases z:e<f∨g<=e
     · rw[if_pos (by simpa using z),qb,qb,qb];refine⟨_,rfl,hi,λh=>h,λp q m=>?_⟩;unfold Mem;dsimp only;constructor;.rintro⟨h,_⟩;simp at h
       ·rintro⟨_,g1,g2⟩;rw[Int.zero_mul,Int.add_zero]at g1 g2;have J:=Int.le_of_mul_le_mul_right g1 m;have a2:=Int.lt_of_mul_lt_mul_right g2 (nH m);omega
     ·rw[if_neg (by simpa using z),qb,qb,qb];simp_all
theorem empty_eq{i:bj}(hi:IvK i):∃e,fR i=some e/\(e=false↔∃p q,0<q/\Mem i p q):=by
  unfold fR;by_cases g:i.none_=true;.rw[if_pos (by simp[g])];exact⟨_,rfl,by simp[g],λ⟨p,q,_,h⟩=>by have:=h.1;rw[g]at this;simp at this⟩
  · by_cases j:i.top=true
    · have u:=hi.2 j;rw[if_neg (by simp[g,j]),vk hi.1 u];refine⟨_,rfl,?_⟩;have f:i.none_=false:=by simpa using g
      constructor;·intro h;simp only[rn,decide_eq_false_iff_not,ua,beq_eq_false_iff_ne]at h;rw[DI]at h;obtain⟨p,q,m,h1,w⟩:=Nz hi.1 u (by
 rcases uh _ (i.hi.n*i.lo.d)with x|x|x;.exact .inl x
 · right;rcases h.2 with y|y;.exact absurd (ud.2 x) y
   .exact⟨x,y⟩
 .exact absurd x h.1);exact⟨p,q,m,f,h1,λ _=>w⟩
      · rintro⟨p,q,m,_,h1,w⟩;have⟨g1,g2⟩:=L3 hi.1 u m h1 (w j);simp only[rn,decide_eq_false_iff_not,ua,beq_eq_false_iff_ne];rw[DI];refine⟨by omega,?_⟩;by_cases z:i.lo.open_=true∨i.hi.open_=true;.left;intro E;have:=g2 z;rw[ud]at E;omega
        .right;simpa using z
    · rw[if_pos (by simp[j])];have f:i.none_=false:=by simpa using g
      refine⟨_,rfl,λ _=>?_,λ _=>f⟩;obtain⟨p,q,m,h⟩:=Nn hi.1;exact⟨p,q,m,f,h,λh=>absurd h j⟩
def zL(x:Box)(p v:bo)(a b:Int):Prop:=(x.Base.X0*b<=p.X*b+v.X*a/\p.X*b+v.X*a<x.Base.X1*b)/\(x.Base.Y0*b<=p.Y*b+v.Y*a/\p.Y*b+v.Y*a<x.Base.Y1*b)/\(x.Z0*b<=p.Z*b+v.Z*a/\p.Z*b+v.Z*a<x.Z1*b)
def pK(p:bo):Prop:=cK p.X/\cK p.Y/\cK p.Z
theorem Uy{x:Box}(h:VB x):cK x.Base.X0/\cK x.Base.X1/\cK x.Base.Y0/\cK x.Base.Y1/\cK x.Z0/\cK x.Z1:=by unfold VB VR at h;unfold cK;omega
theorem yG{p v:bo}{t:bj}{l:List Box}(g:pK p)(j:pK v)(w:IvK t)(y:∀x∈l,VB x)(Q:l.length<=1000000):∃r,(az (iO p v t l) (l.length+1) 0).bind (λf=>match f with| .go _=>none| .ex _ _=>some false| .ret r=>some r)=some r/\(r=true↔∃x∈l,∃a b,0<b/\Mem t a b/\zL x p v a b):=by
 rcases CF (body:=iO p v t l) (λx=>∃a b,0<b/\Mem t a b/\zL x p v a b) _ (by
 intro i hi;have⟨z,E,k3,F,G,k6⟩:=Uy (y _ (aQ hi));have⟨R,H,a2,_,a4⟩:=xI w g.1 j.1 z E;have⟨T,I,J,_,M⟩:=xI a2 g.2.1 j.2.1 k3 F;have⟨U,c1,c2,_,O⟩:=xI J g.2.2 j.2.2 G k6;have⟨e,e1,P⟩:=empty_eq c2;have q:e=false↔∃a b,0<b/\Mem t a b/\zL l[i] p v a b:=by rw[P];refine exists_congr λa=>exists_congr λb=>and_congr_right λm=>?_;rw[O a b m,M a b m,a4 a b m];unfold zL;simp[and_assoc]
 unfold iO;rw[if_pos (by simpa using hi),ag hi,qb,H,qb,I,qb,c1,qb,e1];cases e;.left;exact⟨q.1 rfl,rfl⟩
 .right;rw[aj (by omega)];exact⟨λh=>by simpa using q.2 h,rfl⟩) (by unfold iO;rw[if_neg (by simp)]) (fuel:=l.length+1) (by omega)with⟨i,hi,g,_,h⟩|⟨g,h⟩;.rw[h,qb];grind
 simp_all
def Hit(S:Int->Int->Int->Prop)(p v:bo)(a b:Int):Prop:=S ((p.X*b+v.X*a)/b) ((p.Y*b+v.Y*a)/b) ((p.Z*b+v.Z*a)/b)
theorem Jp{x:Box}{p v:bo}{a b:Int}(h:0<b):zL x p v a b↔rin x.Base ((p.X*b+v.X*a)/b) ((p.Y*b+v.Y*a)/b)/\x.Z0<=(p.Z*b+v.Z*a)/b/\(p.Z*b+v.Z*a)/b<x.Z1:=by unfold zL rin;rw[yc h,yc h,yc h,xO h,xO h,xO h];simp[and_assoc]
theorem CS{l:List Box}{p v:bo}{a b:Int}(h:0<b):Hit (GO l) p v a b↔∃x∈l,zL x p v a b:=exists_congr λx=>and_congr_right λ_=>(Jp h).symm
theorem EG{s:List cg}{p v:bo}{t:bj}(g:pK p)(j:pK v)(q:IvK t)(w:∀b∈s,b.Area.length<=100000):∃r,nD s p v t=some r/\(r=true↔SS s/\∃a b,0<b/\Mem t a b/\Hit (vK s) p v a b):=by
 unfold nD;by_cases h:SS s
 · rw[yb h];have⟨r,h1,u⟩:=yG g j q (Hr h) (by have:=Aq h;omega);refine⟨r,h1,u.trans ?_⟩;constructor;.rintro⟨x,f,a,b,e,m,hi⟩;refine⟨h,a,b,e,m,?_⟩;have:=(CS e).2 ⟨x,f,hi⟩;exact(sL h.canon _ _ _).1 this
   .rintro⟨_,a,b,e,m,hi⟩;have⟨x,f,hi⟩:=(CS e).1 ((sL h.canon _ _ _).2 hi);exact⟨x,f,a,b,e,m,hi⟩
 .rw[yI w h];have⟨r,h1,u⟩:=yG (l:=[]) g j q (by simp) (by simp);grind
def onP(p:bo):Prop:=0<=p.X/\p.X<=1048576/\0<=p.Y/\p.Y<=1048576/\0<=p.Z/\p.Z<=4096
instance(p:bo):Decidable (onP p):=by unfold onP;infer_instance
theorem Iu(p:bo):qI p=some (decide (onP p)):=by unfold qI;congr 1;rw[oK,decide_eq_true_iff];unfold onP;simp;omega
theorem onP.pK{p:bo}(h:onP p):Pl.pK p:=by unfold onP at h;unfold Pl.pK cK;omega
def Iv(q p:bo):bo:=⟨q.X-p.X,q.Y-p.Y,q.Z-p.Z⟩
def Mu(S:Int->Int->Int->Prop)(p q:bo):Prop:=∃a b,0<b/\0<a/\a<b/\Hit S p (Iv q p) a b
def Vj(S:Int->Int->Int->Prop)(p d:bo):Prop:=∃a b,0<b/\0<a/\Hit S p d a b
theorem HS{s:List cg}{p q:bo}(m:∀b∈s,b.Area.length<=100000):∃r,fY s p q=some r/\(r=true↔onP p/\onP q/\SS s/\Mu (vK s) p q):=by
 unfold fY;rw[Iu,qb];by_cases e:onP p
 · by_cases f:onP q
   · rw[if_neg (by simp[e]),Iu,qb,qb,if_neg (by simp[f])];have g:=e;have j:=f;unfold onP at g j;rw[cZ (by unfold inI;omega),qb,cZ (by unfold inI;omega),qb,cZ (by unfold inI;omega),qb];have⟨r,h1,u⟩:=EG (v:=Iv q p) (t:=⟨⟨0,1,true⟩,⟨1,1,true⟩,true,false⟩) e.pK (by unfold pK cK Iv;dsimp;omega) (by unfold IvK bK nK;dsimp;omega) m;unfold Iv at h1;rw[h1];refine⟨r,rfl,u.trans ⟨λ ⟨g1,a,b,g2,g3,g4⟩=>⟨e,f,g1,a,b,g2,?_,?_,g4⟩,λ ⟨_,_,g1,a,b,g2,g3,g4,g5⟩=>⟨g1,a,b,g2,⟨rfl,?_,λ _=>?_⟩,g5⟩⟩⟩;.have:=g3.2.1.2 rfl;dsimp at this;omega
     .have:=(g3.2.2 rfl).2 rfl;dsimp at this;omega
     .unfold loR;dsimp;omega
     .unfold hiR;dsimp;omega
   .rw[if_neg (by simp[e]),Iu,qb,qb,if_pos (by simp[f])];exact⟨_,rfl,by simp,λh=>absurd h.2.1 f⟩
 simp_all
def H5(d:bo):Prop:=¬(d.X=0/\d.Y=0/\d.Z=0)/\(-1048576<=d.X/\d.X<=1048576)/\(-1048576<=d.Y/\d.Y<=1048576)/\(-1048576<=d.Z/\d.Z<=1048576)
instance(p:bo):Decidable (H5 p):=by unfold H5;infer_instance
theorem QE{s:List cg}{p d:bo}(m:∀b∈s,b.Area.length<=100000):∃r,mw s p d=some r/\(r=true↔onP p/\H5 d/\SS s/\Vj (vK s) p d):=by
  unfold mw;rw[Iu,qb];have q:d=⟨0,0,0⟩↔d.X=0/\d.Y=0/\d.Z=0:=by have⟨x,y,z⟩:=d;simp
  by_cases h:onP p/\H5 d
  · have⟨f,e⟩:=h;have g:=e;unfold H5 at g;rw[if_neg (by
 simp only[bU,cH,decide_eq_false_iff_not,decide_eq_true_eq];rintro(((h|h)|h)|h);.exact h f
 .exact e.1 (q.1 h)
 .omega
 .omega)];obtain⟨r,h1,u⟩:=EG (v:=d) (t:=⟨⟨0,1,true⟩,_,false,false⟩) f.pK (by unfold pK cK;omega) (by unfold IvK bK nK;dsimp;exact⟨by omega,λh=>by simp at h⟩) m;rw[h1];refine⟨r,rfl,u.trans ⟨λ ⟨g1,a,b,g2,g3,g4⟩=>⟨f,e,g1,a,b,g2,?_,g4⟩,λ⟨_,_,g1,a,b,g2,g3,g5⟩=>⟨g1,a,b,g2,⟨rfl,?_,λh=>by simp at h⟩,g5⟩⟩⟩;.have:=g3.2.1.2 rfl;dsimp at this;omega
    .unfold loR;dsimp;omega
  ·rw[if_pos (by
 simp[bU,cH,decide_eq_false_iff_not,decide_eq_true_eq];by_cases f:onP p
 · by_cases w:d=⟨0,0,0⟩;.exact .inl (.inl (.inr w))
   .have e:¬H5 d:=λe=>h ⟨f,e⟩;unfold H5 at e;grind
 .exact .inl (.inl (.inl f)))];exact⟨_,rfl,by simp,λj=>absurd ⟨j.1,j.2.1⟩ h⟩
def Tot{e:Type}(o:Option e):Prop:=∃r,o=some r
theorem Tot.pure{e:Type}(x:e):Tot (some x):=⟨x,rfl⟩
theorem Tot.bind{e m:Type}{o:Option e}{f:e->Option m}(h:Tot o)(g:∀x,o=some x->Tot (f x)):Tot (o.bind f):=by have⟨x,j⟩:=h;rw[j];exact g x j
theorem Tot.ite{e:Type}{c:Prop}[Decidable c]{x y:Option e}(h:c->Tot x)(g:¬c->Tot y):Tot (if c then x else y):=by
 split;.exact h ‹_›
 .exact g ‹_›
theorem lI{e ρ:Type}{body:e->Option (aY e ρ)}(x:e->Int)(I:e->Prop)(N:Nat)(step:∀s i,x s=((i:Nat):Int)->i<N->I s->(∃g,body s=some (.go g)/\x g=((i+1:Nat):Int)/\I g)∨∃f,body s=some f/\f.ends)(done:∀s,x s=((N:Nat):Int)->I s->∃f,body s=some f/\f.ends)(j:e)(m:x j=0)(q:I j){u:Nat}(w:N<u):∃f,az body u j=some f/\f.ends:=by have⟨f,h1,y,_⟩:=cC (λi s=>x s=i/\I s) N _ (λi s hi h=>(step s i h.1 hi h.2).imp (λ⟨g,a,b,c⟩=>⟨g,a,b,c⟩) λ ⟨f,a,b⟩=>⟨f,a,b,trivial⟩) (λs h=>let⟨f,a,b⟩:=done s h.1 h.2;⟨f,a,b,trivial⟩) j ⟨m,q⟩ u w;exact⟨f,h1,y⟩
theorem Tot.loop{e ρ j:Type}{o:Option (aY e ρ)}{f:aY e ρ->Option j}(h:∃x,o=some x/\x.ends)(g:∀x,x.ends->Tot (f x)):Tot (o.bind f):=by have⟨x,m,q⟩:=h;rw[m];exact g x q
theorem ub{e:Type}{s:List e}{f:e->Option Bool}{g:e->Bool}(E:s.length<=1000000)(u:∀x∈s,f x=some (g x)):Rz s f=some (s.any g):=by
 unfold Rz zY;rw[Option.bind_assoc];refine lZ (λi t=>t=(i:Int)/\∀m(h:m<s.length),m<i->g s[m]=false) s.length (.=some _) (λi t hi⟨j,I⟩=>?_) (λt⟨j,I⟩=>?_) ⟨rfl,λm _ h=>by omega⟩ (by omega);.subst j;rw[if_pos (by simpa using hi),ag hi,qb,u s[i] (aQ hi)];cases w:g s[i]with|true=>exact .inr ⟨_,rfl,trivial,by rw[jG.2 ⟨_,aQ hi,w⟩];simp⟩;|false=>rw[aj (by omega)];refine .inl ⟨_,rfl,rfl,λm q y=>?_⟩;grind
 .subst j;rw[if_neg (by simp)];refine⟨_,rfl,trivial,?_⟩;rw[show s.any g=false by rw[uK];intro x z;obtain⟨m,q,rfl⟩:=bR z;rw[I m q q];simp];rfl
theorem qE{e:Type}{s:List e}{f:e->Option Bool}(h:s.length<=1000000)(j:∀x,Tot (f x)):Tot (Rz s f):=⟨_,ub (g:=λx=>(f x).getD false) h λx _=>by have⟨b,m⟩:=j x;rw[m];rfl⟩
theorem Bx{s:List aD}{f:aD->Option Bool}(h:s.length<=1000000)(e:∀x,Tot (f x)):Tot (du s f):=qE h e
theorem Ee{s:ByteArray}{n:Nat}(h:n<s.size):Tot (Ho s (n:Int)):=by
 unfold Ho;have:s[(n:Int).toNat]?=some s[n]:=by simp
 rw[this];exact Tot.pure _
theorem Ay(c:IK .u8):Tot (kL c):=Tot.pure _
theorem Kn(c:IK .u8):Tot (qC c):=Tot.pure _
theorem Jw(c:IK .u8):Tot (si c):=by refine(Ay c).bind λx _=>?_;refine Tot.bind (Tot.ite (λ _=>Tot.pure _) λ _=>(Kn c).bind λ _ _=>Tot.pure _) λ _ _=>Tot.pure _
theorem ME{s:ByteArray}{f:IK .u8->Option Bool}(u:s.size<=1000000)(e:∀c,Tot (f c)):Tot (vS s f):=by
 refine Tot.loop (lI (λs=>s) (λ _=>True) s.size ?_ ?_ 0 rfl trivial (by omega)) ?_;.intro i n hi h _;subst hi;unfold pM;have⟨c,g⟩:=Ee h;have⟨b,j⟩:=e c;rw[if_pos (by simpa using h),g];simp only[qb,j];cases b with|false=>exact .inr ⟨_,rfl,trivial⟩;|true=>rw[aj (by omega)];exact .inl ⟨_,rfl,rfl,trivial⟩
 .intro i hi _;subst hi;unfold pM;rw[if_neg (by simp)];exact⟨_,rfl,trivial⟩
 .intro x m;cases x with|go _=>exact m.elim;|ex _ _=>exact Tot.pure _;|ret _=>exact Tot.pure _
theorem M4(s:ByteArray):∃b,qG s=some b/\(b=true->s.size<=20):=by
 have h1:Tot (if((s.toList==(⟨#[]⟩:ByteArray).toList))then some true else(Ho s 0).bind λc=>(kL c).bind λl=>some (!l)):=by
  refine Tot.ite (λ _=>Tot.pure _) λh=>?_;have j:0<s.size:=by
   rcases qp s.size with g|g;.simp_all
   .exact g
  exact(Ee j).bind λc _=>(Ay c).bind λ _ _=>Tot.pure _
 have⟨x,m⟩:=h1;unfold qG;rw[m];simp only[qb];by_cases e:(x||decide (20<(s.size:Int)))=true;.rw[if_pos e];exact⟨_,rfl,λh=>by simp at h⟩
 · rw[if_neg e];have f:s.size<=20:=by simp at e;omega
   have⟨n,q⟩:=ME (s:=s) (by omega) Jw;rw[q];exact⟨_,rfl,λ _=>f⟩
theorem D8{s t:ByteArray}(h:s.size<=4000):Tot (strings_Contains s t):=by unfold strings_Contains;rw[if_pos (by omega)];exact Tot.pure _
theorem N0:IntKind.i64.max=9223372036854775807:=by simp
theorem xx{s t:ByteArray}(h:s.size+t.size<=1000000):Gc s t=some (s++t):=by unfold Gc;rw[N0,if_pos (by omega)]
theorem LB(res s:ByteArray)(j:res.size<=4000):Tot ((qG s).bind λx=>(if x then(Gc (⟨#[32]⟩:ByteArray) s).bind λy=>(Gc y (⟨#[32]⟩:ByteArray)).bind λz=>(strings_Contains res z).bind λb=>some (!b)else some false).bind λb=>some b):=by
 have⟨b,g,e⟩:=M4 s;refine Tot.bind ⟨b,g⟩ λx m=>?_;refine Tot.bind (Tot.ite (λh=>?_) λ _=>Tot.pure _) λ _ _=>Tot.pure _;have q:s.size<=20:=e (by rw[<-ae (m.symm.trans g)];exact h);have h1:(⟨#[32]⟩:ByteArray).size=1:=rfl;refine Tot.bind ⟨_,xx (by omega)⟩ λy f=>?_;have f:y.size=1+s.size:=by rw[xx (by omega)]at f;rw[<-ae f,ByteArray.size_append,h1]
 exact Tot.bind ⟨_,xx (by omega)⟩ λz _=>Tot.bind (D8 j) λ _ _=>Tot.pure _
theorem LY(s:ByteArray):Tot (k5 s):=by unfold k5;exact LB _ s (mZ (by kernel_rfl))
def SmP(p:Phase):Prop:=p.Volumes.length<=12/\p.ba.length<=6
def SmD(d:ay):Prop:=d.Phases.length<=9/\∀p∈d.Phases,SmP p
def gY(l:List ay):Prop:=l.length<=maxLen/\∀d∈l,d.Phases.length<=maxLen
theorem IC{d:ay}(h:SmD d):∃l,kN d=some l/\l.length<=108:=by have⟨f,h1,h2,h3⟩:=cC (body:=gM d 0 d.Phases.length) (λi s=>s.2=i/\s.1.length<=12*i) d.Phases.length (λf=>match f with| .ex _ s=>s.1.length<=108|_=>False) (λi s hi⟨hs,hI⟩=>by have h9:=h.1;have hv:=(h.2 _ (aQ hi)).1;unfold gM;rw[hs,if_pos (by simpa using hi),ag hi,qb,if_pos (by simp;omega),bP (by omega),aj (by omega)];exact .inl ⟨_,rfl,rfl,by simp;omega⟩) (λs ⟨hs,hI⟩=>by have h9:=h.1;unfold gM;rw[hs,if_neg (by simp)];exact⟨_,rfl,trivial,by show s.1.length<=108;omega⟩) ([],0) ⟨rfl,by simp⟩ (d.Phases.length+1) (by omega);unfold kN nY;rw[h1];cases f with|go _=>exact h2.elim;|ret r=>exact h3.elim;|ex _ s=>exact⟨_,rfl,h3⟩
theorem G0(v:aD):Tot (cF v):=by refine Tot.bind (Tot.pure _) λ _ _=>Tot.ite (λ _=>Tot.pure _) λ _=>Tot.ite (λ _=>Tot.pure _) λ _=>Tot.pure _
theorem No(a b:Box):Tot (rP a b):=by refine Tot.bind (Tot.bind (Tot.pure _) λ _ _=>Tot.bind (Tot.ite (λ _=>Tot.pure _) λ _=>Tot.bind (Tot.pure _) λ _ _=>Tot.pure _) λ _ _=>Tot.ite (λ _=>Tot.pure _) λ _=>Tot.bind (Tot.bind (Tot.pure _) λ _ _=>Tot.ite (λ _=>Tot.pure _) λ _=>Tot.pure _) λ _ _=>Tot.pure _) λ _ _=>Tot.pure _
theorem Kl{l:List aD}(h:l.length<=1000000):∃f,az (gW l) (l.length+1) 0=some f/\f.ends:=by
 refine lI (λs=>s) (λ _=>True) l.length ?_ ?_ 0 rfl trivial (by omega)
 · intro s i hs hi _;subst hs;unfold gW;rw[if_pos (by simpa using hi),ag hi];simp only[qb];have⟨b,hb⟩:=G0 l[i];rw[hb];simp only[qb];have⟨c,hc⟩:Tot (if(!b)=true then some true else(gH l 0 i).bind λy=>(du y (λy0=>iQ y0 l[i])).bind λz=>some z):=by refine Tot.ite (λ _=>Tot.pure _) λ _=>?_;rw[nn (by omega) (by omega) (by omega)];simp only[qb];refine Tot.bind (Bx (by simp;omega) λx=>?_) λ _ _=>Tot.pure _;exact Tot.bind (No _ _) λ _ _=>Tot.pure _
   rw[hc];cases c with|true=>exact .inr ⟨_,rfl,trivial⟩;|false=>rw[aj (by omega)];exact .inl ⟨_,rfl,rfl,trivial⟩
 .intro s hs _;subst hs;unfold gW;rw[if_neg (by simp)];exact⟨_,rfl,trivial⟩
theorem Ks{p:Phase}(h:SmP p):∃f,az (hM p) (p.ba.length+1) ((⟨[]⟩:(vx ByteArray Bool)),0)=some f/\f.ends:=by
 have h6:=h.2;refine lI (λs=>s.2) (λ _=>True) p.ba.length ?_ ?_ _ rfl trivial (by omega)
 · intro s i hs hi _;unfold hM;rw[hs,if_pos (by simpa using hi),ag hi];simp only[qb];have⟨c,hc⟩:Tot (if(bV (s.1).l p.ba[i].Name).getD false=true then some true else(k5 p.ba[i].Name).bind λy=>some (!y)):=Tot.ite (λ _=>Tot.pure _) λ _=>Tot.bind (LY _) λ _ _=>Tot.pure _;rw[hc];simp only[qb];split;.exact .inr ⟨_,rfl,trivial⟩
   .rw[aj (by omega)];exact .inl ⟨_,rfl,rfl,trivial⟩
 .intro s hs _;unfold hM;rw[hs,if_neg (by simp)];exact⟨_,rfl,trivial⟩
theorem JK{d:ay}(h:SmD d):∃f,az (gR d) (d.Phases.length+1) 0=some f/\f.ends:=by
 have h9:=h.1;refine lI (λs=>s) (λ _=>True) d.Phases.length ?_ ?_ 0 rfl trivial (by omega);.intro s i hs hi _;subst hs;unfold gR;rw[if_pos (by simpa using hi),ag hi];simp only[qb];have⟨f,hf,he⟩:=Ks (h.2 _ (aQ hi));rw[hf];cases f with|go _=>exact he.elim;|ret r=>exact .inr ⟨_,rfl,trivial⟩;|ex _ _=>
  dsimp;split;.exact .inr ⟨_,rfl,trivial⟩
  .rw[aj (by omega)];exact .inl ⟨_,rfl,rfl,trivial⟩
 .intro s hs _;subst hs;unfold gR;rw[if_neg (by simp)];exact⟨_,rfl,trivial⟩
theorem LW{d:ay}(h:SmD d):Tot (iT d):=by have⟨l,hl,h108⟩:=IC h;unfold iT;rw[hl];refine Tot.ite (λ _=>Tot.pure _) λ _=>?_;refine Tot.loop (Kl (by omega)) λx hx=>?_;cases x with|go _=>exact hx.elim;|ret _=>exact Tot.pure _;|ex _ _=>refine Tot.loop (JK h) λx hx=>?_;cases x with|go _=>exact hx.elim;|ret _=>exact Tot.pure _;|ex _ _=>exact Tot.pure _
theorem G2{e:Type}{n:Nat}{z:e}(h:n<=1000000):B4 (n:Int) z=some (List.replicate n z):=by unfold B4;rw[if_pos (by constructor<;>omega)];simp
theorem EP{i n:Nat}(h:0<n):JY (i:Int) (n:Int)=some ((i%n:Nat):Int):=by unfold JY;rw[if_pos (by omega)];congr 1
theorem AZ{p:List fc}(h:p.length<=60):∃l,iG p=some l/\l.length=p.length:=by unfold iG;rw[G2 (by omega),qb];obtain⟨f,h1,m,q⟩:=cC (body:=iw p) (λi s=>s.2=i/\s.1.length=p.length) p.length (λf=>match f with| .ex _ s=>s.1.length=p.length|_=>False) (λi s hi⟨e,g⟩=>by have⟨l,j⟩:=s;subst e;unfold iw;rw[if_pos (by simpa using hi),ag hi,qb,aj (by omega),qb,EP (by omega),qb,ag (Nat.mod_lt _ (by omega)),ag (by omega)];exact .inl ⟨_,rfl,rfl,by simpa using g⟩) (λs ⟨e,g⟩=>by unfold iw;rw[e,if_neg (by simp)];exact⟨_,rfl,trivial,g⟩) (List.replicate p.length _,0) ⟨rfl,by simp⟩ (p.length+1) (by omega);rw[h1];grind
theorem yp(a b:Int):Tot (cq a b):=Tot.ite (λ_=>Tot.ite (λ_=>Tot.pure _) λ_=>Tot.pure _) λ_=>Tot.ite (λ_=>Tot.pure _) λ_=>Tot.ite (λ_=>Tot.pure _) λ_=>Tot.ite (λ_=>Tot.pure _) λ_=>Tot.pure _
theorem Re{l:List Int}(h:l.length<=100):Tot (my l):=by
 refine Tot.loop (lI (λs=>s) (λ _=>True) l.length ?_ ?_ 0 rfl trivial (by omega)) ?_
 · intro s i e hi _;subst e;unfold mI;rw[if_pos (by simpa using hi),ag hi,qb];split;.exact .inr ⟨_,rfl,trivial⟩
   .rw[aj (by omega)];exact .inl ⟨_,rfl,rfl,trivial⟩
 .intro s e _;subst e;unfold mI;rw[if_neg (by simp)];exact⟨_,rfl,trivial⟩
 .intro x f;cases x with|go _=>exact f.elim;|ex _ _=>exact Tot.pure _;|ret _=>exact Tot.pure _
theorem DV(a b:fc):Tot (kA a b):=Tot.bind (yp _ _) λ_ _=>Tot.bind (yp _ _) λ_ _=>Tot.bind (Re (by simp)) λ_ _=>Tot.pure _
theorem Gr{p:List fc}{l:List bX}(h:p.length<=60)(q:l.length=p.length):∃f,az (iY p l) (l.length+1) 0=some f/\f.ends:=by
 refine lI (λs=>s) (λ _=>True) l.length ?_ ?_ 0 rfl trivial (by omega)
 · intro s i g hi _;subst g;unfold iY;rw[if_pos (by simpa using hi),ag hi,qb,aj (by omega),qb,EP (by omega),qb,ag (Nat.mod_lt _ (by omega)),qb];unfold pj dB;rw[qb];obtain⟨c,j⟩:Tot (if(_||(_==(l[i].a.Y==l[i].b.Y)))=true then some true else(some (l[i].a.X==l[i].b.X)).bind λx=>(some _).bind λy=>some (x==y)):=Tot.ite (λ _=>Tot.pure _) λ _=>Tot.pure _;rw[j,qb];split;.exact .inr ⟨_,rfl,trivial⟩
   · have⟨e,m⟩:Tot (if(decide ((0:Int)<i))=true then(aR p 0).bind λx=>(aR p i).bind λy=>(kA x y).bind λz=>some (decide (0<=z))else some false):=by refine Tot.ite (λ _=>?_) λ _=>Tot.pure _;rw[show(0:Int)=(0:Nat)from rfl,ag (by omega),qb,ag (by omega),qb];exact Tot.bind (DV _ _) λ _ _=>Tot.pure _
     rw[m,qb];split;.exact .inr ⟨_,rfl,trivial⟩
     simp_all
 .intro s g _;subst g;unfold iY;rw[if_neg (by simp)];exact⟨_,rfl,trivial⟩
theorem EA{l:List bX}{i:Nat}(h:l.length<=60)(hi:i<l.length):∃f,az (eG l (i:Int)) (l.length+1) ((i+2:Nat):Int)=some f/\f.ends:=by
 by_cases u:l.length<=i+2
 · refine⟨.ex 4 (i+2:Nat),?_,trivial⟩;have e:eG l i (i+2:Nat)=some (.ex 4 (i+2:Nat)):=by unfold eG;rw[if_neg (by simp;omega)]
   simp only[az,e]
 ·have⟨f,h1,j,_⟩:=cC (body:=eG l i) (λm s=>s=(i+2+m:Nat)) (l.length-(i+2)) (λ _=>True) (λm s w g=>by
 subst g;unfold eG;rw[if_pos (by simp;omega),cM (by constructor<;>omega),qb,cZ (by constructor<;>omega),qb,ag hi,qb,ag (by omega),qb];unfold iM;rw[qb];obtain⟨c,q⟩:Tot (if(decide ((1:Int)<i+_-_))=true then some _ else some false):=Tot.ite (λ _=>Tot.pure _) λ _=>Tot.pure _;rw[q,qb];split;.exact .inr ⟨_,rfl,trivial,trivial⟩
 .rw[aj (by omega)];exact .inl ⟨_,rfl,by congr 1⟩) (λs g=>by unfold eG;rw[if_neg (by simp;omega)];exact⟨_,rfl,trivial,trivial⟩) (i+2) (by simp) (l.length+1) (by omega);exact⟨f,h1,j⟩
theorem HC{p:List fc}:Tot (p7 p):=by
 refine Tot.ite (λ _=>Tot.pure _) λh=>?_;simp at h;have e:p.length<=60:=by omega
 have⟨l,w,j⟩:=AZ e;rw[w];refine Tot.loop (Gr e j) λx m=>?_;cases x with|go _=>exact m.elim;|ret _=>exact Tot.pure _;|ex _ _=>
 refine Tot.loop (lI (λs=>s) (λ _=>True) l.length ?_ ?_ 0 rfl trivial (by omega)) λx m=>?_;.intro s i q hi _;subst q;unfold mB;rw[if_pos (by simpa using hi),cM (by constructor<;>omega),qb];have⟨f,y,z⟩:=EA (by omega) hi;rw[show((i:Int)+2)=(i+2:Nat)by rfl,y];cases f with|go _=>exact z.elim;|ret _=>exact .inr ⟨_,rfl,trivial⟩;|ex _ _=>rw[aj (by omega)];exact .inl ⟨_,rfl,rfl,trivial⟩
 .intro s q _;subst q;unfold mB;rw[if_neg (by simp)];exact⟨_,rfl,trivial⟩
 .cases x with|go _=>exact m.elim;|ret _=>exact Tot.pure _;|ex _ _=>rw[show(0:Int)=(0:Nat)from rfl,ag (by omega)];exact Tot.pure _
theorem Gk{xs:List Int}{l:List bX}{s:List aC×Int}{m:Nat}(q:l.length<=60)(e:s.2=(m:Int))(x:m<xs.length):∃f,az (fV xs l s) (l.length+1) (([]:List Int),0)=some f/\f.ends/\(match f with| .ex _ t=>t.1.length<=60| .go _=>False| .ret _=>False):=by
 refine cC (body:=fV xs l s) (λi t=>t.2=i/\t.1.length<=i) l.length _ (λi t hi⟨h,I⟩=>?_) (λt⟨h,I⟩=>?_) _ ⟨rfl,by simp⟩ _ (by omega);.unfold fV;rw[h,e,if_pos (by simpa using hi),ag hi,qb];unfold dB;rw[qb,ag x];obtain⟨c,g⟩:Tot (if(!(l[i].a.X==l[i].b.X))=true then(some xs[m]).bind λy=>some (decide (_<=y))else some false):=Tot.ite (λ _=>Tot.pure _) λ _=>Tot.pure _;rw[g,qb];obtain⟨d,j⟩:Tot (if c=true then(some xs[m]).bind λy=>some (decide (y<_))else some false):=Tot.ite (λ _=>Tot.pure _) λ _=>Tot.pure _;rw[j];cases d with|true=>rw[bP (by simp;omega),aj (by omega)];exact .inl ⟨_,rfl,rfl,by simp;omega⟩;|false=>rw[aj (by omega)];exact .inl ⟨_,rfl,rfl,by show t.1.length<=_;omega⟩
 .unfold fV;rw[h,if_neg (by simp)];exact⟨_,rfl,trivial,by show t.1.length<=60;omega⟩
theorem FN{xs ys:List Int}{s:List aC×Int}{m fuel:Nat}(e:s.2=(m:Int))(x:m+1<xs.length)(j:ys.length<=60)(q:s.1.length<=60*m)(h:m<=60)(u:ys.length<fuel):∃f,az (fO xs s ys) fuel (s.1,0)=some f/\f.ends/\(match f with| .ex _ t=>t.1.length<=60*(m+1)| .go _=>False| .ret _=>False):=by
 refine cC (body:=fO xs s ys) (λi t=>t.2=(2*i:Nat)/\t.1.length<=60*m+i) (ys.length/2) _ (λi t hi⟨g,I⟩=>?_) (λt _=>?_) _ ⟨rfl,by omega⟩ _ (by omega);·unfold fO;rw[g,cM (by constructor<;>omega),qb,show(_+1)=((2*i+1:Nat):Int)by rfl,if_pos (by simp;omega),e,ag (by omega),qb,ag (by omega),qb,aj (by omega),qb,ag x,qb,qb,ag (by omega),qb,bP (by simp;omega),cM (by constructor<;>omega)];exact .inl ⟨_,rfl,by omega,by simp;omega⟩
 .unfold fO;rw[cM (by constructor<;>omega),qb,if_neg (by simp;omega)];exact⟨_,rfl,trivial,by show t.1.length<=_;omega⟩
theorem H9{p:List fc}(h:p.length<=12):∃r,lL p=some r/\r.1.length<=1000:=by unfold lL;obtain⟨b,E⟩:=HC (p:=p);rw[E,qb];cases b with|false=>rw[if_pos (by simp)];exact⟨_,rfl,by simp⟩;|true=>rw[if_neg (by simp)];obtain⟨f,h1,F,G⟩:=cC (body:=iy p) (λi s=>s.2=((i:Nat):Int)/\s.1.length=i) p.length (λf=>match f with| .ex _ s=>s.1.length=p.length|_=>False) (λi s hi⟨m,j⟩=>by unfold iy;rw[m,if_pos (by simpa using hi),ag hi,qb,bP (by simp;omega),qb,aj (by omega)];exact .inl ⟨_,rfl,rfl,by simp[j]⟩) (λs ⟨m,j⟩=>by unfold iy;rw[m,if_neg (by simp)];exact⟨_,rfl,trivial,j⟩) (([]:List Int),0) ⟨rfl,rfl⟩ (p.length+1) (by omega);rw[h1,qb];cases f with|go _=>exact F.elim;|ret _=>exact G.elim;|ex _ s=>dsimp only;obtain⟨x1,g1,g2,g3⟩:=mL (l:=s.1) (by omega);have H:=g2.length_eq;obtain⟨x,J,_,_,V⟩:=mr (l:=x1) (by omega) g3;rw[g1,qb,J,qb];obtain⟨l,j,M⟩:=AZ (p:=p) (by omega);rw[j,qb,cZ (by constructor<;>omega),qb];obtain⟨f,e1,O,u⟩:=cC (body:=iq x l ((x.length:Int)-1)) (λi t=>t.2=((i:Nat):Int)/\t.1.length<=60*i) (x.length-1) (λf=>match f with| .ex _ t=>t.1.length<=1000|_=>False) (λi t hi⟨g,I⟩=>by unfold iq;rw[if_pos (by rw[g];simp;omega)];obtain⟨f2,P,a2,a3⟩:=Gk (xs:=x) (l:=l) (s:=t) (by omega) g (by omega);rw[P,qb];cases f2 with|go _=>exact a2.elim;|ret _=>exact a3.elim;|ex _ t2=>dsimp only;obtain⟨ys,R,T,W⟩:=mL (l:=t2.1) (by omega);have U:=T.length_eq;rw[R,qb];obtain⟨f3,c1,c2,w⟩:=FN (xs:=x) (ys:=ys) (s:=t) (fuel:=x.length+l.length+t.1.length+ys.length+1) g (by omega) (by omega) I (by omega) (by omega);rw[c1,qb];cases f3 with|go _=>exact c2.elim;|ret _=>exact w.elim;|ex _ t3=>rw[g,aj (by omega)];exact .inl ⟨_,rfl,rfl,w⟩) (λt⟨g,I⟩=>by unfold iq;rw[if_neg (by rw[g];simp;omega)];exact⟨_,rfl,trivial,by show t.1.length<=1000;omega⟩) (([]:List aC),0) ⟨rfl,by simp⟩ (((x.length:Int)-1).toNat+1) (by omega);rw[e1,qb];cases f with|go _=>exact O.elim;|ret _=>exact u.elim;|ex _ t=>
 dsimp only;split;.exact⟨_,rfl,by simp⟩
 .exact⟨_,rfl,u⟩
def lmd(n:Int):Int:=min (max n (-1099511627776)) 1099511627776
theorem Mv(n:Int):nF n=some (lmd n):=rfl
theorem HR(n:Int):-1099511627776<=lmd n/\lmd n<=1099511627776:=by unfold lmd;omega
def nmd:List Entry->Cap->Int|[],_=>0|e::l,c=>(if e.Name=c.Name then lmd e.N else 0)+nmd l c
theorem Jg(c:Cap):∀(l m:List Entry),nmd (l++m) c=nmd l c+nmd m c|[],m=>by simp[nmd];|e::l,m=>by simp[nmd,Jg c l m];omega
theorem xQ(c:Cap):∀l:List Entry,-(1099511627776*(l.length:Int))<=nmd l c/\nmd l c<=1099511627776*(l.length:Int)|[]=>by simp[nmd];|e::l=>by have h:=xQ c l;have f:=HR e.N;simp[nmd];split<;>omega
theorem Ff{l:List Entry}{c:Cap}(h:l.length<=1000):q9 l c=some (nmd l c):=by have⟨f,h1,q,u⟩:=cC (body:=oq l c) (λi s=>s.2=i/\s.1=nmd (l.take i) c) l.length (λf=>match f with| .ex _ s=>s.1=nmd l c|_=>False) (λi s hi⟨j,I⟩=>by
 unfold oq;have w:=xQ c (l.take i);have m:(l.take i).length<=1000:=by simp;omega
 have x:=HR l[i].N;rw[j,if_pos (by simpa using hi),ag hi,qb,<-beq_toListBytes,Ij];have e:nmd (l.take (i+1)) c=nmd (l.take i) c+(if l[i].Name=c.Name then lmd l[i].N else 0):=by rw[dj hi,Jg];simp[nmd]
 by_cases g:l[i].Name=c.Name;.rw[if_pos (by simpa using g),Mv,qb,I,cM (by constructor<;>omega),aj (by omega)];exact .inl ⟨_,rfl,rfl,by rw[e,if_pos g]⟩
 .rw[if_neg (by simpa using g),aj (by omega)];exact .inl ⟨_,rfl,rfl,by rw[e,if_neg g];omega⟩) (λs⟨j,I⟩=>by unfold oq;rw[j,if_neg (by simp)];rw[cJ]at I;exact⟨_,rfl,trivial,I⟩) (0,0) ⟨rfl,by simp[nmd]⟩ (l.length+1) (by omega);unfold q9;grind
theorem Sz{v:aD}:∃b,cF v=some b/\(b=true->VR v.Box.Base/\0<=v.Box.Z0/\v.Box.Z0<v.Box.Z1/\v.Box.Z1<=4096/\0<=v.Use/\v.Use<=5/\0<=v.Units/\v.Units<=1048576):=by
 unfold cF;rw[fm,qb];split;.exact⟨_,rfl,λh=>by simp at h⟩
 · rename_i h;split;.exact⟨_,rfl,λh=>by simp at h⟩
   .refine⟨_,rfl,λg=>?_⟩;grind
def oP(p:aK):Prop:=p.Tables.length<=5/\∀t∈p.Tables,t.Rows.length<=10
theorem Hs{s:List Entry}{f:Entry->Option Bool}(m:s.length<=1000000)(g:∀x,Tot (f x)):∃r,gK s f=some r/\(0<=r->r<(s.length:Int)):=by
 refine lZ (λi t=>t=(i:Int)) s.length (λo:Option Int=>∃r,o=some r/\(0<=r->r<s.length)) (λi t hi e=>?_) (λt e=>?_) rfl (by omega);.subst e;have⟨b,j⟩:=g s[i];rw[if_pos (by simpa using hi),ag hi,qb,j];cases b with|true=>exact .inr ⟨_,rfl,trivial,_,rfl,λ _=>by omega⟩;|false=>rw[aj (by omega)];exact .inl ⟨_,rfl,rfl⟩
 .subst e;rw[if_neg (by simp)];exact⟨_,rfl,trivial,_,rfl,λh=>by omega⟩
theorem Mn{e:Entry}{q:ByteArray×ByteArray×ByteArray×ByteArray×ByteArray×ByteArray}{u:Int}(h:0<=u)(f:u<=5):Tot (mG e q u):=by unfold mG;rw[uj h (by simp;omega)];exact Tot.pure _
theorem OV{p:aK}{u:Int}(j:oP p)(w:0<=u)(y:u<=5):∃n,pX p u=some n/\0<=n/\n<=1048576:=by
 have z:=j.1;have⟨f,h1,E,q⟩:=cC (body:=lq p u) (λi s=>s=i) p.Tables.length (λf=>match f with| .ex _ _=>True| .ret n=>0<=n/\n<=1048576| .go _=>False) (λi s hi e=>by
 subst e;unfold lq;rw[if_pos (by simpa using hi),ag hi,qb];split;.rw[aj (by omega)];exact .inl ⟨_,rfl,rfl⟩
 · have F:=j.2 _ (aQ hi);obtain⟨r,G,g⟩:=Hs (s:=p.Tables[i].Rows) (by omega) λx=>Mn w y;rw[G,qb];have⟨m,H⟩:Tot (if(decide (0<=r))=true then(aR p.Tables[i].Rows r).bind λx=>some x.N else some p.Tables[i].Else):=by refine Tot.ite (λh=>?_) λ _=>Tot.pure _;have h:=of_decide_eq_true h;rw[uj h (g h)];exact Tot.pure _
   rw[H];exact .inr ⟨_,rfl,trivial,by omega,by omega⟩) (λs e=>by subst e;unfold lq;rw[if_neg (by simp)];exact⟨_,rfl,trivial,trivial⟩) 0 rfl (p.Tables.length+1) (by omega);unfold pX;rw[h1];cases f with|go _=>exact E.elim;|ex _ _=>exact⟨_,rfl,by omega,by omega⟩;|ret n=>exact⟨_,rfl,q.1,q.2⟩
theorem zT{r:aC}(h:VR r):∃n,ib r=some n/\0<=n/\n<=1099511627776:=by unfold ib jm;have e:=h;unfold VR at e;rw[fm,decide_eq_true h];dsimp;rw[cZ (by constructor<;>omega),qb,cZ (by constructor<;>omega),qb];have h1:0<=(r.X1-r.X0)*(r.Y1-r.Y0):=Int.mul_nonneg (by omega) (by omega);have f:(r.X1-r.X0)*(r.Y1-r.Y0)<=1048576*1048576:=Int.mul_le_mul (by omega) (by omega) (by omega) (by omega);rw[qJ (by constructor<;>omega)];exact⟨_,rfl,h1,by omega⟩
theorem Jv(v:aD):∃n,mP v=some n/\0<=n/\n<=2251799813685248:=by unfold mP;obtain⟨b,m,e⟩:=Sz;rw[m,qb];cases b with|false=>rw[if_pos (by simp)];exact⟨_,rfl,by omega,by omega⟩;|true=>
 have⟨V,h1,w,x,_⟩:=e rfl;have⟨a,q,f,g⟩:=zT V;rw[q,qb];have⟨s,u,h,j⟩:∃s,ka v=some s/\0<=s/\s<=2048:=by unfold ka;rw[m];cases v.Extra with|true=>rw[if_pos rfl];exact⟨_,rfl,by omega,by omega⟩;|false=>rw[if_neg (by simp),qb,qb,if_neg (by simp),cZ (by constructor<;>omega),qb,cM (by constructor<;>omega),qb,cZ (by constructor<;>omega),qb];have y:(v.Box.Z1-v.Box.Z0+3-1).tdiv 3=(v.Box.Z1-v.Box.Z0+3-1)/3:=xp (by omega);unfold G7;rw[if_pos ⟨by omega,by constructor<;>omega⟩];exact⟨_,rfl,by omega,by omega⟩
 rw[u,qb];have g1:0<=a*s:=Int.mul_nonneg f h;have g2:a*s<=1099511627776*2048:=Int.mul_le_mul g j h (by omega);rw[qJ (by constructor<;>omega)];exact⟨_,rfl,g1,by omega⟩
theorem EU{p:aK}{v:aD}(g:oP p)(j:0<=v.Use)(m:v.Use<=5):∃n,kn p v=some n/\0<=n/\n<=1099511627776:=by
 unfold kn;have⟨r,q,u,w⟩:=OV g j m;have⟨f,x,h,y⟩:=Jv v;rw[q,qb,x,qb];by_cases z:0<r
 · have E:(109951162777600:Int).tdiv r=109951162777600/r:=xp (by omega);have F:0<=109951162777600/r:=Int.ediv_nonneg (by omega) (by omega);have G:109951162777600/r<=109951162777600:=Int.ediv_le_self _ (by omega);rw[if_pos (by simpa using z)];unfold G7;rw[if_pos ⟨by omega,by constructor<;>omega⟩,qb,qb,E];by_cases e:109951162777600/r<f;.rw[if_pos (by simpa using e)];exact⟨_,rfl,by omega,by omega⟩
   .rw[if_neg (by simpa using e)];have g0:0<=r*f:=Int.mul_nonneg (by omega) h;have g1:r*f<=r*(109951162777600/r):=Int.mul_le_mul_of_nonneg_left (by omega) (by omega);have g2:r*(109951162777600/r)<=109951162777600:=Int.mul_ediv_self_le (by omega);rw[qJ (by constructor<;>omega),qb,cM (by constructor<;>omega),qb,cZ (by constructor<;>omega),qb];have H:(r*f+100-1).tdiv 100=(r*f+100-1)/100:=xp (by omega);rw[if_pos ⟨by omega,by constructor<;>omega⟩];exact⟨_,rfl,by omega,by omega⟩
 · obtain rfl:r=0:=by omega
   rw[qJ (by constructor<;>omega),Int.zero_mul];exact⟨_,rfl,by decide,by decide⟩
theorem Bw{s:List aC}{f:aC->Option Bool}(h:s.length<=1000000)(e:∀x,Tot (f x)):Tot (cY s f):=qE h e
theorem BN(a b:aC):Tot (gh a b):=by unfold gh jm;simp[fm];refine Tot.bind (Tot.ite (λ _=>Tot.pure _) λ _=>Tot.pure _) λ _ _=>Tot.ite (λ _=>Tot.pure _) λ _=>Tot.bind (Tot.ite (λ _=>Tot.pure _) λ _=>Tot.pure _) λ _ _=>Tot.pure _
theorem LH{p:aK}{c:Cap}{v:aD}(j:oP p)(m:c.Corners.length<=12):∃n,gL p c v=some n/\0<=n/\n<=1099511627776:=by unfold gL;obtain⟨b,q,h⟩:=Sz;rw[q,qb];cases b with|false=>rw[if_pos (by simp)];exact⟨_,rfl,by omega,by omega⟩;|true=>
 have⟨V,h1,H,I,u,w,J,M⟩:=h rfl;rw[if_neg (by simp)];have⟨r,y,z⟩:=H9 m;rw[y,qb];have⟨e,E⟩:Tot (if(r.2!=0)=true then some true else(cY r.1 (λF=>oT F v)).bind λx=>some (!x)):=by refine Tot.ite (λ _=>Tot.pure _) λ _=>Tot.bind (Bw (by omega) λx=>?_) λ _ _=>Tot.pure _;exact Tot.bind (BN _ _) λ _ _=>Tot.pure _
 rw[E,qb];split;.exact⟨_,rfl,by omega,by omega⟩
 · split;.exact⟨_,rfl,by omega,by omega⟩
   · split;·have⟨n,G,f,g⟩:=EU j u w;grind
     · split;.have⟨n,G,f,g⟩:=zT V;grind
       .exact⟨_,rfl,by omega,by omega⟩
def ld(p:aK)(c:Cap)(v:aD):Int:=(gL p c v).getD 0
theorem Nw{p:aK}{c:Cap}{v:aD}(h:oP p)(e:c.Corners.length<=12):gL p c v=some (ld p c v)/\0<=ld p c v/\ld p c v<=1099511627776:=by obtain⟨n,f,g,h1⟩:=LH h e;unfold ld;rw[f];exact⟨rfl,g,h1⟩
def lds(p:aK)(c:Cap)(l:List aD):Int:=(l.map (ld p c)).sum
theorem O3(p:aK)(c:Cap)(l m:List aD):lds p c (l++m)=lds p c l+lds p c m:=by simp[lds]
theorem AT{p:aK}{c:Cap}(h:oP p)(f:c.Corners.length<=12):∀l:List aD,0<=lds p c l/\lds p c l<=1099511627776*(l.length:Int)
 |[]=>by simp[lds];|v::l=>by
  have g:=AT h f l;have j:=Nw (v:=v) h f;have e:lds p c (v::l)=ld p c v+lds p c l:=by simp[lds]
  rw[fD];omega
def loadT(t:aT)(c:Cap):Int:=nmd t.Base c+lds t.aK c (t.Built.map (·.aD))
def phL(p:aK)(c:Cap)(h:Phase):Int:=-(nmd h.ba c)+lds p c h.Volumes
theorem Hi{t:aT}{c:Cap}(e:oP t.aK)(g:c.Corners.length<=12)(u:t.Built.length<=1000)(m:t.Base.length<=1000):tx t c=some (loadT t c):=by
 unfold tx;rw[Ff m];have w:=xQ c t.Base;have⟨f,h1,x,y⟩:=cC (body:=pW t c) (λi s=>s.2=i/\s.1=nmd t.Base c+lds t.aK c ((t.Built.take i).map (·.aD))) t.Built.length (λf=>match f with| .ex _ s=>s.1=loadT t c|_=>False) (λi s hi⟨h,I⟩=>by
 unfold pW;have q:=Nw (v:=t.Built[i].aD) e g;have z:=AT e g ((t.Built.take i).map (·.aD));have j:((t.Built.take i).map (·.aD)).length<=1000:=by simp;omega
 rw[h,if_pos (by simpa using hi),ag hi,qb,q.1,qb,I,cM (by constructor<;>omega),aj (by omega),dj hi,hY];simp[lds];omega) (λs ⟨h,I⟩=>by unfold pW;rw[h,if_neg (by simp)];rw[cJ]at I;exact⟨_,rfl,trivial,I⟩) (nmd t.Base c,0) ⟨rfl,by simp[lds]⟩ (t.Built.length+1) (by omega);grind
theorem Ey{p:aK}{c:Cap}{h:Phase}(g:oP p)(j:c.Corners.length<=12)(w:h.Volumes.length<=1000)(q:h.ba.length<=1000):ue p c h=some (phL p c h):=by
 unfold ue;have x:=xQ c h.ba;rw[Ff q,qb,cZ (by constructor<;>omega)];have⟨f,h1,y,z⟩:=cC (body:=oH p c h) (λi s=>s.2=i/\s.1=-(nmd h.ba c)+lds p c (h.Volumes.take i)) h.Volumes.length (λf=>match f with| .ex _ s=>s.1=phL p c h|_=>False) (λi s hi⟨e,I⟩=>by
 unfold oH;have u:=Nw (v:=h.Volumes[i]) g j;have E:=AT g j (h.Volumes.take i);have m:(h.Volumes.take i).length<=1000:=by simp;omega
 rw[e,if_pos (by simpa using hi),ag hi,qb,u.1,qb,I,cM (by constructor<;>omega),aj (by omega),dj hi,O3];simp[lds];omega) (λs ⟨e,I⟩=>by unfold oH;rw[e,if_neg (by simp)];rw[cJ]at I;exact⟨_,rfl,trivial,I⟩) (0-nmd h.ba c,0) ⟨rfl,by simp[lds]⟩ (h.Volumes.length+1) (by omega);grind
def after(t:aT)(e:Int)(h:Phase):aT:={t with Built:=t.Built++h.Volumes.map (λv=>(⟨e,v⟩:cw)),Base:=t.Base++h.ba.map (λg=>(⟨g.Name,-(lmd g.N)⟩:Entry))}
theorem eT{e:Type}{s:List e}(h:s.length<=1000000):eE [] s=some s:=by rw[bP (by simp;omega),jR]
theorem M5{t:aT}{e:Int}{h:Phase}(q:t.Built.length+h.Volumes.length<=1000)(x:t.Base.length+h.ba.length<=1000):jb t e h=some (after t e h):=by unfold jb dG cc;rw[eT (by omega),qb,qb,eT (by omega),qb,qb];obtain⟨f,h1,u,m⟩:=cC (body:=gU e h) (λi s=>s.2=((i:Nat):Int)/\s.1={t with Built:=t.Built++(h.Volumes.take i).map (λv=>(⟨e,v⟩:cw))}) h.Volumes.length (λf=>match f with| .ex _ s=>s.1={t with Built:=t.Built++h.Volumes.map _}|_=>False) (λi s hi⟨j,I⟩=>by unfold gU;rw[j,if_pos (by simpa using hi),ag hi,qb,I];dsimp only;rw[bP (by simp;omega),qb,aj (by omega)];refine .inl ⟨_,rfl,rfl,?_⟩;rw[dj hi,hY,dM];rfl) (λs⟨j,I⟩=>by unfold gU;rw[j,if_neg (by simp)];rw[cJ]at I;exact⟨_,rfl,trivial,I⟩) (t,0) ⟨rfl,by simp⟩ (h.Volumes.length+1) (by omega);rw[h1,qb];cases f with|go _=>exact u.elim;|ret _=>exact m.elim;|ex _ s=>have m:s.1={t with Built:=t.Built++h.Volumes.map _}:=m;dsimp only;rw[m];obtain⟨f,g1,g2,g3⟩:=cC (body:=gO h) (λi s=>s.2=((i:Nat):Int)/\s.1={t with Built:=t.Built++h.Volumes.map (λv=>(⟨e,v⟩:cw)),Base:=t.Base++(h.ba.take i).map (λg=>(⟨g.Name,-(lmd g.N)⟩:Entry))}) h.ba.length (λf=>match f with| .ex _ s=>s.1=after t e h|_=>False) (λi s hi⟨j,I⟩=>by unfold gO;have q:=HR h.ba[i].N;rw[j,if_pos (by simpa using hi),ag hi,qb,Mv,qb,cZ (by constructor<;>omega),qb,I];dsimp only;rw[bP (by simp;omega),qb,aj (by omega)];refine .inl ⟨_,rfl,rfl,?_⟩;rw[dj hi,hY,dM,Int.zero_sub];rfl) (λs⟨j,I⟩=>by unfold gO;rw[j,if_neg (by simp)];rw[cJ]at I;exact⟨_,rfl,trivial,I⟩) ({t with Built:=t.Built++h.Volumes.map (λv=>(⟨e,v⟩:cw))},0) ⟨rfl,by simp⟩ (h.ba.length+1) (by omega);grind
def PhS(h:Phase):Prop:=h.Volumes.length<=2/\h.ba.length<=3
def RtS(r:aq):Prop:=r.ay.Phases.length<=4/\∀h∈r.ay.Phases,PhS h
def liv(r:aq):Bool:=((!r.Over)&&(decide (0<=r.Used)))&&(decide (r.Used<(r.ay.Phases.length:Int)))
def lft(r:aq):List Phase:=if liv r=true then r.ay.Phases.drop r.Used.toNat else[]
theorem J9{l:List Phase}(h:l.length<=1000)(j:∀m∈l,PhS m):mO l=some l:=by unfold mO;obtain⟨f,h1,w,x⟩:=cC (body:=jd l) (λi s=>s.2=i/\s.1=l.take i) l.length (λf=>match f with| .ex _ s=>s.1=l|_=>False) (λi s hi⟨e,I⟩=>by have g:=j _ (aQ hi);have q:=g.1;have u:=g.2;unfold jd ew cc;rw[e,if_pos (by simpa using hi),ag hi,qb,eT (by omega),qb,qb,eT (by omega),qb,qb,I,bP (by simp;omega),aj (by omega)];refine .inl ⟨_,rfl,rfl,?_⟩;rw[dj hi]) (λs ⟨e,I⟩=>by unfold jd;rw[e,if_neg (by simp)];rw[cJ]at I;exact⟨_,rfl,trivial,I⟩) ([],0) ⟨rfl,by simp⟩ (l.length+1) (by omega);grind
theorem pP{r:aq}{e:Phase}(h:e∈lft r):e∈r.ay.Phases:=by
 unfold lft at h;split at h;.exact re h
 .simp at h
theorem rM{r:aq}(h:RtS r):(lft r).length<=4:=by
 have:=h.1;unfold lft;split;.simp;omega
 .simp
theorem Ec{r:aq}(h:RtS r):nv r=some (lft r):=by
 have m:=h.1;show(if(!(liv r))=true then _ else _)=_;by_cases f:liv r=true;.rw[if_neg (by simp[f])];have e:=f;unfold liv at e;simp at e;rw[nn e.1.2 (by omega) (by omega),qb,nT,cJ];unfold lft;rw[if_pos f,J9 (by simp;omega) λg j=>h.2 g (re j),qb]
 .rw[if_pos (by simpa using f)];unfold lft;rw[if_neg f]
theorem Li{p:aK}{c:Cap}{e:Phase}(f:oP p)(g:c.Corners.length<=12)(h:PhS e):-10995116277760<=phL p c e/\phL p c e<=10995116277760:=by have h1:=xQ c e.ba;have j:=AT f g e.Volumes;have m:=h.1;have q:=h.2;unfold phL;constructor<;>omega
theorem LK{p:aK}{c:Cap}{r:aq}(g:oP p)(j:c.Corners.length<=12)(h:RtS r):qq p c r=some ((lft r).map (phL p c)):=by have m:=rM h;unfold qq;rw[Ec h];obtain⟨f,h1,u,w⟩:=cC (body:=oz p c (lft r)) (λi s=>s.2=i/\s.1=((lft r).take i).map (phL p c)) (lft r).length (λf=>match f with| .ex _ s=>s.1=(lft r).map _|_=>False) (λi s hi ⟨e,I⟩=>by have q:=h.2 _ (pP (aQ hi));unfold oz;rw[e,if_pos (by simpa using hi),ag hi,qb,Ey g j (by have:=q.1;omega) (by have:=q.2;omega),qb,I,bP (by simp;omega),aj (by omega)];refine .inl ⟨_,rfl,rfl,?_⟩;rw[dj hi,hY];rfl) (λs⟨e,I⟩=>by unfold oz;rw[e,if_neg (by simp)];rw[cJ]at I;exact⟨_,rfl,trivial,I⟩) ([],0) ⟨rfl,by simp⟩ ((lft r).length+1) (by omega);grind
def qx:Int->List Int->List Int|_,[]=>[]|a,x::l=>(a+x)::qx (a+x) l
theorem rb:∀(a:Int)(l:List Int),(qx a l).length=l.length|_,[]=>rfl|a,x::l=>by simp[qx,rb]
theorem CL:∀(a:Int)(l:List Int)(x:Int),qx a (l++[x])=qx a l++[a+l.sum+x]|a,[],x=>by simp[qx];|a,y::l,x=>by simp[qx,CL (a+y) l x];rw[Int.add_assoc a y l.sum]
theorem wx:∀(a:Int)(l:List Int)(k:Nat)(h:k<(qx a l).length),(qx a l)[k]=a+(l.take (k+1)).sum|a,[],k,h=>by simp[qx]at h;|a,x::l,0,h=>by simp[qx];|a,x::l,k+1,h=>by simp[qx];rw[wx (a+x) l k (by simpa[qx]using h),Int.add_assoc]
def pk(l:List Int):Int:=(qx 0 l).foldl max 0
theorem I8:∀(l:List Int)(m:Int),m<=l.foldl max m/\∀x∈l,x<=l.foldl max m|[],m=>⟨fN _,λx h=>by simp at h⟩|y::l,m=>by have e:=I8 l (max m y);grind
theorem Gm:∀(l:List Int)(m:Int),l.foldl max m=m∨l.foldl max m∈l
 |[],m=> .inl rfl|y::l,m=>by
  rcases Gm l (max m y)with h|h
  · rw[lK,h];by_cases e:m<=y;.right;rw[Int.max_eq_right e];exact dU
    .left;exact Int.max_eq_left (by omega)
  grind
theorem R5(l:List Int)(k:Nat)(h:k<=l.length):(l.take k).sum<=pk l:=by unfold pk;have f:=I8 (qx 0 l) 0;cases k with|zero=>simpa using f.1;|succ k=>
 have hk:k<(qx 0 l).length:=by rw[rb];omega
 have:=f.2 _ (aQ hk);rw[wx]at this;simpa using this
theorem Sx(l:List Int):∃k,k<=l.length/\pk l=(l.take k).sum:=by
 unfold pk;rcases Gm _ 0 with h|h;.exact⟨0,by omega,by simpa using h⟩
 .obtain⟨k,hk,e⟩:=bR h;rw[wx,Int.zero_add]at e;exact⟨k+1,by rw[rb]at hk;omega,e.symm⟩
theorem H4{B:Int}:∀{l:List Int},(∀x∈l,-B<=x/\x<=B)->0<=B->-(B*(l.length:Int))<=l.sum/\l.sum<=B*(l.length:Int)
 |[],_,_=>by simp;|x::l,h,f=>by
  have j:=H4 (λy g=>h y (bu _ g)) f;have m:=h x dU;have e:B*((x::l).length)=B*l.length+B:=by rw[fD];push_cast;rw[Int.mul_add,Int.mul_one]
  rw[List.sum_cons];omega
theorem Ev{l:List Int}(h:l.length<=100)(g:∀x∈l,-10995116277760<=x/\x<=10995116277760):ky l=some (0::qx 0 l):=by unfold ky;obtain⟨f,h1,y,E⟩:=cC (body:=gI l) (λi s=>s.2=i/\s.1=0::qx 0 (l.take i)) l.length (λf=>match f with| .ex _ s=>s.1=0::qx 0 l|_=>False) (λi s hi ⟨e,I⟩=>by
 unfold gI;have j:=g _ (aQ hi);have u:=H4 (l:=l.take i) (λx j=>g x (py j)) (by omega);have q:(l.take i).length=i:=by simp;omega
 have w:aR s.1 i=some ((l.take i).sum):=by rw[I,ag (by simp[rb];omega)];cases i with|zero=>simp;|succ i=>rw[List.getElem_cons_succ,wx,Int.zero_add,lV,Nat.min_self]
 rw[e,if_pos (by simpa using hi),ag hi,qb,w,qb,cM (by constructor<;>omega),qb,I,bP (by simp[rb];omega),aj (by omega)];refine .inl ⟨_,rfl,rfl,?_⟩;rw[dj hi,CL,Int.zero_add,qs]) (λs⟨e,I⟩=>by unfold gI;rw[e,if_neg (by simp)];rw[cJ]at I;exact⟨_,rfl,trivial,I⟩) ([0],0) ⟨rfl,by simp[qx]⟩ (l.length+1) (by omega);grind
theorem max_eq{x:Int}{l:List Int}(h:l.length<=1000):lu (x::l)=some (l.foldl max x):=by unfold lu;rw[show(0:Int)=(0:Nat)from rfl,ag (by simp)];obtain⟨f,h1,g,j⟩:=cC (body:=iu (x::l)) (λi s=>s.2=(i+1:Nat)/\s.1=(l.take i).foldl max x) l.length (λf=>match f with| .ex _ s=>s.1=l.foldl max x|_=>False) (λi s hi⟨e,I⟩=>by unfold iu;rw[e,if_pos (by simp;omega),ag (by simp;omega),aj (by omega)];refine .inl ⟨_,rfl,rfl,?_⟩;rw[dj hi,um,<-I];rfl) (λs⟨e,I⟩=>by unfold iu;rw[e,if_neg (by simp)];rw[cJ]at I;exact⟨_,rfl,trivial,I⟩) (x,1) ⟨rfl,by simp⟩ ((x::l).length+1) (by simp;omega);grind
def top(p:aK)(c:Cap)(r:aq):Int:=pk ((lft r).map (phL p c))
theorem Ra{p:aK}{c:Cap}{r:aq}(f:oP p)(g:c.Corners.length<=12)(h:RtS r):nI ((lft r).map (phL p c))=some (top p c r):=by have j:=rM h;unfold nI;rw[Ev (by simp;omega) (λx m=>by obtain⟨q,e,rfl⟩:=aS.1 m;exact Li f g (h.2 q (pP e))),qb,max_eq (by rw[rb];simp;omega)];rfl
theorem IU{t:aT}{g:List aq}{c:Cap}(j:oP t.aK)(m:c.Corners.length<=12)(u:t.Built.length<=1000)(w:t.Base.length<=1000)(x:g.length<=1000)(h:∀r∈g,RtS r):pn t g c=some ⟨c.Name,loadT t c,g.map (top t.aK c)⟩:=by unfold pn;rw[Hi j m u w];obtain⟨f,h1,y,z⟩:=cC (body:=mY t g c) (λi s=>s.2=i/\s.1=⟨c.Name,loadT t c,(g.take i).map (top t.aK c)⟩) g.length (λf=>match f with| .ex _ s=>s.1=⟨c.Name,loadT t c,g.map _⟩|_=>False) (λi s hi ⟨e,I⟩=>by have q:=h _ (aQ hi);unfold mY;rw[e,if_pos (by simpa using hi),ag hi,qb,LK j m q,qb,Ra j m q,qb,I,bP (by simp;omega),aj (by omega)];refine .inl ⟨_,rfl,rfl,?_⟩;rw[dj hi,hY];rfl) (λs⟨e,I⟩=>by unfold mY;rw[e,if_neg (by simp)];rw[cJ]at I;exact⟨_,rfl,trivial,I⟩) (⟨c.Name,loadT t c,[]⟩,0) ⟨rfl,by simp⟩ (g.length+1) (by omega);grind
theorem nf{α:Type}{o:Option α}{d:α}(h:Tot o):o=some (o.getD d):=by obtain⟨x,rfl⟩:=h;rfl
def rgt(v:aD):Bool:=(jq v).getD false
theorem Lb(v:aD):jq v=some (rgt v):=nf (Tot.pure _)
def sld(v:aD):List cg:=[⟨v.Box.Z0,v.Box.Z1,[v.Box.Base]⟩]
def ovl(a b:aD):Bool:=(iB a b).getD false
theorem Qt(a b:aD):iB a b=some (ovl a b):=nf (by unfold iB;rw[Lb,qb];exact Tot.bind (Tot.ite (λ _=>Tot.pure _) λ _=>Tot.pure _) λ _ _=>Tot.ite (λ _=>Tot.pure _) λ _=>Tot.bind (BN _ _) λ _ _=>Tot.pure _)
def G6(s:List cg)(p d:bo):Bool:=(mw s p d).getD false
def GV(s:List cg)(p q:bo):Bool:=(fY s p q).getD false
def JX(s:List cg):Prop:=∀b∈s,b.Area.length<=100000
theorem AX(v:aD):JX (sld v):=λb hb=>by rw[eZ.1 hb];simp
theorem IW{s:List cg}(h:JX s)(p d:bo):mw s p d=some (G6 s p d):=nf (let⟨r,hr,_⟩:=QE h;⟨r,hr⟩)
theorem IQ{s:List cg}(h:JX s)(p q:bo):fY s p q=some (GV s p q):=nf (let⟨r,hr,_⟩:=HS h;⟨r,hr⟩)
theorem BF{s:List (List cg)}{f:List cg->Option Bool}{g:List cg->Bool}(hl:s.length<=1000000)(hf:∀x∈s,f x=some (g x)):fX s f=some (s.any g):=ub hl hf
theorem Bv{s:List cw}{f:cw->Option Bool}{g:cw->Bool}(hl:s.length<=1000000)(hf:∀x∈s,f x=some (g x)):fv s f=some (s.any g):=ub hl hf
def sj(l:List cw)(β:Int->Bool):List (List cg):=(l.filter λb=>rgt b.aD&&!β b.Lot).map λb=>sld b.aD
theorem J4(l:List cw)(b:cw)(β:Int->Bool):sj (l++[b]) β=sj l β++(if(rgt b.aD&&!β b.Lot)=true then[sld b.aD]else[]):=by unfold sj;grind
theorem AA(l:List cw)(β:Int->Bool):(sj l β).length<=l.length:=by unfold sj;rw[mS];exact xg _ _
theorem Ct{t:aT}{but:Int->Option Bool}{β:Int->Bool}(hl:t.Built.length<=1000)(hb:∀x,but x=some (β x)):jV t but=some (sj t.Built β):=by
 unfold jV;have⟨f,h1,h2,h3⟩:=cC (body:=jr t but) (λi s=>s.2=i/\s.1=sj (t.Built.take i) β) t.Built.length (λf=>match f with| .ex _ s=>s.1=sj t.Built β|_=>False) (λi s hi⟨hs',hI⟩=>by
 unfold jr;have hlen:=AA (t.Built.take i) β;have hlt:(t.Built.take i).length<=1000:=by simp;omega
 rw[hs',if_pos (by simpa using hi),ag hi,qb,Lb,qb,hb,qb];have e:(if rgt t.Built[i].aD=true then some (!β t.Built[i].Lot)else some false)=some (rgt t.Built[i].aD&&!β t.Built[i].Lot):=by cases rgt t.Built[i].aD<;>rfl
 rw[e,qb];have hst:sj (t.Built.take (i+1)) β=s.1++(if(rgt t.Built[i].aD&&!β t.Built[i].Lot)=true then[sld t.Built[i].aD]else[]):=by rw[dj hi,J4,hI]
 by_cases hc:(rgt t.Built[i].aD&&!β t.Built[i].Lot)=true;.rw[if_pos hc];unfold rI;rw[qb,bP (by rw[hI];simp;omega),aj (by omega)];exact .inl ⟨_,rfl,rfl,by rw[hst,if_pos hc];rfl⟩
 .rw[if_neg hc,aj (by omega)];exact .inl ⟨_,rfl,rfl,by rw[hst,if_neg hc,ni]⟩) (λs ⟨hs',hI⟩=>by unfold jr;rw[hs',if_neg (by simp)];rw[cJ]at hI;exact⟨_,rfl,trivial,hI⟩) ([],0) ⟨rfl,rfl⟩ (t.Built.length+1) (by omega);grind
def sA(ps:List bo)(ss:List (List cg))(g:List cg->bo->Bool):Nat:=ps.countP λp=>!(ss.any λs=>g s p)
theorem Jc{ps:List bo}{ss:List (List cg)}{f:List cg->bo->Option Bool}{g:List cg->bo->Bool}(hp:ps.length<=1000)(hs:ss.length<=1000)(hf:∀s∈ss,∀p,f s p=some (g s p)):
 nL ps ss f=some (sA ps ss g:Int):=by unfold nL;have⟨fl,h1,h2,h3⟩:=cC (body:=lX ps ss f) (λi s=>s.2=i/\s.1=(sA (ps.take i) ss g)) ps.length (λf=>match f with| .ex _ s=>s.1=(sA ps ss g)|_=>False) (λi s hi ⟨hs',hI⟩=>by
 unfold lX;rw[hs',if_pos (by simpa using hi),ag hi,qb,BF (by omega) (λs hs=>by unfold pY;rw[hf s hs,qb]),qb];have hst:sA (ps.take (i+1)) ss g=sA (ps.take i) ss g+(if(!(ss.any λs=>g s ps[i]))=true then 1 else 0):=by unfold sA;rw[dj hi,List.countP_append,List.countP_singleton]
 have hle:sA (ps.take i) ss g<=1000:=by refine bC (List.countP_le_length) (by simp;omega)
 by_cases hc:(!(ss.any λs=>g s ps[i]))=true;.rw[if_pos hc,hI,aj (by omega),aj (by omega)];exact .inl ⟨_,rfl,rfl,by rw[hst,if_pos hc]⟩
 .rw[if_neg hc,aj (by omega)];exact .inl ⟨_,rfl,rfl,by rw[hst,if_neg hc];exact hI⟩) (λs⟨hs',hI⟩=>by unfold lX;rw[hs',if_neg (by simp)];rw[cJ]at hI;exact⟨_,rfl,trivial,hI⟩) (0,0) ⟨rfl,by simp[sA]⟩ (ps.length+1) (by omega);grind
def Dj(t:aT)(w:lp):Nat:=sA t.aK.Sun (sj t.Built λlot=>lot==w.Lot) λs d=>G6 s w.At d
def zQ(t:aT)(w:View):Nat:=sA w.Targets (sj t.Built λ_=>false) λs q=>GV s w.Eye q
def MZ(t:aT):Prop:=(∀w∈t.Windows,t.aK.Hours<=(Dj t w:Int))/\(∀w∈t.aK.Views,w.Least<=(zQ t w:Int))/\(t.Built.map (·.aD)).Pairwise λa b=>ovl a b=false
structure wu(t:aT):Prop where
 plan:oP t.aK
 wK:t.aK.Caps.length<=1000cap:∀c∈t.aK.Caps,c.Corners.length<=12sun:t.aK.Sun.length<=1000views:t.aK.Views.length<=1000view:∀w∈t.aK.Views,w.Targets.length<=1000wins:t.Windows.length<=1000
theorem MN{t:aT}(h:wu t)(U:t.Built.length<=1000):∃x,oD t=some x/\(x.2=true↔MZ t)/\(x.2=true->x.1.Kind=0)/\(x.2=false->x.1.Kind=2∨x.1.Kind=3∨x.1.Kind=5)/\(¬(∀w∈t.Windows,t.aK.Hours<=(Dj t w:Int))->∃i:Nat,i<t.Windows.length/\x=(⟨2,⟨#[]⟩,(i:Int)⟩,false)):=by
 have M:=h.wins;have hv:=h.views;have H:=h.sun;unfold oD;obtain⟨f,h1,h2,O⟩:=cC (body:=kr t) (λi s=>s.1=((i:Nat):Int)/\∀m(u:m<t.Windows.length),m<i->t.aK.Hours<=(Dj t t.Windows[m]:Int)) t.Windows.length (λf=>match f with| .ex _ _=>∀w∈t.Windows,t.aK.Hours<=(Dj t w:Int)| .ret r=>(∃i:Nat,i<t.Windows.length/\r=(⟨2,⟨#[]⟩,(i:Int)⟩,false))/\∃w∈t.Windows,¬t.aK.Hours<=(Dj t w:Int)| .go _=>False) (λi s hi⟨z,I⟩=>by
 unfold kr;have P:(sj t.Built λE=>E==t.Windows[i].Lot).length<=1000:=bC (AA _ _) U;have F:∀s∈(sj t.Built λE=>E==t.Windows[i].Lot),JX s:=λs H=>by unfold sj at H;obtain⟨b,_,rfl⟩:=aS.1 H;exact AX _
 rw[z,if_pos (by simpa using hi),ag hi,qb,Ct (but:=λQ=>oQ Q t.Windows[i]) (β:=λE=>E==t.Windows[i].Lot) U (λx=>rfl),qb,Jc (f:=λQ W=>lE Q W t.Windows[i]) (g:=λs d=>G6 s t.Windows[i].At d) H P (λs H p=>by unfold lE;rw[IW (F s H),qb]),qb];by_cases J:((sA t.aK.Sun (sj t.Built λE=>E==t.Windows[i].Lot) λs d=>G6 s t.Windows[i].At d:Nat):Int)<t.aK.Hours;·rw[if_pos (by simpa using J)];exact .inr ⟨_,rfl,trivial,⟨i,hi,rfl⟩,_,aQ hi,by unfold Dj;omega⟩
 · rw[if_neg (by simpa using J),aj (by omega)];refine .inl ⟨_,rfl,rfl,λm u R=>?_⟩;by_cases e:m=i;.subst e;unfold Dj;omega
   .exact I m u (by omega)) (λs⟨z,I⟩=>by unfold kr;rw[z,if_neg (by simp)];refine⟨_,rfl,trivial,λw M=>?_⟩;obtain⟨m,u,rfl⟩:=bR M;exact I m u u) ((0,_):Int×cV) ⟨rfl,λm _ h=>by omega⟩ (t.Windows.length+1) (by omega);rw[h1,qb];cases f with|go _=>exact h2.elim;|ret r=>obtain⟨⟨i,hi,rfl⟩,w,M,T⟩:=O;exact⟨_,rfl,⟨λh=>by simp at h,λh=>absurd (h.1 w M) T⟩,λh=>by simp at h,λ _=> .inl rfl,λ _=>⟨i,hi,rfl⟩⟩;|ex _ s0=>
 have O:∀w∈t.Windows,t.aK.Hours<=(Dj t w:Int):=O;dsimp only;rw[Ct (but:=oZ) (β:=λ _=>false) U (λx=>rfl),qb];have P:(sj t.Built λ _=>false).length<=1000:=bC (AA _ _) U;have F:∀s∈(sj t.Built λ _=>false),JX s:=λs H=>by unfold sj at H;obtain⟨b,_,rfl⟩:=aS.1 H;exact AX _
 obtain⟨f,g1,g2,g3⟩:=cC (body:=jY t _) (λi s=>s.1=((i:Nat):Int)/\∀m(u:m<t.aK.Views.length),m<i->t.aK.Views[m].Least<=(zQ t t.aK.Views[m]:Int)) t.aK.Views.length (λf=>match f with| .ex _ _=>∀w∈t.aK.Views,w.Least<=(zQ t w:Int)| .ret r=>r.2=false/\r.1.Kind=3/\∃w∈t.aK.Views,¬w.Least<=(zQ t w:Int)| .go _=>False) (λi s hi ⟨z,I⟩=>by
 unfold jY;rw[z,if_pos (by simpa using hi),ag hi,qb,Jc (f:=λQ W=>lv Q W t.aK.Views[i]) (g:=λs q=>GV s t.aK.Views[i].Eye q) (h.view _ (aQ hi)) P (λs H p=>by unfold lv;rw[IQ (F s H),qb]),qb];by_cases J:((sA t.aK.Views[i].Targets (sj t.Built λ _=>false) λs q=>GV s t.aK.Views[i].Eye q:Nat):Int)<t.aK.Views[i].Least;·rw[if_pos (by simpa using J)];exact .inr ⟨_,rfl,trivial,rfl,rfl,_,aQ hi,by unfold zQ;omega⟩
 · rw[if_neg (by simpa using J),aj (by omega)];refine .inl ⟨_,rfl,rfl,λm u R=>?_⟩;by_cases e:m=i;.subst e;unfold zQ;omega
   .exact I m u (by omega)) (λs⟨z,I⟩=>by unfold jY;rw[z,if_neg (by simp)];refine⟨_,rfl,trivial,λw M=>?_⟩;obtain⟨m,u,rfl⟩:=bR M;exact I m u u) (0,s0.2) ⟨rfl,λm _ h=>by omega⟩ (t.aK.Views.length+1) (by omega);rw[g1,qb];cases f with
 |go _=>exact g2.elim;|ret r=>obtain⟨a,b,w,M,T⟩:=g3;exact⟨r,rfl,⟨λh=>by rw[a]at h;simp at h,λh=>absurd (h.2.1 w M) T⟩,λh=>by rw[a]at h;simp at h,λ _=> .inr (.inl b),λh=>absurd O h⟩
 |ex _ s1=>have g3:∀w∈t.aK.Views,w.Least<=(zQ t w:Int):=g3;dsimp only;obtain⟨f,k1,k2,k3⟩:=cC (body:=ko t) (λi s=>s.1=((i:Nat):Int)/\∀m(u:m<t.Built.length),m<i->∀j(G:j<m),ovl t.Built[j].aD t.Built[m].aD=false) t.Built.length (λf=>match f with| .ex _ _=>∀m(u:m<t.Built.length)j(G:j<m),ovl t.Built[j].aD t.Built[m].aD=false| .ret r=>r.2=false/\r.1.Kind=5/\∃m,∃u:m<t.Built.length,∃j,∃G:j<m,ovl t.Built[j].aD t.Built[m].aD=true| .go _=>False) (λi s hi⟨z,I⟩=>by
 unfold ko;rw[z,if_pos (by simpa using hi),ag hi,qb,nn (by omega) (by omega) (by omega),qb,show(t.Built.take (i:Int).toNat).drop (0:Int).toNat=t.Built.take i by simp,Bv (f:=λQ=>ly Q t.Built[i]) (g:=λa=>ovl a.aD t.Built[i].aD) (by simp;omega) (λa _=>by unfold ly;rw[Qt,qb]),qb]
 cases J:(t.Built.take i).any λa=>ovl a.aD t.Built[i].aD with|true=>
 rw[if_pos rfl];rw[jG]at J;obtain⟨y,hy,ht⟩:=J;obtain⟨j,G,rfl⟩:=bR hy;have hj':j<i:=by simp at G;omega
 rw[List.getElem_take]at ht;exact .inr ⟨_,rfl,trivial,rfl,rfl,i,hi,j,hj',ht⟩|false=>
 rw[if_neg (by simp),aj (by omega)];rw[uK]at J;refine .inl ⟨_,rfl,rfl,λm u R j G=>?_⟩;by_cases e:m=i;·subst e;have:=J t.Built[j] (List.mem_take_iff_getElem.2 ⟨j,by omega,rfl⟩);simpa using this
 .exact I m u (by omega) j G) (λs ⟨z,I⟩=>by unfold ko;rw[z,if_neg (by simp)];exact⟨_,rfl,trivial,λm u j G=>I m u u j G⟩) (0,s1.2) ⟨rfl,λm _ h=>by omega⟩ (t.Built.length+1) (by omega);rw[k1,qb];cases f with|go _=>exact k2.elim;|ret r=>obtain⟨a,b,m,u,j,G,T⟩:=k3;refine⟨r,rfl,⟨λh=>by rw[a]at h;simp at h,λh=>?_⟩,λh=>by rw[a]at h;simp at h,λ _=> .inr (.inr b),λh=>absurd O h⟩;have:=fe.1 h.2.2 j m (by simp;omega) (by simpa using u) G;simp only[List.getElem_map]at this;rw[T]at this;simp at this|ex _ _=>have k3:∀m(u:m<t.Built.length)j(G:j<m),ovl t.Built[j].aD t.Built[m].aD=false:=k3;refine⟨_,rfl,⟨λ _=>⟨O,g3,fe.2 λj m G u hjm=>?_⟩,λ _=>rfl⟩,λ _=>rfl,λh=>by simp at h,λh=>absurd O h⟩;simp only[List.getElem_map];exact k3 m (by simpa using u) j hjm
def yr(r:aq)(t:aT):aT:=(lft r).foldl (λu h=>after u r.ay.Lot h) t
def qW(g:List aq)(t:aT):aT:=g.foldl (λu r=>yr r u) t
theorem J3{t:aT}{lot:Int}{e:Phase}(h:PhS e):(after t lot e).Built.length<=t.Built.length+2/\(after t lot e).Base.length<=t.Base.length+3:=by have h1:=h.1;have f:=h.2;unfold after;simp;omega
theorem xD{lot:Int}:∀{l:List Phase}{t:aT},(∀e∈l,PhS e)->(l.foldl (λu e=>after u lot e) t).Built.length<=t.Built.length+2*l.length/\(l.foldl (λu e=>after u lot e) t).Base.length<=t.Base.length+3*l.length|[],t,_=>by simp;|e::l,t,h=>by have h1:=J3 (t:=t) (lot:=lot) (h e dU);have g:=xD (lot:=lot) (t:=after t lot e) λq f=>h q (bu _ f);simp;omega
theorem JL{r:aq}{t:aT}(h:RtS r):(yr r t).Built.length<=t.Built.length+8/\(yr r t).Base.length<=t.Base.length+12:=by have j:=rM h;have:=xD (lot:=r.ay.Lot) (t:=t) λf g=>h.2 f (pP g);unfold yr;omega
theorem xr:∀{rights:List aq}{t:aT},(∀r∈rights,RtS r)->(qW rights t).Built.length<=t.Built.length+8*rights.length/\(qW rights t).Base.length<=t.Base.length+12*rights.length|[],t,_=>by simp[qW];|r::rights,t,h=>by have h1:=JL (t:=t) (h r dU);have e:=xr (t:=yr r t) λq f=>h q (bu _ f);simp[qW]at e⊢;omega
def fA(lot:Int)(l:List Phase)(t:aT):aT:=l.foldl (λu ph=>after u lot ph) t
theorem NS(lot:Int)(l:List Phase)(ph:Phase)(t:aT):fA lot (l++[ph]) t=after (fA lot l t) lot ph:=by simp[fA]
theorem Im(lot:Int):∀(l:List Phase)(t:aT),(fA lot l t).aK=t.aK/\(fA lot l t).Windows=t.Windows|[],t=>⟨rfl,rfl⟩|ph::l,t=>Im lot l _
theorem zu:∀(rights:List aq)(t:aT),(qW rights t).aK=t.aK/\(qW rights t).Windows=t.Windows|[],t=>⟨rfl,rfl⟩|r::rights,t=>by have h1:=Im r.ay.Lot (lft r) t;have ih:=zu rights (yr r t);exact⟨ih.1.trans h1.1,ih.2.trans h1.2⟩
theorem wu.of{t u:aT}(h:wu t)(hp:u.aK=t.aK)(hw:u.Windows=t.Windows):wu u:=by have⟨a,b,c,d,e,f,g⟩:=h;exact⟨hp▸a,by rw[hp];exact b,by rw[hp];exact c,by rw[hp];exact d,by rw[hp];exact e,by rw[hp];exact f,by rw[hw];exact g⟩
theorem NB{r:aq}{t:aT}(h:RtS r)(hb:t.Built.length<=900)(hs:t.Base.length<=900):∃n,az (iJ r (lft r)) ((lft r).length+1) (0,t)=some (.ex 2 (n,yr r t)):=by have h4:=rM h;have⟨f,h1,h2,h3⟩:=cC (body:=iJ r (lft r)) (λi s=>s.1=i/\s.2=fA r.ay.Lot ((lft r).take i) t) (lft r).length (λf=>∃n,f= .ex 2 (n,yr r t)) (λi s hi⟨hs',hI⟩=>by
 have hq:=h.2 _ (pP (aQ hi));have hl:=xD (lot:=r.ay.Lot) (l:=(lft r).take i) (t:=t) λph hp=>h.2 ph (pP (py hp));have hlt:((lft r).take i).length<=4:=by simp;omega
 have hq1:=hq.1;have hq2:=hq.2;unfold iJ;rw[hs',if_pos (by simpa using hi),ag hi,qb,hI,M5 (by unfold fA;omega) (by unfold fA;omega),aj (by omega)];refine .inl ⟨_,rfl,rfl,?_⟩;rw[dj hi,NS]) (λs⟨hs',hI⟩=>by have⟨s1,s2⟩:=s;unfold iJ;rw[if_neg (by rw[hs'];simp)];rw[cJ]at hI;exact⟨_,rfl,trivial,s1,by rw[hI];rfl⟩) (0,t) ⟨rfl,rfl⟩ ((lft r).length+1) (by omega);obtain⟨n,rfl⟩:=h3;exact⟨n,h1⟩
theorem O5{t:aT}{rights:List aq}(hr:rights.length<=10)(h:∀r∈rights,RtS r)(hb:t.Built.length<=100)(hs:t.Base.length<=100):pC t rights=some (qW rights t):=by unfold pC dG cc;rw[eT (by omega),qb,qb,eT (by omega),qb,qb];have⟨f,h1,h2,h3⟩:=cC (body:=ln rights) (λi s=>s.1=i/\s.2=qW (rights.take i) t) rights.length (λf=>match f with| .ex _ s=>s.2=qW rights t|_=>False) (λi s hi⟨hs',hI⟩=>by
 have hq:=h _ (aQ hi);have hl:=xr (rights:=rights.take i) (t:=t) λr hr=>h r (py hr);have hlt:(rights.take i).length<=10:=by simp;omega
 unfold ln;have⟨n,hn⟩:=NB (t:=s.2) hq (by rw[hI];omega) (by rw[hI];omega);rw[hs',if_pos (by simpa using hi),ag hi,qb,Ec hq,qb,hn,aj (by omega)];refine .inl ⟨_,rfl,rfl,?_⟩;rw[dj hi,hI];unfold qW;rw[um];rfl) (λs⟨hs',hI⟩=>by unfold ln;rw[hs',if_neg (by simp)];rw[cJ]at hI;exact⟨_,rfl,trivial,hI⟩) (0,t) ⟨rfl,rfl⟩ (rights.length+1) (by omega);rw[h1];grind
theorem Ml{p:aK}{c:Cap}{r:aq}(hp:oP p)(hc:c.Corners.length<=12)(h:RtS r):0<=top p c r/\top p c r<=43980465111040:=by
 have h4:=rM h;obtain⟨k,hk,he⟩:=Sx _;have hb:=H4 (l:=((lft r).map (phL p c)).take k) (λx hx=>by obtain⟨ph,hph,rfl⟩:=aS.1 (py hx);exact Li hp hc (h.2 ph (pP hph))) (by omega);have hlt:(((lft r).map (phL p c)).take k).length<=4:=by simp;omega
 unfold top;constructor;.exact(R5 _ 0 (by omega))
 .rw[he];omega
def gn(p:aK)(c:Cap)(rights:List aq):Int:=(rights.map (top p c)).sum
theorem Iz{p:aK}{c:Cap}(hp:oP p)(hc:c.Corners.length<=12):∀{rights:List aq},(∀r∈rights,RtS r)->0<=gn p c rights/\gn p c rights<=43980465111040*(rights.length:Int)
 |[],_=>by simp[gn];|r::l,h=>by
  have ih:=Iz hp hc λq hq=>h q (bu _ hq);have hr:=Ml hp hc (h r dU);have e:gn p c (r::l)=top p c r+gn p c l:=by simp[gn]
  rw[fD];omega
theorem Ln{t:aT}{c:Cap}(hp:oP t.aK)(hc:c.Corners.length<=12)(hb:t.Built.length<=1000)(hs:t.Base.length<=1000):-1099511627776000<=loadT t c/\loadT t c<=2199023255552000:=by have h1:=xQ c t.Base;have h2:=AT hp hc (t.Built.map (·.aD));have h3:(t.Built.map (·.aD)).length=t.Built.length:=mS ..;unfold loadT;constructor<;>omega
theorem Kg(p:aK)(c:Cap)(l:List aq)(r:aq):gn p c (l++[r])=gn p c l+top p c r:=by simp[gn]
def SL(t:aT)(rights:List aq):Prop:=(∀c∈t.aK.Caps,loadT t c+gn t.aK c rights<=c.cV)/\MZ (qW rights t)
theorem OM{t:aT}{rights:List aq}(h:wu t)(hr:rights.length<=10)(hrs:∀r∈rights,RtS r)(hb:t.Built.length<=100)(hs:t.Base.length<=100):∃x,kR t rights=some x/\(x.2=true↔SL t rights)/\(x.2=true->x.1.Kind=0)/\(x.2=false->x.1.Kind≠0)/\(¬(∀c∈t.aK.Caps,loadT t c+gn t.aK c rights<=c.cV)->∃c∈t.aK.Caps,x=(⟨1,c.Name,0⟩,false))/\((∀c∈t.aK.Caps,loadT t c+gn t.aK c rights<=c.cV)->¬(∀w∈t.Windows,t.aK.Hours<=(Dj (qW rights t) w:Int))->∃i:Nat,i<t.Windows.length/\x=(⟨2,⟨#[]⟩,(i:Int)⟩,false)):=by
 have hcl:=h.wK;unfold kR;obtain⟨f,h1,h2,h3⟩:=cC (body:=lM t rights) (λi s=>s.1=((i:Nat):Int)/\∀m(hm:m<t.aK.Caps.length),m<i->loadT t t.aK.Caps[m]+gn t.aK t.aK.Caps[m] rights<=t.aK.Caps[m].cV) t.aK.Caps.length
  (λf=>match f with| .ex _ _=>∀c∈t.aK.Caps,loadT t c+gn t.aK c rights<=c.cV| .ret r=>∃c∈t.aK.Caps,r=(⟨1,c.Name,0⟩,false)/\¬loadT t c+gn t.aK c rights<=c.cV| .go _=>False) (λi s hi ⟨hs',hI⟩=>by have hc:=h.cap _ (aQ hi);unfold lM;rw[hs',if_pos (by simpa using hi),ag hi,qb,IU h.plan hc (by omega) (by omega) (by omega) hrs,qb];have hlb:=Ln (c:=t.aK.Caps[i]) h.plan hc (by omega) (by omega);obtain⟨f1,a1,a2,a3⟩:=cC (body:=lJ ⟨t.aK.Caps[i].Name,loadT t t.aK.Caps[i],rights.map (top t.aK t.aK.Caps[i])⟩) (λj s=>s.2=((j:Nat):Int)/\s.1=loadT t t.aK.Caps[i]+gn t.aK t.aK.Caps[i] (rights.take j)) rights.length (λf=>match f with| .ex _ s=>s.1=loadT t t.aK.Caps[i]+gn t.aK t.aK.Caps[i] rights|_=>False) (λj s hj ⟨hs',hJ⟩=>by
 have hq:=hrs _ (aQ hj);have ht:=Ml h.plan hc hq;have hts:=Iz h.plan hc (rights:=rights.take j) λr hr=>hrs r (py hr);have hlt:(rights.take j).length<=10:=by simp;omega
 unfold lJ;dsimp only;rw[hs',if_pos (by simpa using hj),ag (by simpa using hj),qb,List.getElem_map,hJ,cM (by constructor<;>omega),qb,aj (by omega)];refine .inl ⟨_,rfl,rfl,?_⟩;rw[dj hj,Kg];dsimp only;omega) (λs ⟨hs',hJ⟩=>by unfold lJ;dsimp only;rw[hs',if_neg (by simp)];rw[cJ]at hJ;exact⟨_,rfl,trivial,hJ⟩) (loadT t t.aK.Caps[i],0) ⟨rfl,by simp[gn]⟩ ((rights.map _).length+1) (by simp);rw[a1,qb];cases f1 with|go _=>exact a2.elim;|ret _=>exact a3.elim;|ex _ s1=>
 have a3:s1.1=loadT t t.aK.Caps[i]+gn t.aK t.aK.Caps[i] rights:=a3;dsimp only;rw[a3];by_cases hl:t.aK.Caps[i].cV<loadT t t.aK.Caps[i]+gn t.aK t.aK.Caps[i] rights;·rw[if_pos (by simpa using hl)];exact .inr ⟨_,rfl,trivial,_,aQ hi,rfl,by omega⟩
 · rw[if_neg (by simpa using hl),aj (by omega)];refine .inl ⟨_,rfl,rfl,λm hm hmi=>?_⟩;by_cases e:m=i;.subst e;omega
   .exact hI m hm (by omega)) (λs⟨hs',hI⟩=>by unfold lM;rw[hs',if_neg (by simp)];refine⟨_,rfl,trivial,λc hc=>?_⟩;obtain⟨m,hm,rfl⟩:=bR hc;exact hI m hm hm) ((0,_):Int×cV) ⟨rfl,λm _ h=>by omega⟩ (t.aK.Caps.length+1) (by omega);rw[h1,qb];cases f with|go _=>exact h2.elim;|ret r=>obtain⟨c,hc,rfl,hn⟩:=h3;exact⟨_,rfl,⟨λh=>by simp at h,λh=>absurd (h.1 c hc) hn⟩,λh=>by simp at h,λ _=>by simp,λ _=>⟨c,hc,rfl⟩,λh=>absurd (h c hc) hn⟩;|ex _ _=>
 have hl:=xr (rights:=rights) (t:=t) hrs;have hpl:=zu rights t;obtain⟨x,hx,k1,k2,k3,k4⟩:=MN (t:=qW rights t) (h.of hpl.1 hpl.2) (by omega);rw[O5 hr hrs hb hs,qb,hx,qb];refine⟨_,rfl,⟨λh=>⟨h3,k1.1 h⟩,λh=>k1.2 h.2⟩,k2,λh=>?_,λh=>absurd h3 h,λ _ h=>?_⟩;.have:=k3 h;show x.1.Kind≠0;omega
 ·rw[hpl.1,hpl.2]at k4;exact k4 h
theorem JI(a b:aC):Tot (r7 a b):=by
 unfold r7;rw[fm,qb];by_cases h:VR a
 · rw[if_neg (by simpa using h),fm,qb,qb];by_cases e:VR b;.rw[if_neg (by simpa using e)];unfold VR at h e;unfold xd;rw[cZ (by unfold inI;omega),cZ (by unfold inI;omega)];exact⟨_,rfl⟩
   .rw[if_pos (by simpa using e)];exact⟨_,rfl⟩
 .rw[if_pos (by simpa using h)];exact⟨_,rfl⟩
theorem yf{i:Int}{part:List aC}{x:aC}(h:0<=i)(hi:i<part.length)(f:part.length<10000):∃b,xA i part x=some (if b=true then part++[x]else part,b):=by unfold xA;obtain⟨b,e⟩:=JI _ x;rw[uj h hi,qb,e];cases b with|false=>exact⟨false,rfl⟩;|true=>refine⟨true,?_⟩;rw[bP (by simp;omega)];rfl
theorem KG{i:Int}{xs part:List aC}(g:0<=i)(hi:i<part.length)(q:part.length+xs.length<10000):∃p j,MH i xs part=some (p,j)/\((j=-1/\p=part)∨∃h:j.toNat<xs.length,0<=j/\p=part++[xs[j.toNat]]):=by unfold MH;obtain⟨f,u,w,P⟩:=cC (body:=L5 i xs) (λn s=>s=(part,(n:Int))) xs.length (λf=>match f with| .ex _ s=>s.1=part| .ret r=>∃h:r.2.toNat<xs.length,0<=r.2/\r.1=part++[xs[r.2.toNat]]| .go _=>False) (by rintro n s e rfl;obtain⟨b,m⟩:=yf (x:=xs[n]) g hi (by omega);unfold L5;rw[if_pos (by simpa using e),ag e,qb,m];cases b with|true=>exact .inr ⟨_,rfl,trivial,by simp[e]⟩;|false=>rw[aj (by omega)];exact .inl ⟨_,rfl,rfl⟩) (by rintro s rfl;unfold L5;rw[if_neg (by simp)];exact⟨_,rfl,trivial,rfl⟩) _ rfl (xs.length+1) (by omega);grind
theorem Jo{i:Int}{xs part:List aC}{P:aC->Prop}(z:0<=i)(hi:i<part.length)(G:part.length+xs.length<10000)(E:∀y∈part,P y)(Q:∀y∈xs,P y):∃p l,LF i xs part=some (p,l)/\p.length+l.length=part.length+xs.length/\part.length<=p.length/\(∀y∈p,P y)/\∀y∈l,P y:=by
 unfold LF;obtain⟨p,j,h1,⟨rfl,rfl⟩|⟨H,I,rfl⟩⟩:=KG (xs:=xs) z hi G;·rw[h1,qb];exact⟨_,_,rfl,rfl,aN _,E,Q⟩
 obtain⟨n,rfl⟩:∃n:Nat,j=n:=⟨j.toNat,by omega⟩;simp only[nT]at H h1;rw[h1,qb,if_neg (by simp),aj (by omega),qb];obtain⟨f,J,M,R⟩:=cC (body:=L8 i) (λk s=>s.2.2.2=((n+1+k:Nat):Int)/\s.2.1.length=xs.length/\0<=s.2.2.1/\(s.1.length:Int)+s.2.2.1=part.length+s.2.2.2/\s.2.2.1<s.2.2.2/\part.length<s.1.length/\(∀y∈s.1,P y)/\∀y∈s.2.1,P y) (xs.length-(n+1)) (λf=>match f with| .ex _ s=>s.2.1.length=xs.length/\0<=s.2.2.1/\(s.1.length:Int)+s.2.2.1=part.length+xs.length/\s.2.2.1<xs.length/\part.length<s.1.length/\(∀y∈s.1,P y)/\∀y∈s.2.1,P y|_=>False) (by
 rintro k⟨p,u,w,m⟩hk⟨rfl,g1,g2,g3,g4,g5,g6,g7⟩;dsimp only at*;have F:n+1+k<u.length:=by omega
 obtain⟨b,O⟩:=yf (i:=i) (part:=p) (x:=u[n+1+k]) z (by omega) (by omega);unfold L8;refine .inl ?_;dsimp only;rw[if_pos (by simp;omega),ag F,qb,O,qb];have q:P u[n+1+k]:=g7 _ (aQ F);cases b with
 |true=>
 rw[if_neg (by simp),qb,aj (by omega)];refine⟨_,rfl,by simp;omega,g1,g2,?_,?_,?_,?_,g7⟩;.simp;omega
 .dsimp only;omega
 .simp;omega
 · simp only[if_pos];intro y g;simp at g;rcases g with h|rfl;.exact g6 y h
   .exact q|false=>
 rw[if_pos (by simp),uj g2 (by omega),qb,cM (by unfold inI;omega),qb,qb,aj (by omega)];refine⟨_,rfl,by simp;omega,by simp[g1],by dsimp only;omega,?_,?_,?_,?_,?_⟩;.simp;omega
 .dsimp only;omega
 .simpa using g5
 .simpa using g6
 · intro y g;rcases List.mem_or_eq_of_mem_set g with h|rfl;.exact g7 y h
   .exact q) (by rintro⟨p,u,w,m⟩⟨rfl,g1,g2,g3,g4,g5,g6,g7⟩;dsimp only at*;unfold L8;rw[if_neg (by simp;omega)];exact⟨_,rfl,trivial,g1,g2,by dsimp only;omega,by dsimp only;omega,g5,g6,g7⟩) (part++[xs[n]],xs,(n:Int),((n+1:Nat):Int)) ⟨rfl,rfl,by dsimp only;omega,by simp;omega,by dsimp only;omega,by simp,by
 intro y q;simp at q;rcases q with h|rfl;.exact E y h
 .exact Q _ (aQ _),Q⟩ (xs.length+1) (by omega);rw[J,qb];cases f with|go _=>exact M.elim;|ret _=>exact R.elim;|ex _ s=>obtain⟨g1,g2,g3,g4,g5,g6,g7⟩:=R;dsimp only;rw[if_pos (by omega),nn (fN 0) g2 (by omega),qb];refine⟨_,_,rfl,?_,by omega,g6,λy q=>g7 y (py (re q))⟩;simp;omega
theorem Eu{P:aC->Prop}{l part:List aC}{m:Nat}(z:part.length+l.length<=m)(e:m<10000)(g:∀y∈part,P y)(Q:∀y∈l,P y):∃q,az zV (m+1) (l,part,0)=some (.ex 2 q)/\q.1.length+q.2.1.length=part.length+l.length/\part.length<=q.2.1.length/\(∀y∈q.2.1,P y)/\∀y∈q.1,P y:=by
 obtain⟨f,j,E,R⟩:=xT (body:=zV) (λs=>0<=s.2.2/\s.2.2<=s.2.1.length/\s.1.length+s.2.1.length=part.length+l.length/\part.length<=s.2.1.length/\(∀y∈s.2.1,P y)/\∀y∈s.1,P y) (λs=>m-s.2.2.toNat) (λf=>∃q,f= .ex 2 q/\q.1.length+q.2.1.length=part.length+l.length/\part.length<=q.2.1.length/\(∀y∈q.2.1,P y)/\∀y∈q.1,P y) (by
 rintro⟨F,p,i⟩⟨g1,g2,g3,g4,g5,g6⟩;dsimp only at*;unfold zV;by_cases hi:i<p.length;·obtain⟨G,u,h1,H,I,w,x⟩:=Jo g1 hi (by omega) g5 g6;rw[if_pos (by simpa using hi),h1,cM (by unfold inI;dsimp;omega)];exact .inl ⟨_,rfl,⟨by dsimp;omega,by dsimp;omega,by dsimp;omega,by dsimp;omega,w,x⟩,by dsimp;omega⟩
 ·rw[if_neg (by simpa using hi)];exact .inr ⟨_,rfl,trivial,_,rfl,g3,g4,g5,g6⟩) (l,part,0) ⟨fN 0,by dsimp;omega,by dsimp;omega,aN _,g,Q⟩ (m+1) (by omega);obtain⟨q,rfl,h⟩:=R;exact⟨q,j,h⟩
theorem J5{a:List aC}(Q:a.length<=300):Tot (iX a):=by unfold iX;obtain⟨b,g,R⟩:=eQ (a:=a) (by omega);rw[g,qb];cases b with|false=>exact⟨_,rfl⟩;|true=>have j:=(R.1 rfl).1;rw[if_neg (by simp),if_pos (by omega)];obtain⟨f,u,T,P⟩:=xT (body:=sf) (λs=>s.1.length<=a.length/\s.2.length+s.1.length<=a.length/\∀y∈s.1,VR y) (λs=>s.1.length) (λf=>∃s,f= .ex 0 s) (by rintro⟨l,out⟩⟨g1,g2,g3⟩;unfold sf;cases l with|nil=>rw[if_neg (by simp)];exact .inr ⟨_,rfl,trivial,_,rfl⟩;|cons x l=>simp only[fD]at g1 g2;obtain⟨q,h1,E,F,G,H⟩:=Eu (l:=l) (part:=[x]) (m:=l.length+1) (by simp;omega) (by omega) (by simp;exact g3 x (by simp)) (λy I=>g3 y (by simp[I]));simp only[fD,gV]at E F;obtain⟨st,J,e⟩:=nQ (ls:=[q.2.1]) (by simpa using G) (by simp;omega) (by simp);have h:=e.len;simp only[ra,List.flatten_nil,ni]at h e;obtain⟨w,M,_⟩:=A0 e.gapless (by omega) (λs O=>by have:=(e.col s O).len;omega);rw[if_pos (by simp<;>omega),show aR (x::l) 0=some x from rfl,qb,nn (by omega) (by simp;omega) (by simp),qb];simp only[fD,nT,cJ];rw[show List.take _ (x::l)=x::l by simp,show List.drop _ (x::l)=l from rfl,h1,qb];dsimp only;rw[J,qb,M,qb,bP (by simp;omega)];exact .inl ⟨_,rfl,⟨by dsimp only;omega,by simp;omega,H⟩,by dsimp only[fD];omega⟩) (a,[]) ⟨aN _,by simp,j⟩ (a.length+1) (by dsimp only;omega);obtain⟨s,rfl⟩:=P;rw[u];exact⟨_,rfl⟩
theorem Kj{a b:List aC}(h:a.length<=1000000)(e:b.length<=1000000):Tot (pG a b):=Tot.bind (qE h λx=>Tot.bind (qE e λy=>Tot.pure _) λ_ _=>Tot.pure _) λ_ _=>Tot.pure _
theorem Oh{l:List Int}(e:l.length<=1000000):Tot (mj l):=by
 refine lZ (λi t=>t=((i+1:Nat):Int)) (l.length-1) Tot (λi t hi h=>?_) (λt h=>?_) rfl (by omega)
 · subst h;unfold jC;rw[if_pos (by simp;omega),nu (by omega) (by omega),qb,ag (by omega),qb,ag (by omega),qb];split;.exact .inr ⟨_,rfl,trivial,_,rfl⟩
   .rw[aj (by omega)];exact .inl ⟨_,rfl,rfl⟩
 .unfold jC;rw[if_neg (by simp;omega)];exact⟨_,rfl,trivial,_,rfl⟩
def yH(t:Lot):Prop:=t.Area.length<=300/\t.From.length<=300
theorem J0{t:Lot}(h:yH t):Tot (oB t):=by refine Tot.bind (Tot.pure _) λ _ _=>Tot.bind (Tot.ite (λ _=>Tot.pure _) λ _=>Tot.pure _) λ _ _=>Tot.bind (Tot.ite (λ _=>Tot.bind (Oh (by have:=h.2;omega)) λ _ _=>Tot.pure _) λ _=>Tot.pure _) λ _ _=>Tot.bind (Tot.ite (λ _=>Tot.bind ?_ λ _ _=>Tot.pure _) λ _=>Tot.pure _) λ _ _=>Tot.bind (Tot.ite (λ _=>Tot.bind (J5 h.1) λ _ _=>Tot.pure _) λ _=>Tot.pure _) λ _ _=>Tot.pure _;exact qE (by have:=h.2;omega) λx=>Tot.bind (Tot.pure _) λ _ _=>Tot.pure _
theorem E0{l acc:List Int}(j:l.length<=1000000):∃s,az (xM l) (l.length+1) (acc,0)=some (.ex 2 s):=by obtain⟨f,h,_,g⟩:=cC (body:=xM l) (λi s=>s.2=i) l.length (λf=>∃s,f= .ex 2 s) (λi s hi e=>by unfold xM;rw[e,if_pos (by simpa using hi),ag hi,aj (by omega)];exact .inl ⟨_,rfl,rfl⟩) (λs e=>by unfold xM;rw[e,if_neg (by simp)];exact⟨_,rfl,trivial,_,rfl⟩) (acc,0) rfl (l.length+1) (by omega);obtain⟨s,rfl⟩:=g;exact⟨s,h⟩
theorem DY{e:List Lot}{i:Nat}(m:e.length<=100)(hi:i<e.length)(h:∀t∈e,yH t):∃f,az (gX e (i:Int)) ((i:Int).toNat+1) 0=some f/\f.ends:=lI (λs=>s) (λ_=>True) i (λs k g hk _=>by subst g;unfold gX;obtain⟨b,j⟩:=Kj (a:=e[i].Area) (b:=(e[k]'(by omega)).Area) (by have:=(h _ (aQ hi)).1;omega) (by have:=(h _ (aQ (show k<e.length by omega))).1;omega);rw[if_pos (by simpa using hk),ag hi,qb,ag (by omega),qb,j];cases b with|true=>exact .inr ⟨_,rfl,trivial⟩;|false=>rw[aj (by omega)];exact .inl ⟨_,rfl,rfl,trivial⟩) (λs g _=>by subst g;unfold gX;rw[if_neg (by simp)];exact⟨_,rfl,trivial⟩) 0 rfl trivial (by simp)
theorem MQ{e:List Lot}(m:e.length<=100)(h:∀t∈e,yH t):Tot (iV e):=by
 unfold iV;refine Tot.ite (λ _=>Tot.pure _) λ _=>?_;refine lZ (λi(s:List Int×List Int×Int)=>s.2.2=((i:Nat):Int)) e.length Tot (λi s hi g=>?_) (λs g=>?_) rfl (by omega)
 · unfold ku;obtain⟨b,q⟩:=J0 (h _ (aQ hi));obtain⟨u,w⟩:=E0 (l:=e[i].From) (acc:=s.2.1) (by have:=(h _ (aQ hi)).2;omega);have F:∃c,(if(!b)=true then some true else(if decide (0<s.2.2)=true then(fh s.2.2 1).bind λy=>(aR e y).bind λz=>some (decide (e[i].Id<=z.Id))else some false).bind λx=>some x)=some c:=by refine Tot.ite (λ _=>Tot.pure _) λ _=>Tot.bind (Tot.ite (λj=>?_) λ _=>Tot.pure _) λ _ _=>Tot.pure _;rw[g]at j⊢;rw[nu (by simpa using j) (by omega),qb,ag (by omega)];exact⟨_,rfl⟩
   obtain⟨c,G⟩:=F;rw[if_pos (by rw[g];simpa using hi),g,ag hi,qb,q,qb,<-g,G,qb,w];cases c with|true=>exact .inr ⟨_,rfl,trivial,_,rfl⟩;|false=>rw[if_neg (by simp),qb];dsimp only;rw[g,aj (by omega)];exact .inl ⟨_,rfl,rfl⟩
 · unfold ku;rw[if_neg (by rw[g];simp)];refine⟨_,rfl,trivial,?_⟩;dsimp only;refine Tot.ite (λ _=>Tot.pure _) λ _=>?_;refine lZ (λi s=>s=((i:Nat):Int)) e.length Tot (λi s hi g=>?_) (λs g=>?_) rfl (by omega);·subst g;unfold kc;obtain⟨f,h1,H⟩:=DY m hi h;rw[if_pos (by simpa using hi),h1,qb];cases f with|go _=>exact H.elim;|ex _ _=>dsimp only;rw[aj (by omega)];exact .inl ⟨_,rfl,rfl⟩;|ret r=>exact .inr ⟨_,rfl,trivial,_,rfl⟩
   ·subst g;unfold kc;rw[if_neg (by simp)];exact⟨_,rfl,trivial,_,rfl⟩
theorem J6{t:Lot}(h:yH t):oG t=some t:=by have h1:=h.1;have e:=h.2;unfold oG il ft;rw[eT (by omega),eT (by omega)];rfl
theorem find_spec{f:List Lot}{id:Int}(w:f.length<=1000)(h:∀t∈f,yH t):∃q,sR f id=some q/\yH q.1/\(q.2=true↔∃t∈f,t.Id=id):=by
 refine lZ (λi (s:Int×Lot)=>s.1=i/\∀m(g:m<f.length),m<i->f[m].Id≠id) f.length (λo=>∃q:Lot×Bool,o=some q/\yH q.1/\(q.2=true↔∃t∈f,t.Id=id)) (λi s hi⟨j,I⟩=>?_) (λs ⟨j,I⟩=>?_) ⟨rfl,λm _ h=>by omega⟩ (by omega)
 · unfold oO;rw[j,if_pos (by simpa using hi),ag hi,qb];by_cases e:f[i].Id=id;.rw[if_pos (by simpa using e),J6 (h _ (aQ hi))];exact .inr ⟨_,rfl,trivial,_,rfl,h _ (aQ hi),λ _=>⟨_,aQ hi,e⟩,λ _=>rfl⟩
   .rw[aj (by omega)];grind
 .unfold oO;rw[j,if_neg (by simp)];refine⟨_,rfl,trivial,_,rfl,⟨by simp,by simp⟩,λh=>by simp at h,λ⟨t,u,e⟩=>?_⟩;obtain⟨m,g,rfl⟩:=bR u;exact absurd e (I m g g)
theorem CO(r:aC):∃n,ib r=some n/\0<=n/\n<=1099511627776:=by
 by_cases h:VR r;.exact zT h
 .unfold ib jm;rw[fm,qb,if_neg (by simpa using h)];exact⟨0,rfl,by omega,by omega⟩
theorem Km{a:List aC}(g:a.length<=1000):Tot (nM a):=by
 unfold nM;obtain⟨b,e,R⟩:=eQ (a:=a) (by omega);rw[e];refine Tot.ite (λ _=>Tot.pure _) λ _=>?_;refine lZ (λi (s:Int×Int)=>s.2=i/\0<=s.1/\s.1<=1099511627776*i) a.length Tot (λi s hi⟨h,h1,j⟩=>?_) (λs ⟨h,_⟩=>?_) ⟨rfl,by simp,by simp⟩ (by omega);.unfold oR;obtain⟨n,f,m,q⟩:=CO a[i];rw[h,ag hi,qb,f,qb,cM (by unfold inI;omega),aj (by omega)];grind
 .unfold oR;rw[h,if_neg (by simp)];exact⟨_,rfl,trivial,_,rfl⟩
theorem GQ{a b:List aC}(f:a.length<=1000)(g:b.length<=1000):∃q,mD a b=some q/\q.1.length<=200:=by
 unfold mD;by_cases h:RR a/\RR b
 · obtain⟨out,_,e⟩:=DT (keep:=nX) (λ _ _=>rfl) rfl h.1 h.2;rw[e];refine⟨_,rfl,?_⟩;unfold lim;split;.simp
   .dsimp;omega
 .rw[Gg (by omega) (by omega) h];exact⟨_,rfl,by simp⟩
theorem Kb{p:aK}{e:Lot}{d:ay}(H:p.Caps.length<=1000)(j:yH e)(g:SmD d):Tot (mH p e d):=by
 have h1:=j.1;have I:=g.1;unfold mH;refine Tot.bind (LW g) λ _ _=>Tot.bind (Tot.ite (λ _=>Tot.pure _) λ _=>Tot.bind ⟨_,(eQ (by omega)).choose_spec.1⟩ λ _ _=>Tot.pure _) λ _ _=>Tot.ite (λ _=>Tot.pure _) λ _=>?_;obtain⟨l,m,u⟩:=IC g;rw[m,qb];refine lZ (λi s=>s=((i:Nat):Int)) l.length Tot (λi s hi h=>?_) (λs h=>?_) rfl (by omega);·subst h;unfold me;obtain⟨q,w,x⟩:=GQ (a:=e.Area) (b:=[l[i].Box.Base]) (by omega) (by simp);obtain⟨c,y⟩:Tot (if(q.2!=0)=true then some true else(nM q.1).bind λJ=>(ib l[i].Box.Base).bind λM=>some _):=Tot.ite (λ _=>Tot.pure _) λ _=>Tot.bind (Km (by omega)) λ _ _=>Tot.bind ⟨_,(CO _).choose_spec.1⟩ λ _ _=>Tot.pure _;rw[if_pos (by simpa using hi),ag hi,qb,w,qb,y,qb];cases c with|true=>exact .inr ⟨_,rfl,trivial,_,rfl⟩;|false=>rw[if_neg (by simp),aj (by omega)];exact .inl ⟨_,rfl,rfl⟩
 · subst h;unfold me;rw[if_neg (by simp)];refine⟨_,rfl,trivial,?_⟩;dsimp only;refine lZ (λi s=>s=((i:Nat):Int)) d.Phases.length Tot (λi s hi h=>?_) (λs h=>?_) rfl (by omega)
   · subst h;unfold mA;obtain⟨f,h1,z⟩:∃f,az (jh p d.Phases[i]) (d.Phases[i].ba.length+1) 0=some f/\f.ends:=by
      have O:=(g.2 _ (aQ hi)).2;refine lI (λs=>s) (λ _=>True) d.Phases[i].ba.length (λs k h hk _=>?_) (λs h _=>?_) 0 rfl trivial (by omega);·subst h;unfold jh;obtain⟨b,E⟩:Tot (gb p.Caps (λF=>nV F d.Phases[i].ba[k])):=qE (by omega) λ _=>Tot.pure _;rw[if_pos (by simpa using hk),ag hk,qb,E,qb];cases b with|true=>rw[if_neg (by simp),aj (by omega)];exact .inl ⟨_,rfl,rfl,trivial⟩;|false=>exact .inr ⟨_,rfl,trivial⟩
      ·subst h;unfold jh;rw[if_neg (by simp)];exact⟨_,rfl,trivial⟩
     rw[if_pos (by simpa using hi),ag hi,qb,h1,qb];cases f with|go _=>exact z.elim;|ex _ _=>dsimp only;rw[aj (by omega)];exact .inl ⟨_,rfl,rfl⟩;|ret r=>exact .inr ⟨_,rfl,trivial,_,rfl⟩
   ·subst h;unfold mA;rw[if_neg (by simp)];exact⟨_,rfl,trivial,_,rfl⟩
theorem LQ{t:aT}{r:aq}(e:t.aK.Caps.length<=1000)(f:t.Land.length<=100)(h:∀x∈t.Land,yH x)(g:SmD r.ay):Tot (fK t r):=by unfold fK;obtain⟨q,j,m,_⟩:=find_spec (by omega) h;rw[j,qb];exact Tot.bind (Tot.pure _) λ _ _=>Tot.bind (Tot.ite (λ _=>Tot.bind (MQ f h) λ _ _=>Tot.pure _) λ _=>Tot.pure _) λ _ _=>Tot.bind (Tot.ite (λ _=>Tot.bind (Kb e m g) λ _ _=>Tot.pure _) λ _=>Tot.pure _) λ _ _=>Tot.pure _
theorem JB{j q:Type}{l:List j}{body:Int->Option (aY Int Bool)}{K:aY Int Bool->Option q}{Q:Option q->Prop}(P:j->Prop)(n id:Nat){f:Nat}(z:n<f)(step:∀i(hi:i<l.length),i<n->(P l[i]/\body (i:Int)=some (.go ((i+1:Nat):Int)))∨body (i:Int)=some (.ret false))(done:body ((min l.length n:Nat):Int)=some (.ex id ((min l.length n:Nat):Int)))(h1:(l.length<=n->∀x∈l,P x)->∀s,Q (K (.ex id s)))(w:Q (K (.ret false))):Q ((az body f 0).bind K):=by
 refine lZ (λi s=>s=(i:Int)/\∀m(u:m<l.length),m<i->P l[m]) (min l.length n) Q (λi s hi⟨g,I⟩=>?_) (λs ⟨g,I⟩=>?_) ⟨rfl,λm _ h=>by omega⟩ (by omega)
 · subst g;rcases step i (by omega) (by omega)with⟨h,e⟩|e;.grind
   .exact .inr ⟨_,e,trivial,w⟩
 .subst g;refine⟨_,done,trivial,h1 (λE x y=>?_) _⟩;obtain⟨m,u,rfl⟩:=bR y;exact I m u (by omega)
theorem GL{r:aq}:∃b,s9 r=some b/\(b=true->RtS r):=by
 refine JB (l:=r.ay.Phases) (Q:=λo=>∃b,o=some b/\(b=true->RtS r)) (λp=>PhS p) 4 0 (by omega) (λi hi f=>?_) ?_ (λh s=>?_) ⟨_,rfl,λh=>by simp at h⟩
 · unfold oW;rw[if_pos (by simp;omega),ag hi,qb,qb];by_cases h1:r.ay.Phases[i].Volumes.length<=2
   · rw[if_neg (by simp;omega),qb];by_cases g:r.ay.Phases[i].ba.length<=2;.rw[if_neg (by simp;omega),aj (by omega)];exact .inl ⟨⟨h1,by omega⟩,rfl⟩
     .rw[if_pos (by simp;omega)];exact .inr rfl
   .rw[if_pos (by simp;omega)];exact .inr rfl
 .unfold oW;rw[if_neg (by simp;omega)]
 .refine⟨_,rfl,λe=>?_⟩;simp at e;exact⟨by omega,h (by omega)⟩
structure Few(t:aT)(rights:List aq):Prop where
 town:wu t
 land:t.Land.length<=5lots:∀x∈t.Land,yH x
 wK:t.aK.Caps.length<=2built:t.Built.length<=4base:t.Base.length<=4len:rights.length<=3rts:∀r∈rights,RtS r
theorem Ta{t:aT}{rights:List aq}:∃b,uq t rights=some b/\(b=true->Few t rights):=by
 unfold uq;have f:∃b,some false=some b/\(b=true->Few t rights):=⟨_,rfl,λh=>by simp at h⟩;refine JB (l:=t.Land) (Q:=λo=>∃b,o=some b/\(b=true->Few t rights)) (λx=>yH x) 6 0 (by omega) (λi hi g=>?_) (by unfold rE;rw[if_neg (by simp;omega)]) (λa s=>?_) f
 · unfold rE;rw[if_pos (by simp;omega),ag hi,qb,qb];by_cases h1:t.Land[i].Area.length<=4
   · rw[if_neg (by simp;omega),qb];by_cases u:t.Land[i].From.length<=6;.rw[if_neg (by simp;omega),aj (by omega)];exact .inl ⟨⟨by omega,by omega⟩,rfl⟩
     .rw[if_pos (by simp;omega)];exact .inr rfl
   .rw[if_pos (by simp;omega)];exact .inr rfl
 dsimp only;refine JB (l:=t.aK.Caps) (Q:=λo=>∃b,o=some b/\(b=true->Few t rights)) (λx=>x.Corners.length<=12) 3 2 (by omega) (λi hi g=>?_) (by unfold rK;rw[if_neg (by simp;omega)]) (λb s=>?_) f
 · unfold rK;rw[if_pos (by simp;omega),ag hi,qb];by_cases h1:t.aK.Caps[i].Corners.length<=12;.rw[if_neg (by simp;omega),aj (by omega)];exact .inl ⟨h1,rfl⟩
   .rw[if_pos (by simp;omega)];exact .inr rfl
 dsimp only;refine JB (l:=t.aK.Views) (Q:=λo=>∃b,o=some b/\(b=true->Few t rights)) (λx=>x.Targets.length<=3) 3 4 (by omega) (λi hi g=>?_) (by unfold sd;rw[if_neg (by simp;omega)]) (λc s=>?_) f
 · unfold sd;rw[if_pos (by simp;omega),ag hi,qb];by_cases h1:t.aK.Views[i].Targets.length<=3;.rw[if_neg (by simp;omega),aj (by omega)];exact .inl ⟨h1,rfl⟩
   .rw[if_pos (by simp;omega)];exact .inr rfl
 dsimp only;refine JB (l:=t.aK.Tables) (Q:=λo=>∃b,o=some b/\(b=true->Few t rights)) (λx=>x.Rows.length<=8) 3 6 (by omega) (λi hi g=>?_) (by unfold r8;rw[if_neg (by simp;omega)]) (λd s=>?_) f
 · unfold r8;rw[if_pos (by simp;omega),ag hi,qb];by_cases h1:t.aK.Tables[i].Rows.length<=8;.rw[if_neg (by simp;omega),aj (by omega)];exact .inl ⟨h1,rfl⟩
   .rw[if_pos (by simp;omega)];exact .inr rfl
 refine JB (l:=rights) (Q:=λo=>∃b,o=some b/\(b=true->Few t rights)) (λx=>RtS x) 4 8 (by omega) (λi hi g=>?_) (by unfold su;rw[if_neg (by simp;omega)]) (λe s=>?_) f;·unfold su;obtain⟨b,j,R⟩:=GL (r:=rights[i]);rw[if_pos (by simp;omega),ag hi,qb,j,qb];cases b with|true=>rw[if_neg (by simp),aj (by omega)];exact .inl ⟨R rfl,rfl⟩;|false=>exact .inr rfl
 refine⟨_,rfl,λh=>?_⟩;simp at h;exact⟨⟨⟨by omega,λx m=>by have:=d (by omega) x m;omega⟩,by omega,b (by omega),by omega,by omega,λw q=>by have:=c (by omega) w q;omega,by omega⟩,by omega,a (by omega),by omega,by omega,by omega,by omega,e (by omega)⟩
def ins(l:List Int)(n:Int):Bool:=decide (n∈l)
theorem BR{c:bT}(E:c.district.Pairwise (.<.))(J:c.district.length<=1000)(n:Int):ed c n=some (ins c.district n):=by
  unfold ed gd;generalize c.district=l at E J;have F:=fe.1 E;obtain⟨m,P,h1,w⟩:=bsearch (l:=l) (p:=λx=>decide (x<n)) (body:=ef l n) (k:=0) (by omega) (λi j f G H=>by have:=F i j (by omega) G f;simp only[decide_eq_true_eq]at H⊢;omega) (λi j f G=>by
 unfold ef;dsimp only;rw[if_pos (by simpa using f),cM (by unfold inI;omega),qb];have M:∀n,(IntKind.i64.wrap (IK.shr _ 1).n)=Ag n:=λ _=>rfl;simp only[M,wg (show i<1000000 by omega) (show j<1000000 by omega),ag (show(i+j)/2<l.length by omega),qb];have O:cmp_Less_int (l[(i+j)/2]'(by omega)) n=some (decide (l[(i+j)/2]'(by omega)<n)):=by unfold cmp_Less_int cmp_isNaN_int;grind
 rw[O,qb];by_cases h:(l[(i+j)/2]'(by omega))<n;.rw[if_pos (by simpa using h),aj (by omega),qb,qb,if_pos (by simpa using h)]
 .rw[if_neg (by simpa using h),qb,if_neg (by simpa using h)]) (λi=>by unfold ef;rw[if_neg (by simp)]) (fuel:=l.length+1) (by omega);rw[h1,qb];dsimp only;rcases bw m l.length with g|g
  · rw[if_pos (by simpa using g),ag g,qb];have H:∀e:l[m]=n∨l[m]≠n,True:=λ _=>trivial;by_cases e:l[m]=n;·rw[if_pos (by simpa using e),qb,qb,qb];unfold ins;rw[decide_eq_true (by rw[<-e];exact aQ g)]
    · rw[if_neg (by simpa using e),qb];unfold jy;rw[qb,if_neg (by simp),qb,qb,qb,qb];unfold ins;rw[decide_eq_false];intro y;obtain⟨q,u,rfl⟩:=bR y;have:=w m g;have z:=w q u;simp at this z;rcases Nat.lt_trichotomy q m with h|h|h;.omega
      .subst h;exact e rfl
      .have:=F m q g u h;omega
  ·rw[if_neg (by simp;omega),qb,qb];unfold ins;rw[decide_eq_false];intro y;obtain⟨q,u,rfl⟩:=bR y;have z:=w q u;simp at z;omega
def okV(v:aD):Bool:=((((decide (VR v.Box.Base)&&decide (0<=v.Box.Z0))&&decide (v.Box.Z0<v.Box.Z1))&&decide (v.Box.Z1<=4096))&&decide (0<=v.Use))&&decide (v.Use<6)
def xG(l:List Phase):List (List cg):=l.flatMap λh=>(h.Volumes.filter okV).map sld
theorem Js(l:List Phase)(h:Phase):xG (l++[h])=xG l++(h.Volumes.filter okV).map sld:=by simp[xG]
theorem Ep{l:List Phase}(h:∀e∈l,PhS e):(xG l).length<=2*l.length:=by induction l with|nil=>simp[xG];|cons e l g=>have h1:=(h e (by simp)).1;have:=g λx j=>h x (by simp[j]);have m:=xg okV e.Volumes;simp[xG]at*;omega
theorem O4{r:aq}(h:RtS r):lz r=some (xG (lft r)):=by
  have z:=rM h;have f:∀g∈lft r,PhS g:=λg q=>h.2 g (pP q);unfold lz;rw[Ec h,qb];refine lZ (λi (s:List _×Int)=>s.2=((i:Nat):Int)/\s.1=xG ((lft r).take i)) (lft r).length (.=some _) (λi s hi⟨u,I⟩=>?_) (λs ⟨u,I⟩=>?_) ⟨rfl,rfl⟩ (by omega)
  · have E:=(f _ (aQ hi)).1;have F:=Ep (l:=(lft r).take i) λg q=>f g (py q);have G:((lft r).take i).length<=4:=by simp;omega
    unfold lH;rw[u,if_pos (by simpa using hi),ag hi,qb];have y:=ep (l:=(lft r)[i].Volumes) (body:=ij (lft r)[i]) (k:=2) (λ (s:List _)j=>(s,j)) (λs v=>if okV v=true then s++[sld v]else s) (λj s=>s.length<=s.length/\s.length<=100+j) (by
 intro j w s J;unfold ij;dsimp only;rw[if_pos (by simpa using w),ag w,qb,fm,qb];by_cases m:okV (lft r)[i].Volumes[j]=true;·have e:=m;unfold okV at e;rw[if_pos m,if_pos e,bP (by simp;omega),qb,qb,aj (by omega)];exact⟨rfl,by simp;omega⟩
 ·have e:=m;unfold okV at e;rw[if_neg m,if_neg e,qb,aj (by omega)];exact⟨rfl,by omega⟩) (by intro s J;unfold ij;rw[if_neg (by simp)]) (s0:=s.1) ⟨aN _,by rw[I];omega⟩ (fuel:=(lft r)[i].Volumes.length+1) (by omega);rw[y.1,qb];dsimp only;rw[foldl_filterMap,aj (by omega)];exact .inl ⟨_,rfl,rfl,by rw[dj hi,Js,I]⟩
  ·unfold lH;rw[u,if_neg (by simp)];exact⟨_,rfl,trivial,by dsimp only;rw[I,cJ]⟩
def CE(d:List Int)(t:aT)(s:List cg):Bool:=t.Windows.any λw=>!(ins d w.Lot)&&t.aK.Sun.any λp=>G6 s w.At p
def Cl(t:aT)(s:List cg):Bool:=t.aK.Views.any λv=>v.Targets.any λq=>GV s v.Eye q
theorem xE{u w:Type}{l:List u}{body:Int->Option (aY Int Bool)}{K:aY Int Bool->Option w}{Q:Option w->Prop}(g:u->Bool)(id:Nat){f:Nat}(z:l.length<f)(G:l.length<=1000000)(step:∀i(hi:i<l.length),body (i:Int)=if g l[i]=true then some (.ret true)else(bg (i:Int) 1).bind λj=>some (.go j))(done:body (l.length:Int)=some (.ex id (l.length:Int)))(h1:l.any g=false->Q (K (.ex id (l.length:Int))))(E:l.any g=true->Q (K (.ret true))):Q ((az body f 0).bind K):=by
 refine lZ (λi s=>s=(i:Int)/\∀m(e:m<l.length),m<i->g l[m]=false) l.length Q (λi s hi⟨q,I⟩=>?_) (λs⟨q,I⟩=>?_) ⟨rfl,λm _ h=>by omega⟩ z
 · subst q;rw[step i hi];by_cases y:g l[i]=true;.rw[if_pos y];exact .inr ⟨_,rfl,trivial,E (jG.2 ⟨_,aQ hi,y⟩)⟩
   .rw[aj (by omega)];grind
 .subst q;refine⟨_,done,trivial,h1 ?_⟩;rw[uK];intro x F;obtain⟨m,e,rfl⟩:=bR F;rw[I m e e];simp
theorem EM{c:bT}{t:aT}{r:aq}(z:c.district.Pairwise (.< .))(E:c.district.length<=1000)(y:wu t)(h:RtS r):iZ c t r=some (!(ins c.district r.ay.Lot)||(xG (lft r)).any λs=>CE c.district t s||Cl t s):=by
 have I:=y.wins;have J:=y.views;have G:=Ep (l:=lft r) λF H=>h.2 F (pP H);have M:=rM h;unfold iZ;rw[BR z E,qb];by_cases hi:ins c.district r.ay.Lot=true
 · rw[hi,if_neg (by simp),O4 h,qb];have f:∀s∈xG (lft r),JX s:=λs m=>by unfold xG at m;obtain⟨F,_,m⟩:=uN.1 m;obtain⟨v,_,rfl⟩:=aS.1 m;exact AX _
   generalize xG (lft r)=L at G f;refine xE (l:=L) (Q:=λo=>o=some _) _ 0 (by omega) (by omega) (λi hi=>?_) (by unfold tC;rw[if_neg (by simp)]) (λh=>by rw[h];rfl) (λh=>by rw[h];rfl);have m:=f _ (aQ hi);unfold tC;rw[if_pos (by simpa using hi),ag hi,qb];show _=(if(CE c.district t L[i]||Cl t L[i])=true then some _ else(bg (i:Int) 1).bind λj=>some (.go j):Option (aY Int Bool));generalize u:(if(CE c.district t L[i]||Cl t L[i])=true then some (.ret true)else(bg (i:Int) 1).bind λj=>some (.go j):Option (aY Int Bool))=X;refine xE (l:=t.Windows) (Q:=(.=X)) (λw=>!(ins c.district w.Lot)&&t.aK.Sun.any λp=>G6 L[i] w.At p) 2 (by omega) (by omega) (λk hk=>?_) (by unfold tM;rw[if_neg (by simp)]) (λx=>?_) (λx=>?_)
   · unfold tM;rw[if_pos (by simpa using hk),ag hk,qb,BR z E,qb];have e:dy t.aK.Sun (λd=>rQ d L[i] t.Windows[k])=some _:=ub (g:=λp=>G6 L[i] t.Windows[k].At p) (by have:=y.sun;omega) λp _=>by unfold rQ;rw[IW m];rfl
     grind
   · dsimp only;rw[show CE c.district t L[i]=false from x]at u;refine xE (l:=t.aK.Views) (Q:=(.=X)) (λv=>v.Targets.any λq=>GV L[i] v.Eye q) 4 (by omega) (by omega) (λk hk=>?_) (by unfold tv;rw[if_neg (by simp)]) (λx=>?_) (λx=>?_)
     · unfold tv;have e:dy t.aK.Views[k].Targets (λq=>rW q L[i] t.aK.Views[k])=some _:=ub (g:=λq=>GV L[i] t.aK.Views[k].Eye q) (by have:=y.view _ (aQ hk);omega) λp _=>by unfold rW;rw[IQ m];rfl
       rw[if_pos (by simpa using hk),ag hk,qb,e,qb]
     .rw[show Cl t L[i]=false from x,if_neg (by simp)]at u;dsimp only;exact u
     .rw[show Cl t L[i]=true from x,if_pos (by simp)]at u;dsimp only;exact u
   .rw[show CE c.district t L[i]=true from x,if_pos (by simp)]at u;dsimp only;exact u
 .rw[Bool.not_eq_true]at hi;rw[hi,if_pos (by simp)];rfl
theorem Rn{a b:List aD}(h:a.length<=1000):jF a b=some (decide (a=b)):=De (by omega)
theorem Qx{a b:List Entry}(h:a.length<=1000):kH a b=some (decide (a=b)):=De (by omega)
theorem Cg(a b:Phase):a=b↔a.Volumes=b.Volumes/\a.ba=b.ba:=by cases a;cases b;simp
theorem Qf{a b:Phase}(h:PhS a):iP a b=some (decide (a=b)):=by
 have h1:=h.1;have f:=h.2;unfold iP;rw[Rn (by omega),qb];by_cases e:a.Volumes=b.Volumes;.rw[Qx (by omega)];simp[Cg,e]
 .rw[if_neg (by simpa using e),qb,decide_eq_false λh=>e (by rw[h])]
theorem K3{a b:Phase}(h:PhS a):kg a b=some (decide (a=b)):=by
 have h1:=h.1;have m:=h.2;unfold kg;by_cases f:a.Volumes.length=b.Volumes.length/\a.ba.length=b.ba.length
 · rw[if_neg (by simp[f.1,f.2])];refine td (Q:=(.=some _)) 0 f.1 (by omega) (by omega) (λi hi j=>?_) (by unfold kF;rw[if_neg (by simp)]) (λe=>?_) (λe=>by rw[decide_eq_false λh=>e (by rw[h])]);.unfold kF;rw[if_pos (by simpa using hi),ag hi,qb,ag j,qb]
   .refine td (Q:=(.=some _)) 2 f.2 (by omega) (by omega) (λi hi j=>?_) (by unfold kE;rw[if_neg (by simp)]) (λg=>by rw[decide_eq_true ((Cg a b).2 ⟨e,g⟩)]) (λe=>by rw[decide_eq_false λh=>e (by rw[h])]);unfold kE;rw[if_pos (by simpa using hi),ag hi,qb,ag j,qb]
 .rw[if_pos (by simp;omega),decide_eq_false λe=>f ⟨by rw[e],by rw[e]⟩]
theorem CQ(a b:aq):a=b↔((((a.Id=b.Id/\a.Holder=b.Holder)/\a.Used=b.Used)/\a.Until=b.Until)/\a.Over=b.Over)/\a.ay.Lot=b.ay.Lot/\a.ay.Phases=b.ay.Phases:=by have⟨e,a2,⟨a3,a4⟩,a5,f,g⟩:=a;have⟨h,j,⟨m,q⟩,u,w,x⟩:=b;grind
theorem Ov{a b:aq}(h:RtS a):counter_same a b=some (decide (a=b)):=by
 have m:=h.1;unfold counter_same;by_cases e1:(((a.Id=b.Id/\a.Holder=b.Holder)/\a.Used=b.Used)/\a.Until=b.Until)/\a.Over=b.Over
 · rw[if_pos (by simpa using e1)];unfold sk;by_cases f:a.ay.Lot=b.ay.Lot
   · rw[if_pos (by simpa using f)];have y:cR a.ay.Phases b.ay.Phases iP=some (decide (a.ay.Phases=b.ay.Phases)):=by
      unfold cR;by_cases g:a.ay.Phases.length=b.ay.Phases.length;.rw[if_neg (by simp[g])];refine td (Q:=(.=some _)) 0 g (by omega) (by omega) (λi hi j=>?_) (by unfold dE;rw[if_neg (by simp)]) (λe=>by rw[decide_eq_true e]) (λe=>by rw[decide_eq_false e]);unfold dE;rw[if_pos (by simpa using hi),ag hi,qb,ag j,qb,Qf (h.2 _ (aQ hi)),qb]
      .rw[if_pos (by simp;omega),decide_eq_false λe=>g (by rw[e])]
     rw[y];simp[CQ,e1,f]
   .rw[if_neg (by simpa using f),qb,qb,qb,decide_eq_false λh=>f (by rw[h])]
 .rw[if_neg (by simpa using e1),qb,decide_eq_false λh=>e1 (by simp[h])]
theorem KV{a b:aq}(h:RtS a)(g:RtS b):sw a b=some (decide (a=b)):=by
 have m:=h.1;unfold sw;by_cases e1:((((a.Id=b.Id/\a.Holder=b.Holder)/\a.Used=b.Used)/\a.Until=b.Until)/\a.Over=b.Over)/\a.ay.Lot=b.ay.Lot
 · rw[if_pos (by simpa using e1)];have y:iU a.ay.Phases b.ay.Phases=some (decide (a.ay.Phases=b.ay.Phases)):=by
    unfold iU;by_cases f:a.ay.Phases.length=b.ay.Phases.length;.rw[if_neg (by simp[f])];refine td (Q:=(.=some _)) 0 f (by omega) (by omega) (λi hi j=>?_) (by unfold jE;rw[if_neg (by simp)]) (λe=>by rw[decide_eq_true e]) (λe=>by rw[decide_eq_false e]);unfold jE;rw[if_pos (by simpa using hi),ag hi,qb,ag j,qb,K3 (h.2 _ (aQ hi)),qb]
    .rw[if_pos (by simp;omega),decide_eq_false λe=>f (by rw[e])]
   rw[y];simp[CQ,e1]
 .rw[if_neg (by simpa using e1),qb,decide_eq_false λh=>e1 (by simp[h])]
theorem HG{r:aq}(h:RtS r):kV r=some r:=by
 have f:=h.1;refine lZ (λi(s:List Phase×Int)=>s.2=i/\s.1=r.ay.Phases.take i) r.ay.Phases.length (.=some r) (λi s hi⟨e,I⟩=>?_) (λs ⟨e,I⟩=>?_) ⟨rfl,by simp⟩ (by omega);.have h1:=(h.2 _ (aQ hi)).1;have g:=(h.2 _ (aQ hi)).2;unfold o9 ew cc;rw[e,if_pos (by simpa using hi),ag hi,qb,eT (by omega),qb,qb,eT (by omega),qb,qb,bP (by rw[I];simp;omega),aj (by omega)];exact .inl ⟨_,rfl,rfl,by rw[dj hi,I]⟩
 .unfold o9;rw[e,if_neg (by simp)];exact⟨_,rfl,trivial,by rw[I,cJ]⟩
def L7(l:List au):Prop:=∀f∈l,RtS f.aq
theorem H0{l:List au}(h:L7 l)(f:l.length<=10000):kj l=some l:=by
 refine lZ (λi(s:List au×Int)=>s.2=i/\s.1=l.take i) l.length (.=some l) (λi s hi⟨e,I⟩=>?_) (λs ⟨e,I⟩=>?_) ⟨rfl,by simp⟩ (by omega);.unfold kG;rw[e,if_pos (by simpa using hi),ag hi,qb,HG (h _ (aQ hi)),qb,bP (by rw[I];simp;omega),aj (by omega)];exact .inl ⟨_,rfl,rfl,by rw[dj hi,I]⟩
 .unfold kG;rw[e,if_neg (by simp)];exact⟨_,rfl,trivial,by rw[I,cJ]⟩
theorem EB{l:List au}(h:L7 l)(f:l.length<=10000):vX l=some (l,l):=by
 refine lZ (λi(s:List au×Int)=>s.2=i/\s.1=l.take i) l.length (.=some (l,l)) (λi s hi⟨e,I⟩=>?_) (λs ⟨e,I⟩=>?_) ⟨rfl,by simp⟩ (by omega);.unfold tR;rw[e,if_pos (by simpa using hi),ag hi,qb,HG (h _ (aQ hi)),qb,bP (by rw[I];simp;omega),aj (by omega)];exact .inl ⟨_,rfl,rfl,by rw[dj hi,I]⟩
 .unfold tR;rw[e,if_neg (by simp)];exact⟨_,rfl,trivial,by dsimp;rw[I,cJ]⟩
theorem Gl{c:CC}(h:L7 c.reg)(e:c.reg.length<=10000):mf c=some (c,c.reg):=by unfold mf;rw[EB h e];rfl
def fP(a b:au):Int:=if a.Counter<b.Counter then-1 else if b.Counter<a.Counter then 1 else if a.Number<b.Number then-1 else if b.Number<a.Number then 1 else 0
theorem I1(x y:Int):cq x y=some (if x<y then-1 else if y<x then 1 else 0):=by unfold cq cmp_isNaN_int;grind
theorem TH(x y:Int):my [x,y]=some (if x=0 then y else x):=by
 unfold my;simp[az,mI];by_cases h:x=0
 · by_cases e:y=0;.subst h;subst e;rfl
   .subst h;simp[aR,bg,inI,e]
 .simp[aR,h]
theorem A7(a b:au):dN a b=some (fP a b):=by
 unfold dN fP;rw[I1,I1];repeat' split
 all_goals first|rfl|omega
theorem pE(a b:au):fP a b<0↔a.Counter<b.Counter∨(a.Counter=b.Counter/\a.Number<b.Number):=by unfold fP;all_goals omega
theorem wz(a b:au):fP a b=0↔a.Counter=b.Counter/\a.Number=b.Number:=by unfold fP;all_goals omega
def Asc(l:List au):Prop:=l.Pairwise λa b=>fP a b<0
theorem LR{l:List au}(h:Asc l)(R:l.length<=100000)(x:au):∃n:Nat,n<=l.length/\bsF l x=some ((n:Int),decide (∃y∈l,fP y x=0))/\(∀i(hi:i<l.length),fP l[i] x<0↔i<n)/\((∃y∈l,fP y x=0)->∃E:n<l.length,fP l[n] x=0):=by
  have H:=fe.1 h;obtain⟨n,E,h1,O⟩:=bsearch (l:=l) (p:=λy=>decide (fP y x<0)) (body:=cd l x dN) (by omega) (λi j g I P=>by have:=H i j (by omega) I g;simp[decide_eq_true_eq]at P⊢;rw[pE]at*;omega) (λi j g I=>by
 unfold cd;rw[if_pos (by simpa using g),cM (by unfold inI;omega)];have Q:∀n,(IntKind.i64.wrap (IK.shr _ 1).n)=Ag n:=λ _=>rfl;simp only[Q,wg (show i<1000000 by omega) (show j<1000000 by omega),ag (show(i+j)/2<l.length by omega),qb,A7];by_cases z:fP (l[(i+j)/2]'(by omega)) x<0;.rw[if_pos (by simpa using z),aj (by omega),qb,qb,if_pos (by simpa using z)]
 .rw[if_neg (by simpa using z),qb,if_neg (by simpa using z)]) (λi=>by unfold cd;rw[if_neg (by simp)]) (fuel:=l.length+1) (by omega);have m:∀i(hi:i<l.length),fP l[i] x<0↔i<n:=λi hi=>by rw[<-O i hi];simp
  have F:(∃y∈l,fP y x=0)->∃E:n<l.length,fP l[n] x=0:=by
   rintro⟨y,u,e⟩;obtain⟨q,M,rfl⟩:=bR u;have T:=m q M;have f:n<l.length:=by omega
   have G:=m n f;refine⟨f,?_⟩;rcases Nat.lt_trichotomy n q with w|rfl|w;·have:=H n q f M w;rw[pE]at*;rw[wz]at*;omega
   .exact e
   .omega
  refine⟨n,E,?_,m,F⟩;unfold bsF bz;rw[h1];dsimp;rcases bw n l.length with f|f
  · rw[if_pos (by simpa using f),ag f,qb,A7];by_cases e:fP l[n] x=0;.rw[decide_eq_true ⟨_,aQ f,e⟩];simp[e]
    .rw[decide_eq_false λu=>by have⟨_,G⟩:=F u;exact e G];simp[e]
  .rw[if_neg (by simp;omega),qb,decide_eq_false λu=>by have⟨G,_⟩:=F u;omega]
def p6:List au->au->List au|[],f=>[f]|g::l,f=>if fP g f<0 then g::p6 l f else if fP g f=0 then g::l else f::g::l
theorem Av:∀{l:List au}{f:au},Asc l->(∃y∈l,fP y f=0)->p6 l f=l
 |[],f,_,⟨y,j,_⟩=>by simp at j;|g::l,f,h,⟨y,j,e⟩=>by
  have m:=jK.1 h;unfold p6;by_cases h1:fP g f<0
  · rw[if_pos h1];rcases bF.1 j with rfl|j;.omega
    .rw [Av m.2 ⟨y,j,e⟩]
  · rw[if_neg h1,if_pos];rcases bF.1 j with rfl|j;.exact e
    .have:=m.1 y j;rw[pE]at*;rw[wz]at*;omega
theorem Jb:∀{l:List au}{f:au}{n:Nat},n<=l.length->(∀i(hi:i<l.length),fP l[i] f<0↔i<n)->(¬∃y∈l,fP y f=0)->p6 l f=l.take n++[f]++l.drop n|[],f,n,m,_,_=>by simp[p6];|g::l,f,0,m,h,j=>by unfold p6;grind;|g::l,f,n+1,m,h,j=>by have:=h 0 (by simp);simp[List.getElem_cons_zero]at this;unfold p6;rw[if_pos (by omega),Jb (by simpa using m) (λi hi=>by have:=h (i+1) (by simpa using hi);simpa using this) λ ⟨y,q,e⟩=>j ⟨y,by simp[q],e⟩];simp
theorem I4{c:CC}{f:au}(h:Asc c.reg)(m:c.reg.length<=10000):KN c f=some {c with reg:=p6 c.reg f}:=by
 unfold KN;have⟨n,g,h1,j,q⟩:=LR h (by omega) f;rw[h1,qb];by_cases e:∃y∈c.reg,fP y f=0;.rw[if_neg (by simpa using e),Av h e]
 .rw[if_pos (by simpa using e)];unfold DB;rw[if_pos ⟨by omega,by simpa using g,by simp,by simp;omega⟩,Jb g j e];rfl
theorem Fh:∀{l:List au}{f g:au},g∈p6 l f->g∈l∨g=f
 |[],f,g,h=>by simp[p6]at h;exact .inr h;|x::l,f,g,h=>by
  unfold p6 at h;split at h
  · rcases bF.1 h with rfl|h;.exact .inl (by simp)
    .exact(Fh h).imp (λh=>by simp[h]) λh=>h
  grind
theorem Er:∀{l:List au}{f:au},Asc l->Asc (p6 l f)
 |[],f,_=>by simp[p6,Asc];|x::l,f,h=>by
  have j:=jK.1 h;unfold p6;split
  · rename_i h1;refine jK.2 ⟨λg e=>?_,Er j.2⟩;rcases Fh e with e|rfl;.exact j.1 g e
    .exact h1
  · split;.exact h
    · rename_i h1 m;refine jK.2 ⟨λg e=>?_,h⟩;have q:fP f x<0:=by rw[pE]at*;rw[wz]at m;omega
      rcases bF.1 e with rfl|e;.exact q
      .have:=j.1 g e;rw[pE]at*;omega
theorem L4(l:List au)(f:au):(p6 l f).length<=l.length+1:=by induction l with|nil=>simp[p6];|cons x l h=>
 unfold p6;split;.simp;omega
 .split<;>simp
instance(l:List au):Decidable (Asc l):=inferInstanceAs (Decidable (l.Pairwise λa b=>fP a b<0))
theorem Jy{n:Int}{d:List Int}{l:List bn}(M:d.length<=1000):vt n d l=some (none,1)∨∃dc,vt n d l=some (some ⟨n,d,dc,[]⟩,0)/\(nR n l).1=some dc/\d.Pairwise (.< .)/\∀x∈d,1<=x:=by
 unfold vt;by_cases g:(nR n l).2=0
 · rw[if_neg (by simpa using g)];obtain⟨dc,q⟩:∃dc,(nR n l).1=some dc:=by
    unfold nR at g⊢;split at g;.rename_i h;rw[if_pos h];exact⟨_,rfl⟩
    .simp at g
   refine lZ (λi (s:Int)=>s=i/\(∀m(f:m<d.length),m<i->1<=d[m])/\∀a b(w:a<d.length)(z:b<d.length),a<b->b<i->d[a]<d[b]) d.length (λo:Option (Option CC×Int)=>o=some _∨∃dc,o=some (some ⟨n,d,dc,[]⟩,0)/\(nR n l).1=some dc/\d.Pairwise (.<.)/\∀x∈d,1<=x) (λi s hi ⟨E,h1,y⟩=>?_) (λs⟨E,h1,y⟩=>?_) ⟨rfl,λm _ h=>by omega,λa b _ _ _ h=>by omega⟩ (by omega)
   · subst E;unfold wQ;rw[if_pos (by simpa using hi),ag hi,qb];by_cases g1:d[i]<1∨1073741824<d[i];.rw[if_pos (by simpa using g1)];exact .inr ⟨_,rfl,trivial, .inl rfl⟩
     · rw[if_neg (by simpa using g1)];by_cases g2:0<i
       · rw[if_pos (by simpa using g2),nu g2 (by omega),qb,ag (by omega),qb,qb,qb];by_cases g3:d[i]<=d[i-1];.rw[if_pos (by simpa using g3)];exact .inr ⟨_,rfl,trivial, .inl rfl⟩
         · rw[if_neg (by simpa using g3),aj (by omega)];refine .inl ⟨_,rfl,rfl,λm f F=>?_,λa b w z u G=>?_⟩
           · by_cases e:m=i;.subst e;omega
             .exact h1 m f (by omega)
           · by_cases e:b=i
             · subst e;by_cases e:a=b-1;.subst e;omega
               .have:=y a (b-1) w (by omega) (by omega) (by omega);omega
             .exact y a b w z u (by omega)
       · rw[if_neg (by simpa using g2),aj (by omega)];refine .inl ⟨_,rfl,rfl,λm f F=>?_,λa b w z u G=>by omega⟩;obtain rfl:m=i:=by omega
         omega
   · subst E;unfold wQ;rw[if_neg (by simp)];refine⟨_,rfl,trivial, .inr ⟨dc,?_,q,fe.2 λi j hi I H=>y i j hi I H I,λx J=>?_⟩⟩;·unfold ft;rw[eT (by omega),qb,qb,q]
     ·obtain⟨m,f,rfl⟩:=bR J;exact h1 m f f
 .rw[if_pos (by simpa using g)];exact .inl rfl
def ndm(t:aT)(r:aq):List (ByteArray×Int):=t.aK.Caps.foldl (λm c=>dA m c.Name (IntKind.i64.wrap ((bV m c.Name).getD 0+top t.aK c r))) []
theorem Fz{t:aT}{r:aq}(e:wu t)(g:t.Built.length<=1000)(j:t.Base.length<=1000)(h:RtS r):dL t r=some (ndm t r):=by have q:=e.wK;unfold dL;have y:=ep (body:=pO t r) (λ (m:List _)i=>(m,i)) (λm c=>dA m c.Name (IntKind.i64.wrap ((bV m c.Name).getD 0+top t.aK c r))) (λ _ _=>True) (λi hi m _=>by unfold pO;rw[if_pos (by simpa using hi),ag hi,qb,IU e.plan (e.cap _ (aQ hi)) g j (by simp) (by simpa using h),aj (by omega)];exact⟨rfl,trivial⟩) (λm _=>by unfold pO;rw[if_neg (by simp)]) (s0:=[]) trivial (fuel:=t.aK.Caps.length+1) (by omega);rw[y.1];rfl
def KZ(t:aT)(r:aq):Bool:=(fK t r).getD false
def JC(d:List Int)(t:aT)(r:aq):Bool:=!(ins d r.ay.Lot)||(xG (lft r)).any λs=>CE d t s||Cl t s
def idB(e:List aq)(r:aq):Bool:=e.any λx=>x.Id==r.Id
def F6(t:aT)(l:List aq):Bool:=match kR t l with|some x=>x.2|none=>false
def Oj(num:Int)(reg:List au):Int:=reg.foldl (λn f=>if(f.Counter==num)=true then n+1 else n) 1
def pz(c:CC):List aq:=c.reg.map (·.aq)
structure CtS(c:CC)(n:Nat):Prop where
 asc:c.dist.Pairwise (.<.)dl:c.dist.length<=1000reg:Asc c.reg
 rts:L7 c.reg
 len:c.reg.length<=n
structure TwS(t:aT):Prop where
 town:wu t
 land:t.Land.length<=5lots:∀x∈t.Land,yH x
 built:t.Built.length<=4base:t.Base.length<=4
theorem Few.tw{t:aT}{l:List aq}(h:Few t l):TwS t:=⟨h.town,h.land,h.lots,h.built,h.base⟩
theorem RtS.sm{r:aq}(h:RtS r):SmD r.ay:=⟨by have:=h.1;omega,λp e=>⟨by have:=(h.2 p e).1;omega,by have:=(h.2 p e).2;omega⟩⟩
theorem oI{c:CC}{t:aT}{e:List aq}{r:aq}{n f:Nat}{b:Bool}(g:n<6)(h:v8 c t e r n=some b):az (BW c t e r) (f+1) (n:Int)=if b=true then some (.ret (tK n))else az (BW c t e r) f ((n+1:Nat):Int):=by rw[az];unfold BW;rw[if_pos (by simp;omega),nT,h];cases b with|true=>rfl;|false=>rw[aj (by omega)];rfl
theorem count_eq(num:Int){reg:List au}(h:reg.length<=10000):∃j,az (vB num reg) (reg.length+1) (1,0)=some (.ex 6 (Oj num reg,j))/\1<=Oj num reg/\Oj num reg<=reg.length+1:=by
 have y:=ep (l:=reg) (body:=vB num reg) (λ (n:Int)i=>(n,i)) (λn f=>if(f.Counter==num)=true then n+1 else n) (λi n=>1<=n/\n<=i+1) (λi hi n I=>by
 unfold vB;rw[if_pos (by simpa using hi),ag hi,qb];by_cases e:(reg[i].Counter==num)=true;.rw[if_pos e,if_pos e,cM (by unfold inI;omega),aj (by omega)];exact⟨rfl,by omega,by omega⟩
 .rw[if_neg e,if_neg e,aj (by omega)];exact⟨rfl,by omega,by omega⟩) (λn _=>by unfold vB;rw[if_neg (by simp)]) (s0:=1) ⟨by omega,by omega⟩ (fuel:=reg.length+1) (by omega);exact⟨_,y.1,y.2⟩
def granted(c:CC)(t:aT)(r:aq):CC:={c with dc:=dZ c.dc (ndm t r),reg:=p6 c.reg ⟨c.num,Oj c.num c.reg,r⟩}
theorem zA{c:CC}{t:aT}{rights:List aq}{r:aq}(w:CtS c 100)(e:TwS t)(m:RtS r)(y:∀x∈rights,RtS x)(O:rights.length+c.reg.length+1<=10):vh c t rights r=some (if KZ t r=true then if JC c.dist t r=true then(c,27)else if idB (rights++pz c) r=true then(c,5)else if F6 t (rights++pz c++[r])=true then if sE c.dc (ndm t r)=true then(c,26)else(granted c t r,0)else(c,21)else(c,1)):=by
 have P:=e.built;have Q:=e.base;have R:=e.land;unfold vh kC;rw[eT (by omega),qb,qb];have H:=ep (l:=c.reg) (body:=Mr c.reg) (k:=0) (λ (l:List aq)i=>(l,i)) (λl f=>l++[f.aq]) (λi l=>l.length=rights.length+i) (λi hi l T=>by unfold Mr;dsimp only;rw[if_pos (by simpa using hi),ag hi,qb,bP (by simp;omega),qb,aj (by omega)];exact⟨rfl,by simp;omega⟩) (λl _=>by unfold Mr;rw[if_neg (by simp)]) (s0:=rights) rfl (fuel:=c.reg.length+1) (by omega);rw[H.1,qb];dsimp only;have u:c.reg.foldl (λl f=>l++[f.aq]) rights=rights++pz c:=by rw[foldl_flatMap _];simp[pz,List.map_eq_flatMap]
 rw[u];have F:(rights++pz c).length=rights.length+c.reg.length:=by simp[pz]
 have I:(pz c).length=c.reg.length:=by simp[pz]
 have z:∀x∈rights++pz c++[r],RtS x:=by
  intro x q;simp only[dK,pz,aS,eZ]at q;rcases q with(q|⟨f,G,rfl⟩)|rfl;.exact y x q
  .exact w.rts f G
  .exact m
 obtain⟨x,q,_⟩:=OM (rights:=rights++pz c++[r]) e.town (by simp only[bp,List.length_singleton];omega) z (by omega) (by omega);have t0:v8 c t (rights++pz c) r 0=some (!KZ t r):=by have:=nf (d:=false) (LQ (t:=t) (r:=r) (by have:=e.town.wK;omega) (by omega) e.lots m.sm);show(fK t r).bind _=_;rw[this];rfl
 have t1:v8 c t (rights++pz c) r 1=some (JC c.dist t r):=EM (c:=_) w.asc w.dl e.town m;have t2:v8 c t _ r 2=some (idB _ r):=ub (s:=rights++pz c) (f:=λx=>CW x r) (g:=λx=>x.Id==r.Id) (by omega) λx _=>rfl;have t3:v8 c t (rights++pz c) r 3=some false:=by show some (decide _)=_;rw[decide_eq_false (by omega)]
 have t4:v8 c t (rights++pz c) r 4=some (!F6 t (rights++pz c++[r])):=by show(EV t _ r).bind _=_;unfold EV F6;rw[bP (by simp only[List.length_singleton];omega),qb,q];rfl
 have t5:v8 c t (rights++pz c) r 5=some (sE c.dc (ndm t r)):=by show(dL t r).bind _=_;rw[Fz e.town (by omega) (by omega) m];rfl
 rw[show(0:Int)=((0:Nat):Int)from rfl,oI (by omega) t0];cases G:KZ t r with|false=>rw[if_pos (by simp),qb];rfl;|true=>rw[if_neg (by simp),if_pos rfl,oI (by omega) t1];cases JC c.dist t r with|true=>rw[if_pos rfl,qb];rfl;|false=>rw[if_neg (by simp),if_neg (by simp),oI (by omega) t2];cases idB _ r with|true=>rw[if_pos rfl,qb];rfl;|false=>rw[if_neg (by simp),if_neg (by simp),oI (by omega) t3,if_neg (by simp),oI (by omega) t4];cases F6 t (rights++pz c++[r])with|false=>rw[if_pos (by simp),qb];rfl;|true=>rw[if_neg (by simp),if_pos rfl,oI (by omega) t5];cases sE c.dc (ndm t r)with|true=>rw[if_pos rfl,qb];rfl;|false=>rw[if_neg (by simp),if_neg (by simp)];have J:az (BW c t (rights++pz c) r) 1 ((5+1:Nat):Int)=some (.ex 2 6):=rfl;rw[J,qb];dsimp only;unfold Ao;obtain⟨j,M,_⟩:=count_eq c.num (reg:=c.reg) (by omega);rw[Fz e.town (by omega) (by omega) m,qb,M,qb];dsimp only;rw[HG m,qb,I4 (c:={c with dc:=dZ c.dc (ndm t r)}) w.reg (by dsimp only;omega),qb];rfl
def okF(f:au):Bool:=decide (0<=f.Counter)&&decide (f.Counter<8)&&decide (1<=f.Number)
def AD(reg:List au)(f:au):Bool:=decide (∃y∈reg,fP y f=0)
def nU(c:CC)(f:au):Bool:=if AD c.reg f=true then c.reg.any λy=>decide (fP y f=0)&&!decide (y.aq=f.aq)else f.Counter==c.num
theorem N4{l:List au}(h:Asc l){i j:Nat}(hi:i<l.length)(m:j<l.length){f:au}(e1:fP l[i] f=0)(q:fP l[j] f=0):i=j:=by
 have u:=fe.1 h;rcases Nat.lt_trichotomy i j with g|e|g;.have:=u i j hi m g;rw[pE]at this;rw[wz]at e1 q;omega
 .exact e
 .have:=u j i m hi g;rw[pE]at this;rw[wz]at e1 q;omega
theorem join_eq{c:CC}{l:List au}(H:CtS c 2000)(hl:l.length<=2000)(hr:L7 l):zX c l=some (if(l.all okF&&decide (Asc l))=true then if(l.any (nU c))=true then(c,25)else({c with reg:=l.foldl p6 c.reg},0)else(c,1)):=by
 have hcl:=H.len;unfold zX Jf;refine lZ (λi s=>s=((i:Nat):Int)/\(∀m(w:m<l.length),m<i->okF l[m]=true)/\∀a b _(U:b<l.length),a<b->b<i->fP l[a] l[b]<0) l.length (.=some _) (λi s hi ⟨F,h1,R⟩=>?_) (λs ⟨F,h1,R⟩=>?_) ⟨rfl,λm _ h=>by omega,λa b _ _ _ h=>by omega⟩ (by omega)
 .subst F;unfold wP;rw[if_pos (by simpa using hi),ag hi,qb];by_cases g1:okF l[i]=true
  · have z:=g1;unfold okF at z;simp only[aG,decide_eq_true_eq]at z;rw[if_neg (by simp;omega)];by_cases g2:0<i
    · rw[if_pos (by simpa using g2),nu g2 (by omega),qb,ag (by omega),qb,A7,qb,qb,qb];by_cases g3:0<=fP l[i-1] l[i]
      · rw[if_pos (by simpa using g3)];refine .inr ⟨_,rfl,trivial,?_⟩;have G:¬(l.all okF&&decide (Asc l))=true:=λh=>by simp only[aG,decide_eq_true_eq]at h;have:=fe.1 h.2 (i-1) i (by omega) hi (by omega);omega
        rw[if_neg G]
      · rw[if_neg (by simpa using g3),aj (by omega)];refine .inl ⟨_,rfl,rfl,λm w I=>?_,λa b V U J W=>?_⟩
        · by_cases e:m=i;.subst e;exact g1
          .exact h1 m w (by omega)
        · by_cases e:b=i
          · subst e;by_cases e:a=b-1;.subst e;omega
            · have:=R a (b-1) V (by omega) (by omega) (by omega);have g3:fP l[b-1] l[b]<0:=by omega
              rw[pE]at*;omega
          .exact R a b V U J (by omega)
    · rw[if_neg (by simpa using g2),qb,qb,if_neg (by simp),aj (by omega)];refine .inl ⟨_,rfl,rfl,λm w I=>?_,λa b V U J W=>by omega⟩;obtain rfl:m=i:=by omega
      exact g1
  · have z:=g1;unfold okF at z;simp only[aG,decide_eq_true_eq]at z;rw[if_pos (by simp;omega)];refine .inr ⟨_,rfl,trivial,?_⟩;have G:¬(l.all okF&&decide (Asc l))=true:=λh=>by simp only[aG]at h;exact g1 (br.1 h.1 _ (aQ hi))
    rw[if_neg G]
 .subst F;unfold wP;rw[if_neg (by simp)];refine⟨_,rfl,trivial,?_⟩;dsimp only;have hok:l.all okF=true:=br.2 λx M=>by obtain⟨m,w,rfl⟩:=bR M;exact h1 m w w
  have O:Asc l:=fe.2 λi j hi hj hij=>R i j hi hj hij hj;rw[if_neg (by simp;omega),hok,decide_eq_true O,if_pos (show(true&&true)=true from rfl)];refine lZ (λi (s:Int×Int)=>s.2=((i:Nat):Int)/\0<=s.1/\s.1<=c.reg.length+i/\∀m(w:m<l.length),m<i->nU c l[m]=false) l.length (.=some _) (λi s hi⟨F,h3,h4,h5⟩=>?_) (λs ⟨F,h3,h4,h5⟩=>?_) ⟨rfl,by dsimp only;omega,by dsimp only;omega,λm _ h=>by omega⟩ (by omega)
  .obtain⟨n,hn,e1,_,e3⟩:=LR H.reg (by omega) l[i];unfold wD;rw[F,if_pos (by simpa using hi),ag hi,qb,show bz _ l[i] dN=_ from e1,qb];dsimp only;have M:(if decide (∃y∈c.reg,fP y l[i]=0)=true then(aR c.reg (n:Int)).bind λx3=>(counter_same x3.aq l[i].aq).bind λx4=>some (!x4)else some false)=some (if AD c.reg l[i]=true then c.reg.any λy=>decide (fP y l[i]=0)&&!decide (y.aq=l[i].aq)else false):=by
    unfold AD;by_cases u:∃y∈c.reg,fP y l[i]=0
    · obtain⟨T,q2⟩:=e3 u;rw[if_pos (by simpa using u),if_pos (by simpa using u),ag T,qb,Ov (H.rts _ (aQ T)),qb];congr 1;rw[oK,jG];constructor;.intro h;exact⟨_,aQ T,by simp[q2];simpa using h⟩
      ·rintro⟨y,hy,h⟩;obtain⟨q,hq,rfl⟩:=bR hy;simp only[aG,decide_eq_true_eq]at h;obtain rfl:=N4 H.reg hq T h.1 q2;exact h.2
    .rw[if_neg (by simpa using u),if_neg (by simpa using u)]
   rw[M,qb];by_cases f:nU c l[i]=true
   · rw[if_pos];·refine .inr ⟨_,rfl,trivial,?_⟩;rw[if_pos (jG.2 ⟨_,aQ hi,f⟩)]
     · unfold nU AD at f;unfold AD;split at f;·rename_i u;rw[f,if_pos u];rfl
       · rename_i u;have hh':decide (∃y∈c.reg,fP y l[i]=0)=false:=by simpa using u
         rw[hh',f];simp
   · have E:nU c l[i]=false:=by simpa using f
     have P:∀m(w:m<l.length),m<i+1->nU c l[m]=false:=λm w I=>by
      by_cases e:m=i;.subst e;exact E
      .exact h5 m w (by omega)
     rw[if_neg]
     · by_cases u:∃y∈c.reg,fP y l[i]=0;·rw[if_neg (by simpa using u),qb,aj (by omega)];exact .inl ⟨_,rfl,rfl,h3,by dsimp only;omega,P⟩
       ·rw[if_pos (by simpa using u),cM (by unfold inI;omega),qb,qb,aj (by omega)];exact .inl ⟨_,rfl,rfl,by dsimp only;omega,by dsimp only;omega,P⟩
     · unfold nU AD at E;unfold AD;split at E;·rename_i u;rw[if_pos u,E,u];simp
       ·rename_i u;rw[if_neg u,E];simp
  · unfold wD;rw[F,if_neg (by simp)];refine⟨_,rfl,trivial,?_⟩;dsimp only;have Q:l.any (nU c)=false:=by rw[uK];intro x M;obtain⟨m,w,rfl⟩:=bR M;rw[h5 m w w];simp
    rw[if_neg (by simp;omega),Q,if_neg (by simp)];unfold KX;rw[H0 hr (by omega),qb];have key:=ep (l:=l) (body:=FH l) (k:=4) (λ (g:List au) i=>({c with reg:=g},i)) p6 (λi g=>Asc g/\g.length<=c.reg.length+i) (λi hi g hI=>by unfold FH;dsimp only;rw[if_pos (by simpa using hi),ag hi,qb,I4 (c:={c with reg:=g}) hI.1 (by dsimp only;omega),qb,aj (by omega)];exact⟨rfl,Er hI.1,by have:=L4 g l[i];omega⟩) (λg _=>by unfold FH;rw[if_neg (by simp)]) (s0:=c.reg) ⟨H.reg,by omega⟩ (fuel:=l.length+1) (by omega);rw[show(c,(0:Int))=({c with reg:=c.reg},0)from rfl,key.1];rfl
theorem CtS.mono{c:CC}{n m:Nat}(h:CtS c n)(e:n<=m):CtS c m:=⟨h.asc,h.dl,h.reg,h.rts,bC h.len e⟩
theorem L2{i:Nat}(h:i<4611686018427387904):F1 (i:Int) 1=some ((i+1:Nat):Int):=by unfold F1;rw[IntKind.wrap_i64];exact congrArg some (by omega)
theorem Ot(n:Int):IntKind.i64.wrap (n+1)≠n:=by rw[IntKind.wrap_i64];omega
theorem Fg{d:List Int}{r:aq}(z:d.length<=1000):∃s,az (rl d r) (d.length+1) (false,0)=some (.ex 0 s)/\(ins d r.ay.Lot=true->s.1=true):=by
 have⟨f,h,_,u⟩:=cC (body:=rl d r) (λi s=>s.2=i/\∀m(g:m<d.length),m<i->d[m]=r.ay.Lot->s.1=true) d.length (λf=>∃s,f= .ex 0 s/\(ins d r.ay.Lot=true->s.1=true)) (λi s hi⟨j,I⟩=>by
 unfold rl;rw[if_pos (by rw[j];simpa using hi)];have e:(if s.1=true then some true else(aR d s.2).bind λn=>some (n==r.ay.Lot))=some (s.1||(d[i]==r.ay.Lot)):=by rw[j,ag hi];cases s.1<;>simp
 rw[e,j,L2 (by omega)];refine .inl ⟨_,rfl,rfl,λm g w q=>?_⟩;by_cases x:m=i;.subst x;rw[q];simp
 .rw[I m g (by omega) q];rfl) (λs ⟨j,I⟩=>by unfold rl;rw[if_neg (by rw[j];simp)];refine⟨_,rfl,trivial,_,rfl,λh=>?_⟩;have⟨m,g,e⟩:=bR (of_decide_eq_true h);exact I m g g e) (false,0) ⟨rfl,λm _ h=>by omega⟩ (d.length+1) (by omega);obtain⟨s,rfl,y⟩:=u;exact⟨s,h,y⟩
theorem sx(c:CC)(l:List au):xa (some c) l=(zX c l).bind λr=>some (some r.1,r.2):=rfl
theorem tl(c:CC)(t:aT)(l:List aq)(r:aq):xf (some c) t l r=(vh c t l r).bind λr=>some (some r.1,r.2):=rfl
theorem KI(c:CC):PN (some c)=(mf c).bind λr=>some (some r.1,r.2):=rfl
theorem wZ(t:aT)(d:List Int)(l:List bn)(r x:aq):ez t d l r x=some true:=by
 unfold ez;obtain⟨b,hb,F⟩:=Ta (t:=t) (rights:=[r,x]);rw[hb,qb];by_cases m:((!b||decide (5<(d.length:Int)))||decide (3<(l.length:Int)))=true;.rw[if_pos m]
 rw[if_neg m];simp only[bU,cH,decide_eq_true_eq,not_or]at m;have F:=F (by simpa using m.1.1);have M:=F.tw;have E:RtS r:=F.rts r (by simp);have w:RtS {x with Id:=r.Id}:=F.rts x (by simp);rcases Jy (n:=2) (d:=d) (l:=l) (by omega)with e|⟨dc,e,_,u,_⟩;.rw[e,qb];rfl
 rw[e,qb];dsimp only;rw[if_neg (by simp)];obtain⟨s,hs,O⟩:=Fg (d:=d) (r:=r) (by omega);rw[hs,qb];dsimp only;have U:CtS ⟨2,d,dc,[]⟩ 0:=⟨u,by dsimp only;omega, .nil,λf g=>by simp at g,aN _⟩;have j0:xa (some ⟨2,d,dc,[]⟩) [(⟨2,1,r⟩:au)]=some (some ⟨2,d,dc,[]⟩,25):=by rw[sx,join_eq (U.mono (by omega)) (by simp) (by intro f g;simp at g;subst g;exact E)];rfl
 rw[j0,qb];dsimp only;rw[tl,zA (U.mono (by omega)) M E (by simp) (by simp),qb];dsimp only;cases G:KZ t r with|false=>rfl;|true=>rw[if_pos rfl];cases j:JC d t r with|true=>rfl;|false=>rw[if_neg (by simp),show idB _ r=false from rfl,if_neg (by simp)];cases F6 t ([]++pz _++[r])with|false=>rfl;|true=>rw[if_pos rfl];cases sE dc (ndm t r)with|true=>rfl;|false=>
 rw[if_neg (by simp)];have hi:s.1=true:=O (by unfold JC at j;simp only[rn,Bool.not_eq_false']at j;exact j.1);rw[hi,qb];dsimp only;rw[if_neg (by simp),if_neg (by simp)];generalize P:granted _ t r=c1;have e1:c1.num=2/\c1.dist=d/\c1.reg=[⟨2,1,r⟩]:=by subst P;exact⟨rfl,rfl,rfl⟩
 have z:CtS c1 1:=⟨by rw[e1.2.1];exact u,by rw[e1.2.1];omega,by rw[e1.2.2];simp[Asc],λf g=>by rw[e1.2.2]at g;simp at g;subst g;exact E,by rw[e1.2.2];simp⟩;have V:pz c1=[r]:=by unfold pz;rw[e1.2.2];rfl
 have g1:∃e,xf (some c1) t [] {x with Id:=r.Id}=some (some c1,e)/\(((e !=5)&&(e !=1))&&(e !=27))=false:=by rw[tl,zA (z.mono (by omega)) M w (by simp) (by rw[e1.2.2];simp),qb,V,show idB _ {x with Id:=r.Id}=true by simp[idB]];cases KZ t {x with Id:=r.Id}with|false=>exact⟨1,rfl,rfl⟩;|true=>cases JC c1.dist t {x with Id:=r.Id}with|false=>exact⟨5,rfl,rfl⟩;|true=>exact⟨27,rfl,rfl⟩
 obtain⟨e,g1,g2⟩:=g1;rw[g1,qb];dsimp only;rw[g2,if_neg (by simp)];have g3:xf (some c1) t [{x with Id:=r.Id}] r=some (some c1,5):=by rw[tl,zA (z.mono (by omega)) M E (by intro y W;simp at W;subst W;exact w) (by rw[e1.2.2];simp),qb,V,G,e1.2.1,j,show idB _ r=true by simp[idB]];rfl
 rw[g3,qb];dsimp only;rw[if_neg (by simp)];have Q:∃e,xa (some c1) [(⟨2,1,{x with Id:=r.Id}⟩:au)]=some (some c1,e)/\(e=0∨e=25)/\(e==0)=decide ({x with Id:=r.Id}=r):=by
  rw[sx,join_eq (z.mono (by omega)) (by simp) (by intro f g;simp at g;subst g;exact w),qb,if_pos (by rfl)];by_cases J:r={x with Id:=r.Id};·rw[if_neg (by simp[nU,AD,e1.2.2,fP,<-J])];refine⟨0,?_, .inl rfl,by rw[<-J];simp⟩;dsimp only[List.foldl_cons,List.foldl_nil];rw[Av z.reg (by rw[e1.2.2];exact⟨_,List.mem_singleton_self _,rfl⟩)]
  ·rw[if_pos (by simp[nU,AD,e1.2.2,fP,J])];exact⟨25,rfl, .inr rfl,by rw[decide_eq_false λh=>J h.symm];rfl⟩
 obtain⟨f,Q,j2,j3⟩:=Q;rw[Q,qb];dsimp only;generalize q:({c1 with reg:=[⟨1,4,{x with Id:=r.Id}⟩,⟨2,1,r⟩]}:CC)=c2;have j4:xa (some c1) [(⟨1,4,{x with Id:=r.Id}⟩:au)]=some (some c2,0):=by rw[sx,join_eq (z.mono (by omega)) (by simp) (by intro f g;simp at g;subst g;exact w),qb,if_pos (by rfl),if_neg (by simp[nU,AD,e1.2.2,e1.1,fP]),<-q];simp[e1.2.2,p6,fP]
 rw[j4,qb];dsimp only;have H:c2.reg=[⟨1,4,{x with Id:=r.Id}⟩,⟨2,1,r⟩]:=by subst q;rfl
 have R:CtS c2 2:=⟨by subst q;exact z.asc,by subst q;exact z.dl,by rw[H];simp[Asc,fP],λf g=>by rw[H]at g;simp at g;rcases g with rfl|rfl;exact w;exact E,by rw[H];simp⟩;unfold F1;rw[qb];have j5:xa (some c2) [(⟨1,4,{{x with Id:=r.Id}with Holder:=IntKind.i64.wrap (x.Holder+1)}⟩:au)]=some (some c2,25):=by rw[sx,join_eq (R.mono (by omega)) (by simp) (by intro f g;simp at g;subst g;exact w),qb,if_pos (by rfl),if_pos];have:=Ot x.Holder;simp[nU,AD,H,fP];exactλh=>this h.symm
 rw[j5,qb,KV w E,qb,qb];dsimp only;rw[show((f==0)==decide _)=true by rw[j3];simp];have T:PN (some c2)=some (some c2,c2.reg):=by rw[KI,Gl R.rts (by have:=R.len;omega)];rfl
 rw[if_pos (by rcases j2 with rfl|rfl<;>simp),T,qb,H];rfl
end Go.Proofs.YtlckpjpbladknaaGreat.Pl
