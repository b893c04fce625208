/- part 6 of the proof -/
import Derived.Test.YtlckpjpbladknaaGreatL5
set_option linter.unusedVariables false
set_option linter.unusedSimpArgs false
set_option linter.unusedSectionVars false
noncomputable section
namespace Go.Proofs.YtlckpjpbladknaaGreat.Pl
open Go.Gb
instance(l:List aC)(x y:Int):Decidable (cells l x y):=inferInstanceAs (Decidable (∃r∈l,rin r x y))
theorem Bo{a b:List aC}(h:a.length<=1000000):iQ a b=some (decide (a=b)):=L0 h
theorem Bk{a b:List aC}(h:a.length<=1000000):lj a b=some (decide (a=b)):=by unfold lj;rw[Bo h,qb]
def lim(out:List aC):List aC×Int:=if 200<out.length then([],6)else(out,0)
theorem Bd(out:List aC):jb out=some (lim out):=by unfold jb lim;grind
theorem AO{l:List aC}(m:l.length<=100000):(¬(∀r∈l,VR r)/\ar (jP l) (l.length+1) 0=some (.ret ([],1)))∨((∀r∈l,VR r)/\ar (jP l) (l.length+1) 0=some (.ex 0 (l.length:Int))):=by
 rcases C6 (body:=jP l) (λr=>¬VR r) _ (by
 intro i hi;unfold jP;rw[if_pos (by simpa using hi)];simp only[ai hi,qb,eR];by_cases e:VR l[i];.right;rw[if_neg (by simpa using e)];simp only[aj (show i<4611686018427387904 by omega),qb];exact⟨λh=>h e,trivial⟩
 .left;rw[if_pos (by simpa using e)];exact⟨e,rfl⟩) (by unfold jP;rw[if_neg (by simp)]) (fuel:=l.length+1) (by omega)with⟨i,hi,f,_,h⟩|⟨f,h⟩;.exact .inl ⟨λg=>f (g _ (aT hi)),h⟩
 .exact .inr ⟨λr j=>Classical.not_not.1 (f r j),h⟩
theorem BD{l:List aC}(e:l.length<=100000)(h:¬∀r∈l,VR r):ll l=some ([],1):=by
 unfold ll;rcases AO e with⟨_,h1⟩|⟨h1,_⟩;.rw[h1,qb]
 .exact absurd h1 h
theorem AF{l:List aC}(e:l.length<=100000)(h:∀r∈l,VR r)(m:400<l.length):ll l=some ([],6):=by
 unfold ll;rcases AO e with⟨h1,_⟩|⟨_,h1⟩;.exact absurd h h1
 grind
theorem Ap{l:List aC}(h:∀r∈l,VR r)(u:l.length<=400):∃out,wc (cells l) out/\ll l=some (lim out):=by
 unfold ll;rcases AO (l:=l) (by omega)with⟨h1,_⟩|⟨_,h1⟩;.exact absurd h h1
 .obtain⟨st,g,e⟩:=nF (ls:=[l]) (by simpa using h) (by simp;omega) (by simp);rw[show[l].flatten=l by simp]at e;have f:=e.len;obtain⟨out,j,m⟩:=BA e.gapless (by omega) (λs q=>by have:=(e.col s q).len;omega) e.val;refine⟨out,m,?_⟩;rw[h1,qb,if_neg (by simp;omega),g,qb,j,qb,Bd,qb]
def RR(a:List aC):Prop:=(∀r∈a,VR r)/\a.length<=200/\wc (cells a) a
theorem fc{a:List aC}(g:a.length<=100000):∃b,dO a=some b/\(b=true↔RR a):=by
 unfold dO;by_cases h:∀r∈a,VR r
 · rcases bw 400 a.length with m|m;.rw[AF g h m];exact⟨_,rfl,by simp,λh=>absurd h.2.1 (by omega)⟩
   · obtain⟨out,h1,j⟩:=Ap h m;rw[j];unfold lim;by_cases f:200<out.length;.rw[if_pos f];refine⟨_,rfl,by simp,λh=>?_⟩;have:=h.2.2.unique h1 (λ _ _=>ie);rw[this]at h;exact absurd h.2.1 (by omega)
     · rw[if_neg f];dsimp;rw[Bo (by omega)];simp;constructor;.intro e;rw[e]at h1 f;exact⟨h,by omega,h1⟩
       .intro q;exact h1.unique q.2.2 (λ _ _=>ie)
 .rw[BD g h];exact⟨_,rfl,by simp,λu=>absurd u.1 h⟩
theorem lO{a:List aC}(h:RR a):dO a=some true:=by obtain⟨b,h1,e⟩:=fc (a:=a) (by have:=h.2.1;omega);rw[h1,e.2 h]
theorem o0{a:List aC}(e:a.length<=100000)(h:¬RR a):dO a=some false:=by
 obtain⟨b,h1,f⟩:=fc e;rw[h1];cases b;.rfl
 .exact absurd (f.1 rfl) h
theorem Ht{keep:Bool->Bool->Option Bool}{Q:Bool->Bool->Bool}(hk:∀a b,keep a b=some (Q a b))(h0:Q false false=false){a b:List aC}{one w g:List aH}(H:tp a one)(I:tp b w)(u:tp (a++b) g)(hal:a.length<=200)(hbl:b.length<=200):∃st,ar (gb keep one w g) (g.length+1) (g,0)=some (.ex 0 (st,(g.length:Int)))/\jH st/\st.length<=800/\(∀s∈st,s.column.length<=1000)/\∀x y,cr false (cr [] (bI st) x) y=Q (decide (cells a x y)) (decide (cells b x y)):=by
 have l1:=H.len;have l2:=I.len;have l3:=u.len;simp only[br]at l3;obtain⟨st,h1,h2,E⟩:=Ge (k:=0) (l:=g) (body:=gb keep one w g) (λ (s:List aH)i=>(s,i)) (λi s=>s.length=g.length/\∀j(q:j<s.length)(F:j<g.length),s[j].x0=g[j].x0/\s[j].x1=g[j].x1/\(j<i->Canon false (aJ s[j].column)/\s[j].column.length<=1000/\∀y,cr false (aJ s[j].column) y=Q (cr false (cr [] (bI one) g[j].x0) y) (cr false (cr [] (bI w) g[j].x0) y))) (by
 intro i hi s⟨T,J⟩;obtain⟨ca,c1,c2,c3⟩:=Je H.gapless (by omega) g[i].x0;obtain⟨cb,d1,d2,d3⟩:=Je I.gapless (by omega) g[i].x0;have U:Canon false (aJ ca)/\ca.length<=200:=by
  rcases c3 with rfl|⟨s,m,rfl⟩;.exact⟨trivial,by simp⟩
  .exact⟨(H.col s m).canon,by have:=(H.col s m).len;omega⟩
 have V:Canon false (aJ cb)/\cb.length<=200:=by
  rcases d3 with rfl|⟨s,m,rfl⟩;.exact⟨trivial,by simp⟩
  .exact⟨(I.col s m).canon,by have:=(I.col s m).len;omega⟩
 obtain⟨c,m1,m2,m3,m4⟩:=H3 hk h0 U.1 V.1 (by omega) (by omega);refine⟨s.set i {s[i]'(by omega)with column:=c},?_,by simpa using T,λj q F=>?_⟩;·rw[<-(J i (by omega) hi).1]at c1 d1;unfold gb;dsimp only;rw[if_pos (by simpa using hi),ai (show i<s.length by omega),qb,c1,qb,d1,qb,m1,qb,qb,qb,aj (by omega),qb,nP]
 · rw[qQ]at q;obtain⟨e1,G,W⟩:=J j q F;simp only[List.getElem_set];by_cases M:i=j;·subst M;rw[if_pos rfl];refine⟨e1,G,λ _=>⟨m2,by dsimp only;omega,λy=>?_⟩⟩;rw[<-c2,<-d2];exact m3 y
   ·rw[if_neg M];exact⟨e1,G,λh=>W (by omega)⟩) (by intro s _;unfold gb;dsimp only;rw[if_neg (by simp)]) (s0:=g) ⟨rfl,λj q F=>⟨rfl,rfl,λh=>absurd h (fQ j)⟩⟩ (fuel:=g.length+1) (by omega);have hg:jH st:=by
  refine⟨λs m=>?_,λi hi=>?_,λs m=>?_⟩;·obtain⟨j,q,rfl⟩:=bz m;obtain⟨e1,G,_⟩:=E j q (by omega);rw[e1,G];exact u.gapless.pos _ (aT _)
  ·rw[(E i (by omega) (by omega)).2.1,(E (i+1) hi (by omega)).1];exact u.gapless.next i (by omega)
  ·obtain⟨j,q,rfl⟩:=bz m;exact((E j q (by omega)).2.2 (by omega)).1
 refine⟨st,h1,hg,by omega,λs m=>?_,λx y=>?_⟩;·obtain⟨j,q,rfl⟩:=bz m;exact((E j q (by omega)).2.2 (by omega)).2.1
 · by_cases m:∃s∈g,s.x0<=x/\x<s.x1
   · obtain⟨s,m,x1,x2⟩:=m;obtain⟨j,q,rfl⟩:=bz m;obtain⟨e1,G,W⟩:=E j (by omega) q;obtain⟨_,_,e4⟩:=W (by omega);rw[tC hg (show j<st.length by omega) (by omega) (by omega),e4];have O:∀(c:List aC)(so:List aH),tp c so->(∀r∈c,r∈a++b)->cr false (cr [] (bI so) g[j].x0) y=decide (cells c x y):=by intro c so hc hcm;rw[q9,hc.val,decide_eq_true_eq];refine exists_congr λr=>and_congr_right λz=>?_;have:=u.same _ m x x1 x2 r (hcm r z);unfold rin;rw[this]
     rw[O a one H (λr z=>rG _ z),O b w I (λr z=>xR _ z)]
   · have P:∀c:List aC,(∀r∈c,r∈a++b)->decide (cells c x y)=false:=by intro c hc;rw[decide_eq_false_iff_not];rintro⟨r,z,⟨r1,r2⟩,_⟩;exact m (u.cover r (hc r z) x r1 r2)
     rw[P a (λr z=>rG _ z),P b (λr z=>xR _ z),h0];rcases po (e:=[]) (l:=bI st) (x:=x)with R|⟨f,t,R,h8⟩;.rw[R];rfl
     ·simp only[bI,aS,Prod.mk.injEq]at R;obtain⟨s,hs',q1,q2,_⟩:=R;obtain⟨j,q,rfl⟩:=bz hs';obtain⟨e1,G,_⟩:=E j q (by omega);exact absurd ⟨_,aT (show j<g.length by omega),by omega,by omega⟩ m
theorem FG{keep:Bool->Bool->Option Bool}{a b:List aC}(e:a.length<=100000)(f:b.length<=100000)(h:¬(RR a/\RR b)):gv a b keep=some ([],1):=by
 unfold gv;by_cases g:RR a;.have j:¬RR b:=λj=>h ⟨g,j⟩;rw[lO g,qb,if_neg (by simp),o0 f j,qb,qb,if_pos (by simp)]
 .rw[o0 e g,qb,if_pos (by simp),qb,if_pos (by simp)]
theorem Dw{keep:Bool->Bool->Option Bool}{kb:Bool->Bool->Bool}(hk:∀a b,keep a b=some (kb a b))(q:kb false false=false){a b:List aC}(h:RR a)(e:RR b):∃out,wc (λx y=>kb (decide (cells a x y)) (decide (cells b x y))=true) out/\gv a b keep=some (lim out):=by have u:=h.2.1;have w:=e.2.1;obtain⟨one,o1,f⟩:=nF (ls:=[a]) (by simpa using h.1) (by simp;omega) (by simp);obtain⟨z,t1,t2⟩:=nF (ls:=[b]) (by simpa using e.1) (by simp;omega) (by simp);obtain⟨E,F,j⟩:=nF (ls:=[a,b]) (by intro r m;simp[rz]at m;exact m.elim (h.1 r) (e.1 r)) (by simp;omega) (by simp);rw[show[a].flatten=a by simp]at f;rw[show[b].flatten=b by simp]at t2;rw[show[a,b].flatten=a++b by simp]at j;obtain⟨st,G,H,O,s4,I⟩:=Ht hk q f t2 j u w;obtain⟨out,J,M⟩:=BA H (by omega) s4 (λx y=>by rw[I]);refine⟨out,M,?_⟩;unfold gv;rw[lO h,qb,if_neg (by simp),lO e,qb,qb,o1,qb,t1,qb,F,qb,G];dsimp;rw[J,qb,Bd,qb]
def kh(s:List cf):iH (List aC):=s.map λx=>(x.Z0,x.Z1,x.Area)
theorem Lp(a:List cf):(kh a).length=a.length:=by simp[kh]
def Ma(s:List cf)(z:Int):List aC:=cr [] (kh s) z
def vX(s:List cf)(x y z:Int):Prop:=cells (Ma s z) x y
instance(s:List cf)(x y z:Int):Decidable (vX s x y z):=inferInstanceAs (Decidable (cells _ _ _))
structure SS(s:List cf):Prop where len:s.length<=80canon:Canon [] (kh s)ok:∀b∈s,0<=b.Z0/\b.Z1<=4096/\RR b.Area
theorem GB{s:List cf}{b:cf}(h:b∈s):(b.Z0,b.Z1,b.Area)∈kh s:=aS.2 ⟨b,h,rfl⟩
theorem G0{s:List cf}(h:Canon [] (kh s)){b:cf}(e:b∈s):b.Z0<b.Z1/\b.Area≠[]:=xD h (GB e)
theorem NL{s:List cf}(h:Canon [] (kh s)){b:cf}(e:b∈s){z:Int}(h1:b.Z0<=z)(f:z<b.Z1):Ma s z=b.Area:=s8 h (GB e) h1 f
theorem yE{s:List cf}:Canon [] (kh s)↔(∀i (h:i<s.length),s[i].Z0<s[i].Z1/\s[i].Area≠[])/\∀i(h:i+1<s.length),s[i].Z1<s[i+1].Z0∨(s[i].Z1=s[i+1].Z0/\s[i].Area≠s[i+1].Area):=by rw[Ct];simp[kh]
theorem rm{s:List cf}(G:∀b∈s,b.Area.length<=100000):∃b,kX s=some b/\(b=true↔SS s):=by
 unfold kX;by_cases P:80<s.length;·rw[if_pos (by simp;omega)];exact⟨_,rfl,by simp,λh=>absurd h.len (by omega)⟩
 .rw[if_neg (by simp;omega)];have q:∀i,i<s.length->(∀j,j<i->¬¬((∃h:j<s.length,0<=s[j].Z0/\s[j].Z0<s[j].Z1/\s[j].Z1<=4096/\s[j].Area≠[]/\RR s[j].Area)/\∀f:0<j,∀h:j<s.length,(s[j-1]'(by omega)).Z1<s[j].Z0∨((s[j-1]'(by omega)).Z1=s[j].Z0/\(s[j-1]'(by omega)).Area≠s[j].Area)))->(¬((∃h:i<s.length,0<=s[i].Z0/\s[i].Z0<s[i].Z1/\s[i].Z1<=4096/\s[i].Area≠[]/\RR s[i].Area)/\∀f:0<i,∀h:i<s.length,(s[i-1]'(by omega)).Z1<s[i].Z0∨((s[i-1]'(by omega)).Z1=s[i].Z0/\(s[i-1]'(by omega)).Area≠s[i].Area))/\gJ s (i:Int)=some (.ret false))∨(¬¬((∃h:i<s.length,0<=s[i].Z0/\s[i].Z0<s[i].Z1/\s[i].Z1<=4096/\s[i].Area≠[]/\RR s[i].Area)/\∀f:0<i,∀h:i<s.length,(s[i-1]'(by omega)).Z1<s[i].Z0∨((s[i-1]'(by omega)).Z1=s[i].Z0/\(s[i-1]'(by omega)).Area≠s[i].Area))/\gJ s (i:Int)=some (.go ((i+1:Nat):Int))):=by
   intro i hi _;obtain⟨J,z,y⟩:=fc (a:=s[i].Area) (G _ (aT hi));unfold gJ;rw[if_pos (by simpa using hi),ai hi,qb];by_cases h1:0<=s[i].Z0/\s[i].Z0<s[i].Z1/\s[i].Z1<=4096/\s[i].Area≠[]
   · have M:0<s[i].Area.length:=List.length_pos_iff.2 h1.2.2.2;rw[if_neg (by simp only[bT,decide_eq_true_eq,beq_iff_eq];omega),z,qb,qb];cases J;·left;rw[if_pos (by simp),qb];refine⟨λh=>?_,rfl⟩;obtain⟨⟨_,_,_,_,_,h⟩,_⟩:=h;exact absurd (y.2 h) (by simp)
     · have R:=y.1 rfl;rw[if_neg (by simp)];rcases qK i with rfl|f;·right;rw[if_pos (by simp),qb];dsimp only;rw[aj (by omega),qb];exact⟨λh=>h ⟨⟨hi,h1.1,h1.2.1,h1.2.2.1,h1.2.2.2,R⟩,λh=>absurd h (fK _)⟩,rfl⟩
       · have u:lj (s[i-1]'(by omega)).Area s[i].Area=some _:=Bk (by have:=G _ (aT (show i-1<s.length by omega));omega);rw[if_neg (by simp;omega),pq f (by omega),qb,ai (show i-1<s.length by omega),qb];have w:(if decide (s[i].Z0<(s[i-1]'(by omega)).Z1)=true then some true else(if((s[i-1]'(by omega)).Z1==s[i].Z0)=true then(lj (s[i-1]'(by omega)).Area s[i].Area).bind λx=>some x else some false).bind λx=>some x)=some (decide (¬((s[i-1]'(by omega)).Z1<s[i].Z0∨((s[i-1]'(by omega)).Z1=s[i].Z0/\(s[i-1]'(by omega)).Area≠s[i].Area)))):=by
          by_cases c1:s[i].Z0<(s[i-1]'(by omega)).Z1;.rw[if_pos (by simpa using c1)];congr 1;simp;omega
          · rw[if_neg (by simpa using c1),u];by_cases c2:(s[i-1]'(by omega)).Z1=s[i].Z0;.rw[if_pos (by simpa using c2)];simp[c2]
            .rw[if_neg (by simpa using c2)];simp;omega
         rw[w,qb];by_cases c:(s[i-1]'(by omega)).Z1<s[i].Z0∨((s[i-1]'(by omega)).Z1=s[i].Z0/\(s[i-1]'(by omega)).Area≠s[i].Area);·right;rw[if_neg (by simp only[decide_eq_true_eq,Classical.not_not];exact c),qb];dsimp only;rw[aj (by omega),qb];exact⟨λh=>h ⟨⟨hi,h1.1,h1.2.1,h1.2.2.1,h1.2.2.2,R⟩,λ _ _=>c⟩,rfl⟩
         ·left;rw[if_pos (decide_eq_true c),qb];exact⟨λh=>c (h.2 f hi),rfl⟩
   ·left;rw[if_pos (by
  simp only[bT,decide_eq_true_eq,beq_iff_eq];rcases ki s[i].Z0 0 with g|g;.exact .inl (.inl (.inl g))
  · rcases ki s[i].Z0 s[i].Z1 with g2|g2
    · rcases ki 4096 s[i].Z1 with g3|g3;.exact .inl (.inr g3)
      ·right;have:s[i].Area=[]:=Classical.not_not.1 λh=>h1 ⟨g,g2,g3,h⟩;rw[this];rfl
    .exact .inl (.inl (.inr g2))),qb,if_pos rfl,qb];refine⟨λh=>h1 ?_,rfl⟩;obtain⟨⟨_,a,b,c,d,_⟩,_⟩:=h;exact⟨a,b,c,d⟩
  rcases HY (body:=gJ s) (k:=0) s.length _ _ q (by unfold gJ;rw[if_neg (by simp)]) (fuel:=s.length+1) (by omega)with⟨i,hi,E,_,h⟩|⟨E,h⟩
  · rw[h,qb];refine⟨_,rfl,by simp,λF=>absurd ⟨⟨hi,?_⟩,λf _=>?_⟩ E⟩;·have h1:=F.ok _ (aT hi);have I:=G0 F.canon (aT hi);exact⟨h1.1,I.1,h1.2.1,I.2,h1.2.2⟩
    · have:=(yE.1 F.canon).2 (i-1) (by omega);have e:i-1+1=i:=by omega
      simp only[e]at this;exact this
  · rw[h,qb];have m:∀i(hi:i<s.length),(0<=s[i].Z0/\s[i].Z0<s[i].Z1/\s[i].Z1<=4096/\s[i].Area≠[]/\RR s[i].Area)/\∀f:0<i,(s[i-1]'(by omega)).Z1<s[i].Z0∨((s[i-1]'(by omega)).Z1=s[i].Z0/\(s[i-1]'(by omega)).Area≠s[i].Area):=by intro i hi;have:=Classical.not_not.1 (E i hi);exact⟨this.1.2,λf=>this.2 f hi⟩
    refine⟨_,rfl,λ _=>⟨by omega,yE.2 ⟨λi hi=>⟨(m i hi).1.2.1,(m i hi).1.2.2.2.1⟩,λi hi=>(m (i+1) hi).2 (by omega)⟩,λb O=>?_⟩,λ _=>rfl⟩;obtain⟨i,hi,rfl⟩:=bz O;have:=(m i hi).1;exact⟨this.1,this.2.2.1,this.2.2.2.2⟩
theorem yp{s:List cf}(h:SS s):kX s=some true:=by obtain⟨b,h1,e⟩:=rm (λb f=>by have:=(h.ok b f).2.2.2.1;omega);rw[h1,e.2 h]
theorem wY{s:List cf}(e:∀b∈s,b.Area.length<=100000)(h:¬SS s):kX s=some false:=by
 have⟨b,h1,f⟩:=rm e;rw[h1];cases b;.rfl
 .exact absurd (f.1 rfl) h
def VB(b:Box):Prop:=VR b.Base/\0<=b.Z0/\b.Z0<b.Z1/\b.Z1<=4096
instance(b:Box):Decidable (VB b):=inferInstanceAs (Decidable (_/\_))
def H0(l:List Box)(x y z:Int):Prop:=∃b∈l,rin b.Base x y/\b.Z0<=z/\z<b.Z1
instance(l:List Box)(x y z:Int):Decidable (H0 l x y z):=inferInstanceAs (Decidable (∃b∈l,_))
def su(s:List cf):List Box:=s.flatMap λx=>x.Area.map λr=>⟨r,x.Z0,x.Z1⟩
theorem NO{x:cf}(h:x.Area.length<=1000000){o:List Box}(e:o.length<=100000000):ar (lT x) (x.Area.length+1) (o,0)=some (.ex 2 (o++x.Area.map (λr=>⟨r,x.Z0,x.Z1⟩),(x.Area.length:Int))):=by
 refine(dR _ (λs r=>s++[⟨r,x.Z0,x.Z1⟩]) (λi s=>s.length<=100000000+i) (by
 intro i hi s I;constructor;.unfold lT;rw[if_pos (by simpa using hi),ai hi,qb,bP (by simp;omega),qb,aj (by omega),qb]
 .simp;omega) (by intro s _;unfold lT;rw[if_neg (by simp)]) (by omega) (by omega)).1.trans ?_;rw[foldl_flatMap _,List.map_eq_flatMap]
theorem yj{s:List cf}(h:SS s):kY s=some (su s):=by
 unfold kY;rw[yp h];have e:=h.len;obtain⟨h1,g⟩:=dR (l:=s) (body:=mf s) (λ (s:List Box)i=>(s,i)) (λo x=>o++x.Area.map λr=>⟨r,x.Z0,x.Z1⟩) (λi o=>o.length<=200*i) (by
 intro i hi o I;have j:=(h.ok _ (aT hi)).2.2.2.1;constructor;.unfold mf;dsimp only;rw[if_pos (by simpa using hi),ai hi,qb,NO (by omega) (by omega),qb];dsimp only;rw[aj (by omega),qb]
 .simp;omega) (by intro o _;unfold mf;rw[if_neg (by simp)]) (s0:=[]) (by simp) (fuel:=s.length+1) (by omega);rw[h1,foldl_flatMap _];rfl
theorem zk{s:List cf}(e:∀b∈s,b.Area.length<=100000)(h:¬SS s):kY s=some []:=by unfold kY;rw[wY e h,qb,if_pos (by simp)]
theorem zL{s:List cf}(h:SS s):(su s).length<=16000:=by
 have q:=h.len;have e:∀l:List cf,(∀b∈l,b.Area.length<=200)->(su l).length<=200*l.length:=by intro l;induction l with|nil=>intro _;simp[su];|cons a l m=>intro f;have h1:=m λb g=>f b (by simp[g]);unfold su at h1⊢;grind
 have:=e s λb f=>(h.ok b f).2.2.2.1;omega
theorem HQ{s:List cf}(h:SS s):∀b∈su s,VB b:=by intro b e;obtain⟨x,f,e⟩:=oS.1 e;obtain⟨r,g,rfl⟩:=aS.1 e;have h1:=h.ok x f;have j:=G0 h.canon f;exact⟨h1.2.2.1 r g,h1.1,j.1,h1.2.1⟩
theorem tE{s:List cf}(h:Canon [] (kh s))(x y z:Int):H0 (su s) x y z↔vX s x y z:=by
 constructor;.rintro⟨b,f,h1,j⟩;obtain⟨q,E,f⟩:=oS.1 f;obtain⟨r,m,rfl⟩:=aS.1 f;unfold vX;rw[NL h E j.1 j.2];exact⟨r,m,h1⟩
 · intro g;unfold vX at g;rcases po (e:=[])with h1|⟨p,q,h1,j⟩;.unfold Ma at g;rw[h1]at g;simp[cells]at g
   · obtain⟨b,f,w⟩:=aS.1 h1;simp[Prod.mk.injEq]at w;obtain⟨r,m,u⟩:=g;refine⟨_,oS.2 ⟨b,f,aS.2 ⟨r,?_,rfl⟩⟩,u,by dsimp;omega⟩;have:Ma s z=b.Area:=by unfold Ma;rw[<-w.2.2]
     rw[<-this];exact m
set_option maxRecDepth 100000
def sg(x y:Int):Int:=if x<y then-1 else if y<x then 1 else 0
theorem cmp_eq(x y:Int):cu x y=some (sg x y):=by unfold cu cmp_isNaN_int sg;grind
theorem HZ{x y M:Int}(e:-M<=x)(h1:x<=M)(h:0<=y)(f:y<=M):-(M*M)<=x*y/\x*y<=M*M:=by have g:=nv e h;have a2:=nv h1 h;have a3:M*y<=M*M:=Int.mul_le_mul_of_nonneg_left f (by omega);grind
theorem MH{n1 d1 n2 d2 p q:Int}(hd1:0<d1)(e:0<d2)(j:0<q)(h:n1*d2<n2*d1)(g:n2*q<=p*d2):n1*q<p*d1:=by
 rcases ki (n1*q) (p*d1)with f|f;.exact f
 .have e1:=nv f (nz e);have m:=oO h j;have u:=nv g (nz hd1);grind
theorem Ay{n1 d1 n2 d2 p q:Int}(hd1:0<d1)(e:0<d2)(j:0<q)(h:n2*d1<n1*d2)(g:p*d2<=n2*q):p*d1<n1*q:=by
 rcases ki (p*d1) (n1*q)with f|f;.exact f
 .have e1:=nv f (nz e);have m:=oO h j;have u:=nv g (nz hd1);grind
theorem Et{n1 d1 n2 d2 p q:Int}(hd1:0<d1)(e:0<d2)(h:n1*d2=n2*d1)(g:n2*q<=p*d2):n1*q<=p*d1:=by
 rcases ki (p*d1) (n1*q)with f|f;.have e1:=oO f e;have j:=nv g (nz hd1);grind
 .exact f
theorem C4{n1 d1 n2 d2 p q:Int}(hd1:0<d1)(e:0<d2)(h:n1*d2=n2*d1)(g:p*d2<=n2*q):p*d1<=n1*q:=by
 rcases ki (n1*q) (p*d1)with f|f;.have e1:=oO f e;have j:=nv g (nz hd1);grind
 .exact f
def loR(n d:Int)(o:Bool)(p q:Int):Prop:=n*q<=p*d/\(o=true->n*q<p*d)
def hiR(n d:Int)(o:Bool)(p q:Int):Prop:=p*d<=n*q/\(o=true->p*d<n*q)
def nK(n d:Int):Prop:=0<d/\d<=4194304/\-4194304<=n/\n<=4194304
section
variable{n1 d1 n2 d2 p q:Int}{o1 o2:Bool}
theorem nK.mul(h:nK n1 d1)(g:nK n2 d2):Ej n1 d2=some (n1*d2):=by have:=HZ h.2.2.1 h.2.2.2 (nz g.1) g.2.1;exact ru (by unfold inI;omega)
theorem Qd(h:nK n1 d1)(g:nK n2 d2)(e:0<q)(f:n1*d2<n2*d1)(x:loR n2 d2 o2 p q):loR n1 d1 o1 p q:=by have:=MH h.1 g.1 e f x.1;exact⟨by omega,λ _=>this⟩
theorem Qm(h:nK n1 d1)(g:nK n2 d2)(e:n1*d2=n2*d1):(n1*q<=p*d1↔n2*q<=p*d2)/\(n1*q<p*d1↔n2*q<p*d2):=by have a:=Et (p:=p) (q:=q) h.1 g.1 e;have b:=Et (p:=p) (q:=q) g.1 h.1 e.symm;have c:=C4 (p:=p) (q:=q) h.1 g.1 e;have d:=C4 (p:=p) (q:=q) g.1 h.1 e.symm;grind
theorem SD(h:nK n1 d1)(g:nK n2 d2)(e:n1*d2=n2*d1):loR n1 d1 (o1||o2) p q↔loR n1 d1 o1 p q/\loR n2 d2 o2 p q:=by obtain⟨a,b⟩:=Qm (p:=p) (q:=q) h g e;unfold loR;grind
theorem Qf(h:nK n1 d1)(g:nK n2 d2)(e:0<q)(f:n2*d1<n1*d2)(x:hiR n2 d2 o2 p q):hiR n1 d1 o1 p q:=by have:=Ay h.1 g.1 e f x.1;exact⟨by omega,λ _=>this⟩
theorem PY(h:nK n1 d1)(g:nK n2 d2)(e:n1*d2=n2*d1):(p*d1<=n1*q↔p*d2<=n2*q)/\(p*d1<n1*q↔p*d2<n2*q):=by obtain⟨a,b⟩:=Qm (p:=p) (q:=q) h g e;grind
theorem T3(h:nK n1 d1)(g:nK n2 d2)(e:n1*d2=n2*d1):hiR n1 d1 (o1||o2) p q↔hiR n1 d1 o1 p q/\hiR n2 d2 o2 p q:=by obtain⟨a,b⟩:=PY (p:=p) (q:=q) h g e;unfold hiR;grind
theorem LH(h:nK n1 d1)(g:nK n2 d2)(m:0<q)(f:loR n1 d1 o1 p q)(j:hiR n2 d2 o2 p q):n1*d2<=n2*d1/\((o1=true∨o2=true)->n1*d2<n2*d1):=by
 constructor
 · rcases ki _ (n1*d2)with x|x;.have:=Ay h.1 g.1 m x j.1;have:=f.1;omega
   .exact x
 · intro e;rcases uR (n1*d2) (n2*d1)with x|x|x;.exact x
   · obtain⟨a,b⟩:=PY h g x;rcases e with e|e;.have:=f.2 e;have:=a.2 j.1;omega
     .have:=b.2 (j.2 e);have:=f.1;omega
   .have:=Ay h.1 g.1 m x j.1;have:=f.1;omega
theorem Nc(h:nK n1 d1)(g:nK n2 d2)(f:n1*d2<n2*d1∨(n1*d2=n2*d1/\o1=false/\o2=false)):∃p q,0<q/\loR n1 d1 o1 p q/\hiR n2 d2 o2 p q:=by
 rcases f with f|⟨f,rfl,rfl⟩
 · refine⟨n1*d2+n2*d1,2*(d1*d2),by have:=Int.mul_pos h.1 g.1;omega,?_,?_⟩
   · have e:=oO f h.1;have:n1*(2*(d1*d2))<(n1*d2+n2*d1)*d1:=by grind
     exact⟨by omega,λ _=>this⟩
   · have e:=oO f g.1;have:(n1*d2+n2*d1)*d2<n2*(2*(d1*d2)):=by grind
     exact⟨by omega,λ _=>this⟩
 .exact⟨n1,d1,h.1,⟨gd _,by simp⟩,⟨by omega,by simp⟩⟩
theorem NI(h:nK n1 d1):∃p q,0<q/\loR n1 d1 o1 p q:=by
 refine⟨n1+d1,d1,h.1,?_⟩;have e:=Int.mul_pos h.1 h.1;have:n1*d1<(n1+d1)*d1:=by grind
 exact⟨by omega,λ _=>this⟩
theorem QC{e y f:Int}(h:0<y):loR (f-e) y false p q↔f*q<=e*q+y*p:=by unfold loR;grind
theorem QI{e y f:Int}(h:0<y):hiR (f-e) y true p q↔e*q+y*p<f*q:=by unfold hiR;grind
theorem Rp{e y f:Int}:loR (e-f) (0-y) true p q↔e*q+y*p<f*q:=by unfold loR;grind
theorem QS{e y f:Int}:hiR (e-f) (0-y) false p q↔f*q<=e*q+y*p:=by unfold hiR;grind
end
theorem Dt{a b:Int}:0<sg a b↔b<a:=by unfold sg;split<;>omega
theorem LG{a b:Int}:sg a b<0↔a<b:=by unfold sg;split<;>omega
theorem uC{a b:Int}:sg a b=0↔a=b:=by unfold sg;split<;>omega
def bK(x:cc):Prop:=nK x.n x.d
def IvK(i:bn):Prop:=bK i.lo/\(i.top=true->bK i.hi)
def Mem(i:bn)(p q:Int):Prop:=i.none_=false/\loR i.lo.n i.lo.d i.lo.open_ p q/\(i.top=true->hiR i.hi.n i.hi.d i.hi.open_ p q)
theorem vA{x y:cc}(h:bK x)(e:bK y):er x y=some (sg (x.n*y.d) (y.n*x.d)):=by unfold er;rw[nK.mul h e,qb,nK.mul e h,qb,cmp_eq,qb]
theorem Gi{i:bn}{b:cc}(hi:IvK i)(e:bK b):∃j,eY i b=some j/\IvK j/\j.top=i.top/\∀p q,0<q->(Mem j p q↔Mem i p q/\loR b.n b.d b.open_ p q):=by
 unfold eY;rw[vA e hi.1,qb];by_cases c1:i.lo.n*b.d<b.n*i.lo.d
 · rw[if_pos (by rw[decide_eq_true_iff];exact Dt.2 c1)];refine⟨_,rfl,⟨e,hi.2⟩,rfl,λp q f=>?_⟩;constructor;.rintro⟨h1,g,m⟩;exact⟨⟨h1,Qd hi.1 e f c1 g,m⟩,g⟩
   .rintro⟨⟨h1,_,m⟩,g⟩;exact⟨h1,g,m⟩
 · rw[if_neg (by rw[decide_eq_true_iff];exactλh=>c1 (Dt.1 h))];by_cases c2:b.n*i.lo.d=i.lo.n*b.d;.rw[if_pos (by rw[beq_iff_eq];exact uC.2 c2)];refine⟨_,rfl,⟨hi.1,hi.2⟩,rfl,λp q f=>?_⟩;unfold Mem;rw[SD hi.1 e c2.symm];grind
   .rw[if_neg (by rw[beq_iff_eq];exactλh=>c2 (uC.1 h))];refine⟨_,rfl,hi,rfl,λp q f=>⟨λh=>⟨h,?_⟩,λh=>h.1⟩⟩;exact Qd e hi.1 f (by omega) h.2.1
theorem Gx{i:bn}{b:cc}(hi:IvK i)(e:bK b):∃j,eT i b=some j/\IvK j/\j.top=true/\∀p q,0<q->(Mem j p q↔Mem i p q/\hiR b.n b.d b.open_ p q):=by
 unfold eT;by_cases f:i.top=true
 · have g:=hi.2 f;rw[if_pos f,vA e g,qb,qb];by_cases c1:b.n*i.hi.d<i.hi.n*b.d
   · rw[if_pos (by rw[decide_eq_true_iff];exact LG.2 c1)];refine⟨_,rfl,⟨hi.1,λ _=>e⟩,rfl,λp q m=>?_⟩;unfold Mem;constructor;.rintro⟨h1,w,u⟩;exact⟨⟨h1,w,λ _=>Qf g e m (by omega) (u rfl)⟩,u rfl⟩
     grind
   · rw[if_neg (by rw[decide_eq_true_iff];exactλh=>c1 (LG.1 h))];by_cases c2:b.n*i.hi.d=i.hi.n*b.d;.rw[if_pos (by rw[beq_iff_eq];exact uC.2 c2)];refine⟨_,rfl,⟨hi.1,λ _=>g⟩,f,λp q m=>?_⟩;unfold Mem;rw[T3 g e c2.symm];grind
     .rw[if_neg (by rw[beq_iff_eq];exactλh=>c2 (uC.1 h))];refine⟨_,rfl,hi,f,λp q m=>⟨λh=>⟨h,?_⟩,λh=>h.1⟩⟩;exact Qf e g m (by omega) (h.2.2 f)
 .rw[if_neg f];refine⟨_,rfl,⟨hi.1,λ _=>e⟩,rfl,λp q m=>?_⟩;unfold Mem;grind
def cK(x:Int):Prop:=-2097152<=x/\x<=2097152
theorem xK{i:bn}{e y f g:Int}(hi:IvK i)(h1:cK e)(E:cK y)(F:cK f)(G:cK g):∃j,dF i e y f g=some j/\IvK j/\(i.top=true->j.top=true)/\∀p q,0<q->(Mem j p q↔Mem i p q/\f*q<=e*q+y*p/\e*q+y*p<g*q):=by
 unfold cK at h1 E F G;unfold dF;by_cases c1:0<y;·rw[if_pos (by simpa using c1),da (by unfold inI;omega),qb];obtain⟨j,e1,u,H,w⟩:=Gi (b:=⟨f-e,y,false⟩) hi (by unfold bK nK;dsimp only;omega);rw[e1,qb,da (by unfold inI;omega),qb];obtain⟨x,g1,g2,g3,g4⟩:=Gx (b:=⟨g-e,y,true⟩) u (by unfold bK nK;dsimp only;omega);rw[g1,qb,qb];refine⟨x,rfl,g2,λ _=>g3,λp q m=>?_⟩;rw[g4 p q m,w p q m];dsimp only;rw[QC c1,QI c1,and_assoc]
 · rw[if_neg (by simpa using c1)];by_cases c2:y<0;·rw[if_pos (by simpa using c2),da (by unfold inI;omega),qb,da (by unfold inI;omega),qb];obtain⟨j,e1,u,H,w⟩:=Gi (b:=⟨e-g,0-y,true⟩) hi (by unfold bK nK;dsimp only;omega);rw[e1,qb,da (by unfold inI;omega),qb,qb];obtain⟨x,g1,g2,g3,g4⟩:=Gx (b:=⟨e-f,0-y,false⟩) u (by unfold bK nK;dsimp only;omega);rw[g1,qb,qb,qb];refine⟨x,rfl,g2,λ _=>g3,λp q m=>?_⟩;rw[g4 p q m,w p q m];dsimp only;rw[Rp,QS,and_assoc];exact and_congr_right λ _=>and_comm
   · have I:y=0:=by omega
     subst I;rw[if_neg (by simp)];by_cases z:e<f∨g<=e
     · rw[if_pos (by simpa using z),qb,qb,qb];refine⟨_,rfl,hi,λh=>h,λp q m=>?_⟩;unfold Mem;dsimp only;constructor;.rintro⟨h,_⟩;simp at h
       ·rintro⟨_,g1,g2⟩;rw[Int.zero_mul,Int.add_zero]at g1 g2;have J:=Int.le_of_mul_le_mul_right g1 m;have a2:=Int.lt_of_mul_lt_mul_right g2 (nz m);omega
     ·rw[if_neg (by simpa using z),qb,qb,qb];simp_all
theorem empty_eq{i:bn}(hi:IvK i):∃e,fY i=some e/\(e=false↔∃p q,0<q/\Mem i p q):=by
  unfold fY;by_cases g:i.none_=true;.rw[if_pos (by simp[g])];exact⟨_,rfl,by simp[g],λ⟨p,q,_,h⟩=>by have:=h.1;rw[g]at this;simp at this⟩
  · by_cases j:i.top=true
    · have u:=hi.2 j;rw[if_neg (by simp[g,j]),vA hi.1 u];refine⟨_,rfl,?_⟩;have f:i.none_=false:=by simpa using g
      constructor;·intro h;simp only[rn,decide_eq_false_iff_not,uq,beq_eq_false_iff_ne]at h;rw[Dt]at h;obtain⟨p,q,m,h1,w⟩:=Nc hi.1 u (by
 rcases uR _ (i.hi.n*i.lo.d)with x|x|x;.exact .inl x
 · right;rcases h.2 with y|y;.exact absurd (uC.2 x) y
   .exact⟨x,y⟩
 .exact absurd x h.1);exact⟨p,q,m,f,h1,λ _=>w⟩
      · rintro⟨p,q,m,_,h1,w⟩;have⟨g1,g2⟩:=LH hi.1 u m h1 (w j);simp only[rn,decide_eq_false_iff_not,uq,beq_eq_false_iff_ne];rw[Dt];refine⟨by omega,?_⟩;by_cases z:i.lo.open_=true∨i.hi.open_=true;.left;intro E;have:=g2 z;rw[uC]at E;omega
        .right;simpa using z
    · rw[if_pos (by simp[j])];have f:i.none_=false:=by simpa using g
      refine⟨_,rfl,λ _=>?_,λ _=>f⟩;obtain⟨p,q,m,h⟩:=NI hi.1;exact⟨p,q,m,f,h,λh=>absurd h j⟩
def AG(x:Box)(p v:bd)(a b:Int):Prop:=(x.Base.X0*b<=p.X*b+v.X*a/\p.X*b+v.X*a<x.Base.X1*b)/\(x.Base.Y0*b<=p.Y*b+v.Y*a/\p.Y*b+v.Y*a<x.Base.Y1*b)/\(x.Z0*b<=p.Z*b+v.Z*a/\p.Z*b+v.Z*a<x.Z1*b)
def pK(p:bd):Prop:=cK p.X/\cK p.Y/\cK p.Z
theorem VW{x:Box}(h:VB x):cK x.Base.X0/\cK x.Base.X1/\cK x.Base.Y0/\cK x.Base.Y1/\cK x.Z0/\cK x.Z1:=by unfold VB VR at h;unfold cK;omega
theorem yF{p v:bd}{t:bn}{l:List Box}(g:pK p)(j:pK v)(w:IvK t)(y:∀x∈l,VB x)(Q:l.length<=1000000):∃r,(ar (iW p v t l) (l.length+1) 0).bind (λf=>match f with| .go _=>none| .ex _ _=>some false| .ret r=>some r)=some r/\(r=true↔∃x∈l,∃a b,0<b/\Mem t a b/\AG x p v a b):=by
 rcases C6 (body:=iW p v t l) (λx=>∃a b,0<b/\Mem t a b/\AG x p v a b) _ (by
 intro i hi;have⟨z,E,k3,F,G,k6⟩:=VW (y _ (aT hi));have⟨R,H,a2,_,a4⟩:=xK w g.1 j.1 z E;have⟨T,I,J,_,M⟩:=xK a2 g.2.1 j.2.1 k3 F;have⟨U,c1,c2,_,O⟩:=xK J g.2.2 j.2.2 G k6;have⟨e,e1,P⟩:=empty_eq c2;have q:e=false↔∃a b,0<b/\Mem t a b/\AG l[i] p v a b:=by rw[P];refine exists_congr λa=>exists_congr λb=>and_congr_right λm=>?_;rw[O a b m,M a b m,a4 a b m];unfold AG;simp[and_assoc]
 unfold iW;rw[if_pos (by simpa using hi),ai hi,qb,H,qb,I,qb,c1,qb,e1];cases e;.left;exact⟨q.1 rfl,rfl⟩
 .right;rw[aj (by omega)];exact⟨λh=>by simpa using q.2 h,rfl⟩) (by unfold iW;rw[if_neg (by simp)]) (fuel:=l.length+1) (by omega)with⟨i,hi,g,_,h⟩|⟨g,h⟩;.rw[h,qb];grind
 simp_all
def Hit(S:Int->Int->Int->Prop)(p v:bd)(a b:Int):Prop:=S ((p.X*b+v.X*a)/b) ((p.Y*b+v.Y*a)/b) ((p.Z*b+v.Z*a)/b)
theorem Kp{x:Box}{p v:bd}{a b:Int}(h:0<b):AG x p v a b↔rin x.Base ((p.X*b+v.X*a)/b) ((p.Y*b+v.Y*a)/b)/\x.Z0<=(p.Z*b+v.Z*a)/b/\(p.Z*b+v.Z*a)/b<x.Z1:=by unfold AG rin;rw[xO h,xO h,xO h,yo h,yo h,yo h];simp[and_assoc]
theorem Cr{l:List Box}{p v:bd}{a b:Int}(h:0<b):Hit (H0 l) p v a b↔∃x∈l,AG x p v a b:=exists_congr λx=>and_congr_right λ_=>(Kp h).symm
theorem Gt{s:List cf}{p v:bd}{t:bn}(g:pK p)(j:pK v)(q:IvK t)(w:∀b∈s,b.Area.length<=100000):∃r,nT s p v t=some r/\(r=true↔SS s/\∃a b,0<b/\Mem t a b/\Hit (vX s) p v a b):=by
 unfold nT;by_cases h:SS s
 · rw[yj h];have⟨r,h1,u⟩:=yF g j q (HQ h) (by have:=zL h;omega);refine⟨r,h1,u.trans ?_⟩;constructor;.rintro⟨x,f,a,b,e,m,hi⟩;refine⟨h,a,b,e,m,?_⟩;have:=(Cr e).2 ⟨x,f,hi⟩;exact(tE h.canon _ _ _).1 this
   .rintro⟨_,a,b,e,m,hi⟩;have⟨x,f,hi⟩:=(Cr e).1 ((tE h.canon _ _ _).2 hi);exact⟨x,f,a,b,e,m,hi⟩
 .rw[zk w h];have⟨r,h1,u⟩:=yF (l:=[]) g j q (by simp) (by simp);grind
def onP(p:bd):Prop:=0<=p.X/\p.X<=1048576/\0<=p.Y/\p.Y<=1048576/\0<=p.Z/\p.Z<=4096
instance(p:bd):Decidable (onP p):=by unfold onP;infer_instance
theorem Jv(p:bd):qx p=some (decide (onP p)):=by unfold qx;congr 1;rw[q9,decide_eq_true_iff];unfold onP;simp;omega
theorem onP.pK{p:bd}(h:onP p):Pl.pK p:=by unfold onP at h;unfold Pl.pK cK;omega
def Jp(q p:bd):bd:=⟨q.X-p.X,q.Y-p.Y,q.Z-p.Z⟩
def Mr(S:Int->Int->Int->Prop)(p q:bd):Prop:=∃a b,0<b/\0<a/\a<b/\Hit S p (Jp q p) a b
def VD(S:Int->Int->Int->Prop)(p d:bd):Prop:=∃a b,0<b/\0<a/\Hit S p d a b
theorem IE{s:List cf}{p q:bd}(m:∀b∈s,b.Area.length<=100000):∃r,gm s p q=some r/\(r=true↔onP p/\onP q/\SS s/\Mr (vX s) p q):=by
 unfold gm;rw[Jv,qb];by_cases e:onP p
 · by_cases f:onP q
   · rw[if_neg (by simp[e]),Jv,qb,qb,if_neg (by simp[f])];have g:=e;have j:=f;unfold onP at g j;rw[da (by unfold inI;omega),qb,da (by unfold inI;omega),qb,da (by unfold inI;omega),qb];have⟨r,h1,u⟩:=Gt (v:=Jp q p) (t:=⟨⟨0,1,true⟩,⟨1,1,true⟩,true,false⟩) e.pK (by unfold pK cK Jp;dsimp;omega) (by unfold IvK bK nK;dsimp;omega) m;unfold Jp at h1;rw[h1];refine⟨r,rfl,u.trans ⟨λ ⟨g1,a,b,g2,g3,g4⟩=>⟨e,f,g1,a,b,g2,?_,?_,g4⟩,λ ⟨_,_,g1,a,b,g2,g3,g4,g5⟩=>⟨g1,a,b,g2,⟨rfl,?_,λ _=>?_⟩,g5⟩⟩⟩;.have:=g3.2.1.2 rfl;dsimp at this;omega
     .have:=(g3.2.2 rfl).2 rfl;dsimp at this;omega
     .unfold loR;dsimp;omega
     .unfold hiR;dsimp;omega
   .rw[if_neg (by simp[e]),Jv,qb,qb,if_pos (by simp[f])];exact⟨_,rfl,by simp,λh=>absurd h.2.1 f⟩
 simp_all
def Ho(d:bd):Prop:=¬(d.X=0/\d.Y=0/\d.Z=0)/\(-1048576<=d.X/\d.X<=1048576)/\(-1048576<=d.Y/\d.Y<=1048576)/\(-1048576<=d.Z/\d.Z<=1048576)
instance(p:bd):Decidable (Ho p):=by unfold Ho;infer_instance
theorem Ss{s:List cf}{p d:bd}(m:∀b∈s,b.Area.length<=100000):∃r,mD s p d=some r/\(r=true↔onP p/\Ho d/\SS s/\VD (vX s) p d):=by
  unfold mD;rw[Jv,qb];have q:d=⟨0,0,0⟩↔d.X=0/\d.Y=0/\d.Z=0:=by have⟨x,y,z⟩:=d;simp
  by_cases h:onP p/\Ho d
  · have⟨f,e⟩:=h;have g:=e;unfold Ho at g;rw[if_neg (by
 simp only[bT,cF,decide_eq_false_iff_not,decide_eq_true_eq];rintro(((h|h)|h)|h);.exact h f
 .exact e.1 (q.1 h)
 .omega
 .omega)];obtain⟨r,h1,u⟩:=Gt (v:=d) (t:=⟨⟨0,1,true⟩,_,false,false⟩) f.pK (by unfold pK cK;omega) (by unfold IvK bK nK;dsimp;exact⟨by omega,λh=>by simp at h⟩) m;rw[h1];refine⟨r,rfl,u.trans ⟨λ ⟨g1,a,b,g2,g3,g4⟩=>⟨f,e,g1,a,b,g2,?_,g4⟩,λ⟨_,_,g1,a,b,g2,g3,g5⟩=>⟨g1,a,b,g2,⟨rfl,?_,λh=>by simp at h⟩,g5⟩⟩⟩;.have:=g3.2.1.2 rfl;dsimp at this;omega
    .unfold loR;dsimp;omega
  ·rw[if_pos (by
 simp[bT,cF,decide_eq_false_iff_not,decide_eq_true_eq];by_cases f:onP p
 · by_cases w:d=⟨0,0,0⟩;.exact .inl (.inl (.inr w))
   .have e:¬Ho d:=λe=>h ⟨f,e⟩;unfold Ho at e;grind
 .exact .inl (.inl (.inl f)))];exact⟨_,rfl,by simp,λj=>absurd ⟨j.1,j.2.1⟩ h⟩
def Tot{e:Type}(o:Option e):Prop:=∃r,o=some r
theorem Tot.pure{e:Type}(x:e):Tot (some x):=⟨x,rfl⟩
theorem Tot.bind{e m:Type}{o:Option e}{f:e->Option m}(h:Tot o)(g:∀x,o=some x->Tot (f x)):Tot (o.bind f):=by have⟨x,j⟩:=h;rw[j];exact g x j
theorem Tot.ite{e:Type}{c:Prop}[Decidable c]{x y:Option e}(h:c->Tot x)(g:¬c->Tot y):Tot (if c then x else y):=by
 split;.exact h ‹_›
 .exact g ‹_›
theorem lK{e ρ:Type}{body:e->Option (aX e ρ)}(x:e->Int)(I:e->Prop)(N:Nat)(step:∀s i,x s=((i:Nat):Int)->i<N->I s->(∃g,body s=some (.go g)/\x g=((i+1:Nat):Int)/\I g)∨∃f,body s=some f/\f.ends)(done:∀s,x s=((N:Nat):Int)->I s->∃f,body s=some f/\f.ends)(j:e)(m:x j=0)(q:I j){u:Nat}(w:N<u):∃f,ar body u j=some f/\f.ends:=by have⟨f,h1,y,_⟩:=cE (λi s=>x s=i/\I s) N _ (λi s hi h=>(step s i h.1 hi h.2).imp (λ⟨g,a,b,c⟩=>⟨g,a,b,c⟩) λ ⟨f,a,b⟩=>⟨f,a,b,trivial⟩) (λs h=>let⟨f,a,b⟩:=done s h.1 h.2;⟨f,a,b,trivial⟩) j ⟨m,q⟩ u w;exact⟨f,h1,y⟩
theorem Tot.loop{e ρ j:Type}{o:Option (aX e ρ)}{f:aX e ρ->Option j}(h:∃x,o=some x/\x.ends)(g:∀x,x.ends->Tot (f x)):Tot (o.bind f):=by have⟨x,m,q⟩:=h;rw[m];exact g x q
theorem uP{e:Type}{s:List e}{f:e->Option Bool}{g:e->Bool}(E:s.length<=1000000)(u:∀x∈s,f x=some (g x)):R6 s f=some (s.any g):=by
 unfold R6 zJ;rw[Option.bind_assoc];refine oC (λi t=>t=(i:Int)/\∀m(h:m<s.length),m<i->g s[m]=false) s.length (.=some _) (λi t hi⟨j,I⟩=>?_) (λt⟨j,I⟩=>?_) ⟨rfl,λm _ h=>by omega⟩ (by omega);.subst j;rw[if_pos (by simpa using hi),ai hi,qb,u s[i] (aT hi)];cases w:g s[i]with|true=>exact .inr ⟨_,rfl,trivial,by rw[mZ.2 ⟨_,aT hi,w⟩];simp⟩;|false=>rw[aj (by omega)];refine .inl ⟨_,rfl,rfl,λm q y=>?_⟩;grind
 .subst j;rw[if_neg (by simp)];refine⟨_,rfl,trivial,?_⟩;rw[show s.any g=false by rw[ko];intro x z;obtain⟨m,q,rfl⟩:=bz z;rw[I m q q];simp];rfl
theorem rA{e:Type}{s:List e}{f:e->Option Bool}(h:s.length<=1000000)(j:∀x,Tot (f x)):Tot (R6 s f):=⟨_,uP (g:=λx=>(f x).getD false) h λx _=>by have⟨b,m⟩:=j x;rw[m];rfl⟩
theorem BO{s:List aA}{f:aA->Option Bool}(h:s.length<=1000000)(e:∀x,Tot (f x)):Tot (dy s f):=rA h e
theorem EB{s:ByteArray}{n:Nat}(h:n<s.size):Tot (Io s (n:Int)):=by
 unfold Io;have:s[(n:Int).toNat]?=some s[n]:=by simp
 rw[this];exact Tot.pure _
theorem AJ(c:IK .u8):Tot (kP c):=Tot.pure _
theorem KB(c:IK .u8):Tot (qw c):=Tot.pure _
theorem KV(c:IK .u8):Tot (sI c):=by refine(AJ c).bind λx _=>?_;refine Tot.bind (Tot.ite (λ _=>Tot.pure _) λ _=>(KB c).bind λ _ _=>Tot.pure _) λ _ _=>Tot.pure _
theorem LM{s:ByteArray}{f:IK .u8->Option Bool}(u:s.size<=1000000)(e:∀c,Tot (f c)):Tot (wB s f):=by
 refine Tot.loop (lK (λs=>s) (λ _=>True) s.size ?_ ?_ 0 rfl trivial (by omega)) ?_;.intro i n hi h _;subst hi;unfold pN;have⟨c,g⟩:=EB h;have⟨b,j⟩:=e c;rw[if_pos (by simpa using h),g];simp only[qb,j];cases b with|false=>exact .inr ⟨_,rfl,trivial⟩;|true=>rw[aj (by omega)];exact .inl ⟨_,rfl,rfl,trivial⟩
 .intro i hi _;subst hi;unfold pN;rw[if_neg (by simp)];exact⟨_,rfl,trivial⟩
 .intro x m;cases x with|go _=>exact m.elim;|ex _ _=>exact Tot.pure _;|ret _=>exact Tot.pure _
theorem ND(s:ByteArray):∃b,qB s=some b/\(b=true->s.size<=20):=by
 have h1:Tot (if((s.toList==(⟨#[]⟩:ByteArray).toList))then some true else(Io s 0).bind λc=>(kP c).bind λl=>some (!l)):=by
  refine Tot.ite (λ _=>Tot.pure _) λh=>?_;have j:0<s.size:=by
   rcases qK s.size with g|g;.simp_all
   .exact g
  exact(EB j).bind λc _=>(AJ c).bind λ _ _=>Tot.pure _
 have⟨x,m⟩:=h1;unfold qB;rw[m];simp only[qb];by_cases e:(x||decide (20<(s.size:Int)))=true;.rw[if_pos e];exact⟨_,rfl,λh=>by simp at h⟩
 · rw[if_neg e];have f:s.size<=20:=by simp at e;omega
   have⟨n,q⟩:=LM (s:=s) (by omega) KV;rw[q];exact⟨_,rfl,λ _=>f⟩
theorem Ef{s t:ByteArray}(h:s.size<=4000):Tot (strings_Contains s t):=by unfold strings_Contains;rw[if_pos (by omega)];exact Tot.pure _
theorem OA:IntKind.i64.max=9223372036854775807:=by simp
theorem xX{s t:ByteArray}(h:s.size+t.size<=1000000):FM s t=some (s++t):=by unfold FM;rw[OA,if_pos (by omega)]
theorem LC(res s:ByteArray)(j:res.size<=4000):Tot ((qB s).bind λx=>(if x then(FM (⟨#[32]⟩:ByteArray) s).bind λy=>(FM y (⟨#[32]⟩:ByteArray)).bind λz=>(strings_Contains res z).bind λb=>some (!b)else some false).bind λb=>some b):=by
 have⟨b,g,e⟩:=ND s;refine Tot.bind ⟨b,g⟩ λx m=>?_;refine Tot.bind (Tot.ite (λh=>?_) λ _=>Tot.pure _) λ _ _=>Tot.pure _;have q:s.size<=20:=e (by rw[<-ae (m.symm.trans g)];exact h);have h1:(⟨#[32]⟩:ByteArray).size=1:=rfl;refine Tot.bind ⟨_,xX (by omega)⟩ λy f=>?_;have f:y.size=1+s.size:=by rw[xX (by omega)]at f;rw[<-ae f,ByteArray.size_append,h1]
 exact Tot.bind ⟨_,xX (by omega)⟩ λz _=>Tot.bind (Ef j) λ _ _=>Tot.pure _
theorem MV(s:ByteArray):Tot (lp s):=by unfold lp;exact LC _ s (ng (by kernel_rfl))
def SmP(p:Phase):Prop:=p.Volumes.length<=12/\p.bh.length<=6
def SmD(d:aG):Prop:=d.Phases.length<=9/\∀p∈d.Phases,SmP p
def iB(l:List aG):Prop:=l.length<=maxLen/\∀d∈l,d.Phases.length<=maxLen
theorem IZ{d:aG}(h:SmD d):∃l,lq d=some l/\l.length<=108:=by have⟨f,h1,h2,h3⟩:=cE (body:=hY d 0 d.Phases.length) (λi s=>s.2=i/\s.1.length<=12*i) d.Phases.length (λf=>match f with| .ex _ s=>s.1.length<=108|_=>False) (λi s hi⟨hs,hI⟩=>by have h9:=h.1;have hv:=(h.2 _ (aT hi)).1;unfold hY;rw[hs,if_pos (by simpa using hi),ai hi,qb,if_pos (by simp;omega),bP (by omega),aj (by omega)];exact .inl ⟨_,rfl,rfl,by simp;omega⟩) (λs ⟨hs,hI⟩=>by have h9:=h.1;unfold hY;rw[hs,if_neg (by simp)];exact⟨_,rfl,trivial,by show s.1.length<=108;omega⟩) ([],0) ⟨rfl,by simp⟩ (d.Phases.length+1) (by omega);unfold lq og;rw[h1];cases f with|go _=>exact h2.elim;|ret r=>exact h3.elim;|ex _ s=>exact⟨_,rfl,h3⟩
theorem H6(v:aA):Tot (cJ v):=by refine Tot.bind (Tot.pure _) λ _ _=>Tot.ite (λ _=>Tot.pure _) λ _=>Tot.ite (λ _=>Tot.pure _) λ _=>Tot.pure _
theorem Nd(a b:Box):Tot (sK a b):=by refine Tot.bind (Tot.bind (Tot.pure _) λ _ _=>Tot.bind (Tot.ite (λ _=>Tot.pure _) λ _=>Tot.bind (Tot.pure _) λ _ _=>Tot.pure _) λ _ _=>Tot.ite (λ _=>Tot.pure _) λ _=>Tot.bind (Tot.bind (Tot.pure _) λ _ _=>Tot.ite (λ _=>Tot.pure _) λ _=>Tot.pure _) λ _ _=>Tot.pure _) λ _ _=>Tot.pure _
theorem Lj{l:List aA}(h:l.length<=1000000):∃f,ar (iw l) (l.length+1) 0=some f/\f.ends:=by
 refine lK (λs=>s) (λ _=>True) l.length ?_ ?_ 0 rfl trivial (by omega)
 · intro s i hs hi _;subst hs;unfold iw;rw[if_pos (by simpa using hi),ai hi];simp only[qb];have⟨b,hb⟩:=H6 l[i];rw[hb];simp only[qb];have⟨c,hc⟩:Tot (if(!b)=true then some true else(gR l 0 i).bind λy=>(dy y (λy0=>jd y0 l[i])).bind λz=>some z):=by refine Tot.ite (λ _=>Tot.pure _) λ _=>?_;rw[lg (by omega) (by omega) (by omega)];simp only[qb];refine Tot.bind (BO (by simp;omega) λx=>?_) λ _ _=>Tot.pure _;exact Tot.bind (Nd _ _) λ _ _=>Tot.pure _
   rw[hc];cases c with|true=>exact .inr ⟨_,rfl,trivial⟩;|false=>rw[aj (by omega)];exact .inl ⟨_,rfl,rfl,trivial⟩
 .intro s hs _;subst hs;unfold iw;rw[if_neg (by simp)];exact⟨_,rfl,trivial⟩
theorem Ka{p:Phase}(h:SmP p):∃f,ar (iy p) (p.bh.length+1) ((⟨[]⟩:(vO ByteArray Bool)),0)=some f/\f.ends:=by
 have h6:=h.2;refine lK (λs=>s.2) (λ _=>True) p.bh.length ?_ ?_ _ rfl trivial (by omega)
 · intro s i hs hi _;unfold iy;rw[hs,if_pos (by simpa using hi),ai hi];simp only[qb];have⟨c,hc⟩:Tot (if(bU (s.1).l p.bh[i].Name).getD false=true then some true else(lp p.bh[i].Name).bind λy=>some (!y)):=Tot.ite (λ _=>Tot.pure _) λ _=>Tot.bind (MV _) λ _ _=>Tot.pure _;rw[hc];simp only[qb];split;.exact .inr ⟨_,rfl,trivial⟩
   .rw[aj (by omega)];exact .inl ⟨_,rfl,rfl,trivial⟩
 .intro s hs _;unfold iy;rw[hs,if_neg (by simp)];exact⟨_,rfl,trivial⟩
theorem Lh{d:aG}(h:SmD d):∃f,ar (iC d) (d.Phases.length+1) 0=some f/\f.ends:=by
 have h9:=h.1;refine lK (λs=>s) (λ _=>True) d.Phases.length ?_ ?_ 0 rfl trivial (by omega);.intro s i hs hi _;subst hs;unfold iC;rw[if_pos (by simpa using hi),ai hi];simp only[qb];have⟨f,hf,he⟩:=Ka (h.2 _ (aT hi));rw[hf];cases f with|go _=>exact he.elim;|ret r=>exact .inr ⟨_,rfl,trivial⟩;|ex _ _=>
  dsimp;split;.exact .inr ⟨_,rfl,trivial⟩
  .rw[aj (by omega)];exact .inl ⟨_,rfl,rfl,trivial⟩
 .intro s hs _;subst hs;unfold iC;rw[if_neg (by simp)];exact⟨_,rfl,trivial⟩
theorem M1{d:aG}(h:SmD d):Tot (jB d):=by have⟨l,hl,h108⟩:=IZ h;unfold jB;rw[hl];refine Tot.ite (λ _=>Tot.pure _) λ _=>?_;refine Tot.loop (Lj (by omega)) λx hx=>?_;cases x with|go _=>exact hx.elim;|ret _=>exact Tot.pure _;|ex _ _=>refine Tot.loop (Lh h) λx hx=>?_;cases x with|go _=>exact hx.elim;|ret _=>exact Tot.pure _;|ex _ _=>exact Tot.pure _
theorem Im{e:Type}{n:Nat}{z:e}(h:n<=1000000):BW (n:Int) z=some (List.replicate n z):=by unfold BW;rw[if_pos (by constructor<;>omega)];simp
theorem FN{i n:Nat}(h:0<n):Ll (i:Int) (n:Int)=some ((i%n:Nat):Int):=by unfold Ll;rw[if_pos (by omega)];congr 1
theorem Bt{p:List fq}(h:p.length<=60):∃l,jq p=some l/\l.length=p.length:=by unfold jq;rw[Im (by omega),qb];obtain⟨f,h1,m,q⟩:=cE (body:=iL p) (λi s=>s.2=i/\s.1.length=p.length) p.length (λf=>match f with| .ex _ s=>s.1.length=p.length|_=>False) (λi s hi⟨e,g⟩=>by have⟨l,j⟩:=s;subst e;unfold iL;rw[if_pos (by simpa using hi),ai hi,qb,aj (by omega),qb,FN (by omega),qb,ai (Nat.mod_lt _ (by omega)),ai (by omega)];exact .inl ⟨_,rfl,rfl,by simpa using g⟩) (λs ⟨e,g⟩=>by unfold iL;rw[e,if_neg (by simp)];exact⟨_,rfl,trivial,g⟩) (List.replicate p.length _,0) ⟨rfl,by simp⟩ (p.length+1) (by omega);rw[h1];grind
theorem yK(a b:Int):Tot (cu a b):=Tot.ite (λ_=>Tot.ite (λ_=>Tot.pure _) λ_=>Tot.pure _) λ_=>Tot.ite (λ_=>Tot.pure _) λ_=>Tot.ite (λ_=>Tot.pure _) λ_=>Tot.ite (λ_=>Tot.pure _) λ_=>Tot.pure _
theorem Qt{l:List Int}(h:l.length<=100):Tot (mq l):=by
 refine Tot.loop (lK (λs=>s) (λ _=>True) l.length ?_ ?_ 0 rfl trivial (by omega)) ?_
 · intro s i e hi _;subst e;unfold mV;rw[if_pos (by simpa using hi),ai hi,qb];split;.exact .inr ⟨_,rfl,trivial⟩
   .rw[aj (by omega)];exact .inl ⟨_,rfl,rfl,trivial⟩
 .intro s e _;subst e;unfold mV;rw[if_neg (by simp)];exact⟨_,rfl,trivial⟩
 .intro x f;cases x with|go _=>exact f.elim;|ex _ _=>exact Tot.pure _;|ret _=>exact Tot.pure _
theorem Dl(a b:fq):Tot (kH a b):=Tot.bind (yK _ _) λ_ _=>Tot.bind (yK _ _) λ_ _=>Tot.bind (Qt (by simp)) λ_ _=>Tot.pure _
theorem GG{p:List fq}{l:List bX}(h:p.length<=60)(q:l.length=p.length):∃f,ar (jE p l) (l.length+1) 0=some f/\f.ends:=by
 refine lK (λs=>s) (λ _=>True) l.length ?_ ?_ 0 rfl trivial (by omega)
 · intro s i g hi _;subst g;unfold jE;rw[if_pos (by simpa using hi),ai hi,qb,aj (by omega),qb,FN (by omega),qb,ai (Nat.mod_lt _ (by omega)),qb];unfold o7 dA;rw[qb];obtain⟨c,j⟩:Tot (if(_||(_==(l[i].a.Y==l[i].b.Y)))=true then some true else(some (l[i].a.X==l[i].b.X)).bind λx=>(some _).bind λy=>some (x==y)):=Tot.ite (λ _=>Tot.pure _) λ _=>Tot.pure _;rw[j,qb];split;.exact .inr ⟨_,rfl,trivial⟩
   · have⟨e,m⟩:Tot (if(decide ((0:Int)<i))=true then(aR p 0).bind λx=>(aR p i).bind λy=>(kH x y).bind λz=>some (decide (0<=z))else some false):=by refine Tot.ite (λ _=>?_) λ _=>Tot.pure _;rw[show(0:Int)=(0:Nat)from rfl,ai (by omega),qb,ai (by omega),qb];exact Tot.bind (Dl _ _) λ _ _=>Tot.pure _
     rw[m,qb];split;.exact .inr ⟨_,rfl,trivial⟩
     simp_all
 .intro s g _;subst g;unfold jE;rw[if_neg (by simp)];exact⟨_,rfl,trivial⟩
theorem Gh{l:List bX}{i:Nat}(h:l.length<=60)(hi:i<l.length):∃f,ar (eM l (i:Int)) (l.length+1) ((i+2:Nat):Int)=some f/\f.ends:=by
 by_cases u:l.length<=i+2
 · refine⟨.ex 4 (i+2:Nat),?_,trivial⟩;have e:eM l i (i+2:Nat)=some (.ex 4 (i+2:Nat)):=by unfold eM;rw[if_neg (by simp;omega)]
   simp only[ar,e]
 ·have⟨f,h1,j,_⟩:=cE (body:=eM l i) (λm s=>s=(i+2+m:Nat)) (l.length-(i+2)) (λ _=>True) (λm s w g=>by
 subst g;unfold eM;rw[if_pos (by simp;omega),cS (by constructor<;>omega),qb,da (by constructor<;>omega),qb,ai hi,qb,ai (by omega),qb];unfold jk;rw[qb];obtain⟨c,q⟩:Tot (if(decide ((1:Int)<i+_-_))=true then some _ else some false):=Tot.ite (λ _=>Tot.pure _) λ _=>Tot.pure _;rw[q,qb];split;.exact .inr ⟨_,rfl,trivial,trivial⟩
 .rw[aj (by omega)];exact .inl ⟨_,rfl,by congr 1⟩) (λs g=>by unfold eM;rw[if_neg (by simp;omega)];exact⟨_,rfl,trivial,trivial⟩) (i+2) (by simp) (l.length+1) (by omega);exact⟨f,h1,j⟩
theorem Il{p:List fq}:Tot (qq p):=by
 refine Tot.ite (λ _=>Tot.pure _) λh=>?_;simp at h;have e:p.length<=60:=by omega
 have⟨l,w,j⟩:=Bt e;rw[w];refine Tot.loop (GG e j) λx m=>?_;cases x with|go _=>exact m.elim;|ret _=>exact Tot.pure _;|ex _ _=>
 refine Tot.loop (lK (λs=>s) (λ _=>True) l.length ?_ ?_ 0 rfl trivial (by omega)) λx m=>?_;.intro s i q hi _;subst q;unfold mM;rw[if_pos (by simpa using hi),cS (by constructor<;>omega),qb];have⟨f,y,z⟩:=Gh (by omega) hi;rw[show((i:Int)+2)=(i+2:Nat)by rfl,y];cases f with|go _=>exact z.elim;|ret _=>exact .inr ⟨_,rfl,trivial⟩;|ex _ _=>rw[aj (by omega)];exact .inl ⟨_,rfl,rfl,trivial⟩
 .intro s q _;subst q;unfold mM;rw[if_neg (by simp)];exact⟨_,rfl,trivial⟩
 .cases x with|go _=>exact m.elim;|ret _=>exact Tot.pure _;|ex _ _=>rw[show(0:Int)=(0:Nat)from rfl,ai (by omega)];exact Tot.pure _
theorem GZ{xs:List Int}{l:List bX}{s:List aC×Int}{m:Nat}(q:l.length<=60)(e:s.2=(m:Int))(x:m<xs.length):∃f,ar (gj xs l s) (l.length+1) (([]:List Int),0)=some f/\f.ends/\(match f with| .ex _ t=>t.1.length<=60| .go _=>False| .ret _=>False):=by
 refine cE (body:=gj xs l s) (λi t=>t.2=i/\t.1.length<=i) l.length _ (λi t hi⟨h,I⟩=>?_) (λt⟨h,I⟩=>?_) _ ⟨rfl,by simp⟩ _ (by omega);.unfold gj;rw[h,e,if_pos (by simpa using hi),ai hi,qb];unfold dA;rw[qb,ai x];obtain⟨c,g⟩:Tot (if(!(l[i].a.X==l[i].b.X))=true then(some xs[m]).bind λy=>some (decide (_<=y))else some false):=Tot.ite (λ _=>Tot.pure _) λ _=>Tot.pure _;rw[g,qb];obtain⟨d,j⟩:Tot (if c=true then(some xs[m]).bind λy=>some (decide (y<_))else some false):=Tot.ite (λ _=>Tot.pure _) λ _=>Tot.pure _;rw[j];cases d with|true=>rw[bP (by simp;omega),aj (by omega)];exact .inl ⟨_,rfl,rfl,by simp;omega⟩;|false=>rw[aj (by omega)];exact .inl ⟨_,rfl,rfl,by show t.1.length<=_;omega⟩
 .unfold gj;rw[h,if_neg (by simp)];exact⟨_,rfl,trivial,by show t.1.length<=60;omega⟩
theorem FA{xs ys:List Int}{s:List aC×Int}{m fuel:Nat}(e:s.2=(m:Int))(x:m+1<xs.length)(j:ys.length<=60)(q:s.1.length<=60*m)(h:m<=60)(u:ys.length<fuel):∃f,ar (gg xs s ys) fuel (s.1,0)=some f/\f.ends/\(match f with| .ex _ t=>t.1.length<=60*(m+1)| .go _=>False| .ret _=>False):=by
 refine cE (body:=gg xs s ys) (λi t=>t.2=(2*i:Nat)/\t.1.length<=60*m+i) (ys.length/2) _ (λi t hi⟨g,I⟩=>?_) (λt _=>?_) _ ⟨rfl,by omega⟩ _ (by omega);·unfold gg;rw[g,cS (by constructor<;>omega),qb,show(_+1)=((2*i+1:Nat):Int)by rfl,if_pos (by simp;omega),e,ai (by omega),qb,ai (by omega),qb,aj (by omega),qb,ai x,qb,qb,ai (by omega),qb,bP (by simp;omega),cS (by constructor<;>omega)];exact .inl ⟨_,rfl,by omega,by simp;omega⟩
 .unfold gg;rw[cS (by constructor<;>omega),qb,if_neg (by simp;omega)];exact⟨_,rfl,trivial,by show t.1.length<=_;omega⟩
theorem Hu{p:List fq}(h:p.length<=12):∃r,mg p=some r/\r.1.length<=1000:=by unfold mg;obtain⟨b,E⟩:=Il (p:=p);rw[E,qb];cases b with|false=>rw[if_pos (by simp)];exact⟨_,rfl,by simp⟩;|true=>rw[if_neg (by simp)];obtain⟨f,h1,F,G⟩:=cE (body:=iT p) (λi s=>s.2=((i:Nat):Int)/\s.1.length=i) p.length (λf=>match f with| .ex _ s=>s.1.length=p.length|_=>False) (λi s hi⟨m,j⟩=>by unfold iT;rw[m,if_pos (by simpa using hi),ai hi,qb,bP (by simp;omega),qb,aj (by omega)];exact .inl ⟨_,rfl,rfl,by simp[j]⟩) (λs ⟨m,j⟩=>by unfold iT;rw[m,if_neg (by simp)];exact⟨_,rfl,trivial,j⟩) (([]:List Int),0) ⟨rfl,rfl⟩ (p.length+1) (by omega);rw[h1,qb];cases f with|go _=>exact F.elim;|ret _=>exact G.elim;|ex _ s=>dsimp only;obtain⟨x1,g1,g2,g3⟩:=mP (l:=s.1) (by omega);have H:=g2.length_eq;obtain⟨x,J,_,_,V⟩:=mH (l:=x1) (by omega) g3;rw[g1,qb,J,qb];obtain⟨l,j,M⟩:=Bt (p:=p) (by omega);rw[j,qb,da (by constructor<;>omega),qb];obtain⟨f,e1,O,u⟩:=cE (body:=iS x l ((x.length:Int)-1)) (λi t=>t.2=((i:Nat):Int)/\t.1.length<=60*i) (x.length-1) (λf=>match f with| .ex _ t=>t.1.length<=1000|_=>False) (λi t hi⟨g,I⟩=>by unfold iS;rw[if_pos (by rw[g];simp;omega)];obtain⟨f2,P,a2,a3⟩:=GZ (xs:=x) (l:=l) (s:=t) (by omega) g (by omega);rw[P,qb];cases f2 with|go _=>exact a2.elim;|ret _=>exact a3.elim;|ex _ t2=>dsimp only;obtain⟨ys,R,T,W⟩:=mP (l:=t2.1) (by omega);have U:=T.length_eq;rw[R,qb];obtain⟨f3,c1,c2,w⟩:=FA (xs:=x) (ys:=ys) (s:=t) (fuel:=x.length+l.length+t.1.length+ys.length+1) g (by omega) (by omega) I (by omega) (by omega);rw[c1,qb];cases f3 with|go _=>exact c2.elim;|ret _=>exact w.elim;|ex _ t3=>rw[g,aj (by omega)];exact .inl ⟨_,rfl,rfl,w⟩) (λt⟨g,I⟩=>by unfold iS;rw[if_neg (by rw[g];simp;omega)];exact⟨_,rfl,trivial,by show t.1.length<=1000;omega⟩) (([]:List aC),0) ⟨rfl,by simp⟩ (((x.length:Int)-1).toNat+1) (by omega);rw[e1,qb];cases f with|go _=>exact O.elim;|ret _=>exact u.elim;|ex _ t=>
 dsimp only;split;.exact⟨_,rfl,by simp⟩
 .exact⟨_,rfl,u⟩
def lmd(n:Int):Int:=min (max n (-1099511627776)) 1099511627776
theorem NW(n:Int):np n=some (lmd n):=rfl
theorem H5(n:Int):-1099511627776<=lmd n/\lmd n<=1099511627776:=by unfold lmd;omega
def nmd:List Entry->Cap->Int|[],_=>0|e::l,c=>(if e.Name=c.Name then lmd e.N else 0)+nmd l c
theorem JF(c:Cap):∀(l m:List Entry),nmd (l++m) c=nmd l c+nmd m c|[],m=>by simp[nmd];|e::l,m=>by simp[nmd,JF c l m];omega
theorem xP(c:Cap):∀l:List Entry,-(1099511627776*(l.length:Int))<=nmd l c/\nmd l c<=1099511627776*(l.length:Int)|[]=>by simp[nmd];|e::l=>by have h:=xP c l;have f:=H5 e.N;simp[nmd];split<;>omega
theorem Fo{l:List Entry}{c:Cap}(h:l.length<=1000):qy l c=some (nmd l c):=by have⟨f,h1,q,u⟩:=cE (body:=oM l c) (λi s=>s.2=i/\s.1=nmd (l.take i) c) l.length (λf=>match f with| .ex _ s=>s.1=nmd l c|_=>False) (λi s hi⟨j,I⟩=>by
 unfold oM;have w:=xP c (l.take i);have m:(l.take i).length<=1000:=by simp;omega
 have x:=H5 l[i].N;rw[j,if_pos (by simpa using hi),ai hi,qb,<-beq_toListBytes,yQ];have e:nmd (l.take (i+1)) c=nmd (l.take i) c+(if l[i].Name=c.Name then lmd l[i].N else 0):=by rw[dz hi,JF];simp[nmd]
 by_cases g:l[i].Name=c.Name;.rw[if_pos (by simpa using g),NW,qb,I,cS (by constructor<;>omega),aj (by omega)];exact .inl ⟨_,rfl,rfl,by rw[e,if_pos g]⟩
 .rw[if_neg (by simpa using g),aj (by omega)];exact .inl ⟨_,rfl,rfl,by rw[e,if_neg g];omega⟩) (λs⟨j,I⟩=>by unfold oM;rw[j,if_neg (by simp)];rw[cQ]at I;exact⟨_,rfl,trivial,I⟩) (0,0) ⟨rfl,by simp[nmd]⟩ (l.length+1) (by omega);unfold qy;grind
theorem S0{v:aA}:∃b,cJ v=some b/\(b=true->VR v.Box.Base/\0<=v.Box.Z0/\v.Box.Z0<v.Box.Z1/\v.Box.Z1<=4096/\0<=v.Use/\v.Use<=5/\0<=v.Units/\v.Units<=1048576):=by
 unfold cJ;rw[eR,qb];split;.exact⟨_,rfl,λh=>by simp at h⟩
 · rename_i h;split;.exact⟨_,rfl,λh=>by simp at h⟩
   .refine⟨_,rfl,λg=>?_⟩;grind
def pH(p:aF):Prop:=p.Tables.length<=5/\∀t∈p.Tables,t.Rows.length<=10
theorem Hc{s:List Entry}{f:Entry->Option Bool}(m:s.length<=1000000)(g:∀x,Tot (f x)):∃r,gY s f=some r/\(0<=r->r<(s.length:Int)):=by
 refine oC (λi t=>t=(i:Int)) s.length (λo:Option Int=>∃r,o=some r/\(0<=r->r<s.length)) (λi t hi e=>?_) (λt e=>?_) rfl (by omega);.subst e;have⟨b,j⟩:=g s[i];rw[if_pos (by simpa using hi),ai hi,qb,j];cases b with|true=>exact .inr ⟨_,rfl,trivial,_,rfl,λ _=>by omega⟩;|false=>rw[aj (by omega)];exact .inl ⟨_,rfl,rfl⟩
 .subst e;rw[if_neg (by simp)];exact⟨_,rfl,trivial,_,rfl,λh=>by omega⟩
theorem NJ{e:Entry}{q:ByteArray×ByteArray×ByteArray×ByteArray×ByteArray×ByteArray}{u:Int}(h:0<=u)(f:u<=5):Tot (mU e q u):=by unfold mU;rw[uK h (by simp;omega)];exact Tot.pure _
theorem PJ{p:aF}{u:Int}(j:pH p)(w:0<=u)(y:u<=5):∃n,qa p u=some n/\0<=n/\n<=1048576:=by
 have z:=j.1;have⟨f,h1,E,q⟩:=cE (body:=lU p u) (λi s=>s=i) p.Tables.length (λf=>match f with| .ex _ _=>True| .ret n=>0<=n/\n<=1048576| .go _=>False) (λi s hi e=>by
 subst e;unfold lU;rw[if_pos (by simpa using hi),ai hi,qb];split;.rw[aj (by omega)];exact .inl ⟨_,rfl,rfl⟩
 · have F:=j.2 _ (aT hi);obtain⟨r,G,g⟩:=Hc (s:=p.Tables[i].Rows) (by omega) λx=>NJ w y;rw[G,qb];have⟨m,H⟩:Tot (if(decide (0<=r))=true then(aR p.Tables[i].Rows r).bind λx=>some x.N else some p.Tables[i].Else):=by refine Tot.ite (λh=>?_) λ _=>Tot.pure _;have h:=of_decide_eq_true h;rw[uK h (g h)];exact Tot.pure _
   rw[H];exact .inr ⟨_,rfl,trivial,by omega,by omega⟩) (λs e=>by subst e;unfold lU;rw[if_neg (by simp)];exact⟨_,rfl,trivial,trivial⟩) 0 rfl (p.Tables.length+1) (by omega);unfold qa;rw[h1];cases f with|go _=>exact E.elim;|ex _ _=>exact⟨_,rfl,by omega,by omega⟩;|ret n=>exact⟨_,rfl,q.1,q.2⟩
theorem AB{r:aC}(h:VR r):∃n,iE r=some n/\0<=n/\n<=1099511627776:=by unfold iE jJ;have e:=h;unfold VR at e;rw[eR,decide_eq_true h];dsimp;rw[da (by constructor<;>omega),qb,da (by constructor<;>omega),qb];have h1:0<=(r.X1-r.X0)*(r.Y1-r.Y0):=Int.mul_nonneg (by omega) (by omega);have f:(r.X1-r.X0)*(r.Y1-r.Y0)<=1048576*1048576:=Int.mul_le_mul (by omega) (by omega) (by omega) (by omega);rw[ru (by constructor<;>omega)];exact⟨_,rfl,h1,by omega⟩
theorem Kq(v:aA):∃n,mW v=some n/\0<=n/\n<=2251799813685248:=by unfold mW;obtain⟨b,m,e⟩:=S0;rw[m,qb];cases b with|false=>rw[if_pos (by simp)];exact⟨_,rfl,by omega,by omega⟩;|true=>
 have⟨V,h1,w,x,_⟩:=e rfl;have⟨a,q,f,g⟩:=AB V;rw[q,qb];have⟨s,u,h,j⟩:∃s,kC v=some s/\0<=s/\s<=2048:=by unfold kC;rw[m];cases v.Extra with|true=>rw[if_pos rfl];exact⟨_,rfl,by omega,by omega⟩;|false=>rw[if_neg (by simp),qb,qb,if_neg (by simp),da (by constructor<;>omega),qb,cS (by constructor<;>omega),qb,da (by constructor<;>omega),qb];have y:(v.Box.Z1-v.Box.Z0+3-1).tdiv 3=(v.Box.Z1-v.Box.Z0+3-1)/3:=xM (by omega);unfold H2;rw[if_pos ⟨by omega,by constructor<;>omega⟩];exact⟨_,rfl,by omega,by omega⟩
 rw[u,qb];have g1:0<=a*s:=Int.mul_nonneg f h;have g2:a*s<=1099511627776*2048:=Int.mul_le_mul g j h (by omega);rw[ru (by constructor<;>omega)];exact⟨_,rfl,g1,by omega⟩
theorem EF{p:aF}{v:aA}(g:pH p)(j:0<=v.Use)(m:v.Use<=5):∃n,kI p v=some n/\0<=n/\n<=1099511627776:=by
 unfold kI;have⟨r,q,u,w⟩:=PJ g j m;have⟨f,x,h,y⟩:=Kq v;rw[q,qb,x,qb];by_cases z:0<r
 · have E:(109951162777600:Int).tdiv r=109951162777600/r:=xM (by omega);have F:0<=109951162777600/r:=Int.ediv_nonneg (by omega) (by omega);have G:109951162777600/r<=109951162777600:=Int.ediv_le_self _ (by omega);rw[if_pos (by simpa using z)];unfold H2;rw[if_pos ⟨by omega,by constructor<;>omega⟩,qb,qb,E];by_cases e:109951162777600/r<f;.rw[if_pos (by simpa using e)];exact⟨_,rfl,by omega,by omega⟩
   .rw[if_neg (by simpa using e)];have g0:0<=r*f:=Int.mul_nonneg (by omega) h;have g1:r*f<=r*(109951162777600/r):=Int.mul_le_mul_of_nonneg_left (by omega) (by omega);have g2:r*(109951162777600/r)<=109951162777600:=Int.mul_ediv_self_le (by omega);rw[ru (by constructor<;>omega),qb,cS (by constructor<;>omega),qb,da (by constructor<;>omega),qb];have H:(r*f+100-1).tdiv 100=(r*f+100-1)/100:=xM (by omega);rw[if_pos ⟨by omega,by constructor<;>omega⟩];exact⟨_,rfl,by omega,by omega⟩
 · obtain rfl:r=0:=by omega
   rw[ru (by constructor<;>omega),Int.zero_mul];exact⟨_,rfl,by decide,by decide⟩
theorem BI{s:List aC}{f:aC->Option Bool}(h:s.length<=1000000)(e:∀x,Tot (f x)):Tot (cZ s f):=rA h e
theorem CX(a b:aC):Tot (gL a b):=by unfold gL jJ;simp[eR];refine Tot.bind (Tot.ite (λ _=>Tot.pure _) λ _=>Tot.pure _) λ _ _=>Tot.ite (λ _=>Tot.pure _) λ _=>Tot.bind (Tot.ite (λ _=>Tot.pure _) λ _=>Tot.pure _) λ _ _=>Tot.pure _
theorem Mm{p:aF}{c:Cap}{v:aA}(j:pH p)(m:c.Corners.length<=12):∃n,gW p c v=some n/\0<=n/\n<=1099511627776:=by unfold gW;obtain⟨b,q,h⟩:=S0;rw[q,qb];cases b with|false=>rw[if_pos (by simp)];exact⟨_,rfl,by omega,by omega⟩;|true=>
 have⟨V,h1,H,I,u,w,J,M⟩:=h rfl;rw[if_neg (by simp)];have⟨r,y,z⟩:=Hu m;rw[y,qb];have⟨e,E⟩:Tot (if(r.2!=0)=true then some true else(cZ r.1 (λF=>oV F v)).bind λx=>some (!x)):=by refine Tot.ite (λ _=>Tot.pure _) λ _=>Tot.bind (BI (by omega) λx=>?_) λ _ _=>Tot.pure _;exact Tot.bind (CX _ _) λ _ _=>Tot.pure _
 rw[E,qb];split;.exact⟨_,rfl,by omega,by omega⟩
 · split;.exact⟨_,rfl,by omega,by omega⟩
   · split;·have⟨n,G,f,g⟩:=EF j u w;grind
     · split;.have⟨n,G,f,g⟩:=AB V;grind
       .exact⟨_,rfl,by omega,by omega⟩
def ld(p:aF)(c:Cap)(v:aA):Int:=(gW p c v).getD 0
theorem LS{p:aF}{c:Cap}{v:aA}(h:pH p)(e:c.Corners.length<=12):gW p c v=some (ld p c v)/\0<=ld p c v/\ld p c v<=1099511627776:=by obtain⟨n,f,g,h1⟩:=Mm h e;unfold ld;rw[f];exact⟨rfl,g,h1⟩
def lds(p:aF)(c:Cap)(l:List aA):Int:=(l.map (ld p c)).sum
theorem OM(p:aF)(c:Cap)(l m:List aA):lds p c (l++m)=lds p c l+lds p c m:=by simp[lds]
theorem Bw{p:aF}{c:Cap}(h:pH p)(f:c.Corners.length<=12):∀l:List aA,0<=lds p c l/\lds p c l<=1099511627776*(l.length:Int)
 |[]=>by simp[lds];|v::l=>by
  have g:=Bw h f l;have j:=LS (v:=v) h f;have e:lds p c (v::l)=ld p c v+lds p c l:=by simp[lds]
  rw[fM];omega
def loadT(t:aN)(c:Cap):Int:=nmd t.Base c+lds t.aF c (t.Built.map (·.aA))
def phL(p:aF)(c:Cap)(h:Phase):Int:=-(nmd h.bh c)+lds p c h.Volumes
theorem G4{t:aN}{c:Cap}(e:pH t.aF)(g:c.Corners.length<=12)(u:t.Built.length<=1000)(m:t.Base.length<=1000):qO t c=some (loadT t c):=by
 unfold qO;rw[Fo m];have w:=xP c t.Base;have⟨f,h1,x,y⟩:=cE (body:=pX t c) (λi s=>s.2=i/\s.1=nmd t.Base c+lds t.aF c ((t.Built.take i).map (·.aA))) t.Built.length (λf=>match f with| .ex _ s=>s.1=loadT t c|_=>False) (λi s hi⟨h,I⟩=>by
 unfold pX;have q:=LS (v:=t.Built[i].aA) e g;have z:=Bw e g ((t.Built.take i).map (·.aA));have j:((t.Built.take i).map (·.aA)).length<=1000:=by simp;omega
 rw[h,if_pos (by simpa using hi),ai hi,qb,q.1,qb,I,cS (by constructor<;>omega),aj (by omega),dz hi,iu];simp[lds];omega) (λs ⟨h,I⟩=>by unfold pX;rw[h,if_neg (by simp)];rw[cQ]at I;exact⟨_,rfl,trivial,I⟩) (nmd t.Base c,0) ⟨rfl,by simp[lds]⟩ (t.Built.length+1) (by omega);grind
theorem GA{p:aF}{c:Cap}{h:Phase}(g:pH p)(j:c.Corners.length<=12)(w:h.Volumes.length<=1000)(q:h.bh.length<=1000):ur p c h=some (phL p c h):=by
 unfold ur;have x:=xP c h.bh;rw[Fo q,qb,da (by constructor<;>omega)];have⟨f,h1,y,z⟩:=cE (body:=oH p c h) (λi s=>s.2=i/\s.1=-(nmd h.bh c)+lds p c (h.Volumes.take i)) h.Volumes.length (λf=>match f with| .ex _ s=>s.1=phL p c h|_=>False) (λi s hi⟨e,I⟩=>by
 unfold oH;have u:=LS (v:=h.Volumes[i]) g j;have E:=Bw g j (h.Volumes.take i);have m:(h.Volumes.take i).length<=1000:=by simp;omega
 rw[e,if_pos (by simpa using hi),ai hi,qb,u.1,qb,I,cS (by constructor<;>omega),aj (by omega),dz hi,OM];simp[lds];omega) (λs ⟨e,I⟩=>by unfold oH;rw[e,if_neg (by simp)];rw[cQ]at I;exact⟨_,rfl,trivial,I⟩) (0-nmd h.bh c,0) ⟨rfl,by simp[lds]⟩ (h.Volumes.length+1) (by omega);grind
def after(t:aN)(e:Int)(h:Phase):aN:={t with Built:=t.Built++h.Volumes.map (λv=>(⟨e,v⟩:cd)),Base:=t.Base++h.bh.map (λg=>(⟨g.Name,-(lmd g.N)⟩:Entry))}
theorem fg{e:Type}{s:List e}(h:s.length<=1000000):eH [] s=some s:=by rw[bP (by simp;omega),gz]
theorem Md{t:aN}{e:Int}{h:Phase}(q:t.Built.length+h.Volumes.length<=1000)(x:t.Base.length+h.bh.length<=1000):jO t e h=some (after t e h):=by unfold jO dD cg;rw[fg (by omega),qb,qb,fg (by omega),qb,qb];obtain⟨f,h1,u,m⟩:=cE (body:=iD e h) (λi s=>s.2=((i:Nat):Int)/\s.1={t with Built:=t.Built++(h.Volumes.take i).map (λv=>(⟨e,v⟩:cd))}) h.Volumes.length (λf=>match f with| .ex _ s=>s.1={t with Built:=t.Built++h.Volumes.map _}|_=>False) (λi s hi⟨j,I⟩=>by unfold iD;rw[j,if_pos (by simpa using hi),ai hi,qb,I];dsimp only;rw[bP (by simp;omega),qb,aj (by omega)];refine .inl ⟨_,rfl,rfl,?_⟩;rw[dz hi,iu,dH];rfl) (λs⟨j,I⟩=>by unfold iD;rw[j,if_neg (by simp)];rw[cQ]at I;exact⟨_,rfl,trivial,I⟩) (t,0) ⟨rfl,by simp⟩ (h.Volumes.length+1) (by omega);rw[h1,qb];cases f with|go _=>exact u.elim;|ret _=>exact m.elim;|ex _ s=>have m:s.1={t with Built:=t.Built++h.Volumes.map _}:=m;dsimp only;rw[m];obtain⟨f,g1,g2,g3⟩:=cE (body:=il h) (λi s=>s.2=((i:Nat):Int)/\s.1={t with Built:=t.Built++h.Volumes.map (λv=>(⟨e,v⟩:cd)),Base:=t.Base++(h.bh.take i).map (λg=>(⟨g.Name,-(lmd g.N)⟩:Entry))}) h.bh.length (λf=>match f with| .ex _ s=>s.1=after t e h|_=>False) (λi s hi⟨j,I⟩=>by unfold il;have q:=H5 h.bh[i].N;rw[j,if_pos (by simpa using hi),ai hi,qb,NW,qb,da (by constructor<;>omega),qb,I];dsimp only;rw[bP (by simp;omega),qb,aj (by omega)];refine .inl ⟨_,rfl,rfl,?_⟩;rw[dz hi,iu,dH,Int.zero_sub];rfl) (λs⟨j,I⟩=>by unfold il;rw[j,if_neg (by simp)];rw[cQ]at I;exact⟨_,rfl,trivial,I⟩) ({t with Built:=t.Built++h.Volumes.map (λv=>(⟨e,v⟩:cd))},0) ⟨rfl,by simp⟩ (h.bh.length+1) (by omega);grind
def PhS(h:Phase):Prop:=h.Volumes.length<=2/\h.bh.length<=3
def RtS(r:ax):Prop:=r.aG.Phases.length<=4/\∀h∈r.aG.Phases,PhS h
def liv(r:ax):Bool:=((!r.Over)&&(decide (0<=r.Used)))&&(decide (r.Used<(r.aG.Phases.length:Int)))
def lft(r:ax):List Phase:=if liv r=true then r.aG.Phases.drop r.Used.toNat else[]
theorem JU{l:List Phase}(h:l.length<=1000)(j:∀m∈l,PhS m):mR l=some l:=by unfold mR;obtain⟨f,h1,w,x⟩:=cE (body:=jA l) (λi s=>s.2=i/\s.1=l.take i) l.length (λf=>match f with| .ex _ s=>s.1=l|_=>False) (λi s hi⟨e,I⟩=>by have g:=j _ (aT hi);have q:=g.1;have u:=g.2;unfold jA eu cg;rw[e,if_pos (by simpa using hi),ai hi,qb,fg (by omega),qb,qb,fg (by omega),qb,qb,I,bP (by simp;omega),aj (by omega)];refine .inl ⟨_,rfl,rfl,?_⟩;rw[dz hi]) (λs ⟨e,I⟩=>by unfold jA;rw[e,if_neg (by simp)];rw[cQ]at I;exact⟨_,rfl,trivial,I⟩) ([],0) ⟨rfl,by simp⟩ (l.length+1) (by omega);grind
theorem pR{r:ax}{e:Phase}(h:e∈lft r):e∈r.aG.Phases:=by
 unfold lft at h;split at h;.exact qD h
 .simp at h
theorem sC{r:ax}(h:RtS r):(lft r).length<=4:=by
 have:=h.1;unfold lft;split;.simp;omega
 .simp
theorem Ek{r:ax}(h:RtS r):nH r=some (lft r):=by
 have m:=h.1;show(if(!(liv r))=true then _ else _)=_;by_cases f:liv r=true;.rw[if_neg (by simp[f])];have e:=f;unfold liv at e;simp at e;rw[lg e.1.2 (by omega) (by omega),qb,nP,cQ];unfold lft;rw[if_pos f,JU (by simp;omega) λg j=>h.2 g (qD j),qb]
 .rw[if_pos (by simpa using f)];unfold lft;rw[if_neg f]
theorem Nw{p:aF}{c:Cap}{e:Phase}(f:pH p)(g:c.Corners.length<=12)(h:PhS e):-10995116277760<=phL p c e/\phL p c e<=10995116277760:=by have h1:=xP c e.bh;have j:=Bw f g e.Volumes;have m:=h.1;have q:=h.2;unfold phL;constructor<;>omega
theorem Nu{p:aF}{c:Cap}{r:ax}(g:pH p)(j:c.Corners.length<=12)(h:RtS r):qu p c r=some ((lft r).map (phL p c)):=by have m:=sC h;unfold qu;rw[Ek h];obtain⟨f,h1,u,w⟩:=cE (body:=oG p c (lft r)) (λi s=>s.2=i/\s.1=((lft r).take i).map (phL p c)) (lft r).length (λf=>match f with| .ex _ s=>s.1=(lft r).map _|_=>False) (λi s hi ⟨e,I⟩=>by have q:=h.2 _ (pR (aT hi));unfold oG;rw[e,if_pos (by simpa using hi),ai hi,qb,GA g j (by have:=q.1;omega) (by have:=q.2;omega),qb,I,bP (by simp;omega),aj (by omega)];refine .inl ⟨_,rfl,rfl,?_⟩;rw[dz hi,iu];rfl) (λs⟨e,I⟩=>by unfold oG;rw[e,if_neg (by simp)];rw[cQ]at I;exact⟨_,rfl,trivial,I⟩) ([],0) ⟨rfl,by simp⟩ ((lft r).length+1) (by omega);grind
def qz:Int->List Int->List Int|_,[]=>[]|a,x::l=>(a+x)::qz (a+x) l
theorem qC:∀(a:Int)(l:List Int),(qz a l).length=l.length|_,[]=>rfl|a,x::l=>by simp[qz,qC]
theorem Cd:∀(a:Int)(l:List Int)(x:Int),qz a (l++[x])=qz a l++[a+l.sum+x]|a,[],x=>by simp[qz];|a,y::l,x=>by simp[qz,Cd (a+y) l x];rw[Int.add_assoc a y l.sum]
theorem xk:∀(a:Int)(l:List Int)(k:Nat)(h:k<(qz a l).length),(qz a l)[k]=a+(l.take (k+1)).sum|a,[],k,h=>by simp[qz]at h;|a,x::l,0,h=>by simp[qz];|a,x::l,k+1,h=>by simp[qz];rw[xk (a+x) l k (by simpa[qz]using h),Int.add_assoc]
def pk(l:List Int):Int:=(qz 0 l).foldl max 0
theorem Jb:∀(l:List Int)(m:Int),m<=l.foldl max m/\∀x∈l,x<=l.foldl max m|[],m=>⟨gd _,λx h=>by simp at h⟩|y::l,m=>by have e:=Jb l (max m y);grind
theorem ED:∀(l:List Int)(m:Int),l.foldl max m=m∨l.foldl max m∈l
 |[],m=> .inl rfl|y::l,m=>by
  rcases ED l (max m y)with h|h
  · rw[lX,h];by_cases e:m<=y;.right;rw[Int.max_eq_right e];exact dU
    .left;exact Int.max_eq_left (by omega)
  grind
theorem SA(l:List Int)(k:Nat)(h:k<=l.length):(l.take k).sum<=pk l:=by unfold pk;have f:=Jb (qz 0 l) 0;cases k with|zero=>simpa using f.1;|succ k=>
 have hk:k<(qz 0 l).length:=by rw[qC];omega
 have:=f.2 _ (aT hk);rw[xk]at this;simpa using this
theorem Sw(l:List Int):∃k,k<=l.length/\pk l=(l.take k).sum:=by
 unfold pk;rcases ED _ 0 with h|h;.exact⟨0,by omega,by simpa using h⟩
 .obtain⟨k,hk,e⟩:=bz h;rw[xk,Int.zero_add]at e;exact⟨k+1,by rw[qC]at hk;omega,e.symm⟩
theorem Ib{B:Int}:∀{l:List Int},(∀x∈l,-B<=x/\x<=B)->0<=B->-(B*(l.length:Int))<=l.sum/\l.sum<=B*(l.length:Int)
 |[],_,_=>by simp;|x::l,h,f=>by
  have j:=Ib (λy g=>h y (bA _ g)) f;have m:=h x dU;have e:B*((x::l).length)=B*l.length+B:=by rw[fM];push_cast;rw[Int.mul_add,Int.mul_one]
  rw[List.sum_cons];omega
theorem GR{l:List Int}(h:l.length<=100)(g:∀x∈l,-10995116277760<=x/\x<=10995116277760):kE l=some (0::qz 0 l):=by unfold kE;obtain⟨f,h1,y,E⟩:=cE (body:=hM l) (λi s=>s.2=i/\s.1=0::qz 0 (l.take i)) l.length (λf=>match f with| .ex _ s=>s.1=0::qz 0 l|_=>False) (λi s hi ⟨e,I⟩=>by
 unfold hM;have j:=g _ (aT hi);have u:=Ib (l:=l.take i) (λx j=>g x (pA j)) (by omega);have q:(l.take i).length=i:=by simp;omega
 have w:aR s.1 i=some ((l.take i).sum):=by rw[I,ai (by simp[qC];omega)];cases i with|zero=>simp;|succ i=>rw[List.getElem_cons_succ,xk,Int.zero_add,mc,Nat.min_self]
 rw[e,if_pos (by simpa using hi),ai hi,qb,w,qb,cS (by constructor<;>omega),qb,I,bP (by simp[qC];omega),aj (by omega)];refine .inl ⟨_,rfl,rfl,?_⟩;rw[dz hi,Cd,Int.zero_add,qR]) (λs⟨e,I⟩=>by unfold hM;rw[e,if_neg (by simp)];rw[cQ]at I;exact⟨_,rfl,trivial,I⟩) ([0],0) ⟨rfl,by simp[qz]⟩ (l.length+1) (by omega);grind
theorem max_eq{x:Int}{l:List Int}(h:l.length<=1000):me (x::l)=some (l.foldl max x):=by unfold me;rw[show(0:Int)=(0:Nat)from rfl,ai (by simp)];obtain⟨f,h1,g,j⟩:=cE (body:=iP (x::l)) (λi s=>s.2=(i+1:Nat)/\s.1=(l.take i).foldl max x) l.length (λf=>match f with| .ex _ s=>s.1=l.foldl max x|_=>False) (λi s hi⟨e,I⟩=>by unfold iP;rw[e,if_pos (by simp;omega),ai (by simp;omega),aj (by omega)];refine .inl ⟨_,rfl,rfl,?_⟩;rw[dz hi,uY,<-I];rfl) (λs⟨e,I⟩=>by unfold iP;rw[e,if_neg (by simp)];rw[cQ]at I;exact⟨_,rfl,trivial,I⟩) (x,1) ⟨rfl,by simp⟩ ((x::l).length+1) (by simp;omega);grind
def top(p:aF)(c:Cap)(r:ax):Int:=pk ((lft r).map (phL p c))
theorem RA{p:aF}{c:Cap}{r:ax}(f:pH p)(g:c.Corners.length<=12)(h:RtS r):nV ((lft r).map (phL p c))=some (top p c r):=by have j:=sC h;unfold nV;rw[GR (by simp;omega) (λx m=>by obtain⟨q,e,rfl⟩:=aS.1 m;exact Nw f g (h.2 q (pR e))),qb,max_eq (by rw[qC];simp;omega)];rfl
theorem JH{t:aN}{g:List ax}{c:Cap}(j:pH t.aF)(m:c.Corners.length<=12)(u:t.Built.length<=1000)(w:t.Base.length<=1000)(x:g.length<=1000)(h:∀r∈g,RtS r):pc t g c=some ⟨c.Name,loadT t c,g.map (top t.aF c)⟩:=by unfold pc;rw[G4 j m u w];obtain⟨f,h1,y,z⟩:=cE (body:=nY t g c) (λi s=>s.2=i/\s.1=⟨c.Name,loadT t c,(g.take i).map (top t.aF c)⟩) g.length (λf=>match f with| .ex _ s=>s.1=⟨c.Name,loadT t c,g.map _⟩|_=>False) (λi s hi ⟨e,I⟩=>by have q:=h _ (aT hi);unfold nY;rw[e,if_pos (by simpa using hi),ai hi,qb,Nu j m q,qb,RA j m q,qb,I,bP (by simp;omega),aj (by omega)];refine .inl ⟨_,rfl,rfl,?_⟩;rw[dz hi,iu];rfl) (λs⟨e,I⟩=>by unfold nY;rw[e,if_neg (by simp)];rw[cQ]at I;exact⟨_,rfl,trivial,I⟩) (⟨c.Name,loadT t c,[]⟩,0) ⟨rfl,by simp⟩ (g.length+1) (by omega);grind
theorem nc{α:Type}{o:Option α}{d:α}(h:Tot o):o=some (o.getD d):=by obtain⟨x,rfl⟩:=h;rfl
def rgt(v:aA):Bool:=(hK v).getD false
theorem NK(v:aA):hK v=some (rgt v):=nc (Tot.pure _)
def sld(v:aA):List cf:=[⟨v.Box.Z0,v.Box.Z1,[v.Box.Base]⟩]
def ovl(a b:aA):Bool:=(ji a b).getD false
theorem N4(a b:aA):ji a b=some (ovl a b):=nc (by unfold ji;rw[NK,qb];exact Tot.bind (Tot.ite (λ _=>Tot.pure _) λ _=>Tot.pure _) λ _ _=>Tot.ite (λ _=>Tot.pure _) λ _=>Tot.bind (CX _ _) λ _ _=>Tot.pure _)
def Gc(s:List cf)(p d:bd):Bool:=(mD s p d).getD false
def FO(s:List cf)(p q:bd):Bool:=(gm s p q).getD false
def Hg(s:List cf):Prop:=∀b∈s,b.Area.length<=100000
theorem wm(v:aA):Hg (sld v):=λb hb=>by rw[fi.1 hb];simp
theorem DP{s:List cf}(h:Hg s)(p d:bd):mD s p d=some (Gc s p d):=nc (let⟨r,hr,_⟩:=Ss h;⟨r,hr⟩)
theorem Dj{s:List cf}(h:Hg s)(p q:bd):gm s p q=some (FO s p q):=nc (let⟨r,hr,_⟩:=IE h;⟨r,hr⟩)
theorem BM{s:List (List cf)}{f:List cf->Option Bool}{g:List cf->Bool}(hl:s.length<=1000000)(hf:∀x∈s,f x=some (g x)):gk s f=some (s.any g):=uP hl hf
theorem vu{s:List cd}{f:cd->Option Bool}{g:cd->Bool}(hl:s.length<=1000000)(hf:∀x∈s,f x=some (g x)):fH s f=some (s.any g):=uP hl hf
def lC(l:List cd)(β:Int->Bool):List (List cf):=(l.filter λb=>rgt b.aA&&!β b.Lot).map λb=>sld b.aA
theorem Lm(l:List cd)(b:cd)(β:Int->Bool):lC (l++[b]) β=lC l β++(if(rgt b.aA&&!β b.Lot)=true then[sld b.aA]else[]):=by unfold lC;grind
theorem wD(l:List cd)(β:Int->Bool):(lC l β).length<=l.length:=by unfold lC;rw[nI];exact uy _ _
theorem qA{t:aN}{but:Int->Option Bool}{β:Int->Bool}(hl:t.Built.length<=1000)(hb:∀x,but x=some (β x)):iF t but=some (lC t.Built β):=by
 unfold iF;have⟨f,h1,h2,h3⟩:=cE (body:=jy t but) (λi s=>s.2=i/\s.1=lC (t.Built.take i) β) t.Built.length (λf=>match f with| .ex _ s=>s.1=lC t.Built β|_=>False) (λi s hi⟨hs',hI⟩=>by
 unfold jy;have hlen:=wD (t.Built.take i) β;have hlt:(t.Built.take i).length<=1000:=by simp;omega
 rw[hs',if_pos (by simpa using hi),ai hi,qb,NK,qb,hb,qb];have e:(if rgt t.Built[i].aA=true then some (!β t.Built[i].Lot)else some false)=some (rgt t.Built[i].aA&&!β t.Built[i].Lot):=by cases rgt t.Built[i].aA<;>rfl
 rw[e,qb];have hst:lC (t.Built.take (i+1)) β=s.1++(if(rgt t.Built[i].aA&&!β t.Built[i].Lot)=true then[sld t.Built[i].aA]else[]):=by rw[dz hi,Lm,hI]
 by_cases hc:(rgt t.Built[i].aA&&!β t.Built[i].Lot)=true;.rw[if_pos hc];unfold sa;rw[qb,bP (by rw[hI];simp;omega),aj (by omega)];exact .inl ⟨_,rfl,rfl,by rw[hst,if_pos hc];rfl⟩
 .rw[if_neg hc,aj (by omega)];exact .inl ⟨_,rfl,rfl,by rw[hst,if_neg hc,nf]⟩) (λs ⟨hs',hI⟩=>by unfold jy;rw[hs',if_neg (by simp)];rw[cQ]at hI;exact⟨_,rfl,trivial,hI⟩) ([],0) ⟨rfl,rfl⟩ (t.Built.length+1) (by omega);grind
def pU(ps:List bd)(ss:List (List cf))(g:List cf->bd->Bool):Nat:=ps.countP λp=>!(ss.any λs=>g s p)
theorem zy{ps:List bd}{ss:List (List cf)}{f:List cf->bd->Option Bool}{g:List cf->bd->Bool}(hp:ps.length<=1000)(hs:ss.length<=1000)(hf:∀s∈ss,∀p,f s p=some (g s p)):
 jv ps ss f=some (pU ps ss g:Int):=by unfold jv;have⟨fl,h1,h2,h3⟩:=cE (body:=lS ps ss f) (λi s=>s.2=i/\s.1=(pU (ps.take i) ss g)) ps.length (λf=>match f with| .ex _ s=>s.1=(pU ps ss g)|_=>False) (λi s hi ⟨hs',hI⟩=>by
 unfold lS;rw[hs',if_pos (by simpa using hi),ai hi,qb,BM (by omega) (λs hs=>by unfold qh;rw[hf s hs,qb]),qb];have hst:pU (ps.take (i+1)) ss g=pU (ps.take i) ss g+(if(!(ss.any λs=>g s ps[i]))=true then 1 else 0):=by unfold pU;rw[dz hi,List.countP_append,List.countP_singleton]
 have hle:pU (ps.take i) ss g<=1000:=by refine bq (List.countP_le_length) (by simp;omega)
 by_cases hc:(!(ss.any λs=>g s ps[i]))=true;.rw[if_pos hc,hI,aj (by omega),aj (by omega)];exact .inl ⟨_,rfl,rfl,by rw[hst,if_pos hc]⟩
 .rw[if_neg hc,aj (by omega)];exact .inl ⟨_,rfl,rfl,by rw[hst,if_neg hc];exact hI⟩) (λs⟨hs',hI⟩=>by unfold lS;rw[hs',if_neg (by simp)];rw[cQ]at hI;exact⟨_,rfl,trivial,hI⟩) (0,0) ⟨rfl,by simp[pU]⟩ (ps.length+1) (by omega);grind
def xV(t:aN)(w:fu):Nat:=pU t.aF.Sun (lC t.Built λlot=>lot==w.Lot) λs d=>Gc s w.At d
def tX(t:aN)(w:View):Nat:=pU w.Targets (lC t.Built λ_=>false) λs q=>FO s w.Eye q
def Iz(t:aN):Prop:=(∀w∈t.Windows,t.aF.Hours<=(xV t w:Int))/\(∀w∈t.aF.Views,w.Least<=(tX t w:Int))/\(t.Built.map (·.aA)).Pairwise λa b=>ovl a b=false
structure rp(t:aN):Prop where
 plan:pH t.aF
 wM:t.aF.Caps.length<=1000cap:∀c∈t.aF.Caps,c.Corners.length<=12sun:t.aF.Sun.length<=1000views:t.aF.Views.length<=1000view:∀w∈t.aF.Views,w.Targets.length<=1000wins:t.Windows.length<=1000
theorem FJ{t:aN}(h:rp t)(U:t.Built.length<=1000):∃x,dP t=some x/\(x.2=true↔Iz t)/\(x.2=true->x.1.Kind=0)/\(x.2=false->x.1.Kind=2∨x.1.Kind=3∨x.1.Kind=5)/\(¬(∀w∈t.Windows,t.aF.Hours<=(xV t w:Int))->∃i:Nat,i<t.Windows.length/\x=(⟨2,⟨#[]⟩,(i:Int)⟩,false)):=by
 have M:=h.wins;have hv:=h.views;have H:=h.sun;unfold dP;obtain⟨f,h1,h2,O⟩:=cE (body:=eD t) (λi s=>s.1=((i:Nat):Int)/\∀m(u:m<t.Windows.length),m<i->t.aF.Hours<=(xV t t.Windows[m]:Int)) t.Windows.length (λf=>match f with| .ex _ _=>∀w∈t.Windows,t.aF.Hours<=(xV t w:Int)| .ret r=>(∃i:Nat,i<t.Windows.length/\r=(⟨2,⟨#[]⟩,(i:Int)⟩,false))/\∃w∈t.Windows,¬t.aF.Hours<=(xV t w:Int)| .go _=>False) (λi s hi⟨z,I⟩=>by
 unfold eD;have P:(lC t.Built λE=>E==t.Windows[i].Lot).length<=1000:=bq (wD _ _) U;have F:∀s∈(lC t.Built λE=>E==t.Windows[i].Lot),Hg s:=λs H=>by unfold lC at H;obtain⟨b,_,rfl⟩:=aS.1 H;exact wm _
 rw[z,if_pos (by simpa using hi),ai hi,qb,qA (but:=λQ=>iX Q t.Windows[i]) (β:=λE=>E==t.Windows[i].Lot) U (λx=>rfl),qb,zy (f:=λQ W=>fG Q W t.Windows[i]) (g:=λs d=>Gc s t.Windows[i].At d) H P (λs H p=>by unfold fG;rw[DP (F s H),qb]),qb];by_cases J:((pU t.aF.Sun (lC t.Built λE=>E==t.Windows[i].Lot) λs d=>Gc s t.Windows[i].At d:Nat):Int)<t.aF.Hours;·rw[if_pos (by simpa using J)];exact .inr ⟨_,rfl,trivial,⟨i,hi,rfl⟩,_,aT hi,by unfold xV;omega⟩
 · rw[if_neg (by simpa using J),aj (by omega)];refine .inl ⟨_,rfl,rfl,λm u R=>?_⟩;by_cases e:m=i;.subst e;unfold xV;omega
   .exact I m u (by omega)) (λs⟨z,I⟩=>by unfold eD;rw[z,if_neg (by simp)];refine⟨_,rfl,trivial,λw M=>?_⟩;obtain⟨m,u,rfl⟩:=bz M;exact I m u u) ((0,_):Int×bZ) ⟨rfl,λm _ h=>by omega⟩ (t.Windows.length+1) (by omega);rw[h1,qb];cases f with|go _=>exact h2.elim;|ret r=>obtain⟨⟨i,hi,rfl⟩,w,M,T⟩:=O;exact⟨_,rfl,⟨λh=>by simp at h,λh=>absurd (h.1 w M) T⟩,λh=>by simp at h,λ _=> .inl rfl,λ _=>⟨i,hi,rfl⟩⟩;|ex _ s0=>
 have O:∀w∈t.Windows,t.aF.Hours<=(xV t w:Int):=O;dsimp only;rw[qA (but:=iY) (β:=λ _=>false) U (λx=>rfl),qb];have P:(lC t.Built λ _=>false).length<=1000:=bq (wD _ _) U;have F:∀s∈(lC t.Built λ _=>false),Hg s:=λs H=>by unfold lC at H;obtain⟨b,_,rfl⟩:=aS.1 H;exact wm _
 obtain⟨f,g1,g2,g3⟩:=cE (body:=eG t _) (λi s=>s.1=((i:Nat):Int)/\∀m(u:m<t.aF.Views.length),m<i->t.aF.Views[m].Least<=(tX t t.aF.Views[m]:Int)) t.aF.Views.length (λf=>match f with| .ex _ _=>∀w∈t.aF.Views,w.Least<=(tX t w:Int)| .ret r=>r.2=false/\r.1.Kind=3/\∃w∈t.aF.Views,¬w.Least<=(tX t w:Int)| .go _=>False) (λi s hi ⟨z,I⟩=>by
 unfold eG;rw[z,if_pos (by simpa using hi),ai hi,qb,zy (f:=λQ W=>fP Q W t.aF.Views[i]) (g:=λs q=>FO s t.aF.Views[i].Eye q) (h.view _ (aT hi)) P (λs H p=>by unfold fP;rw[Dj (F s H),qb]),qb];by_cases J:((pU t.aF.Views[i].Targets (lC t.Built λ _=>false) λs q=>FO s t.aF.Views[i].Eye q:Nat):Int)<t.aF.Views[i].Least;·rw[if_pos (by simpa using J)];exact .inr ⟨_,rfl,trivial,rfl,rfl,_,aT hi,by unfold tX;omega⟩
 · rw[if_neg (by simpa using J),aj (by omega)];refine .inl ⟨_,rfl,rfl,λm u R=>?_⟩;by_cases e:m=i;.subst e;unfold tX;omega
   .exact I m u (by omega)) (λs⟨z,I⟩=>by unfold eG;rw[z,if_neg (by simp)];refine⟨_,rfl,trivial,λw M=>?_⟩;obtain⟨m,u,rfl⟩:=bz M;exact I m u u) (0,s0.2) ⟨rfl,λm _ h=>by omega⟩ (t.aF.Views.length+1) (by omega);rw[g1,qb];cases f with
 |go _=>exact g2.elim;|ret r=>obtain⟨a,b,w,M,T⟩:=g3;exact⟨r,rfl,⟨λh=>by rw[a]at h;simp at h,λh=>absurd (h.2.1 w M) T⟩,λh=>by rw[a]at h;simp at h,λ _=> .inr (.inl b),λh=>absurd O h⟩
 |ex _ s1=>have g3:∀w∈t.aF.Views,w.Least<=(tX t w:Int):=g3;dsimp only;obtain⟨f,k1,k2,k3⟩:=cE (body:=eA t) (λi s=>s.1=((i:Nat):Int)/\∀m(u:m<t.Built.length),m<i->∀j(G:j<m),ovl t.Built[j].aA t.Built[m].aA=false) t.Built.length (λf=>match f with| .ex _ _=>∀m(u:m<t.Built.length)j(G:j<m),ovl t.Built[j].aA t.Built[m].aA=false| .ret r=>r.2=false/\r.1.Kind=5/\∃m,∃u:m<t.Built.length,∃j,∃G:j<m,ovl t.Built[j].aA t.Built[m].aA=true| .go _=>False) (λi s hi⟨z,I⟩=>by unfold eA;rw[z,if_pos (by simpa using hi),ai hi,qb,lg (by omega) (by omega) (by omega),qb,show(t.Built.take (i:Int).toNat).drop (0:Int).toNat=t.Built.take i by simp,vu (f:=λQ=>gu Q t.Built[i]) (g:=λa=>ovl a.aA t.Built[i].aA) (by simp;omega) (λa _=>by unfold gu;rw[N4,qb]),qb];cases J:(t.Built.take i).any λa=>ovl a.aA t.Built[i].aA with
 |true=>
 rw[if_pos rfl];rw[mZ]at J;obtain⟨y,hy,ht⟩:=J;obtain⟨j,G,rfl⟩:=bz hy;have hj':j<i:=by simp at G;omega
 rw[uV]at ht;exact .inr ⟨_,rfl,trivial,rfl,rfl,i,hi,j,hj',ht⟩|false=>
 rw[if_neg (by simp),aj (by omega)];rw[ko]at J;refine .inl ⟨_,rfl,rfl,λm u R j G=>?_⟩;by_cases e:m=i;·subst e;have:=J t.Built[j] (List.mem_take_iff_getElem.2 ⟨j,by omega,rfl⟩);simpa using this
 .exact I m u (by omega) j G) (λs ⟨z,I⟩=>by unfold eA;rw[z,if_neg (by simp)];exact⟨_,rfl,trivial,λm u j G=>I m u u j G⟩) (0,s1.2) ⟨rfl,λm _ h=>by omega⟩ (t.Built.length+1) (by omega);rw[k1,qb];cases f with|go _=>exact k2.elim;|ret r=>obtain⟨a,b,m,u,j,G,T⟩:=k3;refine⟨r,rfl,⟨λh=>by rw[a]at h;simp at h,λh=>?_⟩,λh=>by rw[a]at h;simp at h,λ _=> .inr (.inr b),λh=>absurd O h⟩;have:=gf.1 h.2.2 j m (by simp;omega) (by simpa using u) G;simp only[uL]at this;rw[T]at this;simp at this|ex _ _=>have k3:∀m(u:m<t.Built.length)j(G:j<m),ovl t.Built[j].aA t.Built[m].aA=false:=k3;refine⟨_,rfl,⟨λ _=>⟨O,g3,gf.2 λj m G u hjm=>?_⟩,λ _=>rfl⟩,λ _=>rfl,λh=>by simp at h,λh=>absurd O h⟩;simp only[uL];exact k3 m (by simpa using u) j hjm
def yR(r:ax)(t:aN):aN:=(lft r).foldl (λu h=>after u r.aG.Lot h) t
def lP(g:List ax)(t:aN):aN:=g.foldl (λu r=>yR r u) t
theorem Kl{t:aN}{lot:Int}{e:Phase}(h:PhS e):(after t lot e).Built.length<=t.Built.length+2/\(after t lot e).Base.length<=t.Base.length+3:=by have h1:=h.1;have f:=h.2;unfold after;simp;omega
theorem xI{lot:Int}:∀{l:List Phase}{t:aN},(∀e∈l,PhS e)->(l.foldl (λu e=>after u lot e) t).Built.length<=t.Built.length+2*l.length/\(l.foldl (λu e=>after u lot e) t).Base.length<=t.Base.length+3*l.length|[],t,_=>by simp;|e::l,t,h=>by have h1:=Kl (t:=t) (lot:=lot) (h e dU);have g:=xI (lot:=lot) (t:=after t lot e) λq f=>h q (bA _ f);simp;omega
theorem Kw{r:ax}{t:aN}(h:RtS r):(yR r t).Built.length<=t.Built.length+8/\(yR r t).Base.length<=t.Base.length+12:=by have j:=sC h;have:=xI (lot:=r.aG.Lot) (t:=t) λf g=>h.2 f (pR g);unfold yR;omega
theorem um:∀{rights:List ax}{t:aN},(∀r∈rights,RtS r)->(lP rights t).Built.length<=t.Built.length+8*rights.length/\(lP rights t).Base.length<=t.Base.length+12*rights.length|[],t,_=>by simp[lP];|r::rights,t,h=>by have h1:=Kw (t:=t) (h r dU);have e:=um (t:=yR r t) λq f=>h q (bA _ f);simp[lP]at e⊢;omega
def fA(lot:Int)(l:List Phase)(t:aN):aN:=l.foldl (λu ph=>after u lot ph) t
theorem PH(lot:Int)(l:List Phase)(ph:Phase)(t:aN):fA lot (l++[ph]) t=after (fA lot l t) lot ph:=by simp[fA]
theorem Jw(lot:Int):∀(l:List Phase)(t:aN),(fA lot l t).aF=t.aF/\(fA lot l t).Windows=t.Windows|[],t=>⟨rfl,rfl⟩|ph::l,t=>Jw lot l _
theorem Fu(lot:Int):∀(l:List Phase)(t:aN),(fA lot l t).Built=t.Built++l.flatMap λph=>ph.Volumes.map λv=>(⟨lot,v⟩:cd)|[],t=>by simp[fA];|ph::l,t=>by show(fA lot l _).Built=_;rw[Fu lot l _];simp[after]
theorem vU:∀(rights:List ax)(t:aN),(lP rights t).aF=t.aF/\(lP rights t).Windows=t.Windows|[],t=>⟨rfl,rfl⟩|r::rights,t=>by have h1:=Jw r.aG.Lot (lft r) t;have ih:=vU rights (yR r t);exact⟨ih.1.trans h1.1,ih.2.trans h1.2⟩
theorem rp.of{t u:aN}(h:rp t)(hp:u.aF=t.aF)(hw:u.Windows=t.Windows):rp u:=by have⟨a,b,c,d,e,f,g⟩:=h;exact⟨hp▸a,by rw[hp];exact b,by rw[hp];exact c,by rw[hp];exact d,by rw[hp];exact e,by rw[hp];exact f,by rw[hw];exact g⟩
theorem LO{r:ax}{t:aN}(h:RtS r)(hb:t.Built.length<=900)(hs:t.Base.length<=900):∃n,ar (iZ r (lft r)) ((lft r).length+1) (0,t)=some (.ex 2 (n,yR r t)):=by have h4:=sC h;have⟨f,h1,h2,h3⟩:=cE (body:=iZ r (lft r)) (λi s=>s.1=i/\s.2=fA r.aG.Lot ((lft r).take i) t) (lft r).length (λf=>∃n,f= .ex 2 (n,yR r t)) (λi s hi⟨hs',hI⟩=>by
 have hq:=h.2 _ (pR (aT hi));have hl:=xI (lot:=r.aG.Lot) (l:=(lft r).take i) (t:=t) λph hp=>h.2 ph (pR (pA hp));have hlt:((lft r).take i).length<=4:=by simp;omega
 have hq1:=hq.1;have hq2:=hq.2;unfold iZ;rw[hs',if_pos (by simpa using hi),ai hi,qb,hI,Md (by unfold fA;omega) (by unfold fA;omega),aj (by omega)];refine .inl ⟨_,rfl,rfl,?_⟩;rw[dz hi,PH]) (λs⟨hs',hI⟩=>by have⟨s1,s2⟩:=s;unfold iZ;rw[if_neg (by rw[hs'];simp)];rw[cQ]at hI;exact⟨_,rfl,trivial,s1,by rw[hI];rfl⟩) (0,t) ⟨rfl,rfl⟩ ((lft r).length+1) (by omega);obtain⟨n,rfl⟩:=h3;exact⟨n,h1⟩
theorem Jn{t:aN}{rights:List ax}(hr:rights.length<=10)(h:∀r∈rights,RtS r)(hb:t.Built.length<=100)(hs:t.Base.length<=100):lz t rights=some (lP rights t):=by unfold lz dD cg;rw[fg (by omega),qb,qb,fg (by omega),qb,qb];have⟨f,h1,h2,h3⟩:=cE (body:=lL rights) (λi s=>s.1=i/\s.2=lP (rights.take i) t) rights.length (λf=>match f with| .ex _ s=>s.2=lP rights t|_=>False) (λi s hi⟨hs',hI⟩=>by
 have hq:=h _ (aT hi);have hl:=um (rights:=rights.take i) (t:=t) λr hr=>h r (pA hr);have hlt:(rights.take i).length<=10:=by simp;omega
 unfold lL;have⟨n,hn⟩:=LO (t:=s.2) hq (by rw[hI];omega) (by rw[hI];omega);rw[hs',if_pos (by simpa using hi),ai hi,qb,Ek hq,qb,hn,aj (by omega)];refine .inl ⟨_,rfl,rfl,?_⟩;rw[dz hi,hI];unfold lP;rw[uY];rfl) (λs⟨hs',hI⟩=>by unfold lL;rw[hs',if_neg (by simp)];rw[cQ]at hI;exact⟨_,rfl,trivial,hI⟩) (0,t) ⟨rfl,rfl⟩ (rights.length+1) (by omega);rw[h1];grind
theorem LP{p:aF}{c:Cap}{r:ax}(hp:pH p)(hc:c.Corners.length<=12)(h:RtS r):0<=top p c r/\top p c r<=43980465111040:=by
 have h4:=sC h;obtain⟨k,hk,he⟩:=Sw _;have hb:=Ib (l:=((lft r).map (phL p c)).take k) (λx hx=>by obtain⟨ph,hph,rfl⟩:=aS.1 (pA hx);exact Nw hp hc (h.2 ph (pR hph))) (by omega);have hlt:(((lft r).map (phL p c)).take k).length<=4:=by simp;omega
 unfold top;constructor;.exact(SA _ 0 (by omega))
 .rw[he];omega
def gM(p:aF)(c:Cap)(rights:List ax):Int:=(rights.map (top p c)).sum
theorem Jh{p:aF}{c:Cap}(hp:pH p)(hc:c.Corners.length<=12):∀{rights:List ax},(∀r∈rights,RtS r)->0<=gM p c rights/\gM p c rights<=43980465111040*(rights.length:Int)
 |[],_=>by simp[gM];|r::l,h=>by
  have ih:=Jh hp hc λq hq=>h q (bA _ hq);have hr:=LP hp hc (h r dU);have e:gM p c (r::l)=top p c r+gM p c l:=by simp[gM]
  rw[fM];omega
theorem M7{t:aN}{c:Cap}(hp:pH t.aF)(hc:c.Corners.length<=12)(hb:t.Built.length<=1000)(hs:t.Base.length<=1000):-1099511627776000<=loadT t c/\loadT t c<=2199023255552000:=by have h1:=xP c t.Base;have h2:=Bw hp hc (t.Built.map (·.aA));have h3:(t.Built.map (·.aA)).length=t.Built.length:=nI ..;unfold loadT;constructor<;>omega
theorem KD(p:aF)(c:Cap)(l:List ax)(r:ax):gM p c (l++[r])=gM p c l+top p c r:=by simp[gM]
def SG(t:aN)(rights:List ax):Prop:=(∀c∈t.aF.Caps,loadT t c+gM t.aF c rights<=c.bZ)/\Iz (lP rights t)
theorem IJ{t:aN}{rights:List ax}(h:rp t)(hr:rights.length<=10)(hrs:∀r∈rights,RtS r)(hb:t.Built.length<=100)(hs:t.Base.length<=100):∃x,lu t rights=some x/\(x.2=true↔SG t rights)/\(x.2=true->x.1.Kind=0)/\(x.2=false->x.1.Kind≠0)/\(¬(∀c∈t.aF.Caps,loadT t c+gM t.aF c rights<=c.bZ)->∃c∈t.aF.Caps,x=(⟨1,c.Name,0⟩,false))/\((∀c∈t.aF.Caps,loadT t c+gM t.aF c rights<=c.bZ)->¬(∀w∈t.Windows,t.aF.Hours<=(xV (lP rights t) w:Int))->∃i:Nat,i<t.Windows.length/\x=(⟨2,⟨#[]⟩,(i:Int)⟩,false)):=by
 have hcl:=h.wM;unfold lu;obtain⟨f,h1,h2,h3⟩:=cE (body:=lH t rights) (λi s=>s.1=((i:Nat):Int)/\∀m(hm:m<t.aF.Caps.length),m<i->loadT t t.aF.Caps[m]+gM t.aF t.aF.Caps[m] rights<=t.aF.Caps[m].bZ) t.aF.Caps.length (λf=>match f with| .ex _ _=>∀c∈t.aF.Caps,loadT t c+gM t.aF c rights<=c.bZ| .ret r=>∃c∈t.aF.Caps,r=(⟨1,c.Name,0⟩,false)/\¬loadT t c+gM t.aF c rights<=c.bZ| .go _=>False) (λi s hi ⟨hs',hI⟩=>by
 have hc:=h.cap _ (aT hi);unfold lH;rw[hs',if_pos (by simpa using hi),ai hi,qb,JH h.plan hc (by omega) (by omega) (by omega) hrs,qb];have hlb:=M7 (c:=t.aF.Caps[i]) h.plan hc (by omega) (by omega);obtain⟨f1,a1,a2,a3⟩:=cE (body:=lY ⟨t.aF.Caps[i].Name,loadT t t.aF.Caps[i],rights.map (top t.aF t.aF.Caps[i])⟩) (λj s=>s.2=((j:Nat):Int)/\s.1=loadT t t.aF.Caps[i]+gM t.aF t.aF.Caps[i] (rights.take j)) rights.length (λf=>match f with| .ex _ s=>s.1=loadT t t.aF.Caps[i]+gM t.aF t.aF.Caps[i] rights|_=>False) (λj s hj ⟨hs',hJ⟩=>by
 have hq:=hrs _ (aT hj);have ht:=LP h.plan hc hq;have hts:=Jh h.plan hc (rights:=rights.take j) λr hr=>hrs r (pA hr);have hlt:(rights.take j).length<=10:=by simp;omega
 unfold lY;dsimp only;rw[hs',if_pos (by simpa using hj),ai (by simpa using hj),qb,uL,hJ,cS (by constructor<;>omega),qb,aj (by omega)];refine .inl ⟨_,rfl,rfl,?_⟩;rw[dz hj,KD];dsimp only;omega) (λs ⟨hs',hJ⟩=>by unfold lY;dsimp only;rw[hs',if_neg (by simp)];rw[cQ]at hJ;exact⟨_,rfl,trivial,hJ⟩) (loadT t t.aF.Caps[i],0) ⟨rfl,by simp[gM]⟩ ((rights.map _).length+1) (by simp);rw[a1,qb];cases f1 with|go _=>exact a2.elim;|ret _=>exact a3.elim;|ex _ s1=>
 have a3:s1.1=loadT t t.aF.Caps[i]+gM t.aF t.aF.Caps[i] rights:=a3;dsimp only;rw[a3];by_cases hl:t.aF.Caps[i].bZ<loadT t t.aF.Caps[i]+gM t.aF t.aF.Caps[i] rights;·rw[if_pos (by simpa using hl)];exact .inr ⟨_,rfl,trivial,_,aT hi,rfl,by omega⟩
 · rw[if_neg (by simpa using hl),aj (by omega)];refine .inl ⟨_,rfl,rfl,λm hm hmi=>?_⟩;by_cases e:m=i;.subst e;omega
   .exact hI m hm (by omega)) (λs⟨hs',hI⟩=>by unfold lH;rw[hs',if_neg (by simp)];refine⟨_,rfl,trivial,λc hc=>?_⟩;obtain⟨m,hm,rfl⟩:=bz hc;exact hI m hm hm) ((0,_):Int×bZ) ⟨rfl,λm _ h=>by omega⟩ (t.aF.Caps.length+1) (by omega);rw[h1,qb];cases f with|go _=>exact h2.elim;|ret r=>obtain⟨c,hc,rfl,hn⟩:=h3;exact⟨_,rfl,⟨λh=>by simp at h,λh=>absurd (h.1 c hc) hn⟩,λh=>by simp at h,λ _=>by simp,λ _=>⟨c,hc,rfl⟩,λh=>absurd (h c hc) hn⟩;|ex _ _=>
 have hl:=um (rights:=rights) (t:=t) hrs;have hpl:=vU rights t;obtain⟨x,hx,k1,k2,k3,k4⟩:=FJ (t:=lP rights t) (h.of hpl.1 hpl.2) (by omega);rw[Jn hr hrs hb hs,qb,hx,qb];refine⟨_,rfl,⟨λh=>⟨h3,k1.1 h⟩,λh=>k1.2 h.2⟩,k2,λh=>?_,λh=>absurd h3 h,λ _ h=>?_⟩;.have:=k3 h;show x.1.Kind≠0;omega
 ·rw[hpl.1,hpl.2]at k4;exact k4 h
theorem JQ(a b:aC):Tot (rK a b):=by
 unfold rK;rw[eR,qb];by_cases h:VR a
 · rw[if_neg (by simpa using h),eR,qb,qb];by_cases e:VR b;.rw[if_neg (by simpa using e)];unfold VR at h e;unfold xG;rw[da (by unfold inI;omega),da (by unfold inI;omega)];exact⟨_,rfl⟩
   .rw[if_pos (by simpa using e)];exact⟨_,rfl⟩
 .rw[if_pos (by simpa using h)];exact⟨_,rfl⟩
theorem yH{i:Int}{part:List aC}{x:aC}(h:0<=i)(hi:i<part.length)(f:part.length<10000):∃b,xB i part x=some (if b=true then part++[x]else part,b):=by unfold xB;obtain⟨b,e⟩:=JQ _ x;rw[uK h hi,qb,e];cases b with|false=>exact⟨false,rfl⟩;|true=>refine⟨true,?_⟩;rw[bP (by simp;omega)];rfl
theorem Li{i:Int}{xs part:List aC}(g:0<=i)(hi:i<part.length)(q:part.length+xs.length<10000):∃p j,Ng i xs part=some (p,j)/\((j=-1/\p=part)∨∃h:j.toNat<xs.length,0<=j/\p=part++[xs[j.toNat]]):=by unfold Ng;obtain⟨f,u,w,P⟩:=cE (body:=MK i xs) (λn s=>s=(part,(n:Int))) xs.length (λf=>match f with| .ex _ s=>s.1=part| .ret r=>∃h:r.2.toNat<xs.length,0<=r.2/\r.1=part++[xs[r.2.toNat]]| .go _=>False) (by rintro n s e rfl;obtain⟨b,m⟩:=yH (x:=xs[n]) g hi (by omega);unfold MK;rw[if_pos (by simpa using e),ai e,qb,m];cases b with|true=>exact .inr ⟨_,rfl,trivial,by simp[e]⟩;|false=>rw[aj (by omega)];exact .inl ⟨_,rfl,rfl⟩) (by rintro s rfl;unfold MK;rw[if_neg (by simp)];exact⟨_,rfl,trivial,rfl⟩) _ rfl (xs.length+1) (by omega);grind
theorem J6{i:Int}{xs part:List aC}{P:aC->Prop}(z:0<=i)(hi:i<part.length)(G:part.length+xs.length<10000)(E:∀y∈part,P y)(Q:∀y∈xs,P y):∃p l,MA i xs part=some (p,l)/\p.length+l.length=part.length+xs.length/\part.length<=p.length/\(∀y∈p,P y)/\∀y∈l,P y:=by
 unfold MA;obtain⟨p,j,h1,⟨rfl,rfl⟩|⟨H,I,rfl⟩⟩:=Li (xs:=xs) z hi G;·rw[h1,qb];exact⟨_,_,rfl,rfl,aO _,E,Q⟩
 obtain⟨n,rfl⟩:∃n:Nat,j=n:=⟨j.toNat,by omega⟩;simp only[nP]at H h1;rw[h1,qb,if_neg (by simp),aj (by omega),qb];obtain⟨f,J,M,R⟩:=cE (body:=M8 i) (λk s=>s.2.2.2=((n+1+k:Nat):Int)/\s.2.1.length=xs.length/\0<=s.2.2.1/\(s.1.length:Int)+s.2.2.1=part.length+s.2.2.2/\s.2.2.1<s.2.2.2/\part.length<s.1.length/\(∀y∈s.1,P y)/\∀y∈s.2.1,P y) (xs.length-(n+1)) (λf=>match f with| .ex _ s=>s.2.1.length=xs.length/\0<=s.2.2.1/\(s.1.length:Int)+s.2.2.1=part.length+xs.length/\s.2.2.1<xs.length/\part.length<s.1.length/\(∀y∈s.1,P y)/\∀y∈s.2.1,P y|_=>False) (by
 rintro k⟨p,u,w,m⟩hk⟨rfl,g1,g2,g3,g4,g5,g6,g7⟩;dsimp only at*;have F:n+1+k<u.length:=by omega
 obtain⟨b,O⟩:=yH (i:=i) (part:=p) (x:=u[n+1+k]) z (by omega) (by omega);unfold M8;refine .inl ?_;dsimp only;rw[if_pos (by simp;omega),ai F,qb,O,qb];have q:P u[n+1+k]:=g7 _ (aT F);cases b with
 |true=>
 rw[if_neg (by simp),qb,aj (by omega)];refine⟨_,rfl,by simp;omega,g1,g2,?_,?_,?_,?_,g7⟩;.simp;omega
 .dsimp only;omega
 .simp;omega
 · simp only[if_pos];intro y g;simp at g;rcases g with h|rfl;.exact g6 y h
   .exact q|false=>
 rw[if_pos (by simp),uK g2 (by omega),qb,cS (by unfold inI;omega),qb,qb,aj (by omega)];refine⟨_,rfl,by simp;omega,by simp[g1],by dsimp only;omega,?_,?_,?_,?_,?_⟩;.simp;omega
 .dsimp only;omega
 .simpa using g5
 .simpa using g6
 · intro y g;rcases List.mem_or_eq_of_mem_set g with h|rfl;.exact g7 y h
   .exact q) (by rintro⟨p,u,w,m⟩⟨rfl,g1,g2,g3,g4,g5,g6,g7⟩;dsimp only at*;unfold M8;rw[if_neg (by simp;omega)];exact⟨_,rfl,trivial,g1,g2,by dsimp only;omega,by dsimp only;omega,g5,g6,g7⟩) (part++[xs[n]],xs,(n:Int),((n+1:Nat):Int)) ⟨rfl,rfl,by dsimp only;omega,by simp;omega,by dsimp only;omega,by simp,by
 intro y q;simp at q;rcases q with h|rfl;.exact E y h
 .exact Q _ (aT _),Q⟩ (xs.length+1) (by omega);rw[J,qb];cases f with|go _=>exact M.elim;|ret _=>exact R.elim;|ex _ s=>obtain⟨g1,g2,g3,g4,g5,g6,g7⟩:=R;dsimp only;rw[if_pos (by omega),lg (gd 0) g2 (by omega),qb];refine⟨_,_,rfl,?_,by omega,g6,λy q=>g7 y (pA (qD q))⟩;simp;omega
theorem E9{P:aC->Prop}{l part:List aC}{m:Nat}(z:part.length+l.length<=m)(e:m<10000)(g:∀y∈part,P y)(Q:∀y∈l,P y):∃q,ar Ad (m+1) (l,part,0)=some (.ex 2 q)/\q.1.length+q.2.1.length=part.length+l.length/\part.length<=q.2.1.length/\(∀y∈q.2.1,P y)/\∀y∈q.1,P y:=by
 obtain⟨f,j,E,R⟩:=ym (body:=Ad) (λs=>0<=s.2.2/\s.2.2<=s.2.1.length/\s.1.length+s.2.1.length=part.length+l.length/\part.length<=s.2.1.length/\(∀y∈s.2.1,P y)/\∀y∈s.1,P y) (λs=>m-s.2.2.toNat) (λf=>∃q,f= .ex 2 q/\q.1.length+q.2.1.length=part.length+l.length/\part.length<=q.2.1.length/\(∀y∈q.2.1,P y)/\∀y∈q.1,P y) (by
 rintro⟨F,p,i⟩⟨g1,g2,g3,g4,g5,g6⟩;dsimp only at*;unfold Ad;by_cases hi:i<p.length;·obtain⟨G,u,h1,H,I,w,x⟩:=J6 g1 hi (by omega) g5 g6;rw[if_pos (by simpa using hi),h1,cS (by unfold inI;dsimp;omega)];exact .inl ⟨_,rfl,⟨by dsimp;omega,by dsimp;omega,by dsimp;omega,by dsimp;omega,w,x⟩,by dsimp;omega⟩
 ·rw[if_neg (by simpa using hi)];exact .inr ⟨_,rfl,trivial,_,rfl,g3,g4,g5,g6⟩) (l,part,0) ⟨gd 0,by dsimp;omega,by dsimp;omega,aO _,g,Q⟩ (m+1) (by omega);obtain⟨q,rfl,h⟩:=R;exact⟨q,j,h⟩
theorem Ks{a:List aC}(Q:a.length<=300):Tot (jS a):=by unfold jS;obtain⟨b,g,R⟩:=fc (a:=a) (by omega);rw[g,qb];cases b with|false=>exact⟨_,rfl⟩;|true=>have j:=(R.1 rfl).1;rw[if_neg (by simp),if_pos (by omega)];obtain⟨f,u,T,P⟩:=ym (body:=rT) (λs=>s.1.length<=a.length/\s.2.length+s.1.length<=a.length/\∀y∈s.1,VR y) (λs=>s.1.length) (λf=>∃s,f= .ex 0 s) (by rintro⟨l,out⟩⟨g1,g2,g3⟩;unfold rT;cases l with|nil=>rw[if_neg (by simp)];exact .inr ⟨_,rfl,trivial,_,rfl⟩;|cons x l=>simp only[fM]at g1 g2;obtain⟨q,h1,E,F,G,H⟩:=E9 (l:=l) (part:=[x]) (m:=l.length+1) (by simp;omega) (by omega) (by simp;exact g3 x (by simp)) (λy I=>g3 y (by simp[I]));simp only[fM,iA]at E F;obtain⟨st,J,e⟩:=nF (ls:=[q.2.1]) (by simpa using G) (by simp;omega) (by simp);have h:=e.len;simp only[rz,List.flatten_nil,nf]at h e;obtain⟨w,M,_⟩:=AA e.gapless (by omega) (λs O=>by have:=(e.col s O).len;omega);rw[if_pos (by simp<;>omega),show aR (x::l) 0=some x from rfl,qb,lg (by omega) (by simp;omega) (by simp),qb];simp only[fM,nP,cQ];rw[show List.take _ (x::l)=x::l by simp,show List.drop _ (x::l)=l from rfl,h1,qb];dsimp only;rw[J,qb,M,qb,bP (by simp;omega)];exact .inl ⟨_,rfl,⟨by dsimp only;omega,by simp;omega,H⟩,by dsimp only[fM];omega⟩) (a,[]) ⟨aO _,by simp,j⟩ (a.length+1) (by dsimp only;omega);obtain⟨s,rfl⟩:=P;rw[u];exact⟨_,rfl⟩
theorem KC{a b:List aC}(h:a.length<=1000000)(e:b.length<=1000000):Tot (pQ a b):=Tot.bind (rA h λx=>Tot.bind (rA e λy=>Tot.pure _) λ_ _=>Tot.pure _) λ_ _=>Tot.pure _
theorem PK{l:List Int}(e:l.length<=1000000):Tot (mA l):=by
 refine oC (λi t=>t=((i+1:Nat):Int)) (l.length-1) Tot (λi t hi h=>?_) (λt h=>?_) rfl (by omega)
 · subst h;unfold jW;rw[if_pos (by simp;omega),pq (by omega) (by omega),qb,ai (by omega),qb,ai (by omega),qb];split;.exact .inr ⟨_,rfl,trivial,_,rfl⟩
   .rw[aj (by omega)];exact .inl ⟨_,rfl,rfl⟩
 .unfold jW;rw[if_neg (by simp;omega)];exact⟨_,rfl,trivial,_,rfl⟩
def zf(t:Lot):Prop:=t.Area.length<=300/\t.From.length<=300
theorem KE{t:Lot}(h:zf t):Tot (oF t):=by refine Tot.bind (Tot.pure _) λ _ _=>Tot.bind (Tot.ite (λ _=>Tot.pure _) λ _=>Tot.pure _) λ _ _=>Tot.bind (Tot.ite (λ _=>Tot.bind (PK (by have:=h.2;omega)) λ _ _=>Tot.pure _) λ _=>Tot.pure _) λ _ _=>Tot.bind (Tot.ite (λ _=>Tot.bind ?_ λ _ _=>Tot.pure _) λ _=>Tot.pure _) λ _ _=>Tot.bind (Tot.ite (λ _=>Tot.bind (Ks h.1) λ _ _=>Tot.pure _) λ _=>Tot.pure _) λ _ _=>Tot.pure _;exact rA (by have:=h.2;omega) λx=>Tot.bind (Tot.pure _) λ _ _=>Tot.pure _
theorem E3{l acc:List Int}(j:l.length<=1000000):∃s,ar (xW l) (l.length+1) (acc,0)=some (.ex 2 s):=by obtain⟨f,h,_,g⟩:=cE (body:=xW l) (λi s=>s.2=i) l.length (λf=>∃s,f= .ex 2 s) (λi s hi e=>by unfold xW;rw[e,if_pos (by simpa using hi),ai hi,aj (by omega)];exact .inl ⟨_,rfl,rfl⟩) (λs e=>by unfold xW;rw[e,if_neg (by simp)];exact⟨_,rfl,trivial,_,rfl⟩) (acc,0) rfl (l.length+1) (by omega);obtain⟨s,rfl⟩:=g;exact⟨s,h⟩
theorem Ea{e:List Lot}{i:Nat}(m:e.length<=100)(hi:i<e.length)(h:∀t∈e,zf t):∃f,ar (ib e (i:Int)) ((i:Int).toNat+1) 0=some f/\f.ends:=lK (λs=>s) (λ_=>True) i (λs k g hk _=>by subst g;unfold ib;obtain⟨b,j⟩:=KC (a:=e[i].Area) (b:=(e[k]'(by omega)).Area) (by have:=(h _ (aT hi)).1;omega) (by have:=(h _ (aT (show k<e.length by omega))).1;omega);rw[if_pos (by simpa using hk),ai hi,qb,ai (by omega),qb,j];cases b with|true=>exact .inr ⟨_,rfl,trivial⟩;|false=>rw[aj (by omega)];exact .inl ⟨_,rfl,rfl,trivial⟩) (λs g _=>by subst g;unfold ib;rw[if_neg (by simp)];exact⟨_,rfl,trivial⟩) 0 rfl trivial (by simp)
theorem Nj{e:List Lot}(m:e.length<=100)(h:∀t∈e,zf t):Tot (jN e):=by
 unfold jN;refine Tot.ite (λ _=>Tot.pure _) λ _=>?_;refine oC (λi(s:List Int×List Int×Int)=>s.2.2=((i:Nat):Int)) e.length Tot (λi s hi g=>?_) (λs g=>?_) rfl (by omega)
 · unfold ky;obtain⟨b,q⟩:=KE (h _ (aT hi));obtain⟨u,w⟩:=E3 (l:=e[i].From) (acc:=s.2.1) (by have:=(h _ (aT hi)).2;omega);have F:∃c,(if(!b)=true then some true else(if decide (0<s.2.2)=true then(fB s.2.2 1).bind λy=>(aR e y).bind λz=>some (decide (e[i].Id<=z.Id))else some false).bind λx=>some x)=some c:=by refine Tot.ite (λ _=>Tot.pure _) λ _=>Tot.bind (Tot.ite (λj=>?_) λ _=>Tot.pure _) λ _ _=>Tot.pure _;rw[g]at j⊢;rw[pq (by simpa using j) (by omega),qb,ai (by omega)];exact⟨_,rfl⟩
   obtain⟨c,G⟩:=F;rw[if_pos (by rw[g];simpa using hi),g,ai hi,qb,q,qb,<-g,G,qb,w];cases c with|true=>exact .inr ⟨_,rfl,trivial,_,rfl⟩;|false=>rw[if_neg (by simp),qb];dsimp only;rw[g,aj (by omega)];exact .inl ⟨_,rfl,rfl⟩
 · unfold ky;rw[if_neg (by rw[g];simp)];refine⟨_,rfl,trivial,?_⟩;dsimp only;refine Tot.ite (λ _=>Tot.pure _) λ _=>?_;refine oC (λi s=>s=((i:Nat):Int)) e.length Tot (λi s hi g=>?_) (λs g=>?_) rfl (by omega);·subst g;unfold kF;obtain⟨f,h1,H⟩:=Ea m hi h;rw[if_pos (by simpa using hi),h1,qb];cases f with|go _=>exact H.elim;|ex _ _=>dsimp only;rw[aj (by omega)];exact .inl ⟨_,rfl,rfl⟩;|ret r=>exact .inr ⟨_,rfl,trivial,_,rfl⟩
   ·subst g;unfold kF;rw[if_neg (by simp)];exact⟨_,rfl,trivial,_,rfl⟩
theorem Lk{t:Lot}(h:zf t):oK t=some t:=by have h1:=h.1;have e:=h.2;unfold oK iR fE;rw[fg (by omega),fg (by omega)];rfl
theorem find_spec{f:List Lot}{id:Int}(w:f.length<=1000)(h:∀t∈f,zf t):∃q,nX f id=some q/\zf q.1/\(q.2=true↔∃t∈f,t.Id=id):=by
 refine oC (λi (s:Int×Lot)=>s.1=i/\∀m(g:m<f.length),m<i->f[m].Id≠id) f.length (λo=>∃q:Lot×Bool,o=some q/\zf q.1/\(q.2=true↔∃t∈f,t.Id=id)) (λi s hi⟨j,I⟩=>?_) (λs ⟨j,I⟩=>?_) ⟨rfl,λm _ h=>by omega⟩ (by omega)
 · unfold pw;rw[j,if_pos (by simpa using hi),ai hi,qb];by_cases e:f[i].Id=id;.rw[if_pos (by simpa using e),Lk (h _ (aT hi))];exact .inr ⟨_,rfl,trivial,_,rfl,h _ (aT hi),λ _=>⟨_,aT hi,e⟩,λ _=>rfl⟩
   .rw[aj (by omega)];grind
 .unfold pw;rw[j,if_neg (by simp)];refine⟨_,rfl,trivial,_,rfl,⟨by simp,by simp⟩,λh=>by simp at h,λ⟨t,u,e⟩=>?_⟩;obtain⟨m,g,rfl⟩:=bz u;exact absurd e (I m g g)
theorem C1(r:aC):∃n,iE r=some n/\0<=n/\n<=1099511627776:=by
 by_cases h:VR r;.exact AB h
 .unfold iE jJ;rw[eR,qb,if_neg (by simpa using h)];exact⟨0,rfl,by omega,by omega⟩
theorem KS{a:List aC}(g:a.length<=1000):Tot (nJ a):=by
 unfold nJ;obtain⟨b,e,R⟩:=fc (a:=a) (by omega);rw[e];refine Tot.ite (λ _=>Tot.pure _) λ _=>?_;refine oC (λi (s:Int×Int)=>s.2=i/\0<=s.1/\s.1<=1099511627776*i) a.length Tot (λi s hi⟨h,h1,j⟩=>?_) (λs ⟨h,_⟩=>?_) ⟨rfl,by simp,by simp⟩ (by omega);.unfold pg;obtain⟨n,f,m,q⟩:=C1 a[i];rw[h,ai hi,qb,f,qb,cS (by unfold inI;omega),aj (by omega)];grind
 .unfold pg;rw[h,if_neg (by simp)];exact⟨_,rfl,trivial,_,rfl⟩
theorem Ic{a b:List aC}(f:a.length<=1000)(g:b.length<=1000):∃q,mN a b=some q/\q.1.length<=200:=by
 unfold mN;by_cases h:RR a/\RR b
 · obtain⟨out,_,e⟩:=Dw (keep:=oc) (λ _ _=>rfl) rfl h.1 h.2;rw[e];refine⟨_,rfl,?_⟩;unfold lim;split;.simp
   .dsimp;omega
 .rw[FG (by omega) (by omega) h];exact⟨_,rfl,by simp⟩
theorem Ko{p:aF}{e:Lot}{d:aG}(H:p.Caps.length<=1000)(j:zf e)(g:SmD d):Tot (mQ p e d):=by
 have h1:=j.1;have I:=g.1;unfold mQ;refine Tot.bind (M1 g) λ _ _=>Tot.bind (Tot.ite (λ _=>Tot.pure _) λ _=>Tot.bind ⟨_,(fc (by omega)).choose_spec.1⟩ λ _ _=>Tot.pure _) λ _ _=>Tot.ite (λ _=>Tot.pure _) λ _=>?_;obtain⟨l,m,u⟩:=IZ g;rw[m,qb];refine oC (λi s=>s=((i:Nat):Int)) l.length Tot (λi s hi h=>?_) (λs h=>?_) rfl (by omega);·subst h;unfold mr;obtain⟨q,w,x⟩:=Ic (a:=e.Area) (b:=[l[i].Box.Base]) (by omega) (by simp);obtain⟨c,y⟩:Tot (if(q.2!=0)=true then some true else(nJ q.1).bind λJ=>(iE l[i].Box.Base).bind λM=>some _):=Tot.ite (λ _=>Tot.pure _) λ _=>Tot.bind (KS (by omega)) λ _ _=>Tot.bind ⟨_,(C1 _).choose_spec.1⟩ λ _ _=>Tot.pure _;rw[if_pos (by simpa using hi),ai hi,qb,w,qb,y,qb];cases c with|true=>exact .inr ⟨_,rfl,trivial,_,rfl⟩;|false=>rw[if_neg (by simp),aj (by omega)];exact .inl ⟨_,rfl,rfl⟩
 · subst h;unfold mr;rw[if_neg (by simp)];refine⟨_,rfl,trivial,?_⟩;dsimp only;refine oC (λi s=>s=((i:Nat):Int)) d.Phases.length Tot (λi s hi h=>?_) (λs h=>?_) rfl (by omega)
   · subst h;unfold mL;obtain⟨f,h1,z⟩:∃f,ar (jR p d.Phases[i]) (d.Phases[i].bh.length+1) 0=some f/\f.ends:=by
      have O:=(g.2 _ (aT hi)).2;refine lK (λs=>s) (λ _=>True) d.Phases[i].bh.length (λs k h hk _=>?_) (λs h _=>?_) 0 rfl trivial (by omega);·subst h;unfold jR;obtain⟨b,E⟩:Tot (gE p.Caps (λF=>oq F d.Phases[i].bh[k])):=rA (by omega) λ _=>Tot.pure _;rw[if_pos (by simpa using hk),ai hk,qb,E,qb];cases b with|true=>rw[if_neg (by simp),aj (by omega)];exact .inl ⟨_,rfl,rfl,trivial⟩;|false=>exact .inr ⟨_,rfl,trivial⟩
      ·subst h;unfold jR;rw[if_neg (by simp)];exact⟨_,rfl,trivial⟩
     rw[if_pos (by simpa using hi),ai hi,qb,h1,qb];cases f with|go _=>exact z.elim;|ex _ _=>dsimp only;rw[aj (by omega)];exact .inl ⟨_,rfl,rfl⟩;|ret r=>exact .inr ⟨_,rfl,trivial,_,rfl⟩
   ·subst h;unfold mL;rw[if_neg (by simp)];exact⟨_,rfl,trivial,_,rfl⟩
theorem NU{t:aN}{r:ax}(e:t.aF.Caps.length<=1000)(f:t.Land.length<=100)(h:∀x∈t.Land,zf x)(g:SmD r.aG):Tot (eN t r):=by unfold eN;obtain⟨q,j,m,_⟩:=find_spec (by omega) h;rw[j,qb];exact Tot.bind (Tot.pure _) λ _ _=>Tot.bind (Tot.ite (λ _=>Tot.bind (Nj f h) λ _ _=>Tot.pure _) λ _=>Tot.pure _) λ _ _=>Tot.bind (Tot.ite (λ _=>Tot.bind (Ko e m g) λ _ _=>Tot.pure _) λ _=>Tot.pure _) λ _ _=>Tot.pure _
theorem K6{j q:Type}{l:List j}{body:Int->Option (aX Int Bool)}{K:aX Int Bool->Option q}{Q:Option q->Prop}(P:j->Prop)(n id:Nat){f:Nat}(z:n<f)(step:∀i(hi:i<l.length),i<n->(P l[i]/\body (i:Int)=some (.go ((i+1:Nat):Int)))∨body (i:Int)=some (.ret false))(done:body ((min l.length n:Nat):Int)=some (.ex id ((min l.length n:Nat):Int)))(h1:(l.length<=n->∀x∈l,P x)->∀s,Q (K (.ex id s)))(w:Q (K (.ret false))):Q ((ar body f 0).bind K):=by
 refine oC (λi s=>s=(i:Int)/\∀m(u:m<l.length),m<i->P l[m]) (min l.length n) Q (λi s hi⟨g,I⟩=>?_) (λs ⟨g,I⟩=>?_) ⟨rfl,λm _ h=>by omega⟩ (by omega)
 · subst g;rcases step i (by omega) (by omega)with⟨h,e⟩|e;.grind
   .exact .inr ⟨_,e,trivial,w⟩
 .subst g;refine⟨_,done,trivial,h1 (λE x y=>?_) _⟩;obtain⟨m,u,rfl⟩:=bz y;exact I m u (by omega)
theorem HD{r:ax}:∃b,tx r=some b/\(b=true->RtS r):=by
 refine K6 (l:=r.aG.Phases) (Q:=λo=>∃b,o=some b/\(b=true->RtS r)) (λp=>PhS p) 4 0 (by omega) (λi hi f=>?_) ?_ (λh s=>?_) ⟨_,rfl,λh=>by simp at h⟩
 · unfold pE;rw[if_pos (by simp;omega),ai hi,qb,qb];by_cases h1:r.aG.Phases[i].Volumes.length<=2
   · rw[if_neg (by simp;omega),qb];by_cases g:r.aG.Phases[i].bh.length<=2;.rw[if_neg (by simp;omega),aj (by omega)];exact .inl ⟨⟨h1,by omega⟩,rfl⟩
     .rw[if_pos (by simp;omega)];exact .inr rfl
   .rw[if_pos (by simp;omega)];exact .inr rfl
 .unfold pE;rw[if_neg (by simp;omega)]
 .refine⟨_,rfl,λe=>?_⟩;simp at e;exact⟨by omega,h (by omega)⟩
structure Few(t:aN)(rights:List ax):Prop where
 town:rp t
 land:t.Land.length<=5lots:∀x∈t.Land,zf x
 wM:t.aF.Caps.length<=2built:t.Built.length<=4base:t.Base.length<=4len:rights.length<=3rts:∀r∈rights,RtS r
theorem TX{t:aN}{rights:List ax}:∃b,qH t rights=some b/\(b=true->Few t rights):=by
 unfold qH;have f:∃b,some false=some b/\(b=true->Few t rights):=⟨_,rfl,λh=>by simp at h⟩;refine K6 (l:=t.Land) (Q:=λo=>∃b,o=some b/\(b=true->Few t rights)) (λx=>zf x) 6 0 (by omega) (λi hi g=>?_) (by unfold rY;rw[if_neg (by simp;omega)]) (λa s=>?_) f
 · unfold rY;rw[if_pos (by simp;omega),ai hi,qb,qb];by_cases h1:t.Land[i].Area.length<=4
   · rw[if_neg (by simp;omega),qb];by_cases u:t.Land[i].From.length<=6;.rw[if_neg (by simp;omega),aj (by omega)];exact .inl ⟨⟨by omega,by omega⟩,rfl⟩
     .rw[if_pos (by simp;omega)];exact .inr rfl
   .rw[if_pos (by simp;omega)];exact .inr rfl
 dsimp only;refine K6 (l:=t.aF.Caps) (Q:=λo=>∃b,o=some b/\(b=true->Few t rights)) (λx=>x.Corners.length<=12) 3 2 (by omega) (λi hi g=>?_) (by unfold sb;rw[if_neg (by simp;omega)]) (λb s=>?_) f
 · unfold sb;rw[if_pos (by simp;omega),ai hi,qb];by_cases h1:t.aF.Caps[i].Corners.length<=12;.rw[if_neg (by simp;omega),aj (by omega)];exact .inl ⟨h1,rfl⟩
   .rw[if_pos (by simp;omega)];exact .inr rfl
 dsimp only;refine K6 (l:=t.aF.Views) (Q:=λo=>∃b,o=some b/\(b=true->Few t rights)) (λx=>x.Targets.length<=3) 3 4 (by omega) (λi hi g=>?_) (by unfold sn;rw[if_neg (by simp;omega)]) (λc s=>?_) f
 · unfold sn;rw[if_pos (by simp;omega),ai hi,qb];by_cases h1:t.aF.Views[i].Targets.length<=3;.rw[if_neg (by simp;omega),aj (by omega)];exact .inl ⟨h1,rfl⟩
   .rw[if_pos (by simp;omega)];exact .inr rfl
 dsimp only;refine K6 (l:=t.aF.Tables) (Q:=λo=>∃b,o=some b/\(b=true->Few t rights)) (λx=>x.Rows.length<=8) 3 6 (by omega) (λi hi g=>?_) (by unfold sL;rw[if_neg (by simp;omega)]) (λd s=>?_) f
 · unfold sL;rw[if_pos (by simp;omega),ai hi,qb];by_cases h1:t.aF.Tables[i].Rows.length<=8;.rw[if_neg (by simp;omega),aj (by omega)];exact .inl ⟨h1,rfl⟩
   .rw[if_pos (by simp;omega)];exact .inr rfl
 refine K6 (l:=rights) (Q:=λo=>∃b,o=some b/\(b=true->Few t rights)) (λx=>RtS x) 4 8 (by omega) (λi hi g=>?_) (by unfold rW;rw[if_neg (by simp;omega)]) (λe s=>?_) f;·unfold rW;obtain⟨b,j,R⟩:=HD (r:=rights[i]);rw[if_pos (by simp;omega),ai hi,qb,j,qb];cases b with|true=>rw[if_neg (by simp),aj (by omega)];exact .inl ⟨R rfl,rfl⟩;|false=>exact .inr rfl
 refine⟨_,rfl,λh=>?_⟩;simp at h;exact⟨⟨⟨by omega,λx m=>by have:=d (by omega) x m;omega⟩,by omega,b (by omega),by omega,by omega,λw q=>by have:=c (by omega) w q;omega,by omega⟩,by omega,a (by omega),by omega,by omega,by omega,by omega,e (by omega)⟩
def ins(l:List Int)(n:Int):Bool:=decide (n∈l)
theorem CH{c:bS}(E:c.district.Pairwise (.<.))(J:c.district.length<=1000)(n:Int):ef c n=some (ins c.district n):=by
  unfold ef gO;generalize c.district=l at E J;have F:=gf.1 E;obtain⟨m,P,h1,w⟩:=bsearch (l:=l) (p:=λx=>decide (x<n)) (body:=eg l n) (k:=0) (by omega) (λi j f G H=>by have:=F i j (by omega) G f;simp only[decide_eq_true_eq]at H⊢;omega) (λi j f G=>by
 unfold eg;dsimp only;rw[if_pos (by simpa using f),cS (by unfold inI;omega),qb];have M:∀n,(IntKind.i64.wrap (IK.shr _ 1).n)=Bh n:=λ _=>rfl;simp only[M,xq (show i<1000000 by omega) (show j<1000000 by omega),ai (show(i+j)/2<l.length by omega),qb];have O:cmp_Less_int (l[(i+j)/2]'(by omega)) n=some (decide (l[(i+j)/2]'(by omega)<n)):=by unfold cmp_Less_int cmp_isNaN_int;grind
 rw[O,qb];by_cases h:(l[(i+j)/2]'(by omega))<n;.rw[if_pos (by simpa using h),aj (by omega),qb,qb,if_pos (by simpa using h)]
 .rw[if_neg (by simpa using h),qb,if_neg (by simpa using h)]) (λi=>by unfold eg;rw[if_neg (by simp)]) (fuel:=l.length+1) (by omega);rw[h1,qb];dsimp only;rcases bw m l.length with g|g
  · rw[if_pos (by simpa using g),ai g,qb];have H:∀e:l[m]=n∨l[m]≠n,True:=λ _=>trivial;by_cases e:l[m]=n;·rw[if_pos (by simpa using e),qb,qb,qb];unfold ins;rw[decide_eq_true (by rw[<-e];exact aT g)]
    · rw[if_neg (by simpa using e),qb];unfold jL;rw[qb,if_neg (by simp),qb,qb,qb,qb];unfold ins;rw[decide_eq_false];intro y;obtain⟨q,u,rfl⟩:=bz y;have:=w m g;have z:=w q u;simp at this z;rcases Nat.lt_trichotomy q m with h|h|h;.omega
      .subst h;exact e rfl
      .have:=F m q g u h;omega
  ·rw[if_neg (by simp;omega),qb,qb];unfold ins;rw[decide_eq_false];intro y;obtain⟨q,u,rfl⟩:=bz y;have z:=w q u;simp at z;omega
def okV(v:aA):Bool:=((((decide (VR v.Box.Base)&&decide (0<=v.Box.Z0))&&decide (v.Box.Z0<v.Box.Z1))&&decide (v.Box.Z1<=4096))&&decide (0<=v.Use))&&decide (v.Use<6)
def vR(l:List Phase):List (List cf):=l.flatMap λh=>(h.Volumes.filter okV).map sld
theorem J3(l:List Phase)(h:Phase):vR (l++[h])=vR l++(h.Volumes.filter okV).map sld:=by simp[vR]
theorem FB{l:List Phase}(h:∀e∈l,PhS e):(vR l).length<=2*l.length:=by induction l with|nil=>simp[vR];|cons e l g=>have h1:=(h e (by simp)).1;have:=g λx j=>h x (by simp[j]);have m:=uy okV e.Volumes;simp[vR]at*;omega
theorem Oe{r:ax}(h:RtS r):ma r=some (vR (lft r)):=by
  have z:=sC h;have f:∀g∈lft r,PhS g:=λg q=>h.2 g (pR q);unfold ma;rw[Ek h,qb];refine oC (λi (s:List _×Int)=>s.2=((i:Nat):Int)/\s.1=vR ((lft r).take i)) (lft r).length (.=some _) (λi s hi⟨u,I⟩=>?_) (λs ⟨u,I⟩=>?_) ⟨rfl,rfl⟩ (by omega)
  · have E:=(f _ (aT hi)).1;have F:=FB (l:=(lft r).take i) λg q=>f g (pA q);have G:((lft r).take i).length<=4:=by simp;omega
    unfold lE;rw[u,if_pos (by simpa using hi),ai hi,qb];have y:=dR (l:=(lft r)[i].Volumes) (body:=iN (lft r)[i]) (k:=2) (λ (s:List _)j=>(s,j)) (λs v=>if okV v=true then s++[sld v]else s) (λj s=>s.length<=s.length/\s.length<=100+j) (by
 intro j w s J;unfold iN;dsimp only;rw[if_pos (by simpa using w),ai w,qb,eR,qb];by_cases m:okV (lft r)[i].Volumes[j]=true;·have e:=m;unfold okV at e;rw[if_pos m,if_pos e,bP (by simp;omega),qb,qb,aj (by omega)];exact⟨rfl,by simp;omega⟩
 ·have e:=m;unfold okV at e;rw[if_neg m,if_neg e,qb,aj (by omega)];exact⟨rfl,by omega⟩) (by intro s J;unfold iN;rw[if_neg (by simp)]) (s0:=s.1) ⟨aO _,by rw[I];omega⟩ (fuel:=(lft r)[i].Volumes.length+1) (by omega);rw[y.1,qb];dsimp only;rw[foldl_filterMap,aj (by omega)];exact .inl ⟨_,rfl,rfl,by rw[dz hi,J3,I]⟩
  ·unfold lE;rw[u,if_neg (by simp)];exact⟨_,rfl,trivial,by dsimp only;rw[I,cQ]⟩
def yC(d:List Int)(t:aN)(s:List cf):Bool:=t.Windows.any λw=>!(ins d w.Lot)&&t.aF.Sun.any λp=>Gc s w.At p
def yW(t:aN)(s:List cf):Bool:=t.aF.Views.any λv=>v.Targets.any λq=>FO s v.Eye q
theorem xZ{u w:Type}{l:List u}{body:Int->Option (aX Int Bool)}{K:aX Int Bool->Option w}{Q:Option w->Prop}(g:u->Bool)(id:Nat){f:Nat}(z:l.length<f)(G:l.length<=1000000)(step:∀i(hi:i<l.length),body (i:Int)=if g l[i]=true then some (.ret true)else(bc (i:Int) 1).bind λj=>some (.go j))(done:body (l.length:Int)=some (.ex id (l.length:Int)))(h1:l.any g=false->Q (K (.ex id (l.length:Int))))(E:l.any g=true->Q (K (.ret true))):Q ((ar body f 0).bind K):=by
 refine oC (λi s=>s=(i:Int)/\∀m(e:m<l.length),m<i->g l[m]=false) l.length Q (λi s hi⟨q,I⟩=>?_) (λs⟨q,I⟩=>?_) ⟨rfl,λm _ h=>by omega⟩ z
 · subst q;rw[step i hi];by_cases y:g l[i]=true;.rw[if_pos y];exact .inr ⟨_,rfl,trivial,E (mZ.2 ⟨_,aT hi,y⟩)⟩
   .rw[aj (by omega)];grind
 .subst q;refine⟨_,done,trivial,h1 ?_⟩;rw[ko];intro x F;obtain⟨m,e,rfl⟩:=bz F;rw[I m e e];simp
theorem EN{c:bS}{t:aN}{r:ax}(z:c.district.Pairwise (.< .))(E:c.district.length<=1000)(y:rp t)(h:RtS r):jM c t r=some (!(ins c.district r.aG.Lot)||(vR (lft r)).any λs=>yC c.district t s||yW t s):=by
 have I:=y.wins;have J:=y.views;have G:=FB (l:=lft r) λF H=>h.2 F (pR H);have M:=sC h;unfold jM;rw[CH z E,qb];by_cases hi:ins c.district r.aG.Lot=true
 · rw[hi,if_neg (by simp),Oe h,qb];have f:∀s∈vR (lft r),Hg s:=λs m=>by unfold vR at m;obtain⟨F,_,m⟩:=oS.1 m;obtain⟨v,_,rfl⟩:=aS.1 m;exact wm _
   generalize vR (lft r)=L at G f;refine xZ (l:=L) (Q:=λo=>o=some _) _ 0 (by omega) (by omega) (λi hi=>?_) (by unfold sZ;rw[if_neg (by simp)]) (λh=>by rw[h];rfl) (λh=>by rw[h];rfl);have m:=f _ (aT hi);unfold sZ;rw[if_pos (by simpa using hi),ai hi,qb];show _=(if(yC c.district t L[i]||yW t L[i])=true then some _ else(bc (i:Int) 1).bind λj=>some (.go j):Option (aX Int Bool));generalize u:(if(yC c.district t L[i]||yW t L[i])=true then some (.ret true)else(bc (i:Int) 1).bind λj=>some (.go j):Option (aX Int Bool))=X;refine xZ (l:=t.Windows) (Q:=(.=X)) (λw=>!(ins c.district w.Lot)&&t.aF.Sun.any λp=>Gc L[i] w.At p) 2 (by omega) (by omega) (λk hk=>?_) (by unfold tN;rw[if_neg (by simp)]) (λx=>?_) (λx=>?_)
   · unfold tN;rw[if_pos (by simpa using hk),ai hk,qb,CH z E,qb];have e:du t.aF.Sun (λd=>rJ d L[i] t.Windows[k])=some _:=uP (g:=λp=>Gc L[i] t.Windows[k].At p) (by have:=y.sun;omega) λp _=>by unfold rJ;rw[DP m];rfl
     grind
   · dsimp only;rw[show yC c.district t L[i]=false from x]at u;refine xZ (l:=t.aF.Views) (Q:=(.=X)) (λv=>v.Targets.any λq=>FO L[i] v.Eye q) 4 (by omega) (by omega) (λk hk=>?_) (by unfold tR;rw[if_neg (by simp)]) (λx=>?_) (λx=>?_)
     · unfold tR;have e:du t.aF.Views[k].Targets (λq=>sD q L[i] t.aF.Views[k])=some _:=uP (g:=λq=>FO L[i] t.aF.Views[k].Eye q) (by have:=y.view _ (aT hk);omega) λp _=>by unfold sD;rw[Dj m];rfl
       rw[if_pos (by simpa using hk),ai hk,qb,e,qb]
     .rw[show yW t L[i]=false from x,if_neg (by simp)]at u;dsimp only;exact u
     .rw[show yW t L[i]=true from x,if_pos (by simp)]at u;dsimp only;exact u
   .rw[show yC c.district t L[i]=true from x,if_pos (by simp)]at u;dsimp only;exact u
 .rw[Bool.not_eq_true]at hi;rw[hi,if_pos (by simp)];rfl
theorem LN{r:ax}(h:RtS r):kV r=some r:=by
 have f:=h.1;refine oC (λi(s:List Phase×Int)=>s.2=i/\s.1=r.aG.Phases.take i) r.aG.Phases.length (.=some r) (λi s hi⟨e,I⟩=>?_) (λs ⟨e,I⟩=>?_) ⟨rfl,by simp⟩ (by omega);.have h1:=(h.2 _ (aT hi)).1;have g:=(h.2 _ (aT hi)).2;unfold oY eu cg;rw[e,if_pos (by simpa using hi),ai hi,qb,fg (by omega),qb,qb,fg (by omega),qb,qb,bP (by rw[I];simp;omega),aj (by omega)];exact .inl ⟨_,rfl,rfl,by rw[dz hi,I]⟩
 .unfold oY;rw[e,if_neg (by simp)];exact⟨_,rfl,trivial,by rw[I,cQ]⟩
def S8(l:List aB):Prop:=∀f∈l,RtS f.ax
theorem Qv{l:List aB}(h:S8 l)(f:l.length<=10000):kJ l=some l:=by
 refine oC (λi(s:List aB×Int)=>s.2=i/\s.1=l.take i) l.length (.=some l) (λi s hi⟨e,I⟩=>?_) (λs ⟨e,I⟩=>?_) ⟨rfl,by simp⟩ (by omega);.unfold kR;rw[e,if_pos (by simpa using hi),ai hi,qb,LN (h _ (aT hi)),qb,bP (by rw[I];simp;omega),aj (by omega)];exact .inl ⟨_,rfl,rfl,by rw[dz hi,I]⟩
 .unfold kR;rw[e,if_neg (by simp)];exact⟨_,rfl,trivial,by rw[I,cQ]⟩
def om(a b:aB):Int:=if a.Counter<b.Counter then-1 else if b.Counter<a.Counter then 1 else if a.Number<b.Number then-1 else if b.Number<a.Number then 1 else 0
theorem I1(x y:Int):cu x y=some (if x<y then-1 else if y<x then 1 else 0):=by unfold cu cmp_isNaN_int;grind
theorem Ua(x y:Int):mq [x,y]=some (if x=0 then y else x):=by
 unfold mq;simp[ar,mV];by_cases h:x=0
 · by_cases e:y=0;.subst h;subst e;rfl
   .subst h;simp[aR,bc,inI,e]
 .simp[aR,h]
theorem E1(a b:aB):ec a b=some (om a b):=by
 unfold ec om;rw[I1,I1];repeat' split
 all_goals first|rfl|omega
theorem Du(a b:aB):om a b<0↔a.Counter<b.Counter∨(a.Counter=b.Counter/\a.Number<b.Number):=by unfold om;all_goals omega
theorem Jx(a b:aB):om a b=0↔a.Counter=b.Counter/\a.Number=b.Number:=by unfold om;all_goals omega
def Asc(l:List aB):Prop:=l.Pairwise λa b=>om a b<0
theorem QY{l:List aB}(h:Asc l)(R:l.length<=100000)(x:aB):∃n:Nat,n<=l.length/\bsF l x=some ((n:Int),decide (∃y∈l,om y x=0))/\(∀i(hi:i<l.length),om l[i] x<0↔i<n)/\((∃y∈l,om y x=0)->∃E:n<l.length,om l[n] x=0):=by
  have H:=gf.1 h;obtain⟨n,E,h1,O⟩:=bsearch (l:=l) (p:=λy=>decide (om y x<0)) (body:=ch l x ec) (by omega) (λi j g I P=>by have:=H i j (by omega) I g;simp[decide_eq_true_eq]at P⊢;rw[Du]at*;omega) (λi j g I=>by
 unfold ch;rw[if_pos (by simpa using g),cS (by unfold inI;omega)];have Q:∀n,(IntKind.i64.wrap (IK.shr _ 1).n)=Bh n:=λ _=>rfl;simp only[Q,xq (show i<1000000 by omega) (show j<1000000 by omega),ai (show(i+j)/2<l.length by omega),qb,E1];by_cases z:om (l[(i+j)/2]'(by omega)) x<0;.rw[if_pos (by simpa using z),aj (by omega),qb,qb,if_pos (by simpa using z)]
 .rw[if_neg (by simpa using z),qb,if_neg (by simpa using z)]) (λi=>by unfold ch;rw[if_neg (by simp)]) (fuel:=l.length+1) (by omega);have m:∀i(hi:i<l.length),om l[i] x<0↔i<n:=λi hi=>by rw[<-O i hi];simp
  have F:(∃y∈l,om y x=0)->∃E:n<l.length,om l[n] x=0:=by
   rintro⟨y,u,e⟩;obtain⟨q,M,rfl⟩:=bz u;have T:=m q M;have f:n<l.length:=by omega
   have G:=m n f;refine⟨f,?_⟩;rcases Nat.lt_trichotomy n q with w|rfl|w;·have:=H n q f M w;rw[Du]at*;rw[Jx]at*;omega
   .exact e
   .omega
  refine⟨n,E,?_,m,F⟩;unfold bsF bW;rw[h1];dsimp;rcases bw n l.length with f|f
  · rw[if_pos (by simpa using f),ai f,qb,E1];by_cases e:om l[n] x=0;.rw[decide_eq_true ⟨_,aT f,e⟩];simp[e]
    .rw[decide_eq_false λu=>by have⟨_,G⟩:=F u;exact e G];simp[e]
  .rw[if_neg (by simp;omega),qb,decide_eq_false λu=>by have⟨G,_⟩:=F u;omega]
def El:List aB->aB->List aB|[],f=>[f]|g::l,f=>if om g f<0 then g::El l f else if om g f=0 then g::l else f::g::l
theorem Gm:∀{l:List aB}{f:aB},Asc l->(∃y∈l,om y f=0)->El l f=l
 |[],f,_,⟨y,j,_⟩=>by simp at j;|g::l,f,h,⟨y,j,e⟩=>by
  have m:=pI.1 h;unfold El;by_cases h1:om g f<0
  · rw[if_pos h1];rcases bF.1 j with rfl|j;.omega
    .rw [Gm m.2 ⟨y,j,e⟩]
  · rw[if_neg h1,if_pos];rcases bF.1 j with rfl|j;.exact e
    .have:=m.1 y j;rw[Du]at*;rw[Jx]at*;omega
theorem Ja:∀{l:List aB}{f:aB}{n:Nat},n<=l.length->(∀i(hi:i<l.length),om l[i] f<0↔i<n)->(¬∃y∈l,om y f=0)->El l f=l.take n++[f]++l.drop n|[],f,n,m,_,_=>by simp[El];|g::l,f,0,m,h,j=>by unfold El;grind;|g::l,f,n+1,m,h,j=>by have:=h 0 (by simp);simp[List.getElem_cons_zero]at this;unfold El;rw[if_pos (by omega),Ja (by simpa using m) (λi hi=>by have:=h (i+1) (by simpa using hi);simpa using this) λ ⟨y,q,e⟩=>j ⟨y,by simp[q],e⟩];simp
theorem Oi{c:CC}{f:aB}(h:Asc c.reg)(m:c.reg.length<=10000):Ln c f=some {c with reg:=El c.reg f}:=by
 unfold Ln;have⟨n,g,h1,j,q⟩:=QY h (by omega) f;rw[h1,qb];by_cases e:∃y∈c.reg,om y f=0;.rw[if_neg (by simpa using e),Gm h e]
 .rw[if_pos (by simpa using e)];unfold D0;rw[if_pos ⟨by omega,by simpa using g,by simp,by simp;omega⟩,Ja g j e];rfl
instance(l:List aB):Decidable (Asc l):=inferInstanceAs (Decidable (l.Pairwise λa b=>om a b<0))
theorem KQ{n:Int}{d:List Int}{l:List bj}(M:d.length<=1000):ua n d l=some (none,1)∨∃dc,ua n d l=some (some ⟨n,d,dc,[]⟩,0)/\(nW n l).1=some dc/\d.Pairwise (.< .)/\∀x∈d,1<=x:=by
 unfold ua;by_cases g:(nW n l).2=0
 · rw[if_neg (by simpa using g)];obtain⟨dc,q⟩:∃dc,(nW n l).1=some dc:=by
    unfold nW at g⊢;split at g;.rename_i h;rw[if_pos h];exact⟨_,rfl⟩
    .simp at g
   refine oC (λi (s:Int)=>s=i/\(∀m(f:m<d.length),m<i->1<=d[m])/\∀a b(w:a<d.length)(z:b<d.length),a<b->b<i->d[a]<d[b]) d.length (λo:Option (Option CC×Int)=>o=some _∨∃dc,o=some (some ⟨n,d,dc,[]⟩,0)/\(nW n l).1=some dc/\d.Pairwise (.<.)/\∀x∈d,1<=x) (λi s hi ⟨E,h1,y⟩=>?_) (λs⟨E,h1,y⟩=>?_) ⟨rfl,λm _ h=>by omega,λa b _ _ _ h=>by omega⟩ (by omega)
   · subst E;unfold wO;rw[if_pos (by simpa using hi),ai hi,qb];by_cases g1:d[i]<1∨1073741824<d[i];.rw[if_pos (by simpa using g1)];exact .inr ⟨_,rfl,trivial, .inl rfl⟩
     · rw[if_neg (by simpa using g1)];by_cases g2:0<i
       · rw[if_pos (by simpa using g2),pq g2 (by omega),qb,ai (by omega),qb,qb,qb];by_cases g3:d[i]<=d[i-1];.rw[if_pos (by simpa using g3)];exact .inr ⟨_,rfl,trivial, .inl rfl⟩
         · rw[if_neg (by simpa using g3),aj (by omega)];refine .inl ⟨_,rfl,rfl,λm f F=>?_,λa b w z u G=>?_⟩
           · by_cases e:m=i;.subst e;omega
             .exact h1 m f (by omega)
           · by_cases e:b=i
             · subst e;by_cases e:a=b-1;.subst e;omega
               .have:=y a (b-1) w (by omega) (by omega) (by omega);omega
             .exact y a b w z u (by omega)
       · rw[if_neg (by simpa using g2),aj (by omega)];refine .inl ⟨_,rfl,rfl,λm f F=>?_,λa b w z u G=>by omega⟩;obtain rfl:m=i:=by omega
         omega
   · subst E;unfold wO;rw[if_neg (by simp)];refine⟨_,rfl,trivial, .inr ⟨dc,?_,q,gf.2 λi j hi I H=>y i j hi I H I,λx J=>?_⟩⟩;·unfold fE;rw[fg (by omega),qb,qb,q]
     ·obtain⟨m,f,rfl⟩:=bz J;exact h1 m f f
 .rw[if_pos (by simpa using g)];exact .inl rfl
def ndm(t:aN)(r:ax):List (ByteArray×Int):=t.aF.Caps.foldl (λm c=>dr m c.Name (IntKind.i64.wrap ((bU m c.Name).getD 0+top t.aF c r))) []
theorem Gk{t:aN}{r:ax}(e:rp t)(g:t.Built.length<=1000)(j:t.Base.length<=1000)(h:RtS r):dM t r=some (ndm t r):=by have q:=e.wM;unfold dM;have y:=dR (body:=pS t r) (λ (m:List _)i=>(m,i)) (λm c=>dr m c.Name (IntKind.i64.wrap ((bU m c.Name).getD 0+top t.aF c r))) (λ _ _=>True) (λi hi m _=>by unfold pS;rw[if_pos (by simpa using hi),ai hi,qb,JH e.plan (e.cap _ (aT hi)) g j (by simp) (by simpa using h),aj (by omega)];exact⟨rfl,trivial⟩) (λm _=>by unfold pS;rw[if_neg (by simp)]) (s0:=[]) trivial (fuel:=t.aF.Caps.length+1) (by omega);rw[y.1];rfl
def Ki(t:aN)(r:ax):Bool:=(eN t r).getD false
def L9(d:List Int)(t:aN)(r:ax):Bool:=!(ins d r.aG.Lot)||(vR (lft r)).any λs=>yC d t s||yW t s
def idB(e:List ax)(r:ax):Bool:=e.any λx=>x.Id==r.Id
def CS(t:aN)(l:List ax):Bool:=match lu t l with|some x=>x.2|none=>false
def OC(num:Int)(reg:List aB):Int:=reg.foldl (λn f=>if(f.Counter==num)=true then n+1 else n) 1
def o6(c:CC):List ax:=c.reg.map (·.ax)
structure CtS(c:CC)(n:Nat):Prop where
 asc:c.dist.Pairwise (.<.)dl:c.dist.length<=1000reg:Asc c.reg
 rts:S8 c.reg
 len:c.reg.length<=n
structure TwS(t:aN):Prop where
 town:rp t
 land:t.Land.length<=5lots:∀x∈t.Land,zf x
 built:t.Built.length<=4base:t.Base.length<=4
theorem Few.tw{t:aN}{l:List ax}(h:Few t l):TwS t:=⟨h.town,h.land,h.lots,h.built,h.base⟩
theorem RtS.sm{r:ax}(h:RtS r):SmD r.aG:=⟨by have:=h.1;omega,λp e=>⟨by have:=(h.2 p e).1;omega,by have:=(h.2 p e).2;omega⟩⟩
theorem oR{c:CC}{t:aN}{e:List ax}{r:ax}{n f:Nat}{b:Bool}(g:n<6)(h:wk c t e r n=some b):ar (CA c t e r) (f+1) (n:Int)=if b=true then some (.ret (tf n))else ar (CA c t e r) f ((n+1:Nat):Int):=by rw[ar];unfold CA;rw[if_pos (by simp;omega),nP,h];cases b with|true=>rfl;|false=>rw[aj (by omega)];rfl
theorem count_eq(num:Int){reg:List aB}(h:reg.length<=10000):∃j,ar (vV num reg) (reg.length+1) (1,0)=some (.ex 6 (OC num reg,j))/\1<=OC num reg/\OC num reg<=reg.length+1:=by
 have y:=dR (l:=reg) (body:=vV num reg) (λ (n:Int)i=>(n,i)) (λn f=>if(f.Counter==num)=true then n+1 else n) (λi n=>1<=n/\n<=i+1) (λi hi n I=>by
 unfold vV;rw[if_pos (by simpa using hi),ai hi,qb];by_cases e:(reg[i].Counter==num)=true;.rw[if_pos e,if_pos e,cS (by unfold inI;omega),aj (by omega)];exact⟨rfl,by omega,by omega⟩
 .rw[if_neg e,if_neg e,aj (by omega)];exact⟨rfl,by omega,by omega⟩) (λn _=>by unfold vV;rw[if_neg (by simp)]) (s0:=1) ⟨by omega,by omega⟩ (fuel:=reg.length+1) (by omega);exact⟨_,y.1,y.2⟩
def granted(c:CC)(t:aN)(r:ax):CC:={c with dc:=dX c.dc (ndm t r),reg:=El c.reg ⟨c.num,OC c.num c.reg,r⟩}
theorem LL{c:CC}{t:aN}{rights:List ax}{r:ax}(w:CtS c 100)(e:TwS t)(m:RtS r)(y:∀x∈rights,RtS x)(O:rights.length+c.reg.length+1<=10):vK c t rights r=some (if Ki t r=true then if L9 c.dist t r=true then(c,27)else if idB (rights++o6 c) r=true then(c,5)else if CS t (rights++o6 c++[r])=true then if sM c.dc (ndm t r)=true then(c,26)else(granted c t r,0)else(c,21)else(c,1)):=by
 have P:=e.built;have Q:=e.base;have R:=e.land;unfold vK kN;rw[fg (by omega),qb,qb];have H:=dR (l:=c.reg) (body:=Nv c.reg) (k:=0) (λ (l:List ax)i=>(l,i)) (λl f=>l++[f.ax]) (λi l=>l.length=rights.length+i) (λi hi l T=>by unfold Nv;dsimp only;rw[if_pos (by simpa using hi),ai hi,qb,bP (by simp;omega),qb,aj (by omega)];exact⟨rfl,by simp;omega⟩) (λl _=>by unfold Nv;rw[if_neg (by simp)]) (s0:=rights) rfl (fuel:=c.reg.length+1) (by omega);rw[H.1,qb];dsimp only;have u:c.reg.foldl (λl f=>l++[f.ax]) rights=rights++o6 c:=by rw[foldl_flatMap _];simp[o6,List.map_eq_flatMap]
 rw[u];have F:(rights++o6 c).length=rights.length+c.reg.length:=by simp[o6]
 have I:(o6 c).length=c.reg.length:=by simp[o6]
 have z:∀x∈rights++o6 c++[r],RtS x:=by
  intro x q;simp only[dK,o6,aS,fi]at q;rcases q with(q|⟨f,G,rfl⟩)|rfl;.exact y x q
  .exact w.rts f G
  .exact m
 obtain⟨x,q,_⟩:=IJ (rights:=rights++o6 c++[r]) e.town (by simp only[br,yi];omega) z (by omega) (by omega);have t0:wk c t (rights++o6 c) r 0=some (!Ki t r):=by have:=nc (d:=false) (NU (t:=t) (r:=r) (by have:=e.town.wM;omega) (by omega) e.lots m.sm);show(eN t r).bind _=_;rw[this];rfl
 have t1:wk c t (rights++o6 c) r 1=some (L9 c.dist t r):=EN (c:=_) w.asc w.dl e.town m;have t2:wk c t _ r 2=some (idB _ r):=uP (s:=rights++o6 c) (f:=λx=>Dx x r) (g:=λx=>x.Id==r.Id) (by omega) λx _=>rfl;have t3:wk c t (rights++o6 c) r 3=some false:=by show some (decide _)=_;rw[decide_eq_false (by omega)]
 have t4:wk c t (rights++o6 c) r 4=some (!CS t (rights++o6 c++[r])):=by show(Ez t _ r).bind _=_;unfold Ez CS;rw[bP (by simp only[yi];omega),qb,q];rfl
 have t5:wk c t (rights++o6 c) r 5=some (sM c.dc (ndm t r)):=by show(dM t r).bind _=_;rw[Gk e.town (by omega) (by omega) m];rfl
 rw[show(0:Int)=((0:Nat):Int)from rfl,oR (by omega) t0];cases G:Ki t r with|false=>rw[if_pos (by simp),qb];rfl;|true=>rw[if_neg (by simp),if_pos rfl,oR (by omega) t1];cases L9 c.dist t r with|true=>rw[if_pos rfl,qb];rfl;|false=>rw[if_neg (by simp),if_neg (by simp),oR (by omega) t2];cases idB _ r with|true=>rw[if_pos rfl,qb];rfl;|false=>rw[if_neg (by simp),if_neg (by simp),oR (by omega) t3,if_neg (by simp),oR (by omega) t4];cases CS t (rights++o6 c++[r])with|false=>rw[if_pos (by simp),qb];rfl;|true=>rw[if_neg (by simp),if_pos rfl,oR (by omega) t5];cases sM c.dc (ndm t r)with|true=>rw[if_pos rfl,qb];rfl;|false=>rw[if_neg (by simp),if_neg (by simp)];have J:ar (CA c t (rights++o6 c) r) 1 ((5+1:Nat):Int)=some (.ex 2 6):=rfl;rw[J,qb];dsimp only;unfold Ax;obtain⟨j,M,_⟩:=count_eq c.num (reg:=c.reg) (by omega);rw[Gk e.town (by omega) (by omega) m,qb,M,qb];dsimp only;rw[LN m,qb,Oi (c:={c with dc:=dX c.dc (ndm t r)}) w.reg (by dsimp only;omega),qb];rfl
theorem CtS.mono{c:CC}{n m:Nat}(h:CtS c n)(e:n<=m):CtS c m:=⟨h.asc,h.dl,h.reg,h.rts,bq h.len e⟩
theorem Gw(c:CC)(t:aN)(l:List ax)(r:ax):AD (some c) t l r=(vK c t l r).bind λr=>some (some r.1,r.2):=rfl
end Go.Proofs.YtlckpjpbladknaaGreat.Pl
namespace Go.Proofs.YtlckpjpbladknaaGreat
open Go.Gb
set_option maxRecDepth 100000
def rF(t:aN)(d:List Int)(i:Int)(s:Bool×Int):Option (aX (Bool×Int) Bool):=if decide (s.2<(d.length:Int))then(if s.1 then(aR d s.2).bind λn=>(aR t.Windows i).bind λw=>some (n !=w.Lot)else some false).bind λb=>(bc s.2 1).bind λj=>some (.go (b,j))else some (.ex 2 s)
def qV(t:aN)(d:List Int)(s:aN×Int):Option (aX (aN×Int) Bool):=if decide (s.2<(t.Windows.length:Int))then(ar (rF t d s.2) (d.length+1) (true,0)).bind λf=>match f with| .go _=>none| .ret b=>some (.ret b)| .ex _ q=>(if q.1 then(aR t.Windows s.2).bind λw=>(eH s.1.Windows [w]).bind λl=>some {s.1 with Windows:=l}else some s.1).bind λu=>(bc s.2 1).bind λj=>some (.go (u,j))else some (.ex 0 s)
def bare(t:aN):aN:={{{t with aF:={t.aF with Caps:=[]}}with Built:=[]}with Windows:=[]}
def ez(t:aN)(d:List Int)(l:List bj)(r:ax):Option Bool:=(qH t [r]).bind λfw=>if(((!fw)||decide (5<(d.length:Int)))||decide (3<(l.length:Int)))then some true else(ua 0 d l).bind λc=>if c.1.isNone then some true else(AD c.1 t [] r).bind λe=>if(e.2!=0)then some true else(ar (qV t d) (t.Windows.length+1) (bare t,0)).bind λf=>match f with| .go _=>none| .ret b=>some b| .ex _ s=>(lM s.1).bind λa=>(lz s.1 [r]).bind λv=>(lM v).bind λx=>(nX t.Land r.aG.Lot).bind λz=>some (((z.2&&(!((!x.2)&&(x.1.Kind==5))))&&(a.2==x.2))&&(a.1==x.1))
theorem Vf:zd Tryz.prog 65 bZ:=by
 refine⟨by kernel_rfl,λk x y u v hx hy=>?_⟩;obtain⟨csx,ex,rx⟩:=hx;have fx:csx=[.int .i64 x.Kind, .string x.Name, .int .i64 x.N]:=by have hl:=Enc.len rx;obtain⟨u0,u1,u2,rfl⟩:=M5 hl;obtain⟨_,qx0,⟨_,qx1,qx2⟩⟩:=rx;have qx0:u0= .int .i64 x.Kind:=hd1 (show[u0]=[.int .i64 x.Kind]from qx0);have qx1:u1= .string x.Name:=hd1 (show[u1]=[.string x.Name]from qx1);have qx2:u2= .int .i64 x.N:=hd1 (show[u2]=[.int .i64 x.N]from qx2);rw[qx0,qx1,qx2]
 obtain⟨csy,ey,ry⟩:=hy;have fy:csy=[.int .i64 y.Kind, .string y.Name, .int .i64 y.N]:=by have hl:=Enc.len ry;obtain⟨u0,u1,u2,rfl⟩:=M5 hl;obtain⟨_,qy0,⟨_,qy1,qy2⟩⟩:=ry;have qy0:u0= .int .i64 y.Kind:=hd1 (show[u0]=[.int .i64 y.Kind]from qy0);have qy1:u1= .string y.Name:=hd1 (show[u1]=[.string y.Name]from qy1);have qy2:u2= .int .i64 y.N:=hd1 (show[u2]=[.int .i64 y.N]from qy2);rw[qy0,qy1,qy2]
 subst fx;subst fy;subst ex;subst ey;refine⟨⟨_,rfl⟩,⟨_,rfl⟩,λw=>?_⟩;show(Op.equalIn (9998+1+1) 65 (.agg #[.int .i64 x.Kind, .string x.Name, .int .i64 x.N]) (.agg #[.int .i64 y.Kind, .string y.Name, .int .i64 y.N])).run Tryz.prog w=_;rw[run_equalIn_struct w _ 65 _ _ (by kernel_rfl) Tryz.stoodInHeld65];generalize 9998=d;simp[Program.fieldsOf,Op.eqFields,part,s9,<-beq_toListBytes,ew Tryz.underlying3,run_equalIn_int w d 3 .i64 .i64 _ _ Tryz.underlying3,ew Tryz.underlying9,run_equalIn_string w d 9 _ _ Tryz.underlying9];obtain⟨a0,a1,a2⟩:=x;obtain⟨b0,b1,b2⟩:=y;simp only[bZ.mk.injEq];by_cases h0:a0=b0;rotate_left;.simp[h0,yQ]
 subst h0;by_cases h1:a1=b1;rotate_left;.simp[h1,yQ]
 subst h1;by_cases h2:a2=b2;rotate_left;.simp[h2,yQ]
 subst h2;simp[yQ]
def RT:List (TypeId×Nat):=(65,27)::eqs
theorem L1:vw Tryz.prog tbg RT:=⟨Vf,Hj⟩
def ks4:List (Fk tbg Tryz.prog):=[k6,k7.lift glv giv gl0,k13.lift glv giv gl0,k14.lift glv giv gl0,k15.lift glv giv gl0]
def OY:List (FkR tbg Tryz.prog):=[kr8,R3]
def ch4:Cx tbg:=⟨Tryz.prog,tid,RT,jg ks4,iO OY,false,[12],Tryz.f4.results.toList,Tryz.f4.ntmps,yg,λ _=>True,kB (P:=Tryz.prog) []⟩
theorem TD:yr ch4:=⟨uZ ks4,sv OY,L1.at,mG,rfl,sy (P:=Tryz.prog) []⟩
def hk4:Nat->Code->Env tbg->(R:Type)->(Env tbg->Option R)->Option R|0, .region 12 _ _,e,_,K=>(ij e 12 (.b (.st 7))).bind λ (x:aN)=>bif CE [59] e then K ((12, .rs false 2 ({x with Windows:=[]}:aN))::mh (klA 12) e)else none|1, .region 22 _ _,e,_,K=>(ij e 12 (.c 2)).bind λ (x:aN)=>(MC e 4 (.st 7)).bind λ (t:aN)=>(ij e 13 (.v .int)).bind λ (i:Int)=>bif CE [88,89,90,91,92,93,94,95,96,97] e then(aR t.Windows i).bind λw=>(eH x.Windows [w]).bind λl=>K ((12, .rs false 2 ({x with Windows:=l}:aN))::mh (klA 12) e)else none|2, .region 23 A d,e,_,K=>(ij e 12 (.c 2)).bind λ (x:aN)=>evR ch4 A.toList d ((12, .ref (.st 7) x)::mh (klA 12) e) K|_,_,_,_,_=>none
def cx4:Cx tbg:=⟨Tryz.prog,tid,RT,jg ks4,iO OY,false,[12],Tryz.f4.results.toList,Tryz.f4.ntmps,hk4,λc=>c∈jV (body Tryz.f4),kB (P:=Tryz.prog) []⟩
section
variable {A:Array Oper}{d:Bool}{e:Env tbg}{R:Type}{K:Env tbg->Option R}{r:R}
theorem Tt{T:Tb}{n:Nat}{F:FP}{k0:Gb.K}{W:List Nat}{a0:Act}{e:Env T}{a:Act}{k:Gb.K}(h:Hl n F k0 W a0 e a k){s:Nat}{t:Tp}{x:T.D t}(hx:ij e s (.b t)=some x):lk e s= .box false t x/\∃b,a.get s= .pointer (some ⟨b,0,none⟩)/\Gb.Box b x k:=by
 have hs:=h.sl s;simp only[ij]at hx;split at hx;·rename_i u y hl;obtain⟨rfl,e⟩:=cast?_eq hx;obtain rfl:x=y:=e;rw[hl]at hs;exact⟨hl,hs⟩
 .simp at hx
set_option maxHeartbeats 4000000
theorem OT(hc:Code.region 12 A d∈jV (body Tryz.f4))(h:hk4 0 (.region 12 A d) e R K=some r):Oy cx4 (.region 12 A d) e K r:=by obtain⟨rfl,rfl⟩:=EP (show(jV (body Tryz.f4)).filter (IL 12)=[.region 12 _ _]from rfl) hc;intro F k0 W a0 a k Q hW hl hgo;replace h:(ij e 12 (.b (.st 7))).bind _=some r:=h;obtain⟨(x:aN),hx,h⟩:=bind_some h;obtain⟨hlk,bb,hv,hB⟩:=Tt hl hx;have hB:Gb.Box bb (x:aN) k:=hB;cases ht:CE [59] e with|false=>rw[ht]at h;simp at h;|true=>
 rw[ht]at h;simp only[cond_true]at h;refine zz (a0:=a) (k0:=k) (n:=145) (m:=0) [] hl.s (by kernel_rfl) trivial trivial λb q p0=>?_;have hs:b.tmps.size=145:=p0.size.trans hl.s;have hg0:bB k q:=p0.grow;have ho:∀t,b.get t=a.get t:=λt=>p0.old t rfl;have hO:=Gb.Box.open (all:=[eQ]) (hB.grow hg0) Pn hv;have hA:cM bb 0 (b.get 12) q:=by rw[ho];exact hv
 refine bG (i:=0) (d:=59) rfl rfl rfl (by rw[hs];decide) trivial (bp rfl Da hA) λb1 q1 hs1 hd1 ho1 hg1 h1=>?_;refine jr (i:=1) (g:=eQ) (x':=({x with Windows:=[]}:aN)) rfl rfl rfl rfl Nr h1 (Rsc.grow hO hg1) (by decide) ⟨_, .head _,rfl⟩ rfl (λ _ _ _ h=>h) (λ _ h=>nomatch h) (show ak 0 63 ([]:List fu) eU q1 from ir.Pw (.inl rfl)) (λc hc=>absurd hc (ir.Me (v:=eU) (k:=q1) (.inl rfl) c)) λq2 F2 hch hB2 hF2=>?_;have e12:b1.get 12=a.get 12:=by rw[ho1 12 (by decide),ho]
 have hRP:tbg.RP 2 ({x with Windows:=[]}:aN) F2 (b1.get 12) q2:=⟨bb,by rw[e12];exact hB2⟩;have hfp:∀c,bb=c->unl (lk e 12)=true/\(lk e 12).fp (a.get 12) k c:=λc hc=>by rw[hlk];exact⟨rfl,hc▸hv⟩
 refine af (k:=q2) (hgo _ _ _ h (hl.TF (D:=[59]) ht (λt hm=>hW t ?_) (.inr e12) (((Chg.refl (Eq bb) k).then (hg0.trans hg1)).step hch λc hc=> .inl hc) hfp (hs1.trans (hs.trans hl.s.symm)) (hd1.trans p0.defers) (λt hm hne=>?_) ⟨_,hRP⟩ (λ _=>rfl) λc hc=> .inl (hfp c ?_)));.revert t;decide
 ·simp only[bF,rC,or_false]at hm;rw[ho1 t hm,ho t]
 ·have hc:Rk.fp tbg (.c 2) (b1.get 12) q2 c:=hc;rw[mn hRP]at hc;exact(hF2 c hc).elim id λh=>absurd h (ir.Me (v:=eU) (k:=q1) (.inl rfl) c)
theorem OH(hc:Code.region 23 A d∈jV (body Tryz.f4))(h:hk4 2 (.region 23 A d) e R K=some r):Oy cx4 (.region 23 A d) e K r:=by intro F k0 W a0 a k Q hW hl hgo;replace h:(ij e 12 (.c 2)).bind _=some r:=h;obtain⟨(x:aN),hx,h⟩:=bind_some h;obtain⟨hlk,G,bb,hG⟩:=P0 hl hx;have hG:cC bb [eQ] [eQ] (x:aN) G (a.get 12) k:=hG;have hRP0:tbg.RP 2 (x:aN) G (a.get 12) k:=⟨bb,hG⟩;obtain⟨k1,hk,hr⟩:=hG.ref (PL _) (λ _ h=>h);have h1:=hl.hand (s:=12) (av:= .ref (.st 7) (x:aN)) (by rw[hlk];rfl) hk (λc hc=>by rw[hlk];show Rk.fp tbg (.c 2) (a.get 12) k c;rw[mn hRP0];exact hc) hr (λ _=>rfl) rfl;rw[<-hk.w];exact Ig (C:=ch4) TD (λo ho d hd=>hW d (List.mem_filterMap.2 ⟨o,ho,hd⟩)) h1 h hgo
theorem OW(hc:Code.region 22 A d∈jV (body Tryz.f4))(h:hk4 1 (.region 22 A d) e R K=some r):Oy cx4 (.region 22 A d) e K r:=by obtain⟨rfl,rfl⟩:=EP (show(jV (body Tryz.f4)).filter (IL 22)=[.region 22 _ _]from rfl) hc;intro F k0 W a0 a k Q hW hl hgo;replace h:(ij e 12 (.c 2)).bind _=some r:=h;obtain⟨(x:aN),hx,h⟩:=bind_some h;obtain⟨(t:aN),hy,h⟩:=bind_some h;obtain⟨(i:Int),hi0,h⟩:=bind_some h;have hi:aw t (a.get 4) k:=Mn hl hy;have hn:IsV i (a.get 13) k:=(iG (T:=tbg) (t:= .int) (x:=i)).1 (wu hl hi0).1;obtain⟨hlk,G,bb,hG⟩:=P0 hl hx;have hG:cC bb [eQ] [eQ] (x:aN) G (a.get 12) k:=hG;have hRP0:tbg.RP 2 (x:aN) G (a.get 12) k:=⟨bb,hG⟩;cases ht:CE [88,89,90,91,92,93,94,95,96,97] e with|false=>rw[ht]at h;simp at h;|true=>
 rw[ht]at h;simp only[cond_true]at h;obtain⟨w,hw,h⟩:=bind_some h;obtain⟨l,hal,h⟩:=bind_some h;have hA:cM bb 0 (a.get 12) k:=hG.ptr;refine region (a0:=a) (k0:=k) (n:=145) (m:=8) (⟨some (cM bb eQ.off),[(12,none)]⟩::⟨some (tn bb eQ.off),[(88,some 0)]⟩::⟨some (cT t.Windows),[(4,none)]⟩::⟨some (IsV t.Windows),[(90,some 2)]⟩::⟨some (IsV i),[(13,none)]⟩::⟨some (cT w),[(91,some 3),(92,some 4)]⟩::⟨some (IsV w),[(93,some 5)]⟩::⟨some (IsV [w]),[(94,some 6)]⟩::[]) mG hl.s (by kernel_rfl) ⟨ob1 rfl λ _ _ h n=>bp rfl Da (upE hA n.1),ob1 rfl λ _ _ h n=>wH (g:=eQ) rfl Tryz.underlying33 Nr n.1 (Rsc.grow hG h) (.head _),ob1 rfl λ _ _ h n=>ay rfl Da (Lf _) ((up hi h n.1)).ptr,ob1 rfl λ _ _ h n=>au rfl VO n.1,mu rfl hn,ob1 rfl λ _ _ h n=>aV rfl Tryz.underlying33 SL (IsV.rd n.1) n.2.1 hw,ob1 rfl λ _ _ h n=>au rfl SL n.1,ob1 rfl λ _ _ h n=>dJ rfl Tryz.underlying33 Sy rfl (by decide) (by decide) ⟨rfl,n.1,trivial⟩,trivial⟩ trivial λb q p=>?_;have hs:b.tmps.size=145:=p.size.trans hl.s;have hB:cC bb [eQ] [eQ] (x:aN) G (a.get 12) q:=Rsc.grow hG p.grow;have h89:tn bb eQ.off (b.get 89) q:=p.val 1 89 _ _ (by decide) rfl rfl;have h95:IsV [w] (b.get 95) q:=p.val 7 95 _ _ (by decide) rfl rfl;have e12:b.get 12=a.get 12:=p.old 12 rfl;obtain⟨F1,h1,h2,h3,h4,h5⟩:=hB.take h89;have h2:ak 0 63 (x:aN).Windows (b.get 89) q:=h2;have hns:=h2.fT;refine eO (i:=8) (d:=96) rfl rfl rfl rfl (by rw[hs];decide) (e:=63) Tryz.underlying33 Sy h2 (IsV.rd h95) hal λb1 q1 hs1 hd1 ho1 hc1 hown hob=>?_;have hle1:=hc1.le hns;have hB1:cC bb [eQ] [] (x:aN) F1 (a.get 12) q1:=Rsc.keep h1 hc1 h3.symm hns;have ha1:az (obF (b1.get 96)) F1:=λc hc hF=>(hob c hc).elim (λh=>h3 c h hF) λh=>fK _ (fW (Rsc.lt h1 c hF) h);have hv1:cM bb 0 (b1.get 12) q1:=by rw[ho1 12 (by decide),e12];exact hA
 refine bG (i:=9) (d:=97) rfl rfl rfl (by rw[hs1,hs];decide) trivial (bp rfl Da hv1) λb3 q3 hs3 hd3 ho3 hg3 g3=>?_;have e96:b3.get 96=b1.get 96:=ho3 96 (by decide);have hown3:ak 0 63 l (b3.get 96) q3:=by rw[e96];exact aZ.mono hg3 hown
 have hB3:cC bb [eQ] [] (x:aN) F1 (a.get 12) q3:=Rsc.grow hB1 hg3;refine jr (i:=10) (g:=eQ) (x':=({x with Windows:=l}:aN)) rfl rfl rfl rfl Nr g3 hB3 (by decide) ⟨_, .head _,rfl⟩ rfl (λ _ _ _ h=>h) (λ _ h=>nomatch h) hown3 (by show az (obF (b3.get 96)) F1;rw[e96];exact ha1) λq4 F4 hch hB4 hF4=>?_;have e12':b3.get 12=a.get 12:=by rw[ho3 12 (by decide),ho1 12 (by decide),e12]
 have hRP:tbg.RP 2 ({x with Windows:=l}:aN) F4 (b3.get 12) q4:=⟨bb,by rw[e12'];exact hB4⟩;have hfp:∀c,G c->unl (lk e 12)=true/\(lk e 12).fp (a.get 12) k c:=λc hc=>by rw[hlk];exact⟨rfl,by show Rk.fp tbg (.c 2) (a.get 12) k c;rw[mn hRP0];exact hc⟩
 refine af (k:=q4) (hgo _ _ _ h (hl.TF (D:=[88,89,90,91,92,93,94,95,96,97]) ht (λt hm=>hW t ?_) (.inr e12') (((((Chg.refl G k).then p.grow).step hc1 λc hc=> .inl (h5 c hc)).then hg3).step hch λc hc=> .inl (h4 c hc)) hfp (hs3.trans (hs1.trans (hs.trans hl.s.symm))) (hd3.trans (hd1.trans p.defers)) (λt hm hne=>?_) ⟨_,hRP⟩ (λ _=>rfl) λc hc=>?_));.revert t;decide
 ·simp only[bF,rC,or_false,not_or]at hm;rw[ho3 t (by omega),ho1 t (by omega)];refine p.old t ?_;simp[allI];omega
 · have hc:Rk.fp tbg (.c 2) (b3.get 12) q4 c:=hc;rw[mn hRP]at hc;rcases hF4 c hc with h|h;.exact .inl (hfp c (h4 c h))
   ·have h:obF (b3.get 96) c:=h;rw[e96]at h;exact(hob c h).elim (λh=> .inl (hfp c (h5 c h))) λh=> .inr (bq p.grow.size h)
end
def k4:Fk tbg Tryz.prog:=⟨4,⟨[.st 7, .list .int, .list (.st 32), .st 29],[.bool],λx=>ez x.1 x.2.1 x.2.2.1 x.2.2.2⟩,I9 ks4 OY [] false [12] Tryz.f4 hk4 (λi c e R K r hc h=>by
 have h0:=h;replace h:hk4 i c e R K=some r:=h;unfold hk4 at h;split at h;.exact OT hc h0
 .exact OW hc h0
 .exact OH hc h0
 .simp at h) (.s .n (.s .n (.s .n (.s .n (.s .n (.s .n (.s .n (.s .n (.s .n (.s (.h 0) (.s (.s .n (.l [] [(12, .c 2),(13, .v .int)] [(0,[13],[])] (λe=>(gt e 4 (.rf (.st 7)):aN).Windows.length+1) (.s .n (.s (.s .n (.s (.s .n (.l [] [(14, .v .bool),(15, .v .int)] [(2,[15],[])] (fL [1]) .n)) (.s .n (.j [] [(12, .c 2)] ([],[]) (.s (.h 1) .n))))) .n)))) (.s (.h 2) .n)))))))))))) L1 mG rfl Tryz.func4 Tryz.call4 rfl rfl λx=>by kernel_rfl⟩
end Go.Proofs.YtlckpjpbladknaaGreat
namespace Go.Proofs.YtlckpjpbladknaaGreat.Pl
open Go.Gb
set_option maxRecDepth 100000
theorem Ju{α:Type}{l:List α}{i:Int}{x:α}(h:aR l i=some x):x∈l:=by obtain⟨_,h,_⟩:=kZ h;exact ic h
theorem zC{t:aN}(hb:t.Built.length<=1000){β:Int->Bool}:(lC t.Built β).length<=1000/\∀s∈lC t.Built β,Hg s:=by refine⟨bq (wD _ _) hb,λs hs=>?_⟩;unfold lC at hs;obtain⟨b,_,rfl⟩:=aS.1 hs;exact wm _
theorem Jl{t:aN}(hT:rp t)(hb:t.Built.length<=1000)(w:fu):((iF t (λy0=>iX y0 w)).bind λx2=>jv t.aF.Sun x2 (λy0 y1=>fG y0 y1 w))=some (xV t w:Int):=by obtain⟨hl,ht⟩:=zC hb (β:=λlot=>lot==w.Lot);rw[qA (but:=λy0=>iX y0 w) (β:=λlot=>lot==w.Lot) hb λx=>rfl,qb,zy (f:=λy0 y1=>fG y0 y1 w) (g:=λs d=>Gc s w.At d) hT.sun hl λs hs p=>by unfold fG;rw[DP (ht s hs),qb]];rfl
theorem Bz{t:aN}(hb:t.Built.length<=1000)(h3:(t.Built.map (·.aA)).Pairwise λa b=>ovl a b=false)(d:bZ):∃s,ar (eA t) (t.Built.length+1) (0,d)=some (.ex 4 s):=by
 obtain⟨f,k1,_,k3⟩:=cE (body:=eA t) (λi s=>s.1=((i:Nat):Int)) t.Built.length (λf=>∃s,f= .ex 4 s) (λi s hi hs'=>by
 unfold eA;rw[hs',if_pos (by simpa using hi),ai hi,qb,lg (by omega) (by omega) (by omega),qb,show(t.Built.take (i:Int).toNat).drop (0:Int).toNat=t.Built.take i by simp,vu (f:=λy0=>gu y0 t.Built[i]) (g:=λa=>ovl a.aA t.Built[i].aA) (by simp;omega) (λa _=>by unfold gu;rw[N4,qb]),qb];have hc:((t.Built.take i).any λa=>ovl a.aA t.Built[i].aA)=false:=by
  rw[ko];intro y hy;obtain⟨j,hj,rfl⟩:=bz hy;have hj':j<i:=by simp at hj;omega
  rw[uV];have:=gf.1 h3 j i (by simp;omega) (by simpa using hi) hj';simp only[uL]at this;rw[this];simp
 rw[hc,if_neg (by simp),aj (by omega)];exact .inl ⟨_,rfl,rfl⟩) (λs hs'=>by unfold eA;rw[hs',if_neg (by simp)];exact⟨_,rfl,trivial,_,rfl⟩) (0,d) rfl (t.Built.length+1) (by omega);obtain⟨s,rfl⟩:=k3;exact⟨s,k1⟩
theorem AI{σ ρ:Type}{body:σ->Option (aX σ ρ)}{P:ρ->Prop}(hb:∀s r,body s=some (.ret r)->P r):∀{n:Nat}{s:σ}{r:ρ},ar body n s=some (.ret r)->P r
 |0,_,_,h=>by simp[ar]at h;|n+1,s,r,h=>by
  rw[ar]at h;split at h;.cases h
  .exact AI hb h
  .cases h
  .rename_i e;cases h;exact hb _ _ e
theorem yS{α β:Type}{o:Option α}{f g:α->Option β}(h:∀x,f x=g x):o.bind f=o.bind g:=by rw[funext h]
theorem H7{t:aN}(hbt:t.Built.length<=1000)(h3:(t.Built.map (·.aA)).Pairwise λa b=>ovl a b=false){x:bZ×Bool}(h:dP t=some x):x.1.Kind≠5:=by
 unfold dP at h;obtain⟨f,hf,h⟩:=bind_some h
 cases f with|go _=>cases h;|ret r=>
 cases h;have:=AI (P:=λr=>r.1.Kind=2) (λs r h=>by
 unfold eD at h;split at h
 · obtain⟨_,_,h⟩:=bind_some h;obtain⟨_,_,h⟩:=bind_some h;obtain⟨_,_,h⟩:=bind_some h;split at h;.cases h;rfl
   .obtain⟨_,_,h⟩:=bind_some h;cases h
 .cases h) hf;omega|ex i s=>
 obtain⟨l,_,h⟩:=bind_some h;obtain⟨f,hf,h⟩:=bind_some h
 cases f with|go _=>cases h;|ret r=>
 cases h;have:=AI (P:=λr=>r.1.Kind=3) (λs r h=>by
 unfold eG at h;split at h
 · obtain⟨_,_,h⟩:=bind_some h;obtain⟨_,_,h⟩:=bind_some h;split at h;.cases h;rfl
   .obtain⟨_,_,h⟩:=bind_some h;cases h
 .cases h) hf;omega|ex i s=>obtain⟨_,a⟩:=Bz hbt h3 s.2;dsimp only at h;rw[a]at h;cases h;decide
theorem HA{t u:aN}(hp:u.aF=t.aF)(hw:u.Windows=t.Windows)(hT:rp t)(hbt:t.Built.length<=1000)(hbu:u.Built.length<=1000)(h1:∀w∈t.Windows,xV u w=xV t w)(h2:∀w∈t.aF.Views,tX u w=tX t w)(h3:(t.Built.map (·.aA)).Pairwise λa b=>ovl a b=false)(h4:(u.Built.map (·.aA)).Pairwise λa b=>ovl a b=false):∃x,dP t=some x/\dP u=some x/\x.1.Kind≠5:=by
 have hU:rp u:=hT.of hp hw;have e0:eD u=eD t:=by funext s;unfold eD;rw[hw,hp];cases hg:aR t.Windows s.1 with|none=>rfl;|some w=>have a:=Jl hT hbt w;have b:=Jl hU hbu w;rw[h1 w (Ju hg),hp]at b;obtain⟨x,hx,a⟩:=bind_some a;obtain⟨y,hy,b⟩:=bind_some b;simp only[qb,hx,hy,a,b]
 obtain⟨_,ht⟩:=zC hbt (β:=λ _=>false);obtain⟨_,hu⟩:=zC hbu (β:=λ _=>false);have e1:eG u (lC u.Built λ _=>false)=eG t (lC t.Built λ _=>false):=by funext s;unfold eG;rw[hp];cases hg:aR t.aF.Views s.1 with|none=>rfl;|some w=>
  have hm:=Ju hg;have v:∀{t:aN},t.Built.length<=1000->jv w.Targets (lC t.Built λ _=>false) (λy0 y1=>fP y0 y1 w)=some (tX t w:Int):=λ {t}hb=>by obtain⟨hl,ht⟩:=zC hb (β:=λ _=>false);rw[zy (f:=λy0 y1=>fP y0 y1 w) (g:=λs q=>FO s w.Eye q) (hT.view _ hm) hl λs hs p=>by unfold fP;rw[Dj (ht s hs),qb]];rfl
  simp only[qb,v hbt,v hbu,h2 w hm]
 obtain⟨x,hx,_⟩:=FJ hT hbt;refine⟨x,hx,Eq.trans ?_ hx,H7 hbt h3 hx⟩;unfold dP;rw[e0,hw,hp,qA (but:=iY) (β:=λ _=>false) hbu (λx=>rfl),qA (but:=iY) (β:=λ _=>false) hbt (λx=>rfl)];refine yS λf=>?_;cases f with|go _=>rfl;|ret r=>rfl;|ex i s=>dsimp only;rw[qb,qb,e1];refine yS λf=>?_;cases f with|go _=>rfl;|ret r=>rfl;|ex i s=>dsimp only;obtain⟨_,a⟩:=Bz hbt h3 s.2;obtain⟨_,b⟩:=Bz hbu h4 s.2;rw[a,b];rfl
theorem J9{d:List Int}{x:Int}:∀s:Bool,d.foldl (λs n=>if s=true then n !=x else false) s=(s&&!ins d x):=by induction d with|nil=>intro s;cases s<;>rfl;|cons n d ih=>intro s;rw[lX,ih];unfold ins;cases s with|false=>simp;|true=>
 by_cases e:n=x;.subst e;simp
 ·have e2:x≠n:=λh=>e h.symm;simp[e,e2]
theorem KI{t:aN}{d:List Int}{i:Nat}(hi:i<t.Windows.length)(hd:d.length<=1000):∃m,ar (rF t d (i:Int)) (d.length+1) (true,0)=some (.ex 2 (!ins d t.Windows[i].Lot,m)):=by have key:=dR (l:=d) (body:=rF t d (i:Int)) (k:=2) (λ (s:Bool) j=>(s,j)) (λs n=>if s=true then n !=t.Windows[i].Lot else false) (λ _ _=>True) (λj hj s _=>by unfold rF;dsimp only;rw[if_pos (by simpa using hj),ai hj,qb,ai hi,qb];cases s with|false=>rw[if_neg (by simp),qb,aj (by omega)];exact⟨rfl,trivial⟩;|true=>rw[if_pos rfl,qb,aj (by omega)];exact⟨rfl,trivial⟩) (λs _=>by unfold rF;rw[if_neg (by simp)]) (s0:=true) trivial (fuel:=d.length+1) (by omega);rw[J9]at key;exact⟨_,key.1⟩
def Ry(d:List Int)(t:aN):List fu:=t.Windows.filter λw=>!ins d w.Lot
theorem E4{t:aN}{d:List Int}(hw:t.Windows.length<=1000)(hd:d.length<=1000):∃m,ar (qV t d) (t.Windows.length+1) (bare t,0)=some (.ex 0 ({bare t with Windows:=Ry d t},m)):=by
 have key:=dR (l:=t.Windows) (body:=qV t d) (k:=0) (λ (l:List fu) i=>({bare t with Windows:=l},i)) (λl w=>if(!ins d w.Lot)=true then l++[w]else l) (λi l=>l.length<=i) (λi hi l hI=>by
 obtain⟨m,hm⟩:=KI hi hd;unfold qV;dsimp only;rw[if_pos (by simpa using hi),hm,qb];dsimp only;by_cases hc:(!ins d t.Windows[i].Lot)=true;·rw[if_pos hc,if_pos hc,ai hi,qb,bP (by simp;omega),qb,qb,aj (by omega)];exact⟨rfl,by simp;omega⟩
 ·rw[if_neg hc,if_neg hc,qb,aj (by omega)];exact⟨rfl,by omega⟩) (λl _=>by unfold qV;rw[if_neg (by simp)]) (s0:=[]) (by simp) (fuel:=t.Windows.length+1) (by omega);have e:=foldl_filterMap (λw:fu=>!ins d w.Lot) (λw=>w) t.Windows [];rw[List.map_id',gz]at e;rw[e]at key;exact⟨_,key.1⟩
theorem Be{t:aN}(h:t.aF.Caps=[]):lM t=dP t:=by
 unfold lM;rw[h];have:ar (oh t) (([]:List Cap).length+1) (0,(⟨0,(⟨#[]⟩:ByteArray),0⟩:bZ))=some (.ex 0 (0,(⟨0,(⟨#[]⟩:ByteArray),0⟩:bZ))):=by rw[ar];unfold oh;rw[h,if_neg (by simp)]
 rw[this,qb];cases dP t<;>rfl
theorem PM(v:aA):rgt v=okV v:=by unfold rgt hK;rw[eR];rfl
theorem Gz{lot:Int}{β:Int->Bool}{l:List Phase}{s:List cf}(h:s∈lC (l.flatMap λph=>ph.Volumes.map λv=>(⟨lot,v⟩:cd)) β):s∈vR l:=by unfold lC at h;simp only[aS,bL,oS,aK]at h;obtain⟨b,⟨⟨ph,hp,v,hv,rfl⟩,hr,_⟩,rfl⟩:=h;unfold vR;exact oS.2 ⟨ph,hp,aS.2 ⟨v,bL.2 ⟨hv,by rw[<-PM];exact hr⟩,rfl⟩⟩
theorem JX{t:aN}{r:ax}(h:Ki t r=true):∃z,nX t.Land r.aG.Lot=some z/\z.2=true:=by unfold Ki at h;cases hf:eN t r with|none=>rw[hf]at h;simp at h;|some b=>rw[hf]at h;obtain rfl:b=true:=h;unfold eN at hf;obtain⟨z,hz,hf⟩:=bind_some hf;obtain⟨a,_,hf⟩:=bind_some hf;obtain⟨b,_,hf⟩:=bind_some hf;refine⟨z,hz,?_⟩;cases e:z.2 with|true=>rfl;|false=>rw[e]at hf;simp at hf
theorem uT{ps:List bd}{ss:List (List cf)}{g:List cf->bd->Bool}(h:∀s∈ss,∀p∈ps,g s p=false):pU ps ss g=ps.length:=by unfold pU;rw[List.countP_eq_length];intro p hp;rw[cF,ko];exactλs hs=>by rw[h s hs p hp];simp
theorem wq(t:aN)(d:List Int)(l:List bj)(r:ax):ez t d l r=some true:=by
 unfold ez;obtain⟨b,hb,hF⟩:=TX (t:=t) (rights:=[r]);rw[hb,qb];by_cases hno:((!b||decide (5<(d.length:Int)))||decide (3<(l.length:Int)))=true;.rw[if_pos hno]
 rw[if_neg hno];simp only[bT,cF,decide_eq_true_eq,not_or]at hno;have hF:=hF (by simpa using hno.1.1);have ht:=hF.tw;have hr:RtS r:=hF.rts r (by simp);rcases KQ (n:=0) (d:=d) (l:=l) (by omega)with e|⟨dc,e,_,hasc,_⟩;.rw[e,qb];rfl
 rw[e,qb];dsimp only;rw[if_neg (by simp)];have c0:CtS ⟨0,d,dc,[]⟩ 0:=⟨hasc,by dsimp only;omega, .nil,λf hf=>by simp at hf,aO _⟩;rw[Gw,LL (c0.mono (by omega)) ht hr (by simp) (by simp),qb];dsimp only;cases hfit:Ki t r with|false=>rfl;|true=>rw[if_pos rfl];cases hcon:L9 d t r with|true=>rfl;|false=>rw[if_neg (by simp),show idB ([]++o6 ⟨0,d,dc,[]⟩) r=false from rfl,if_neg (by simp)];cases hsafe:CS t ([]++o6 ⟨0,d,dc,[]⟩++[r])with|false=>rfl;|true=>rw[if_pos rfl];cases sM dc (ndm t r)with|true=>rfl;|false=>
 rw[if_neg (by simp),qb];dsimp only;rw[if_neg (by decide)];obtain⟨m,hm⟩:=E4 (t:=t) (d:=d) ht.town.wins (by omega);rw[hm,qb];dsimp only;obtain⟨u,hu⟩:∃u:aN,u={bare t with Windows:=Ry d t}:=⟨_,rfl⟩;rw[<-hu];have eP:u.aF={t.aF with Caps:=[]}:=by rw[hu];rfl
 have eW:u.Windows=Ry d t:=by rw[hu]
 have eB:u.Built=[]:=by rw[hu];rfl
 have eS:u.Base=t.Base:=by rw[hu];rfl
 have hT:rp u:=by have h:=ht.town;refine⟨by rw[eP];exact h.plan,by rw[eP];simp,λc hc=>by rw[eP]at hc;simp at hc,by rw[eP];exact h.sun,by rw[eP];exact h.views,λw hw=>h.view w (by rw[eP]at hw;exact hw),?_⟩;rw[eW];exact bq (uy _ _) h.wins
 have hbs:u.Built.length<=100:=by rw[eB];simp
 have hss:u.Base.length<=100:=by rw[eS];have:=ht.base;omega
 have hrs:∀x∈[r],RtS x:=by simpa using hr
 have hlast:lz u [r]=some (lP [r] u):=Jn (by simp) hrs hbs hss;obtain⟨pP,pW⟩:=vU [r] u;have pB:∀t:aN,(lP [r] t).Built=t.Built++(lft r).flatMap λph=>ph.Volumes.map λv=>(⟨r.aG.Lot,v⟩:cd):=λt=>Fu _ _ _;have hvB:=(um (t:=u) hrs).1;simp only[yi]at hvB;obtain⟨x,hx,hs,_⟩:=IJ (rights:=[r]) ht.town (by simp) hrs (by have:=ht.built;omega) (by have:=ht.base;omega);have hL:Iz (lP [r] t):=(hs.1 (by unfold CS at hsafe;rw[show([]++o6 ⟨0,d,dc,[]⟩++[r])=[r]from rfl,hx]at hsafe;exact hsafe)).2;have hap:((lP [r] u).Built.map (·.aA)).Pairwise λa b=>ovl a b=false:=by refine hL.2.2.sublist (List.Sublist.map _ ?_);rw[pB,pB,eB,gz];exact List.sublist_append_right _ _
 unfold L9 at hcon;simp only[rn,ko]at hcon;have hno:∀β,∀s∈lC (lP [r] u).Built β,yC d t s=false/\yW t s=false:=λβ s hs=>by rw[pB,eB,gz]at hs;have:=hcon.2 s (Gz hs);simpa using this
 obtain⟨y,h1,h2,h3⟩:=HA (t:=u) (u:=lP [r] u) pP pW hT (by omega) (by omega) (λw hw=>by
 unfold xV;rw[pP,uT,uT];.intro s hs;rw[eB]at hs;simp[lC]at hs
 ·intro s hs p hp;have hd:=(hno _ s hs).1;unfold yC at hd;rw[ko]at hd;rw[eW]at hw;obtain⟨hw1,hw2⟩:=bL.1 hw;have hd:=hd w hw1;rw[hw2,Bool.true_and,Bool.not_eq_true,ko]at hd;rw[eP]at hp;simpa using hd p hp) (λw hw=>by
 unfold tX;rw[uT,uT];.intro s hs;rw[eB]at hs;simp[lC]at hs
 ·intro s hs p hp;have hd:=(hno _ s hs).2;unfold yW at hd;rw[ko]at hd;rw[eP]at hw;have hd:=hd w hw;rw[Bool.not_eq_true,ko]at hd;simpa using hd p hp) (by rw[eB];simp) hap;obtain⟨z,hz,hz2⟩:=JX hfit;rw[Be (by rw[eP]),h1,qb,hlast,qb,Be (by rw[pP,eP]),h2,qb,hz,qb,hz2];simp[h3]
end Go.Proofs.YtlckpjpbladknaaGreat.Pl
