/- part 3 of the proof -/
import Derived.Test.YtlckpjpbladknaaGreatL2
set_option linter.unusedVariables false
set_option linter.unusedSimpArgs false
set_option linter.unusedSectionVars false
noncomputable section
namespace Go.Gb
section
variable{V:Type}{e:V}
abbrev iJ(V:Type):=List (Int×Int×V)
def cC(e:V):iJ V->Int->V|[],_=>e|(a,b,v)::t,x=>if a<=x/\x<b then v else cC e t x
def Nxt(n:Int)(v:V):iJ V->Prop|[]=>True|(c,_,w)::_=>n<c∨(n=c/\v≠w)
def Canon(e:V):iJ V->Prop|[]=>True|(a,b,v)::t=>a<b/\v≠e/\Nxt b v t/\Canon e t
theorem uG:∀{l:iJ V}{n:Int}{v:V},Canon e l->Nxt n v l->∀x,x<n->cC e l x=e
 |[],_,_,_,_,_,_=>rfl|(a,b,w)::t,n,v,f,g,x,u=>by
  obtain⟨h1,_,j,m⟩:=f;have q:n<=a:=by rcases g with h|h<;>omega
  simp[cC];rw[if_neg (by omega)];exact uG m j x (by omega)
theorem Bj{a b:Int}{v:V}{t:iJ V}(h:Canon e ((a,b,v)::t)){x:Int}(j:x<a):cC e ((a,b,v)::t) x=e:=by obtain⟨h1,_,f,g⟩:=h;simp[cC];rw[if_neg (by omega)];exact uG g f x (by omega)
theorem np{a b:Int}{v:V}{t:iJ V}(h:a<b):cC e ((a,b,v)::t) a=v:=by simp only[cC];rw[if_pos (by omega)]
theorem Ht{b:Int}{v:V}{t:iJ V}(f:Canon e t)(j:Nxt b v t)(g:v≠e):cC e t b≠v:=by cases t with|nil=>exactλh=>g h.symm;|cons r t=>
 rcases j with h|⟨rfl,h⟩;.rw[Bj f h];exactλh=>g h.symm
 .rw[np f.1];exactλq=>h q.symm
theorem tz:∀{l m:iJ V},Canon e l->Canon e m->(∀x,cC e l x=cC e m x)->l=m
 |[],[],_,_,_=>rfl|[],(a,b,v)::t,_,f,h=>by have:=h a;rw[np f.1]at this;exact absurd this.symm f.2.1;|(a,b,v)::t,[],g,_,h=>by have:=h a;rw[np g.1]at this;exact absurd this g.2.1;|(a,b,v)::t,(q,j,w)::G,g,f,h=>by
  have y:a=q:=by
   rcases vF a q with h1|h1|h1;.have:=h a;rw[np g.1,Bj f h1]at this;exact absurd this g.2.1
   .exact h1
   .have:=h q;rw[np f.1,Bj g h1]at this;exact absurd this.symm f.2.1
  subst y;have z:v=w:=by have:=h a;rwa[np g.1,np f.1]at this
  subst z;obtain⟨H,E,l3,l4⟩:=g;obtain⟨m1,m2,m3,m4⟩:=f;have F:b=j:=by
   rcases vF b j with h1|h1|h1;.have:=h b;simp only[cC]at this;rw[if_neg (by omega),if_pos (by omega)]at this;exact absurd this (Ht l4 l3 E)
   .exact h1
   .have:=h j;simp only[cC]at this;rw[if_neg (show¬(a<=j/\j<j)by omega),if_pos (by omega)]at this;exact absurd this.symm (Ht m4 m3 m2)
  subst F;rw[tz l4 m4 λx=>?_];by_cases u:x<b;.rw[uG l4 l3 x u,uG m4 m3 x u]
  .have:=h x;simp[cC]at this;rwa[if_neg (by omega),if_neg (by omega)]at this
def qV(l:iJ V)(n:Int):Prop:=∀r∈l,r.2.1<=n
def Lst(l:iJ V)(n:Int)(v:V):Prop:=∀r,l.getLast?=some r->r.2.1<n∨(r.2.1=n/\r.2.2≠v)
theorem mU:∀{l:iJ V}{a b:Int}{v:V},Canon e l->Lst l a v->a<b->v≠e->Canon e (l++[(a,b,v)])
 |[],a,b,v,_,_,h,g=>⟨h,g,trivial,trivial⟩|[(c,d,w)],a,b,v,f,j,h,g=>by
  refine⟨f.1,f.2.1,?_,h,g,trivial,trivial⟩;rcases j _ rfl with h|⟨h1,m⟩;.exact .inl h
  .exact .inr ⟨h1,m⟩|(c,d,w)::(u,x,y)::t,a,b,v,f,j,h,g=>⟨f.1,f.2.1,f.2.2.1,mU f.2.2.2 (λr q=>j r (q)) h g⟩
theorem tc:∀{l m:iJ V},Canon e (l++m)->Canon e l|[],_,_=>trivial|[(c,d,w)],_,h=>⟨h.1,h.2.1,trivial,trivial⟩|(c,d,w)::(f,g,j)::t,m,h=>⟨h.1,h.2.1,h.2.2.1,tc h.2.2.2⟩
theorem wN:∀{l:iJ V}{a b:Int}{v:V},Canon e (l++[(a,b,v)])->a<b/\v≠e/\Lst l a v
 |[],a,b,v,h=>⟨h.1,h.2.1,λr f=>by simp at f⟩|[(c,d,w)],a,b,v,h=>by
  refine⟨h.2.2.2.1,h.2.2.2.2.1,λr f=>?_⟩;simp at f;subst f;rcases h.2.2.1 with h|⟨h1,g⟩;.exact .inl h
  .exact .inr ⟨h1,g⟩|(c,d,w)::(m,q,u)::t,a,b,v,h=>by obtain⟨h1,g,j⟩:=wN h.2.2.2;exact⟨h1,g,λr f=>j r (f)⟩
theorem wL:∀{l:iJ V}{a b:Int}{v:V},Canon e (l++[(a,b,v)])->qV l a
 |[],_,_,_,_=>λr f=>by simp at f;|(c,d,w)::t,a,b,v,h=>by
  have h1:=h.2.2.2;have g:=wL h1;intro r f;rcases bD.1 f with rfl|f;.have j:=h.2.2.1;cases t with|nil=>rcases j with h|h<;>simp_all<;>omega;|cons u t=>
 obtain⟨m,x,y⟩:=u;have z:=g (m,x,y) (by simp);have E:=h1.1;simp at z;have F:d<=m:=by rcases j with h|h<;>omega
 show d<=a;omega
  .exact g r f
theorem jy:∀{l:iJ V}{a b:Int}{v:V},qV l a->∀x,cC e (l++[(a,b,v)]) x=if a<=x/\x<b then v else cC e l x|[],a,b,v,_,x=>rfl|(c,d,w)::t,a,b,v,h,x=>by have h1:=h (c,d,w) (by simp);simp[cC];rw[jy (λr f=>h r (bR _ f))];grind
def wb[DecidableEq V](e:V)(l:iJ V)(a b:Int)(v:V):iJ V:=if v=e then l else match l.getLast? with|some (c,d,w)=>if d=a/\w=v then l.dropLast++[(c,b,v)]else l++[(a,b,v)]|none=>[(a,b,v)]
theorem Im[DecidableEq V]{l:iJ V}{a b:Int}(v:V)(j:Canon e l)(g:qV l a)(q:a<b):Canon e (wb e l a b v)/\qV (wb e l a b v) b/\∀x,cC e (wb e l a b v) x=if a<=x/\x<b then v else cC e l x:=by
 unfold wb;by_cases m:v=e
 · rw[if_pos m];refine⟨j,λr f=>by have:=g r f;omega,λx=>?_⟩;split
   · rename_i h;subst m;have:∀{l:iJ V},qV l a->cC v l x=v:=by intro l;induction l with|nil=>intro _;rfl;|cons r t z=>obtain⟨c,d,w⟩:=r;intro g;have:=g (c,d,w) (by simp);simp only at this;simp only[cC];rw[if_neg (by omega)];exact z λr f=>g r (bR _ f)
     exact this g
   .rfl
 · rw[if_neg m];rcases vI l with rfl|⟨F,⟨c,d,w⟩,rfl⟩;.exact⟨⟨q,m,trivial,trivial⟩,λr f=>by simp at f;subst f;exact gf _,λx=>rfl⟩
   · simp only[vM,List.getLast?_append,List.getLast?_singleton,Option.some_or,List.dropLast_concat]at g j⊢;obtain⟨G,H,k3⟩:=wN j;have u:=wL j;have E:d<=a:=g (c,d,w) (by simp);split
     · rename_i h;obtain⟨rfl,rfl⟩:=h;refine⟨mU (tc j) k3 (by omega) m,λr f=>?_,λx=>?_⟩
       · rcases dq.1 f with h|h;.have:=g r (qX _ h);omega
         .simp at h;subst h;exact gf _
       ·rw[jy u,jy u];grind
     · rename_i h;refine⟨mU j (λr f=>?_) q m,λr f=>?_,λx=>jy g x⟩;·simp at f;subst f;grind
       · rcases dq.1 f with h|h;.have:=g r h;omega
         .simp at h;subst h;exact gf _
theorem pL:∀{l:iJ V}{x:Int},cC e l x=e∨∃a b,(a,b,cC e l x)∈l/\a<=x/\x<b
 |[],_=> .inl rfl|(a,b,v)::t,x=>by
  simp only[cC];split;.rename_i h;exact .inr ⟨a,b,by simp,h⟩
  · rcases pL (l:=t)with h|⟨f,g,h1,j⟩;.exact .inl h
    .exact .inr ⟨f,g,bR _ h1,j⟩
theorem uK:∀{l:iJ V}{a b x:Int}{v:V},Canon e l->(a,b,v)∈l->a<=x->x<b->cC e l x=v
 |(c,d,w)::t,a,b,x,v,u,m,h1,g=>by
  obtain⟨y,z,k3,j⟩:=u;rcases bD.1 m with h|h;.obtain⟨rfl,rfl,rfl⟩:=h;simp only[cC];rw[if_pos ⟨h1,g⟩]
  · have f:=uK j h h1 g;simp[cC];split
    · rename_i q;have:=uG j k3 x q.2;exfalso;rw[f]at this;have:v≠e:=by clear this f h1 g q y z k3 m;induction t with|nil=>simp at h;|cons r t f=>obtain⟨_,F,_,G⟩:=j;grind
      exact this (by assumption)
    .exact f
theorem yf:∀{l:iJ V}{a b:Int}{v:V},Canon e l->(a,b,v)∈l->a<b/\v≠e
 |(c,d,w)::t,a,b,v,f,m=>by
  rcases bD.1 m with h|h;.obtain⟨rfl,rfl,rfl⟩:=h;exact⟨f.1,f.2.1⟩
  .exact yf f.2.2.2 h
end
def Ax(e:Type)(n:Int):Option (List e):=if 0<=n/\n<=1073741824 then some []else none
theorem IL{e:Type}{n:Int}(f:0<=n)(h:n<=1073741824):Ax e n=some []:=if_pos ⟨f,h⟩
theorem zr{e:Type}{l:List e}{x:e}{i:Int}(h:i=(l.length:Int)):aL (l++[x]) i=some x:=by subst h;unfold aL;simp
theorem Au{e:Type}{l:List e}{x y:e}{i:Nat}(h:i=l.length):(l++[x]).set i y=l++[y]:=by simp_all
theorem Fc{e:Type}{l:List e}{x:e}(h:l.length<4611686018427387904):fi (((l++[x]).length:Nat):Int) 1=some (l.length:Int):=by rw[db (by unfold inI;simp;omega)];simp
theorem pF{i:Nat}(e:0<i)(h:i<4611686018427387904):fi (i:Int) 1=some ((i-1:Nat):Int):=by rw[db (by unfold inI;omega)];congr 1;omega
theorem dz{e f ρ g:Type}{l:List g}{body:f->Option (aY f ρ)}{k:Nat}(st:e->Int->f)(step:e->g->e)(Inv:Nat->e->Prop)(q:∀i(hi:i<l.length)s,Inv i s->body (st s (i:Int))=some (.go (st (step s l[i]) ((i+1:Nat):Int)))/\Inv (i+1) (step s l[i]))(w:∀s,Inv l.length s->body (st s (l.length:Int))=some (.ex k (st s (l.length:Int)))){s0:e}(F:Inv 0 s0){fuel:Nat}(j:l.length<fuel):ar body fuel (st s0 0)=some (.ex k (st (l.foldl step s0) (l.length:Int)))/\Inv l.length (l.foldl step s0):=by
 have y:∀m i s,i+m=l.length->Inv i s->∀fuel,m<fuel->ar body fuel (st s i)=some (.ex k (st ((l.drop i).foldl step s) l.length))/\Inv l.length ((l.drop i).foldl step s):=by intro m;induction m with
 |zero=>
 intro i s hi I fuel j;obtain rfl:i=l.length:=by omega
 obtain⟨fuel,rfl⟩:∃m,fuel=m+1:=⟨fuel-1,by omega⟩;simp;simp only[ar,w s I];exact⟨trivial,I⟩|succ m x=>
  intro i s hi I fuel j;obtain⟨fuel,rfl⟩:∃m,fuel=m+1:=⟨fuel-1,by omega⟩;have h:i<l.length:=by omega
  obtain⟨h1,E⟩:=q i h s I;rw[l8 h,iw];simp[ar,h1];exact x (i+1) _ (by omega) E fuel (by omega)
 grind
theorem GO{f g ρ q:Type}{l:List q}{body:g->Option (aY g ρ)}{k:Nat}(st:f->Int->g)(Inv:Nat->f->Prop)(w:∀i(hi:i<l.length)s,Inv i s->∃e,body (st s (i:Int))=some (.go (st e ((i+1:Nat):Int)))/\Inv (i+1) e)(x:∀s,Inv l.length s->body (st s (l.length:Int))=some (.ex k (st s (l.length:Int)))){s0:f}(E:Inv 0 s0){fuel:Nat}(j:l.length<fuel):∃s,ar body fuel (st s0 0)=some (.ex k (st s (l.length:Int)))/\Inv l.length s:=by
 have y:∀m i s,i+m=l.length->Inv i s->∀fuel,m<fuel->∃e,ar body fuel (st s i)=some (.ex k (st e l.length))/\Inv l.length e:=by intro m;induction m with
 |zero=>
 intro i s hi h fuel j;obtain rfl:i=l.length:=by omega
 obtain⟨fuel,rfl⟩:∃m,fuel=m+1:=⟨fuel-1,by omega⟩;refine⟨s,?_,h⟩;simp[ar,x s h]|succ m F=>intro i s hi h fuel j;obtain⟨fuel,rfl⟩:∃m,fuel=m+1:=⟨fuel-1,by omega⟩;obtain⟨e,h1,G⟩:=w i (by omega) s h;obtain⟨H,I,J⟩:=F (i+1) e (by omega) G fuel (by omega);refine⟨H,?_,J⟩;simp[ar,h1];exact I
 exact y l.length 0 s0 (by omega) E fuel j
theorem CN{f g ρ:Type}{body:g->Option (aY g ρ)}{k:Nat}(st:f->Int->g)(a N:Nat)(w:a<=N)(Inv:Nat->f->Prop)(x:∀i,a<=i->i<N->∀s,Inv i s->∃e,body (st s (i:Int))=some (.go (st e ((i+1:Nat):Int)))/\Inv (i+1) e)(y:∀s,Inv N s->body (st s (N:Int))=some (.ex k (st s (N:Int)))){s0:f}(M:Inv a s0){fuel:Nat}(j:N-a<fuel):∃s,ar body fuel (st s0 (a:Int))=some (.ex k (st s (N:Int)))/\Inv N s:=by
 have E:∀m i s,i+m=N->a<=i->Inv i s->∀fuel,m<fuel->∃e,ar body fuel (st s i)=some (.ex k (st e N))/\Inv N e:=by intro m;induction m with
 |zero=>
 intro i s hi q h fuel j;obtain rfl:i=N:=by omega
 obtain⟨fuel,rfl⟩:∃m,fuel=m+1:=⟨fuel-1,by omega⟩;refine⟨s,?_,h⟩;simp[ar,y s h]|succ m F=>intro i s hi q h fuel j;obtain⟨fuel,rfl⟩:∃m,fuel=m+1:=⟨fuel-1,by omega⟩;obtain⟨e,h1,G⟩:=x i q (by omega) s h;obtain⟨H,I,J⟩:=F (i+1) e (by omega) (by omega) G fuel (by omega);refine⟨H,?_,J⟩;simp[ar,h1];exact I
 grind
theorem CU{ρ w:Type}{l:List w}{body:Int->Option (aY Int ρ)}{k:Nat}(p:w->Prop)(r:Nat->ρ)(H:∀i(hi:i<l.length),(p l[i]/\body (i:Int)=some (.ret (r i)))∨(¬p l[i]/\body (i:Int)=some (.go ((i+1:Nat):Int))))(I:body (l.length:Int)=some (.ex k (l.length:Int))){fuel:Nat}(u:l.length<fuel):(∃i,∃hi:i<l.length,p l[i]/\(∀j(e:j<i),¬p (l[j]'(by omega)))/\ar body fuel 0=some (.ret (r i)))∨((∀x∈l,¬p x)/\ar body fuel 0=some (.ex k (l.length:Int))):=by
  have y:∀m i,i+m=l.length->(∀j(e:j<i)z,¬p l[j])->∀fuel,m<fuel->(∃j,∃e:j<l.length,p l[j]/\(∀q(E:q<j),¬p (l[q]'(by omega)))/\ar body fuel i=some (.ret (r j)))∨((∀j(e:j<l.length),¬p l[j])/\ar body fuel i=some (.ex k l.length)):=by
   intro m;induction m with|zero=>
 intro i hi g fuel u;obtain rfl:i=l.length:=by omega
 obtain⟨fuel,rfl⟩:∃m,fuel=m+1:=⟨fuel-1,by omega⟩;refine .inr ⟨λj e=>g j e e,?_⟩;simp[ar,I]|succ m J=>
   intro i hi g fuel u;obtain⟨fuel,rfl⟩:∃m,fuel=m+1:=⟨fuel-1,by omega⟩;rcases H i (by omega)with⟨h1,f⟩|⟨h1,f⟩;.refine .inl ⟨i,by omega,h1,λq E=>g q E (by omega),?_⟩;simp[ar,f]
   .simp[ar,f];exact J (i+1) (by omega) (λj e z=>by
 rcases bJ j i with h|h;.exact g j h z
 · obtain rfl:j=i:=by omega
   exact h1) fuel (by omega)
  rcases y l.length 0 (by omega) (λj e _=>absurd e (fv j)) fuel u with h|⟨h1,f⟩;.exact .inl h
  .refine .inr ⟨λx M=>?_,f⟩;obtain⟨j,e,rfl⟩:=br M;exact h1 j e
theorem foldl_filterMap{e g:Type}(p:e->Bool)(f:e->g):∀(l:List e)(s:List g),l.foldl (λs r=>if p r then s++[f r]else s) s=s++(l.filter p).map f
 |[],s=>by simp;|x::l,s=>by
  rw[iw,foldl_filterMap p f l];by_cases h:p x=true;.simp [h]
  .simp [h]
theorem foldl_flatMap{e g:Type}(f:e->List g):∀(l:List e)(s:List g),l.foldl (λs r=>s++f r) s=s++l.flatMap f|[],s=>by simp;|x::l,s=>by rw[iw,foldl_flatMap f l];simp
def Bz(n:Int):Int:=IntKind.i64.wrap (IK.shr (IK.mk (IntKind.u64.wrap n):IK .u64) 1).n
theorem MZ{n:Int}(e:0<=n)(h:n<9223372036854775808):Bz n=n/2:=by
 unfold Bz IK.shr;have e1:IntKind.u64.wrap n=n:=by simp[IntKind.wrap,IntKind.bits];omega
 rw[IntKind.wrap_i64];grind
theorem bsearch{G ρ:Type}{l:List G}{p:G->Bool}{body:Int×Int->Option (aY (Int×Int) ρ)}{k:Nat}(V:l.length<4611686018427387904)(H:∀i j(u:i<j)(g:j<l.length),p l[j]=true->p (l[i]'(by omega))=true)(Q:∀i j:Nat,∀u:i<j,∀g:j<=l.length,body ((i:Int),(j:Int))=some (.go (if p (l[(i+j)/2]'(by omega))then((((i+j)/2+1:Nat):Int),(j:Int))else((i:Int),(((i+j)/2:Nat):Int)))))(I:∀i:Nat,body ((i:Int),(i:Int))=some (.ex k ((i:Int),(i:Int)))){fuel:Nat}(x:l.length<fuel):∃n:Nat,n<=l.length/\ar body fuel (0,(l.length:Int))=some (.ex k ((n:Int),(n:Int)))/\(∀i(hi:i<l.length),p l[i]=true↔i<n):=by
  have y:∀m i j:Nat,i<=j->j-i<=m->∀g:j<=l.length,(∀q(f:q<l.length),q<i->p l[q]=true)->(∀q(f:q<l.length),j<=q->p l[q]=false)->∀fuel,m<fuel->∃n:Nat,n<=l.length/\ar body fuel ((i:Int),(j:Int))=some (.ex k ((n:Int),(n:Int)))/\(∀i(hi:i<l.length),p l[i]=true↔i<n):=by
   intro m;induction m with|zero=>
 intro i j u R g h1 M fuel x;obtain rfl:i=j:=by omega
 obtain⟨fuel,rfl⟩:∃m,fuel=m+1:=⟨fuel-1,by omega⟩;refine⟨i,g,by simp only[ar,I],λq f=>⟨λh=>?_,h1 q f⟩⟩;grind|succ m P=>
      intro i j u R g h1 M fuel x;obtain⟨fuel,rfl⟩:∃m,fuel=m+1:=⟨fuel-1,by omega⟩;rcases bJ i j with z|T
      · have e:=Q i j z g;have U:(i+j)/2<l.length:=by omega
        split at e;·rename_i w;simp only[ar,e];exact P _ j (by omega) (by omega) g (λq f E=>by
 rcases bJ q ((i+j)/2)with h|h;.exact H q _ h U w
 · have:q=(i+j)/2:=by omega
   subst this;exact w) M fuel (by omega)
        ·rename_i w;simp only[ar,e];exact P i _ (by omega) (by omega) (by omega) h1 (λq f E=>by
 rcases bJ ((i+j)/2) q with h|h;.rw[rV];intro F;exact w (H _ q h f F)
 · have:q=(i+j)/2:=by omega
   subst this;simpa using w) fuel (by omega)
      · obtain rfl:i=j:=by omega
        refine⟨i,g,by simp only[ar,I],λq f=>⟨λh=>?_,h1 q f⟩⟩;grind
  exact y l.length 0 l.length (bY _) (by omega) (aA _) (λq _ h=>absurd h (fv q)) (λq f h=>absurd f (by omega)) fuel x
open Go.Proofs Go.Sort Go.RowKit Go.Lib
variable{P:Program}
def EE{f:Type}[Enc f](v:Value)(k:K)(e:TypeId)(x:List f):Pred:=λu g=>ah 0 e x u g/\Wr (obF v) k (obF u)
theorem RG{f:Type}[Enc f]{u v:Value}{k:K}{B:Nat}{e:TypeId}{x:List f}(h:v=u)(g:ah B e x v k):bC u B e x v k:=⟨h,g⟩
theorem GP{k:K}:∀{f:List Int}{e:List Value},cV k e f↔e=f.map (Value.int .i64)
 |[],e=>by simp[cV];|x::f,e=>by
  rw[pc];have:∀l:List Int,(l.map λn=>cS.enc n).flatten=l.map (Value.int .i64):=by intro l;induction l with|nil=>rfl;|cons a l h=>simp[h];rfl
  rw[this]
section
variable{k0:K}{b off cap:Nat}{cur:Array Value}{e:TypeId}{xs:List Int}{cs:List Value}
theorem DB(g:k0.w.heap[b]?=some (.cells cur e (0,0)))(m:off+xs.length<=cur.size)(f:(cur.toList.drop off).take (xs.length*Enc.sz Int)=cs)(h:cV k0 cs xs):Holds (Value.int .i64) k0.w b off xs.toArray:=by
 intro j q;simp[kn]at q;refine⟨?_,by simp[World.frozen?,g]⟩;have h1:cs[j]?=cur[off+j]?:=by rw[<-f,lR,if_pos (by show j<xs.length*1;omega),nM,rG]
 rw[GP.1 h]at h1;simp only[World.cell?,g,<-h1];rw[getElem!_pos _ j (by simpa using q)];simp
theorem J0{ys zs:List Int}(V:0<=b)(W:¬k0.sh b)(Q:k0.w.heap[b]?=some (.cells cur e (0,0)))(hc1:xs.length<=cap)(y:0<cap)(J:cap<=maxLen)(j:off+cap*Enc.sz Int<=cur.size)(z:(ys++zs).length=xs.length){w':World}{n:Nat}{os:Array Obj}(q:w'=grow (putRow (Value.int .i64) (Sort.ahead k0.w n) b off (ys++zs).toArray) os):∃f:K,f.w=w'/\Chg (obF (.slice (some ⟨b,off,none⟩) xs.length cap)) k0 f/\ah 0 e ys (.slice (some ⟨b,off,none⟩) ys.length cap) f:=by
 have M:b<k0.w.heap.size:=(bO.1 Q).1;have E:k0.w.heap.size<=w'.heap.size:=by rw[q];unfold putRow mapBlock;simp[grow,Sort.ahead]
 have hblk:∀x,x<k0.w.heap.size->x≠b->w'.heap[x]?=k0.w.heap[x]?:=by intro x F O;rw[q];unfold putRow mapBlock;rw[heap_grow_old _ _ (by simpa[Sort.ahead]using F)];simp[vB,O.symm,Sort.ahead]
 have G:w'.heap[b]?=some (.cells (putCells (Value.int .i64) off (ys++zs).toArray cur) e (0,0)):=by rw[q];unfold putRow mapBlock;rw[heap_grow_old _ _ (by simpa[Sort.ahead]using M)];simp[vB,Q,onCells,Sort.ahead]
 let f:K:=⟨w',k0.sh,λx F=>gk (k0.lt x F) E⟩;have hyl:ys.length<=xs.length:=by rw[<-z,bA];omega
 have T:Enc.sz Int=1:=rfl;refine⟨f,rfl,⟨by rw[show f.w=w' from rfl,q];rfl,by rw[show f.w=w' from rfl,q];rfl,by rw[show f.w=w' from rfl,q];rfl,E,λx F hF=>hblk x F λe'=>hF (by simp[obF,ob,e',fW y]),λ _ h=>h,λ _ _ h=> .inl h,by rw[show f.w=w' from rfl,q];exact Nat.le_add_right _ _⟩, .inr (.inr ⟨b,off,cap,_,_,rfl,V,W,G,by omega,y,J,by simpa[putCells]using j,rfl,?_⟩)⟩;rw[GP];refine oC λt=>?_;rw[lR,T,Nat.mul_one];split
 · rename_i U;have I:off+t<cur.size:=by rw[T]at j;omega
   rw[nM,rG,putCells,Array.getElem?_mapIdx,dU I,dW,if_pos (by simp;omega),r6,getElem!_pos _ t (by simp;omega),nX,bZ U];simp[yY U]
 grind
end
theorem Li{f:FuncId}{S:List Int->List Int}{e:TypeId}{xs:List Int}{v0:Value}{k0:K}(z:(S xs).length=xs.length)(j:∀p cap w,Calls P f #[.slice p 0 cap] w λe m=>e= .returned (.tuple #[])/\m=w)(T:∀blk off cap (w:World),Holds (Value.int .i64) w blk off xs.toArray->blk<w.heap.size->Calls P f #[.slice (some ⟨blk,off,none⟩) xs.length cap] w λe m=>e= .returned (.tuple #[])/\∃n os,m=grow (putRow (Value.int .i64) (Sort.ahead w n) blk off (S xs).toArray) os)(i0:ah 0 e xs v0 k0):Calls P f #[v0] k0.w (cr (obF v0) k0 λ_ q=>ah 0 e (S xs) v0 q):=by
 have Q:∀p cap,v0= .slice p 0 cap->xs=[]->Calls P f #[v0] k0.w (cr (obF v0) k0 λ _ q=>ah 0 e (S xs) v0 q):=by intro p cap u x;have E:S xs=[]:=pR.1 (by rw[z,x];rfl);subst u;refine(j p cap k0.w).mono ?_;rintro U m⟨rfl,rfl⟩;refine⟨k0,rfl,Chg.refl _ k0,?_⟩;rw[E];rw[x]at i0;exact i0
 rcases i0 with⟨u,x⟩|⟨a,u,x⟩|⟨b,off,cap,cur,cs,rfl,V,W,F,G,I,J,h,M,y⟩;.exact Q _ _ u x
 .exact Q _ _ u x
 .have O:b<k0.w.heap.size:=(bO.1 F).1;have hE:Enc.sz Int=1:=rfl;have hH:=DB F (by rw[hE]at h;omega) M y;refine(T b off cap k0.w hH O).mono ?_;rintro U m⟨rfl,n,os,hw⟩;obtain⟨q,e1,hg,g⟩:=J0 (zs:=[]) V W F G I J h (by simpa using z) (by simpa using hw);exact⟨q,e1,hg,by rw[z]at g;exact g⟩
theorem EC{f:FuncId}{e:TypeId}{xs:List Int}{v0:Value}{k0:K}(Q:(compact xs).length<=xs.length)(T:xs.length<=1073741824)(j:∀p cap w,Calls P f #[.slice p 0 cap] w λe w'=>e= .returned (.slice p 0 cap)/\w'=w)(W:∀blk off cap (w:World),Holds (Value.int .i64) w blk off xs.toArray->xs.length<=cap->Calls P f #[.slice (some ⟨blk,off,none⟩) xs.length cap] w λe w'=>e= .returned (.slice (some ⟨blk,off,none⟩) (compact xs).length cap)/\∃q,w'=putRow (Value.int .i64) (Sort.ahead w q) blk off (compact xs++List.replicate (xs.length-(compact xs).length) 0).toArray)(i0:ah 0 e xs v0 k0):Calls P f #[v0] k0.w (cr (obF v0) k0 (EE v0 k0 e (compact xs))):=by
 have U:∀p cap,v0= .slice p 0 cap->xs=[]->Calls P f #[v0] k0.w (cr (obF v0) k0 (EE v0 k0 e (compact xs))):=by intro p cap z x;have I:compact xs=[]:=pR.1 (by rw[x]at Q⊢;simpa using Q);subst z;refine(j p cap k0.w).mono ?_;rintro e' w'⟨rfl,rfl⟩;refine⟨k0,rfl,Chg.refl _ k0,?_,λb h=> .inl h⟩;rw[I];rw[x]at i0;exact i0
 rcases i0 with⟨z,x⟩|⟨a,z,x⟩|⟨b,off,cap,cur,cs,rfl,hB,ho,V,E,J,M,g,O,F⟩;.exact U _ _ z x
 .exact U _ _ z x
 .have hE:Enc.sz Int=1:=rfl;have hH:=DB V (by rw[hE]at g;omega) O F;refine(W b off cap k0.w hH E).mono ?_;rintro e' w'⟨rfl,q,hw⟩;obtain⟨k',e1,hg,G⟩:=J0 (ys:=compact xs) (zs:=List.replicate (xs.length-(compact xs).length) 0) (w':=w') hB ho V E J M g (by simp;omega) (by rw[hw,grow_empty]);refine⟨k',e1,hg,G,λb h=> .inl ?_⟩;simpa[obF,ob]using h
theorem Ge{f:FuncId}{x:Type}[Enc x]{e:TypeId}{n:Int}{r:List x}{v0 J:Value}{k0:K}(O:dJ P e x)(i0:v0= .slice none 0 0)(Q:IsV n J k0)(y:Ax x n=some r)(R:Calls P f #[.slice none 0 0, .int .i64 0] k0.w λe g=>e= .returned (.slice none 0 0)/\g=k0.w)(h1:∀(m:Nat)(i:TypeInfo)(z:Value),0<m->m<=1073741824->P.info? e=some i->i.zero=some z->0<i.size->i.bytes<=65536->Calls P f #[.slice none 0 0, .int .i64 (m:Int)] k0.w λT g=>T= .returned (.slice (some ⟨k0.w.heap.size,0,none⟩) 0 (grownCap k0.w (0+m) 0 e))/\g=k0.w.drew.alloc (.cells (([]:List Value).toArray++Builtin.zeroCells z.cells (0+m-0)++Builtin.zeroCells z.cells (grownCap k0.w (0+m) 0 e-(0+m))) e)):Calls P f #[v0,J] k0.w (Ret k0 (ah k0.w.heap.size e r)):=by
 subst i0;obtain rfl:=au.1 Q;unfold Ax at y;split at y
 · rename_i hn;obtain rfl:=ae y;rcases ky 0 n with U|U
   · obtain⟨m,rfl⟩:∃m:Nat,n=m:=⟨n.toNat,by omega⟩;obtain⟨i,z,hi,E,V,F,M,G⟩:=O;refine(h1 m i z (by omega) (by omega) hi E (by omega) G).mono ?_;rintro W g⟨rfl,j⟩;have H:=grownCap_ge k0.w (0+m) 0 e;have u:grownCap k0.w (0+m) 0 e<=maxLen:=grownCap_le_maxLen k0.w _ 0 e (by unfold maxLen;omega);generalize grownCap k0.w (0+m) 0 e=cap at H u j;let q:K:=⟨g,k0.sh,λb I=>by have:=k0.lt b I;rw[j];simp;omega⟩;have hblk:∀b,b<k0.w.heap.size->g.heap[b]?=k0.w.heap[b]?:=λb I=>by rw[j];exact(World.grownBy_alloc k0.w.drew _ none).block b I (by simp)
     refine⟨q,rfl,⟨by rw[show q.w=g from rfl,j];rfl,by rw[show q.w=g from rfl,j];rfl,by rw[show q.w=g from rfl,j];rfl,by rw[show q.w=g from rfl,j];simp,hblk,λ _ h=>h,λ _ _ h=>h,by rw[show q.w=g from rfl,j];exact gN _⟩,.inr (.inr ⟨k0.w.heap.size,0,cap,_,[],rfl,aA _,λhs=>fC _ (k0.lt _ hs),by rw[show q.w=g from rfl,j];exact heap_alloc_new k0.w.drew _,bY _,by omega,u,?_,by simp,rfl⟩)⟩;simp only[vi,size_zeroCells,F];simp[iC,bw];rw[<-dM];exact ep _ (by omega)
   · obtain rfl:n=0:=by omega
     refine R.mono ?_;rintro W g⟨rfl,rfl⟩;exact⟨k0,rfl,bE.refl k0, .inl ⟨rfl,rfl⟩⟩
 .simp at y
theorem H4{k f:K}(h:bE k f):∃q g,f.w=grow (k.w.drewN q) g:=by
 refine⟨f.w.drawn-k.w.drawn,f.w.heap.extract k.w.heap.size f.w.heap.size,?_⟩;have e1:f.w.heap=k.w.heap++f.w.heap.extract k.w.heap.size f.w.heap.size:=by
  refine Array.ext_getElem? λi=>?_;rw[Array.getElem?_append];split;.rename_i hi;exact h.blk i hi
  grind
 have j:f.w.drawn=k.w.drawn+(f.w.drawn-k.w.drawn):=by have:=h.drawn;omega
 have h1:=h.tape;have m:=h.os;have u:=h.out;unfold grow World.drewN;revert e1 j h1 m u;generalize f.w=x;obtain⟨y,z,E,F,G⟩:=x;grind
theorem J9{f:FuncId}{args:Array Value}{k:K}{r:Int}(h:Calls P f args k.w (Ret k (IsV r))):Calls P f args k.w λe x=>e= .returned (.int .i64 r)/\∃q j,x=grow (k.w.drewN q) j:=h.mono λe x m=>by cases e with|returned v=>obtain⟨E,rfl,y,z⟩:=m;exact⟨by rw[au.1 z],H4 y⟩;|panicked c=>exact m.elim;|outgrown=>exact m.elim
def RA(w:World):K:=⟨w,λ_=>False,λ_ h=>h.elim⟩
theorem xw{f:Type}[Enc f][cS f](h:Enc.agg f=true)(x:f)(k:K):IsV x (.agg (cS.enc x).toArray) k:=⟨cS.enc x,by rw[h];rfl,cS.rep.2 rfl⟩
theorem LC{g:Type}[DecidableEq g][Inhabited g]{z:List g}{j:Nat}(h:j<z.length)(m:0<j):keeps z.toArray j=decide (z[j]≠z[j-1]'(by omega)):=by unfold keeps;grind
theorem BZ{l:List Int}(H:l.Pairwise λa b=>a<=b):(compact l).Pairwise (λa b=>a<b)/\(∀x,x∈compact l↔x∈l)/\(compact l).length<=l.length:=by
  have g:=fK.1 H;have q:∀m,m<=l.length->(compactUpTo l.toArray m).Pairwise (λa b=>a<b)/\(∀x,x∈compactUpTo l.toArray m↔x∈l.take m)/\(compactUpTo l.toArray m).length<=m:=by intro m;induction m with|zero=>intro _;simp[compactUpTo];|succ m I=>
 intro R;obtain⟨h1,u,V⟩:=I (by omega);rw[compactUpTo_succ,dB (by omega:m<l.length)];have e:l.toArray[m]! =l[m]:=by rw[getElem!_pos _ m (by simp;omega)];simp
 rcases sf m with rfl|J;.simp[keeps,compactUpTo,e]
 · rw[LC (by omega) J,e];have M:l[m-1]'(by omega)<=l[m]:=g (m-1) m (by omega) (by omega) (by omega);by_cases F:l[m]=l[m-1]'(by omega)
   · simp only[F,ne_eq,not_true_eq_false,decide_false,mB,if_false,mn];refine⟨h1,λx=>?_,by omega⟩;rw[u];constructor;.intro h;exact qX _ h
     · intro h;rcases dq.1 h with h|h;.exact h
       ·simp only[eR]at h;subst h;rw[List.mem_iff_getElem];exact⟨m-1,by simp;omega,by simp⟩
   · simp only[ne_eq,F,not_false_eq_true,decide_true,if_true];refine⟨?_,λx=>?_,by simp;omega⟩
     · rw[List.pairwise_append];refine⟨h1,List.pairwise_singleton _ _,λx O y G=>?_⟩;simp only[eR]at G;subst G;have:=(u x).1 O;obtain⟨j,Q,rfl⟩:=br this;rw[List.getElem_take];simp only[dY]at Q;have W:l[j]'(by omega)<=l[m-1]'(by omega):=by
        rcases bJ j (m-1)with h|h;.exact g j (m-1) (by omega) (by omega) h
        grind
       omega
     .rw[dq,dq,u]
  have:=q l.length (aA _);rwa[cQ]at this
theorem AK{l:List Int}:(compact l).length<=l.length:=by unfold compact compactUpTo;grind
def HM(x:Int):List Int->List Int|[]=>[x]|y::l=>if x<=y then x::y::l else y::HM x l
def GB:List Int->List Int|[]=>[]|x::l=>HM x (GB l)
theorem ya(x:Int):∀l,(HM x l).Perm (x::l)
 |[]=> .refl _|y::l=>by
  unfold HM;split;.exact .refl _
  .exact((ya x l).cons y).trans (.swap x y l)
theorem Fw(x:Int):∀{l:List Int},l.Pairwise (.<=.)->(HM x l).Pairwise (.<=.)
 |[],_=>by simp[HM];|y::l,h=>by
  have j:=km.1 h;unfold HM;split;.rename_i g;exact km.2 ⟨λz f=>by
 rcases bD.1 f with rfl|f;.exact g
 .exact Int.le_trans g (j.1 z f),h⟩
  .exact km.2 ⟨λz f=>by
 rcases bD.1 ((ya x l).subset f)with rfl|f;.omega
 .exact j.1 z f,Fw x j.2⟩
theorem wT:∀l,(GB l).Perm l|[]=> .refl _|x::l=>(ya x _).trans ((wT l).cons x)
theorem yZ:∀l,(GB l).Pairwise (.<=.)|[]=> .nil|x::l=>Fw x (yZ l)
theorem OU(l:List Int):GB l=l.mergeSort λx y=>decide (x<=y):=List.Perm.eq_of_pairwise (λa b _ _ h1 h=>Int.le_antisymm h1 h) (yZ l) (by have:=List.pairwise_mergeSort (le:=λx y:Int=>decide (x<=y)) (by simp;omega) (by simp;omega) l;simpa using this) ((wT l).trans (List.mergeSort_perm _ _).symm)
def kq(l:List Int):Option (List Int):=if l.length<=1073741824 then some (GB l)else none
theorem nq{l:List Int}(h:l.length<=1000000):∃r,kq l=some r/\r.Perm l/\r.Pairwise λa b=>a<=b:=⟨_,if_pos (by omega),wT l,yZ l⟩
def gn(l:List Int):Option (List Int):=if l.length<=1073741824 then some (compact l)else none
theorem mO{l:List Int}(h:l.length<=1000000)(f:l.Pairwise λa b=>a<=b):∃r,gn l=some r/\r.Pairwise (λa b=>a<b)/\(∀x,x∈r↔x∈l)/\r.length<=l.length:=⟨_,if_pos (by omega),BZ f⟩
end Go.Gb
namespace Go.Gb
variable{T:Tb}{R:Type}
def body(f:Func):Code:=f.body.getD .skip
def U8:List (Nat×Tp)->Nat->Option Tp|[],_=>none|(a,t)::l,i=>bif Nat.beq a i then some t else U8 l i
def fI(s:Nat)(e:Env T):Nat:=match lk e s with| .v .int n=>n.toNat+1|_=>0
def Uk(e:Env T)(s:Nat):Nat:=match nrm (lk e s)with| .v (.list _) x=>x.length| .own _ _ _ x=>x.length|_=>0
def fLs(e:Env T):Nat->List Nat->Nat|a,[]=>a+1|a,s::l=>fLs e (a+Uk e s) l
def fL(l:List Nat)(e:Env T):Nat:=match l with|[]=>1|s::l=>fLs e (Uk e s) l
def gt(e:Env T)(s:Nat)(t:Tp):T.D t:=(asT t (nrm (lk e s))).getD (T.zJ t)
def xB(P:Program)(T:Tb):List (TypeId×Nat)->Prop|[]=>True|(t,n)::l=>@zQ P t (T.S n) (T.enc n) (T.deq n)/\xB P T l
theorem xB.at{P:Program}:∀{l:List (TypeId×Nat)},xB P T l->∀t n,l.contains (t,n)=true->@zQ P t (T.S n) (T.enc n) (T.deq n)
 |[],_,_,_,h=>by simp at h;|(f,g)::l,h,t,n,e=>by
  simp only[List.contains_cons,bT,beq_iff_eq]at e;rcases e with⟨rfl,rfl⟩|e;.exact h.1
  .exact xB.at h.2 t n e
structure Fk(T:Tb)(P:Program)where
 f:FuncId
 d:FnE T
 ok:LI P f d
def gx{P:Program}(l:List (Fk T P)):TF T:=l.map λk=>(k.f,k.d)
theorem lq{P:Program}:∀(l:List (Fk T P))(f:FuncId)(d:FnE T),dep (gx l) f=some d->LI P f d|[],_,_,h=>by simp[gx,dep]at h;|k::l,f,d,h=>by simp[gx,dep]at h;cases e:Nat.beq k.f f with|true=>rw[e]at h;obtain rfl:=ba e;obtain rfl:=ae h;exact k.ok;|false=>rw[e]at h;exact lq l f d h
theorem HIs.cons{a b:Tp}{l:List Tp}{x:HL T.S (a::b::l)}{f:List Value}{k:K}(h:HIs (a::b::l) x f k):∃u e,f=u::e/\IsV x.1 u k/\HIs (b::l) x.2 e k:=by cases f with|nil=>exact h.elim;|cons u e=>exact⟨u,e,rfl,h.1,h.2⟩
theorem HIs.one{a:Tp}{x:HL T.S [a]}{e:List Value}{k:K}(h:HIs [a] x e k):∃u,e=[u]/\IsV (α:=T.D a) x u k:=by cases e with|nil=>exact h.elim;|cons u g=>cases g with|nil=>exact⟨u,rfl,h⟩;|cons _ _=>exact h.elim
theorem HIs.nil{x:HL T.S []}{e:List Value}{k:K}(h:HIs [] x e k):e=[]:=by cases e with|nil=>rfl;|cons u g=>exact h.elim
theorem Fm{a:Act}{k:K}:∀{l:List Tp}{x:HL T.S l}{f:List Value}{i:Nat},HIs l x f k->o9 a i f->∀t,(lk (B8 i l x) t).is a (a.get t) k/\aJ (lk (B8 i l x) t)=false/\∀s,(lk (B8 i l x) t).bP s=false
 |[],_,_,_,_,_,t=>⟨trivial,rfl,λ_=>rfl⟩|[b],x,f,i,h,g,t=>by
  obtain⟨u,rfl,j⟩:=h.one;simp[B8];rw[bg];split;.rename_i e;subst e;rw[g.1];exact⟨gQ.2 j,vn,λ_=>sr⟩
  .exact⟨trivial,rfl,λ_=>rfl⟩|b::c::l,x,f,i,h,g,t=>by
  obtain⟨u,q,rfl,j,m⟩:=h.cons;simp[B8];rw[bg];split;.rename_i e;subst e;rw[g.1];exact⟨gQ.2 j,vn,λ_=>sr⟩
  .exact Fm m g.2 t
theorem HIs.len{k:K}:∀{l:List Tp}{x:HL T.S l}{e:List Value},HIs l x e k->e.length=l.length|[],_,_,h=>by rw[h.nil];rfl;|[_],_,_,h=>by obtain⟨u,rfl,_⟩:=h.one;rfl;|_::_::_,_,_,h=>by obtain⟨u,g,rfl,_,f⟩:=h.cons;simp[HIs.len f]
structure FkR(T:Tb)(P:Program)where
 f:FuncId
 d:FnR T
 ok:xE P f d
def fN{P:Program}(l:List (FkR T P)):MQ T:=l.map λk=>(k.f,k.d)
theorem jr{P:Program}:∀(l:List (FkR T P))(f:FuncId)(d:FnR T),Cj (fN l) f=some d->xE P f d|[],_,_,h=>by simp[fN,Cj]at h;|k::l,f,d,h=>by simp[fN,Cj]at h;cases e:Nat.beq k.f f with|true=>rw[e]at h;obtain rfl:=ba e;obtain rfl:=ae h;exact k.ok;|false=>rw[e]at h;exact jr l f d h
structure FkQ(T:Tb)(P:Program)where
 f:FuncId
 d:FnQ T
 ok:NB P f d
def gE{P:Program}(l:List (FkQ T P)):NL T:=l.map λk=>(k.f,k.d)
theorem jk{P:Program}:∀(l:List (FkQ T P))(f:FuncId)(d:FnQ T),KV (gE l) f=some d->NB P f d|[],_,_,h=>by simp[gE,KV]at h;|k::l,f,d,h=>by simp[gE,KV]at h;cases e:Nat.beq k.f f with|true=>rw[e]at h;obtain rfl:=ba e;obtain rfl:=ae h;exact k.ok;|false=>rw[e]at h;exact jk l f d h
theorem E9{P:Program}{tid:TypeId->Option Tp}{eqs:List (TypeId×Nat)}{d:FnE T}{f:FuncId}(E:List (Fk T P))(j:List (FkR T P))(q:List (FkQ T P))(wr:Bool)(own:List Nat)(e:Func)(hk:Nat->Code->Env T->(R:Type)->(Env T->Option R)->Option R)(hH:xC ⟨P,tid,eqs,gx E,fN j,wr,own,e.results.toList,e.ntmps,hk,λc=>c∈fQ (body e),gE q⟩)(h:Hn T)(U:xB P T eqs)(V:P.follows .mixedOrders=true)(F:P=T.P)(W:P.funcs[f]?=some e)(hc:∀args w,(callFunc f args).run P w= .ok (.enter f args) w)(G:e.body=some (body e))(hl:Nat.ble d.dom.length e.ntmps=true)(he:∀x,evF ⟨P,tid,eqs,gx E,fN j,wr,own,e.results.toList,e.ntmps,hk,λc=>c∈fQ (body e),gE q⟩ (body e) h d.dom d.cod x=d.run x):LI P f d:=by let C:Cx T:=⟨P,tid,eqs,gx E,fN j,wr,own,e.results.toList,e.ntmps,hk,λc=>c∈fQ (body e),gE q⟩;refine⟨hc,λk0 vs x r hG hi hr=>?_⟩;refine Ret.ofC ?_;refine cO W G rfl (by have:=hi.len;simpa[this]using(oD hl)) λa k I hs hd ha=>?_;subst I;have m:=Fm hi ha;have h0:Hl C.n noF k (wrs (body e)) a _ a k:=⟨Chg.refl _ k,hs,hd,λ _ _=>rfl,λt=>(m t).1,λt s u=>by rw[(m t).2.2]at u;simp at u,λt M=>by have h1:=tC M;rw[(m t).2.1]at h1;simp at h1,λt t' _ b G=>absurd G (dG (m t).2.1 _ _ b),hG⟩;refine kW ⟨lq E,jr j,U.at,V,F,jk q⟩ hH (body e) (λ _ h=>h) h _ _ _ r ((he x).trans hr) noF k _ a a k _ (λt M=>M) (λhN=>by simp[isN]at hN) h0 (λe' O Q g=>by simp at g) (λi e' O Q g=>by simp at g) (λy O Q g z=>?_);obtain rfl:=ae g;have⟨h1,_,k2,H,h3,_,_,h4⟩:=z;have⟨v,h5,h6,_⟩:=h4 e rfl;rw[<-H];exact gB h1 h5 h3 h6
theorem qq{C:Cx T}(e:C.hk=vU:=by rfl):xC C:=λ _ _ _ _ _ _ _ h=>by rw[e]at h;simp[vU]at h
theorem Ue{P:Program}{tid:TypeId->Option Tp}{eqs:List (TypeId×Nat)}{d:FnE T}{f:FuncId}(j:List (Fk T P))(own:List Nat)(e:Func)(h:Hn T)(E:xB P T eqs)(m:P.follows .mixedOrders=true)(g:P=T.P)(q:P.funcs[f]?=some e)(u:∀args w,(callFunc f args).run P w= .ok (.enter f args) w)(y:e.body=some (body e))(z:Nat.ble d.dom.length e.ntmps=true)(F:∀x,evF ⟨P,tid,eqs,gx j,[],false,own,e.results.toList,e.ntmps,vU,λc=>c∈fQ (body e),[]⟩ (body e) h d.dom d.cod x=d.run x):LI P f d:=E9 j [] [] false own e vU (qq rfl) h E m g q u y z F
def yq(tk:Bool):List Pm->Nat->Option Nat|[],_=>none| .v _::l,i=>yq tk l (i+1)| .tu::l,i=>bif tk then yq tk l (i+1)else some i| .tk::l,i=>bif tk then some i else yq tk l (i+1)| .fn _::l,i=>yq tk l (i+1)
theorem PIs.len{k:K}{u f:Value}:∀{l:List Pm}{x:HL T.S (eY l)}{e:List Value},PIs l x u f e k->e.length=l.length|[],_,[],_=>rfl| .v _::l,_,_::_,h=>by simp[PIs.len h.2];| .tu::l,_,_::_,h=>by simp[PIs.len h.2];| .tk::l,_,_::_,h=>by simp[PIs.len h.2];| .fn _::l,_,_::_,h=>by simp[PIs.len h.2]
theorem tY{a:Act}{k:K}{j m:Value}{y z:AV T}:∀{l:List Pm}{x:HL T.S (eY l)}{g:List Value}{i:Nat},PIs l x j m g k->o9 a i g->tK l=true->∀t,((lk (ql i l x y z) t).is a (a.get t) k/\aJ (lk (ql i l x y z) t)=false/\∀s,(lk (ql i l x y z) t).bP s=false)∨(yq false l i=some t/\lk (ql i l x y z) t=y/\a.get t=j)∨(yq true l i=some t/\lk (ql i l x y z) t=z/\a.get t=m)
 |[],_,_,_,_,_,_,t=> .inl ⟨trivial,rfl,λ_=>rfl⟩| .v _::_,_,[],_,h,_,_,_=>h.elim| .tu::_,_,[],_,h,_,_,_=>h.elim| .tk::_,_,[],_,h,_,_,_=>h.elim| .v p::l,x,v::g,i,h,f,u,t=>by
  simp only[ql];rw[bg];split;·rename_i e;subst e;rw[f.1];exact .inl ⟨gQ.2 h.1,vn,λ_=>sr⟩
  .exact tY (l:=l) h.2 f.2 u t| .tu::l,x,v::g,i,h,f,u,t=>by
  simp only[tK,aD]at u;simp only[ql];rw[bg];split;·rename_i e;subst e;exact .inr (.inl ⟨rfl,rfl,f.1.trans h.1⟩)
  · rcases tY (l:=l) (x:=x) (y:=y) (z:=z) h.2 f.2 u.2 t with h1|⟨h1,_⟩|h1;.exact .inl h1
    .exact absurd h1 (by rw[P u.1];simp)
    .exact .inr (.inr h1)| .tk::l,x,v::g,i,h,f,u,t=>by
  simp only[tK,aD]at u;simp only[ql];rw[bg];split;·rename_i e;subst e;exact .inr (.inr ⟨rfl,rfl,f.1.trans h.1⟩)
  · rcases tY (l:=l) (x:=x) (y:=y) (z:=z) h.2 f.2 u.2 t with h1|h1|⟨h1,_⟩;.exact .inl h1
    .exact .inr (.inl h1)
    .exact absurd h1 (by rw[P u.1];simp)| .fn _::_,_,[],_,h,_,_,_=>h.elim| .fn _::l,x,v::g,i,h,f,u,t=>tY (l:=l) h.2 f.2 u t where P{tk:Bool}:∀{l:List Pm}{i:Nat},noP tk l=true->yq tk l i=none
 |[],_,_=>rfl| .v _::l,i,h=>P (l:=l) h| .tu::l,i,h=>by cases tk with|false=>simp[noP]at h;|true=>exact P (l:=l) (by simpa[noP]using h)
 | .tk::l,i,h=>by cases tk with|true=>simp[noP]at h;|false=>exact P (l:=l) (by simpa[noP]using h)
 | .fn _::l,i,h=>P (l:=l) h
def R2(d:FnR T)(sl:Nat)(c:Code):Bool:=tK d.pm&&(isN d.tu||((match yq false d.pm 0 with|some i=>Nat.beq i sl|none=>false)&&!((wrs c).contains sl)))
theorem RJ{P:Program}{tid:TypeId->Option Tp}{eqs:List (TypeId×Nat)}{d:FnR T}{f:FuncId}(pr:d.tu.D T×d.ro.D T×HL T.S d.cod->d.ρ)(hpr:∀r,d.inj (pr r)=r)(ks:List (Fk T P))(W:List (FkR T P))(qks:List (FkQ T P))(wr:Bool)(own:List Nat)(fn:Func)(hk:Nat->Code->Env T->(R:Type)->(Env T->Option R)->Option R)(hH:xC ⟨P,tid,eqs,gx ks,fN W,wr,own,fn.results.toList,fn.ntmps,hk,λc=>c∈fQ (body fn),gE qks⟩)(h:Hn T)(sl:Nat)(hE:xB P T eqs)(hm:P.follows .mixedOrders=true)(hpe:P=T.P)(hf:P.funcs[f]?=some fn)(hc:∀args w,(callFunc f args).run P w= .ok (.enter f args) w)(q:fn.body=some (body fn))(hl:Nat.ble d.pm.length fn.ntmps=true)(hsl:R2 d sl (body fn)=true)(he:∀x y z,SL ⟨P,tid,eqs,gx ks,fN W,wr,own,fn.results.toList,fn.ntmps,hk,λc=>c∈fQ (body fn),gE qks⟩ (body fn) h d pr hpr sl x y z=d.run x y z):xE P f d:=by
  let C:Cx T:=⟨P,tid,eqs,gx ks,fN W,wr,own,fn.results.toList,fn.ntmps,hk,λc=>c∈fQ (body fn),gE qks⟩;have hC:rX C:=⟨lq ks,jr W,hE.at,hm,hpe,jk qks⟩;simp only[R2,aD,bT]at hsl;obtain⟨huq,hsl⟩:=hsl;have J:isN d.tu=false->yq false d.pm 0=some sl/\sl∉wrs _:=λm=>by
   rcases hsl with h1|⟨h1,h2⟩;.rw[m]at h1;simp at h1
   · refine⟨?_,by simpa using h2⟩;split at h1;.rename_i i hi;rw[hi,ba h1]
     .simp at h1
  refine⟨hc,λk0 vs E M x y z r hG hi h1 h2 hap hr=>?_⟩;refine cO hf q rfl (by have:=hi.len;have h2:=oD hl;simpa[this]using h2) λa k hk0 hs hd Q=>?_;subst hk0;have hev:SL C _ h d pr hpr sl x y z=some r:=(he x y z).trans hr;have F:=tY (y:=d.tu.av y) (z:=d.tk.av z) hi Q huq;have av1:(d.tu.av y).is a E k:=by cases m:isN d.tu with|false=>exact(Rk.Hk m).2 h1;|true=>
 have:∀(j:Rk)(w:j.D T),isN j=true->(j.av w).is a E k:=λj w h=>by cases j<;>first|trivial|simp[isN]at h
 exact this _ _ m
  have av2:(d.tk.av z).is a M k:=by cases m:isN d.tk with|false=>exact(Rk.Hk m).2 h2;|true=>
 have:∀(j:Rk)(w:j.D T),isN j=true->(j.av w).is a M k:=λj w h=>by cases j<;>first|trivial|simp[isN]at h
 exact this _ _ m
  have f1:∀b,(d.tu.av y).fp E k b->d.tu.fp T E k b:=λb q=>by cases m:isN d.tu with|false=>rw[<-Rk.C6 m];exact q;|true=>
 have:∀(j:Rk)(w:j.D T),isN j=true->¬(j.av w).fp E k b:=λj w h=>by cases j<;>first|exactλf=>f|simp[isN]at h
 exact(this _ _ m q).elim
  have f2:∀b,(d.tk.av z).fp M k b->d.tk.fp T M k b:=λb q=>by cases m:isN d.tk with|false=>rw[<-Rk.C6 m];exact q;|true=>
 have:∀(j:Rk)(w:j.D T),isN j=true->¬(j.av w).fp M k b:=λj w h=>by cases j<;>first|exactλf=>f|simp[isN]at h
 exact(this _ _ m q).elim
  have h0:Hl C.n (λb=>d.tu.fp T E k b∨d.tk.fp T M k b) k (wrs (body fn)) a (ql 0 d.pm x (d.tu.av y) (d.tk.av z)) a k:=by
   refine⟨Chg.refl _ k,hs,hd,λ _ _=>rfl,λt=>?_,λt s G=>?_,λt _ b q=>?_,λt t' hne b q H=>?_,hG⟩
   · rcases F t with u|⟨_,u,I⟩|⟨_,u,I⟩;.exact u.1
     .rw[u,I];exact av1
     .rw[u,I];exact av2
   · rcases F t with u|⟨_,u,I⟩|⟨_,u,I⟩;.rw[u.2.2]at G;simp at G
     .rw[u,Rk.xx]at G;simp at G
     .rw[u,Rk.xx]at G;simp at G
   · rcases F t with u|⟨_,u,I⟩|⟨_,u,I⟩;.exact absurd q (dG u.2.1 _ _ b)
     .rw[u,I]at q;exact .inl (.inl (f1 b q))
     .rw[u,I]at q;exact .inl (.inr (f2 b q))
   · rcases F t with u|⟨h5,u,I⟩|⟨h5,u,I⟩;.exact absurd q (dG u.2.1 _ _ b)
     · rw[u,I]at q;rcases F t' with g3|⟨g5,g3,g4⟩|⟨g5,g3,g4⟩;.exact absurd H (dG g3.2.1 _ _ b)
       .exact hne (ae (h5.symm.trans g5))
       .rw[g3,g4]at H;exact hap b (f1 b q) (f2 b H)
     · rw[u,I]at q;rcases F t' with g3|⟨g5,g3,g4⟩|⟨g5,g3,g4⟩;.exact absurd H (dG g3.2.1 _ _ b)
       .rw[g3,g4]at H;exact hap b (f1 b H) (f2 b q)
       .exact hne (ae (h5.symm.trans g5))
  have fin:∀(y:d.ρ)(U:Act)(k':K),y=r->qw C ⟨sl,d.tu,d.ro,d.cod,d.ρ,pr,d.inj,hpr⟩ _ k a y U k'->∃V v,U.defers=[]/\V.w=k'.w/\(results fn U.tmps).run P V.w= .ok v V.w/\Chg (λb=>d.tu.fp T E k b∨d.tk.fp T M k b) k V/\Rn d (λb=>d.tu.fp T E k b∨d.tk.fp T M k b) E (d.inj r) k v V:=λy U k' hy O=>by
   subst hy;obtain⟨g1,g2,V,g3,g4,g5,g6,g7⟩:=O;obtain⟨v,g8,g9,g10,g11⟩:=g7 fn rfl;have hu1:isN d.tu=false->U.get sl=E:=λm=>by obtain⟨p1,p2⟩:=J m;refine(g2 m).trans ?_;exact e hi Q p1
   refine⟨V,v,g1,g3,g8,g4,?_⟩;cases m:isN d.tu with|false=>have e1:=hu1 m;dsimp only at g5 g6 g11;rw[e1]at g5 g6 g11;exact⟨g5,g9,g11,g6,g10⟩|true=>
   have:∀(j:Rk)(w:j.D T),isN j=true->j.is w E V:=λj w h=>by cases j<;>first|trivial|simp[isN]at h
   exact⟨this _ _ m,g9,λb q=>(Rk.fpN m b q).elim,λb q=>(Rk.fpN m b q).elim,g10⟩
  refine kW hC hH (body fn) (λ _ h=>h) h _ _ _ r hev _ k _ a a k _ (λt ht=>ht) (λm=>(J m).2) h0 (λe' U k' g hl'=>?_) (λi e' U k' g=>by simp at g) (λy U k' g O=>?_);·obtain⟨V,v,g1,g3,g8,g4,g5⟩:=fin r U k' rfl (Mk hl' (λm=>(J m).2) g);rw[<-g3];exact gB g1 g8 g4 g5
  ·obtain⟨V,v,g1,g3,g8,g4,g5⟩:=fin y U k' (ae g) O;rw[<-g3];exact gB g1 g8 g4 g5;where e{a:Act}{k:K}{E M:Value}{sl:Nat}:∀{l:List Pm}{x:HL T.S (eY l)}{vs:List Value}{i:Nat},PIs l x E M vs k->o9 a i vs->yq false l i=some sl->a.get sl=E|[],_,_,_,_,_,h=>by simp[yq]at h;| .v _::_,_,[],_,h,_,_=>h.elim| .tu::_,_,[],_,h,_,_=>h.elim| .tk::_,_,[],_,h,_,_=>h.elim| .v _::l,_,_::_,_,h,Q,hp=>e (l:=l) h.2 Q.2 hp| .tu::l,_,_::_,i,h,Q,hp=>by simp only[yq,cond_false,aU]at hp;subst hp;exact Q.1.trans h.1| .tk::l,_,_::_,_,h,Q,hp=>e (l:=l) h.2 Q.2 (by simpa[yq]using hp)| .fn _::_,_,[],_,h,_,_=>h.elim| .fn _::l,_,_::_,_,h,Q,hp=>e (l:=l) h.2 Q.2 hp
section
variable{P:Program}{f:FuncId}
theorem lK{x:Array Value}{w:World}{k:K}{F G:FP}{R S:Pred}(h:Calls P f x w (cr F k R))(z:∀b,F b↔G b)(hi:∀v m,Chg F k m->R v m->S v m):Calls P f x w (cr G k S):=by have e:F=G:=funext λb=>propext (z b);subst e;refine Calls.mono h λe H q=>?_;cases e with|returned v=>have⟨m,h1,y,E⟩:=q;exact⟨m,h1,y,hi _ _ y E⟩;|panicked c=>exact q.elim;|outgrown=>exact q.elim
def fnO(T:Tb)(m:List Pm)(e:TypeId)(t:Tp)(run:HL T.S (eY m)->Option (List (T.D t))):FnR T:=⟨m, .n, .n, .o e t,[],List (T.D t),λr=>((),r,()),λx _ _=>run x⟩
def fnT(T:Tb)(m:List Pm)(e:TypeId)(t:Tp)(run:HL T.S (eY m)->List (T.D t)->Option (List (T.D t))):FnR T:=⟨m, .o e t, .n, .n,[],List (T.D t),λr=>(r,(),()),λx y _=>run x y⟩
def fnB(T:Tb)(m:List Pm)(t:Tp)(run:HL T.S (eY m)->T.D t->Option (T.D t)):FnR T:=⟨m, .b t, .n, .n,[],T.D t,λr=>(r,(),()),λx y _=>run x y⟩
def fnK(T:Tb)(m:List Pm)(e:TypeId)(t:Tp)(h:TypeId)(g:Tp)(run:HL T.S (eY m)->List (T.D t)->Option (List (T.D g))):FnR T:=⟨m, .n, .o e t, .o h g,[],List (T.D g),λr=>((),r,()),λx _ z=>run x z⟩
theorem NF{m:List Pm}{e:TypeId}{t:Tp}{run:HL T.S (eY m)->List (T.D t)->Option (List (T.D t))}(F:∀args w,(callFunc f args).run P w= .ok (.enter f args) w)(ok:∀(g:K)(j:List Value)(u q:Value)(x:HL T.S (eY m))(y r:List (T.D t)),GOk T g->PIs m x u q j g->ah 0 e y u g->run x y=some r->Calls P f j.toArray g.w (cr (obF u) g λ_ E=>ah 0 e r u E)):xE P f (fnT T m e t run):=⟨F,λg j u q x y z r G hi h1 _ _ H=>lK (ok g j u q x y r G hi h1 H) (λb=>⟨.inl,λh=>h.elim id λh=>h.elim⟩) λv E M I=>⟨I,trivial,λb _ h=>h.elim,λb J=> .inl (.inl J),λb h=>h.elim⟩⟩
theorem SU{m:List Pm}{e F:TypeId}{t q:Tp}{run:HL T.S (eY m)->List (T.D t)->Option (List (T.D q))}(H:∀args w,(callFunc f args).run P w= .ok (.enter f args) w)(ok:∀(g:K)(j:List Value)(E u:Value)(x:HL T.S (eY m))(z:List (T.D t))(r:List (T.D q)),GOk T g->PIs m x E u j g->ah 0 e z u g->run x z=some r->Calls P f j.toArray g.w (cr (obF u) g (EE u g F r))):xE P f (fnK T m e t F q run):=⟨H,λg j E u x y z r I hi _ J _ M=>lK (ok g j E u x z r I hi J M) (λb=>⟨.inr,λh=>h.elim (λh=>h.elim) id⟩) λv Q U G=>⟨trivial,G.1,λb h=>h.elim,λb h=>h.elim,λb O=>(G.2 b O).imp .inr id⟩⟩
end
theorem XS{P:Program}{f:FuncId}{x:Array Value}{w:World}{k:K}{R S:Pred}(h:Calls P f x w (Ret k R))(hi:∀v m,R v m->S v m):Calls P f x w (Ret k S):=by refine Calls.mono h λe E q=>?_;cases e with|returned v=>have⟨m,h1,y,z⟩:=q;exact⟨m,h1,y,hi _ _ z⟩;|panicked c=>exact q.elim;|outgrown=>exact q.elim
theorem GOk.none{k:K}(h:∀g,T.gl g= .none)(j:∀g,T.gi=some g->∃m:Int,aS m (.pointer (some ⟨g,0, .none⟩)) k):GOk T k:=⟨λg t x e=>by rw[h g]at e;simp at e,j⟩
theorem GOk.at{e k j:K}(h:GOk T e)(g:Chg noF e k)(m:bE k j):GOk T j:=(h.le (g.le λ_ f=>f.elim)).le m.le
def Tb.A3(T:Tb)(gl:Nat->Option (Σ t:Tp,t.den T.S))(gi:Option Nat):Tb:={T with gl:=gl,gi:=gi}
def FnE.lift(gl:Nat->Option (Σ t:Tp,t.den T.S))(gi:Option Nat)(d:FnE T):FnE (T.A3 gl gi):=⟨d.dom,d.cod,d.run⟩
theorem HIs.low{gl:Nat->Option (Σ t:Tp,t.den T.S)}{gi:Option Nat}{k:K}:∀{l:List Tp}{x:HL T.S l}{e:List Value},HIs (T:=T.A3 gl gi) l x e k->HIs (T:=T) l x e k|[],_,[],_=>trivial|[_],_,[_],h=>h|_::_::_,_,_::_,h=>⟨h.1,HIs.low h.2⟩
theorem Fa2.lift{gl:Nat->Option (Σ t:Tp,t.den T.S)}{gi:Option Nat}{k:K}:∀{l:List Tp}{x:HL T.S l}{e:List Value},Fa2 (T:=T) (unH l x) e k->Fa2 (T:=T.A3 gl gi) (unH (T:=T.A3 gl gi) l x) e k|[],_,[],_=>trivial|[_],_,[_],h=>⟨h.1,trivial⟩|_::_::_,_,_::_,h=>⟨h.1,Fa2.lift h.2⟩
theorem LV{gl:Nat->Option (Σ t:Tp,t.den T.S)}{gi:Option Nat}{k:K}{a:Act}{v:Value}:∀{l:List Tp}{x:HL T.S l},(mH (T:=T) l x).is a v k->(mH (T:=T.A3 gl gi) l x).is a v k|[],_,_=>trivial|[t],x,h=>(gQ).2 ((gQ).1 h)|_::_::_,_,⟨g,e,h⟩=>⟨g,e,Fa2.lift h⟩
def Fk.lift{P:Program}(gl:Nat->Option (Σ t:Tp,t.den T.S))(gi:Option Nat)(j:(∀g,T.gl g= .none)/\T.gi= .none)(k:Fk T P):Fk (T.A3 gl gi) P:=⟨k.f,k.d.lift gl gi,⟨k.ok.call,λm q x r _ hi u=>XS (k.ok.ok m q x r (GOk.none j.1 λ_ e=>by rw[j.2]at e;cases e) (HIs.low (T:=T) (gl:=gl) (gi:=gi) (l:=k.d.dom) (x:=x) hi) u) λ _ _ h=>LV (T:=T) (gl:=gl) (gi:=gi) (l:=k.d.cod) (x:=r) h⟩⟩
section
variable{P:Program}{f:FuncId}{vs:Array Value}{w:World}{k:K}
theorem tB{R S:Pred}(h:Calls P f vs w (Ret k R))(hi:∀v m,R v m->S v m):Calls P f vs w (Ret k S):=by refine Calls.mono h λe z q=>?_;cases e with|returned v=>have⟨m,h1,x,y⟩:=q;exact⟨m,h1,x,hi _ _ y⟩;|panicked c=>exact q.elim;|outgrown=>exact q.elim
theorem RB{a b:Tp}{x:HL T.S [a,b]}(h:Calls P f vs w (Ret k λu j=>(mH [a,b] x).is ⟨#[],[]⟩ u j)):Calls P f vs w (Ret k (fb (IsV (α:=T.D a) x.1) (IsV (α:=T.D b) x.2))):=tB h λv j⟨q,e,g⟩=>by match q,g with|[y,z],g=>exact⟨y,z,e,g.1,g.2.1⟩
end
end Go.Gb
namespace Go.Gb
variable{T:Tb}
theorem PIs.v{t:Tp}{l:List Pm}{x:HL T.S (eY (.v t::l))}{u g:Value}{vs:List Value}{k:K}(h:PIs (.v t::l) x u g vs k):∃v e,vs=v::e/\IsV (α:=T.D t) (hdH x) v k/\PIs l (tlH x) u g e k:=by cases vs with|nil=>exact h.elim;|cons v e=>exact⟨v,e,rfl,h.1,h.2⟩
theorem PIs.tu{l:List Pm}{x:HL T.S (eY (.tu::l))}{u g:Value}{vs:List Value}{k:K}(h:PIs (.tu::l) x u g vs k):∃e,vs=u::e/\PIs l x u g e k:=by cases vs with|nil=>exact h.elim;|cons v e=>exact⟨e,by rw[h.1],h.2⟩
theorem PIs.tk{l:List Pm}{x:HL T.S (eY (.tk::l))}{g u:Value}{vs:List Value}{k:K}(h:PIs (.tk::l) x g u vs k):∃e,vs=u::e/\PIs l x g u e k:=by cases vs with|nil=>exact h.elim;|cons v e=>exact⟨e,by rw[h.1],h.2⟩
theorem PIs.fn{g:Nat}{l:List Pm}{x:HL T.S (eY (.fn g::l))}{u j:Value}{vs:List Value}{k:K}(h:PIs (.fn g::l) x u j vs k):∃e,vs= .func (.func g) #[] #[]::e/\PIs l x u j e k:=by cases vs with|nil=>exact h.elim;|cons v e=>exact⟨e,by rw[h.1],h.2⟩
theorem PIs.nil{x:HL T.S (eY [])}{u e:Value}{vs:List Value}{k:K}(h:PIs [] x u e vs k):vs=[]:=by cases vs with|nil=>rfl;|cons v j=>exact h.elim
end Go.Gb
namespace Go.Gb
def PU(n m:Nat)(f g:List Nat)(A:Array Oper)(q:List Ent):Bool:=lU n m A.toList q&&Region.noSelect A&&qt A (Array.replicate A.size false) f&&f.all (λl=>decide (l<A.size))&&allI (λj _=>decide (j<m)||f.contains j||(List.range m).all λi=>f.contains i||ed (eB A.toList []) j i) 0 A.toList&&N9 A (wY A m f) g&&((wY A m f).toList.filter (.=false)).length==g.length&&decide f.Nodup&&f.all (λl=>f.all λh=>(jQ A l).2!=(jQ A h).1&&(l==h||(jQ A l).1!=(jQ A h).1))&&f.all (λl=>decide ((jQ A l).1<n))&&f.all λl=>match nth q l with|some e=>e.need.all λx=>x.1!=(jQ A l).1|none=>true
section
variable{P:Program}{a0:Act}{k0:K}{es:List Ent}
theorem QW{A:Array Oper}{n m:Nat}{g G:List Nat}{Q:Exit->Act->World->Prop}(hn:a0.tmps.size=n)(hchk:PU n m g G A es=true)(hst:Steps P es a0 k0 (A.toList.take m) es)(hQ:LetsOut Q)(hQp:∀c a w,¬Q (.panic c) a w)(hQo:∀a w,¬Q .outgrown a w)(M:∀a k,Inv A.toList es a0 k0 (.<m) a k->wpOps P A Q G a k.w):∀(z:Nat)(f:Array Bool)(a:Act)(k:K),f.size=A.size->z=(f.toList.filter (.=false)).length->(∀l∈g,f.getD l false=true)->(∀j,f.getD j false=true->j<m∨j∈g)->Inv A.toList es a0 k0 (λj=>f.getD j false=true/\j<m) a k->wpAny P .any A Q z f a k.w:=by
 have O:=hchk;simp only[PU,aD,beq_iff_eq,decide_eq_true_eq]at O;obtain⟨⟨⟨⟨⟨⟨⟨⟨⟨⟨hS,hnos⟩,hlate⟩,hlm⟩,htail⟩,hT⟩,hcnt⟩,hnd⟩,hsrc⟩,hdst⟩,hown⟩:=O;have hS':=hS;simp only[lU,aD,beq_iff_eq,decide_eq_true_eq]at hS';obtain⟨⟨⟨⟨hlen,hml⟩,h2⟩,R⟩,hdist⟩:=hS';have hmA:m<=A.size:=by simpa using hml
 have hmv:∀l∈g,∃o,A[l]?=some o/\o.after=#[]:=by
  have:∀(r:List Nat)(b:Array Bool),qt A b r=true->∀l∈r,MB A l=true:=by intro r;induction r with|nil=>intro b _ l T;simp at T;|cons x r ih=>
   intro b hb l T;simp only[qt,aD]at hb;rcases bD.1 T with rfl|T;.exact hb.1.1.1
   .exact ih _ hb.2 l T
  intro l T;obtain⟨o,ho,_,ha,_⟩:=yu (P:=P) (this g _ hlate l T);exact⟨o,ho,ha⟩
 intro z;induction z with|zero=>
 intro f a k hls hf hL U q;have F:∀j,j<A.size->f.getD j false=true:=by
  intro j H;have hz:=iA hf.symm;have:f[j]'(by omega)∉f.toList.filter (.=false):=by rw[hz];simp
  simp only[bQ,dO,Array.getElem_mem,true_and,decide_eq_true_eq,vf]at this;simp[cA,dU (show j<f.size by omega),this]
 have V:f=wY A m g:=by
  refine Array.ext (by simp[wY,hls]) λj h1 h2=>?_;have h3:=F j (by omega);have h4:=U j h3;have h5:f[j]=true:=by simpa[cA,dU h1]using h3
  rw[h5];simp only[wY,Array.getElem_map,Array.getElem_range];simpa using h4
 have u:Inv A.toList es a0 k0 (.<m) a k:=by have W:(λj=>f.getD j false=true/\j<m)=(.<m):=funext λj=>propext ⟨λh=>h.2,λh=>⟨F j (by omega),h⟩⟩;rw[W]at q;exact q
 have h0:G.length=0:=by rw[<-hcnt,<-V];exact hf.symm
 have:=xL hnos hQp hQo G f a k.w (by rw[V];exact hT) (M a k u);rw[h0]at this;exact this|succ z ih=>
    intro f a k hls hf hL U q;by_cases E:∀j,j<m->f.getD j false=true
    · have V:f=wY A m g:=by
       refine Array.ext (by simp[wY,hls]) λj h1 h2=>?_;have hg:f.getD j false=f[j]:=by simp[cA,dU h1]
       have e:(wY A m g)[j]=(decide (j<m)||g.contains j):=by simp[wY]
       rw[e,<-hg,pq];simp only[bT,decide_eq_true_eq,iW];exact⟨U j,λh=>h.elim (E j) (hL j)⟩
      have u:Inv A.toList es a0 k0 (.<m) a k:=by have W:(λj=>f.getD j false=true/\j<m)=(.<m):=funext λj=>propext ⟨λh=>h.2,λh=>⟨E j h,h⟩⟩;rw[W]at q;exact q
      have h0:G.length=z+1:=by rw[<-hcnt,<-V];exact hf.symm
      have:=xL hnos hQp hQo G f a k.w (by rw[V];exact hT) (M a k u);rw[h0]at this;exact this
    · have hex:∃j,j<m/\f.getD j false=false/\∀i,i<j->f.getD i false=true:=by
       obtain⟨j,H⟩:=Classical.not_forall.1 E;have H:j<m/\f.getD j false=false:=by
        by_cases h:j<m;.exact⟨h,by cases hb:f.getD j false with|false=>rfl|true=>exact absurd (λ _=>hb) H⟩
        .exact absurd (λh'=>absurd h' h) H
       clear E;induction j using Nat.strongRecOn with|_ j ihj=>
 by_cases F:∀i,i<j->f.getD i false=true;.exact⟨j,H.1,H.2,F⟩
 ·obtain⟨i,hi⟩:=Classical.not_forall.1 F;obtain⟨hij,hib⟩:i<j/\¬f.getD i false=true:=⟨Classical.byContradiction λh=>hi λh'=>absurd h' h,λh=>hi λ _=>h⟩;exact ihj i hij (λh=>absurd (h (by omega)) hib) ⟨by omega,by simpa using hib⟩
      have hT2:∀j,j<A.size->f.getD j true=f.getD j false:=by intro j H;simp[cA,dU (show j<f.size by omega)]
      have hbind:∀j,j<A.size->((A[j]?).map (·.after.all λe=>!Region.binds .any e||f.getD e.on false)).getD false=true->∀o,nth A.toList j=some o->∀e∈aT o,f.getD e false=true:=by
       intro j hjA hj2 o ho e W;have hA:A[j]?=some o:=by rw[<-aH];exact ho
       rw[hA]at hj2;simp only[dW,eD,fh]at hj2;simp only[aT,aM,bQ,dO]at W;obtain⟨y,⟨hy,hyb⟩,rfl⟩:=W;have:=hj2 y hy;simpa only[hyb,fV,ga]using this
      have hclosed:∀x o',nth A.toList x=some o'->f.getD x false=true->∀e∈aT o',f.getD e false=true:=by
       intro x o' ho' hx e W;rcases U x hx with h|h;.exact(q.closed x o' ho' ⟨hx,h⟩ e W).1
       ·obtain⟨o2,h1,h2⟩:=hmv x h;rw[aH,h1,aU]at ho';subst ho';simp[aT,h2]at W
      refine⟨λhnil=>?_,λi hi=>?_⟩
      · exfalso;obtain⟨j,hjm,I,hlow⟩:=hex;have hjr:j∈Region.ready .any A f:=by
         simp only[Region.ready,bQ,eH,aD,cN];refine⟨by omega,by rw[hT2 j (by omega)];exact I,?_⟩;have hA:A[j]?=some A[j]:=by simp[show j<A.size by omega]
         rw[hA];simp only[dW,eD,fh];intro y hy;cases hyb:Region.binds .any y with
 |false=>rfl
 |true=> have ho:nth A.toList j=some A[j]:=by rw[aH];exact hA
         have:=bc R j _ ho;simp only[bw,bG,decide_eq_true_eq]at this;exact hlow _ (this y.on (by simp only[aT,aM,bQ,dO];exact⟨y,⟨hy,hyb⟩,rfl⟩))
        rw[hnil]at hjr;simp at hjr
      · simp only[Region.ready,bQ,eH,aD,cN]at hi;obtain⟨hiA,J,hi2⟩:=hi;rw[hT2 i hiA]at J;have ho:nth A.toList i=some A[i]:=by rw[aH];simp[hiA]
        have hb:=hbind i hiA hi2 _ ho;have him:i<m:=by
         rcases bJ i m with h|h;.exact h
         · exfalso;have hnl:i∉g:=λT=>by rw[hL i T]at J;simp at J
           have hc:=bc htail i _ ho;simp only[bw,bT,decide_eq_true_eq,iW]at hc;have hc:=(hc.resolve_left (λh'=>h'.elim (λh''=>by omega) hnl));obtain⟨j,hjm,I,hlow⟩:=hex;have hbit:=bG.1 hc j (by simp;omega);have hjl:g.contains j=false:=by cases hcj:g.contains j with|false=>rfl;|true=>rw[hL j (by simpa using hcj)]at I;simp at I
           rw[hjl,ga]at hbit;have:=cq (L:=A.toList) (D:=λx=>f.getD x false=true) hclosed (j:=i) (i:=j) (λo' ho'=>hbind i hiA hi2 o' ho') hbit;rw[this]at I;simp at I
        have hbm:∀e∈aT A[i],e<i:=by have:=bc R i _ ho;simp only[bw,bG,decide_eq_true_eq]at this;exact this
        refine xl hn hS hst q (λj h=>h.2) ho him (λj H=>⟨hb j H,by have:=hbm j H;omega⟩) (λh=>by rw[h.1]at J;simp at J) hQ λa' k' u=>?_;refine ih _ a' k' (by simp[hls]) ?_ (λl T=>getD_set_true (hL l T)) (λj H=>?_) ?_
        · have hil:i<f.size:=by omega
          have h0:f[i]=false:=by simpa[cA,dU hil]using J
          have hsplit:f.toList=f.toList.take i++false::f.toList.drop (i+1):=by have h1:=gO i f.toList;have h2:f.toList.drop i=f.toList[i]'(by simpa using hil)::f.toList.drop (i+1):=l8 (by simpa using hil);rw[rW,h0]at h2;exact(h1.symm.trans (by rw[h2]))
          have hset:(f.setIfInBounds i true).toList=f.toList.take i++true::f.toList.drop (i+1):=by rw[vv,r8,if_pos (by simpa using hil)]
          rw[hset,rO,bA];rw[hsplit,rO,bA]at hf;simp at hf⊢;omega
        · by_cases hji:j=i;.exact .inl (by omega)
          .rw[getD_set_ne _ (λe=>hji e.symm)]at H;exact U j H
        · have W:(λj=>(f.setIfInBounds i true).getD j false=true/\j<m)=(λj=>(f.getD j false=true/\j<m)∨j=i):=by
           funext j;by_cases hji:j=i;.subst hji;simp[cA,show j<f.size by omega,him]
           .rw[getD_set_ne _ (λe=>hji e.symm)];simp[hji]
          rw[W];exact u
structure Uy(A:Array Oper)(es:List Ent)(m:Nat)(late:List Nat)(a0:Act)(k0:K)(a:Act)(k:K):Prop where
 grow:bE k0 k
 size:a.tmps.size=a0.tmps.size
 defers:a.defers=a0.defers
 val:∀i d R nd,i<m->(nth A.toList i).bind (·.dst)=some d->nth es i=some ⟨some R,nd⟩->R (a.get d) k
 old:∀t,allI (λi o=>(decide (i>=m)&&!late.contains i)||o.dst !=some t) 0 A.toList=true->a.get t=a0.get t
 moved:∀l d s,late.contains l=true->m<=l->jQ A l=(d,s)->a.get d=a0.get s
set_option maxHeartbeats 2000000 in theorem IP{id:Nat}{A:Array Oper}{n m:Nat}{Q:Exit->Act->World->Prop}(es:List Ent)(late ord:List Nat)(hm:P.follows .mixedOrders=true)(hn:a0.tmps.size=n)(hchk:PU n m late ord A es=true)(hst:Steps P es a0 k0 (A.toList.take m) es)(hQ:LetsOut Q)(hlo:∀l∈late,l<m->∀e,nth es l=some e->∃R,e.R=some R/\∀k,bE k0 k->R (a0.get (jQ A l).2) k)(hpost:∀a k,Uy A es m late a0 k0 a k->wpOps P A (QN Q) ord a k.w):(Code.region id A true).wp P Q a0 k0.w:=by
 have hchk':=hchk;simp only[PU,aD,beq_iff_eq,decide_eq_true_eq]at hchk';obtain⟨⟨⟨⟨⟨⟨⟨⟨⟨⟨hS,hnos⟩,hlate⟩,hlm⟩,htail⟩,hT⟩,hcnt⟩,hnd⟩,hsrc⟩,hdst⟩,hown⟩:=hchk';have hS':=hS;simp only[lU,aD,beq_iff_eq,decide_eq_true_eq]at hS';obtain⟨⟨⟨_,h2⟩,hedge⟩,hdist⟩:=hS';have hlm':∀l∈late,l<A.size:=λl hl=>by have:=bG.1 hlm l hl;simpa using this
 have hdst':∀l∈late,(jQ A l).1<n:=λl hl=>by have:=bG.1 hdst l hl;simpa using this
 have hsrc':∀l∈late,∀l'∈late,(jQ A l).2≠(jQ A l').1/\(l=l'∨(jQ A l).1≠(jQ A l').1):=λl hl l' hl'=>by have:=bG.1 (bG.1 hsrc l hl) l' hl';simpa using this
 have hmv:∀l∈late,∃o,A[l]?=some o/\o.after=#[]/\o.dst=some (jQ A l).1:=by
  have:∀(r:List Nat)(b:Array Bool),qt A b r=true->∀l∈r,MB A l=true:=by intro r;induction r with|nil=>intro b _ l hl;simp at hl;|cons x r ih=>
   intro b hb l hl;simp only[qt,aD]at hb;rcases bD.1 hl with rfl|hl;.exact hb.1.1.1
   .exact ih _ hb.2 l hl
  intro l hl;obtain⟨o,ho,_,ha,hd,_⟩:=yu (P:=P) (this late _ hlate l hl);exact⟨o,ho,ha,hd⟩
 have hbase:∀t,_->(jM A late a0).get t=a0.get t:=λt ht=>tW (n:=n) late a0 hn hdst' ht;have hst':Steps P es (jM A late a0) k0 (A.toList.take m) es:=by
  refine A0 (λi o e ho he t ht=>hbase t λl hl hd=>?_) hst;have hi:i<m:=by have:=qU ho;simp only[dY]at this;omega
  obtain⟨e',he',hc⟩:=va h2 i o ho;rw[he,aU]at he';subst he';simp only[wg,aD,bw]at hc;have:=bG.1 hc.2 _ ht;simp only at this;obtain⟨ol,hol,hal,hdl⟩:=hmv l hl;have hnl:nth A.toList l=some ol:=by rw[aH];exact hol
  have h3:=bc this l ol hnl;simp only[bw,bT,bne_iff_ne,beq_iff_eq,hdl]at h3;rcases h3 with(h3|h3)|h3;.exact h3 (by rw[hd])
  ·subst h3;have h5:=bG.1 hown l hl;simp only[he,bG,bne_iff_ne]at h5;exact h5 _ ht hd.symm
  ·have hf:=cq (L:=A.toList) (D:=λ _=>False) (λ _ _ _ hx=>hx.elim) (j:=l) (i:=i) (λo' ho' e he=>by rw[hnl,aU]at ho';subst ho';simp[aT,hal]at he) h3;exact hf
 have hp:∀a k,Inv A.toList es (jM A late a0) k0 (.<m) a k->wpOps P A (QN Q) ord a k.w:=by
  intro a k hinv;refine hpost a k ⟨hinv.grow,hinv.size.trans (sy late a0),hinv.defers.trans (uq late a0),?_,?_,?_⟩;·intro i d R nd him hd he;cases ho:nth A.toList i with|none=>rw[ho]at hd;simp at hd;|some o=>rw[ho]at hd;exact hinv.vals i o d _ him ho hd he
  · intro t ht;rw[hinv.rest t ?_,hbase t ?_]
    · intro l hl hd;obtain⟨ol,hol,_,hdl⟩:=hmv l hl;have:=bc ht l ol (by rw[aH];exact hol);simp only[bw,bT,aD,decide_eq_true_eq,cN,bne_iff_ne,ne_eq,hdl]at this;rcases this with h|h;.exact absurd (iW.2 hl) (by rw[h.2];simp)
      .exact h (by rw[hd])
    · intro i o hi ho hd;have:=bc ht i o ho;simp only[bw,bT,aD,decide_eq_true_eq,bne_iff_ne,ne_eq]at this;rcases this with h|h;.omega
      .exact h hd
  · intro l d s hl hml hds;have hlm2:=iW.1 hl;obtain⟨ol,hol,_,hdl⟩:=hmv l hlm2;have hd:(jQ A l).1=d:=by rw[hds]
    have hs:(jQ A l).2=s:=by rw[hds]
    rw[hinv.rest d ?_,<-hd,<-hs,uD (n:=n) late a0 hn hdst' hnd hsrc' l hlm2];intro i o hi ho hod;have:=bc (bc hdist i o ho) l ol (by rw[aH];exact hol);simp only[bw,bT,beq_iff_eq,bne_iff_ne,ne_eq]at this;rcases this with(h|h)|h;.omega
    .rw[hod]at h;simp at h
    .exact h (by rw[hod,hdl,hd])
 refine wp_mono (Q:=QN Q) ?_ (λe a w h=>by cases e<;>first|exact h|exact h.elim);refine wp_region_any hm ?_;let k1:K:=⟨{k0.w with drawn:=k0.w.drawn+1},k0.sh,k0.lt⟩;have hg:bE k0 k1:=⟨rfl,rfl,rfl,aA _,λ _ _=>rfl,λ _ h=>h,λ _ _ h=>h,gN _⟩;have hF:∀j,¬(Array.replicate A.size false).getD j false=true:=by intro j hj;simp[cA,rK]at hj;split at hj<;>simp at hj
 have hLg:∀j,(tT (Array.replicate A.size false) late).getD j false=true↔j∈late:=by intro j;rw[Dw late _ j (λl hl=>by simpa using hlm' l hl)];exact⟨λh=>h.resolve_left (hF j), .inr⟩
 obtain⟨fuel,hfuel⟩:∃f,f=((tT (Array.replicate A.size false) late).toList.filter (.=false)).length:=⟨_,rfl⟩;have hsum:∀(r:List Nat)(b:Array Bool),r.Nodup->(∀l∈r,l<b.size/\b.getD l false=false)->((tT b r).toList.filter (.=false)).length+r.length=(b.toList.filter (.=false)).length:=by intro r;induction r with|nil=>intro b _ _;rfl;|cons l r ih=>
  intro b hn hb;obtain⟨hx,hn'⟩:=gv.1 hn;obtain⟨hl,hlb⟩:=hb l dw;have ih:=ih (b.setIfInBounds l true) hn' λl' hl'=>⟨by simpa using(hb l' (bR _ hl')).1,by rw[getD_set_ne _ (λe:l=l'=>hx (by rw[e];exact hl'))];exact(hb l' (bR _ hl')).2⟩;have h0:b[l]=false:=by simpa[cA,dU hl]using hlb
  have hsplit:b.toList=b.toList.take l++false::b.toList.drop (l+1):=by have h1:=gO l b.toList;have h2:b.toList.drop l=b.toList[l]'(by simpa using hl)::b.toList.drop (l+1):=l8 (by simpa using hl);rw[rW,h0]at h2;exact(h1.symm.trans (by rw[h2]))
  have hset:(b.setIfInBounds l true).toList=b.toList.take l++true::b.toList.drop (l+1):=by rw[vv,r8,if_pos (by simpa using hl)]
  rw[tT];rw[hset,rO,bA]at ih;rw[hsplit,rO,bA];simp at ih⊢;omega
 have hs:=hsum late (Array.replicate A.size false) hnd λl hl=>⟨by simpa using hlm' l hl,by simpa using hF l⟩;have hsz:A.size=fuel+late.length:=by rw[hfuel,hs];simp
 have hbig:=Da (P:=P) (A:=A) (Q:=QN Q) hnos (λ _ _ _ h=>h) late _ a0 k1.w fuel hlate ?_;.rw[<-hsz]at hbig;exact hbig
 refine QW (by rw[sy];exact hn) hchk hst' trivial (λ _ _ _ h=>h) (λ _ _ h=>h) hp fuel _ _ k1 (by rw[A8];simp) hfuel (λl hl=>(hLg l).2 hl) (λj hj=> .inr ((hLg j).1 hj)) ?_;refine⟨hg,rfl,rfl,λi o d e hi ho hd he=>?_,λ _ _=>rfl,λj o ho hj x hx=>?_,λi hi=>by simpa using hlm' i ((hLg i).1 hi.1)⟩;·have hl:=(hLg i).1 hi.1;obtain⟨ol,hol,_,hdl⟩:=hmv i hl;rw[aH,hol,aU]at ho;subst ho;rw[hdl,aU]at hd;subst hd;obtain⟨R,hR,hk⟩:=hlo i hl hi.2 e he;rw[hR,uD (n:=n) late a0 hn hdst' hnd hsrc' i hl];exact hk k1 hg
 ·obtain⟨ol,hol,hal,_⟩:=hmv j ((hLg j).1 hj.1);rw[aH,hol,aU]at ho;subst ho;simp[aT,hal]at hx
end
section
variable{T:Tb}{n:Nat}{F:FP}{k0:K}{W:List Nat}{a0:Act}{e:Env T}{a a':Act}{k k':K}
def pS(D:List Nat)(e:Env T):Bool:=D.all λt=>match lk e t with| .top=>true|_=>false
theorem AG{D:List Nat}(h:pS D e=true){t:Nat}(f:t∈D):lk e t= .top:=by have:=bG.1 h t f;grind
theorem Hl.QS(h:Hl n F k0 W a0 e a k){s:Nat}{av:AV T}{G:FP}{D:List Nat}(M:pS D e=true)(Q:∀t∈D,t∈W)(H:s∈W∨a'.get s=a.get s)(c:Chg G k k')(R:∀b,G b->unl (lk e s)=true/\(lk e s).fp (a.get s) k b)(U:a'.tmps.size=a.tmps.size)(I:a'.defers=a.defers)(O:∀t,t∉D->t≠s->a'.get t=a.get t)(V:av.is a' (a'.get s) k')(hm:∀t,av.bP t=false)(hf:∀b,av.fp (a'.get s) k' b->(unl (lk e s)=true/\(lk e s).fp (a.get s) k b)∨k.w.heap.size<=b):Hl n F k0 W a0 ((s,av)::iV (klA s) e) a' k':=by
 have y:lk ((s,av)::iV (klA s) e) s=av:=by rw[bg,if_pos rfl]
 have m:∀t,t≠s->lk ((s,av)::iV (klA s) e) t=klA s (lk e t):=λt g=>by rw[bg,if_neg (Ne.symm g),kB rfl]
 have top:∀t∈D,t≠s->lk _ t= .top:=λt g q=>by rw[m t q,AG M g];rfl
 refine h.Oy (λt=>t=s∨t∈D) c (λb j=>⟨s, .inl rfl,R b j⟩) U I (λt g=>?_) (λt g=>O t (λh=>g (.inr h)) λh=>g (.inl h)) (λt g=>?_) (λt g u=>?_) (λt g x b j=>?_) (λt g b j=>?_) (λt u g x q=>?_) (λt g=>?_) (λt g hr=>?_)
 · by_cases f:t=s;.subst f;exact H.resolve_left g
   .exact O t (λI=>g (Q t I)) f
 · by_cases f:t=s;.subst f;rw[y];exact V
   .rw[top t (g.resolve_left f) f];trivial
 · by_cases f:t=s;.subst f;rw[y];exact hm u
   .rw[top t (g.resolve_left f) f];rfl
 · by_cases f:t=s;.subst f;grind
   .rw[top t (g.resolve_left f) f]at j;exact j.elim
 · by_cases f:t=s;.subst f;grind
   .rw[top t (g.resolve_left f) f]at j;exact j.elim
 · intro b j z;by_cases f:t=s;.have E:u≠s:=λe=>q (f.trans e.symm);rw[top u (x.resolve_left E) E]at z;exact z
   .rw[top t (g.resolve_left f) f]at j;exact j
 · have f:t≠s:=λh=>g (.inl h);rw[m t f];rcases iI s (lk e t)with e1|e1
   · refine .inr ⟨e1,λu x J=>?_⟩;rcases J with rfl|J;.rw[<-e1]at x;exact absurd rfl (p8 x).2
     .have:=h.inv t u x;rw[AG M J]at this;simp[aJ]at this
   .exact .inl e1
 .have f:t≠s:=λh=>g (.inl h);rw[m t f,ta hr]
end
section
variable{P:Program}{o:Oper}{a:Act}{k:K}{α:Type}[Enc α]{b:Nat}{all hs:List (iq α)}{x:α}{F G:FP}{v:Value}
theorem Box.BD{g f:List Value}{n:Nat}(h:Box b (⟨g⟩:dt n) k)(m:Box b (⟨f⟩:dt n) k):g=f:=by obtain⟨_,q,t,w,e,_⟩:=h;obtain⟨_,j,y,u,z,_⟩:=m;grind
omit [Enc α]in theorem pV.one{j:List Value}{y:α}:∀{l:List (iq α)}{F G:FP},pV j x k l F->pV j y k l G->F=G|[],_,_,h,q=>(h).trans (q).symm|_::_,_,_,⟨w,H,u,_,z,_,e⟩,⟨I,J,f,_,g,_,E⟩=>by rw[u]at f;obtain rfl:=ae f;rw[e,E,z.one g]
theorem fO.one{b m:Nat}{y:α}(h:fO b all hs x F v k)(q:fO m all hs y G v k):F=G:=by
 obtain⟨e,J,H,u,_,w,_,z⟩:=h;obtain⟨f,E,M,g,_,j,_,I⟩:=q;rw[e]at f;have f:b=m:=by simpa using f
 subst f;obtain rfl:=u.BD g;rw[z,I,w.one j]
theorem fO.root{c:Nat}(h:fO b all hs x F v k)(f:v= .pointer (some ⟨c,0,none⟩)∨obF v c):F c:=by
 have e:=h.ptr;rcases f with f|f
 · rw[e]at f;have:b=c:=by simpa using f
   exact this▸h.has
 .rw[e]at f;simp[obF,ob]at f
theorem Handed.trans{k g j:K}{F G:FP}(c1:Handed k g F)(c2:Handed g j G)(h:∀b,G b->F b):Handed k j F:=⟨c2.w.trans c1.w,⟨λb f=>(c2.le.blk b (c1.le.up b f)).trans (c1.le.blk b f),λb f=>c2.le.up b (c1.le.up b f)⟩,λb f=>(c2.sh b f).elim (c1.sh b) λf=> .inr (h b f)⟩
theorem fO.ref(h:fO b all hs x F v k)(f:vw x all)(m:∀g∈all,g∈hs):∃k':K,Handed k k' F/\aS x v k':=by obtain⟨u,c1,h1⟩:=h.close f m;obtain⟨j,c2,q⟩:=h1.gz;exact⟨j,c1.trans c2 h.sub,by rw[h.ptr];exact q⟩
end
theorem Rsc.ex{g:Type}{R:g->FP->Pred}(h:∀i,Rsc (R i)):Rsc (λF v k=>∃i,R i F v k):=⟨λ⟨i,h1⟩c f j=>⟨i,(h i).keep h1 c f j⟩,λ⟨i,h1⟩c f=>⟨i,(h i).handed h1 c f⟩,λ⟨i,h1⟩=>(h i).lt h1,λ⟨i,h1⟩=>(h i).nsh h1⟩
def zt(i:Nat):Code->Bool| .region j _ _=>Nat.beq j i|_=>false
theorem q7{l:List Code}{i:Nat}{A f:Array Oper}{d d0:Bool}(h1:l.filter (zt i)=[.region i f d0])(h:Code.region i A d∈l):A=f/\d=d0:=by have m:Code.region i A d∈l.filter (zt i):=bQ.2 ⟨h,cL i⟩;grind
section
variable{T:Tb}{e:Env T}{n:Nat}{F:FP}{k0:K}{W:List Nat}{a0 a:Act}{k:K}
def qC(e:Env T)(s:Nat)(t:Tp):Option (T.D t):=match lk e s with| .ref u x=>cast? u t x|_=>none
theorem kg(h:Hl n F k0 W a0 e a k){s:Nat}{t:Tp}{x:T.D t}(f:qC e s t=some x):aS x (a.get s) k:=by
 have hs:=h.sl s;unfold qC at f;split at f;.rename_i u y g;obtain⟨rfl,rfl⟩:=cast?_eq f;rw[g]at hs;exact hs
 .simp at f
theorem CM(h:Hl n F k0 W a0 e a k){s m:Nat}{x:T.RD m}(f:eV e s (.c m)=some x):lk e s= .rs false m x/\∃G,T.RP m x G (a.get s) k:=by
 have hs:=h.sl s;simp[eV]at f;split at f
 · rename_i q y g;split at f
   · rename_i j _;obtain rfl:=j.down;obtain rfl:y=x:=by simpa using f
     rw[g]at hs;exact⟨g,hs⟩
   .simp at f
 .simp at f
end
def WV(e:TypeId->TypeId)(j:FuncId->FuncId):Op->Op| .binOp b t x y u=> .binOp b (e t) x y (e u)| .buildSlice t n l=> .buildSlice (e t) n l| .indexAddr t a i=> .indexAddr (e t) a i| .load t a=> .load (e t) a| .call ⟨.value (.func f),g,h⟩=> .call ⟨.value (.func (j f)),g,⟨h.toList.map e⟩⟩| .call ⟨c,g,h⟩=> .call ⟨c,g,⟨h.toList.map e⟩⟩|x=>x
def tyC(e:TypeId->TypeId)(f:FuncId->FuncId):Code->Code| .region i A d=> .region i ⟨A.toList.map λo=>{o with op:=WV e f o.op,type:=e o.type}⟩ d| .seq a b=> .seq (tyC e f a) (tyC e f b)| .cond c a b=> .cond c (tyC e f a) (tyC e f b)| .block i a=> .block i (tyC e f a)| .loop a=> .loop (tyC e f a)|c=>c
def Vw(a b:Nat)(t:Nat):Nat:=bif Nat.beq t a then b else t
def VW(a b c d:Nat)(t:Nat):Nat:=bif Nat.beq t a then b else bif Nat.beq t c then d else t
open Go.ChangeMaps(setBlock)
theorem sj{P:Program}{c:Code}{Q:Exit->Act->World->Prop}(I:Nat->Act->K->Prop){a:Act}{k:K}(M:∃n,I n a k)(u:∀n a k,I n a k->c.wp P (Exit.then (λE R=>∃m g,g.w=R/\m<n/\I m E g) Q) a k.w):(Code.loop c).wp P Q a k.w:=by
 let J:Nat->Act->World->Prop:=λn a w=>∃k,k.w=w/\I n a k;let F:Act->World->Nat:=λa w=>open Classical in if h:∃n,J n a w then Classical.choose (tn h)else 0;have j:∀n a w,J n a w->J (F a w) a w/\F a w<=n:=by intro n a w G;have h:∃n,J n a w:=⟨n,G⟩;have:=Classical.choose_spec (tn h);simp[F,dif_pos h];exact⟨this.1,this.2 n G⟩
 obtain⟨T,M⟩:=M;refine wp_loop (λa w=>∃n,J n a w) F ⟨T,k,rfl,M⟩ ?_;rintro f q⟨x,G⟩;obtain⟨⟨y,rfl,U⟩,_⟩:=j x f q G;refine wp_mono (u _ f y U) λe E R h=>?_;cases e with|normal=>obtain⟨m,g,rfl,V,O⟩:=h;have z:J m E g.w:=⟨g,rfl,O⟩;exact⟨⟨m,z⟩,Nat.lt_of_le_of_lt (j m E g.w z).2 V⟩;|_=>exact h
structure lN{κ:Type}(kv:κ->Value)(b:Nat)(l:List (κ×Value))(k:K):Prop where
 own:¬k.sh b
 is:∃es clk,k.w.heap[b]?=some (.map es clk)/\es.toList.map (λe=>(e.key,e.val))=l.map (λp=>(kv p.1,p.2))/\(∀e∈es.toList,e.born<clk)/\(es.toList.map (·.born)).Nodup
section
variable{P:Program}{o:Oper}{a a0:Act}{k k' k0:K}{R S T:Pred}{κ:Type}{kv:κ->Value}{F G:FP}{b:Nat}{l:List (κ×Value)}
theorem lN.m(h:lN kv b l k):qY kv b l k:=let⟨f,e,h1,g,_⟩:=h.is;⟨h.own,f,e,h1,g⟩
theorem lN.lt(h:lN kv b l k):b<k.w.heap.size:=h.m.lt
theorem lN.keep(h:lN kv b l k)(g:Chg G k k')(j:¬G b):lN kv b l k':=by have e:=h.lt;obtain⟨m,q,f,h,r⟩:=h;exact⟨λu=>m (g.MH b e j u),q,f,by rw[g.blk b e j];exact h,r⟩
theorem lN.handed(h:lN kv b l k)(g:Handed k k' G)(f:¬G b):lN kv b l k':=by obtain⟨j,m,e,h,r⟩:=h;exact⟨λq=>(g.sh b q).elim j f,m,e,by rw[g.w];exact h,r⟩
theorem lN.grow(h:lN kv b l k)(g:bE k k'):lN kv b l k':=h.keep (Chg.of (F:=noF) g) λf=>f
theorem oI[DecidableEq κ]{A:Array Oper}{i:Nat}{q:List Nat}{Q:Exit->Act->World->Prop}{t kt et:TypeId}{x y z:Operand}{n:κ}(ho:nth A.toList i=some o)(hg:o.guard=none)(V:o.op= .mapUpdate t x y z)(hd:o.dst=none)(KO:tL P kt kv)(hu:P.underlying t=some (.map kt et))(hx:a.eval x= .map (some b))(hy:a.eval y=kv n)(h:lN kv b l k)(next:∀k',Chg (Eq b) k k'->k'.w.heap.size=k.w.heap.size->lN kv b (dQ l n (a.eval z)) k'->wpOps P A Q q a k'.w):wpOps P A Q (i::q) a k.w:=by
 obtain⟨W,E,m,U,hr,M,hb2⟩:=h;have hf:=KO.find l E.toList n k.w hr;have hlt:b<k.w.heap.size:=(bO.1 U).1;have fin:∀(g:Array MapEntry)(f:Nat),g.toList.map (λe=>(e.key,e.val))=(dQ l n (a.eval z)).map (λp=>(kv p.1,p.2))->(∀e∈g.toList,e.born<f)->(g.toList.map (·.born)).Nodup->wpOps P A Q q a {k.w with heap:=k.w.heap.setIfInBounds b (.map g f)}:=by intro g f I h1 h2;let k':K:=⟨{k.w with heap:=k.w.heap.setIfInBounds b (.map g f)},k.sh,λi hi=>by have:=k.lt i hi;simpa using this⟩;refine next k' ⟨rfl,rfl,rfl,by simp[k'],λc _ hc=>(MapKept.heap_set U).2 c (λe=>hc e.symm),λ _ h=>h,λ _ _ h=> .inl h,aA _⟩ (by simp[k']) ⟨W,g,f,(MapKept.heap_set U).1,I,h1,h2⟩
 rw[wpOps_cons];rw[aH]at ho;unfold wpOp;simp only[ho,Region.wanted,hg,if_true];refine .inl ?_;unfold Oper.wp;have hgo:=MapKept.run_getObj_map (P:=P) U;cases J:fnd l n 0 with|none=>
 rw[J]at hf;have O:(execOp a.eval o).run P k.w= .ok .skip {k.w with heap:=k.w.heap.setIfInBounds b (.map (E.push {key:=kv n,val:=a.eval z,born:=m}) (m+1))}:=by simp only[execOp,V,hx,hy];simp[Instr.mapUpdate,run_underlying hu,hgo,KO.check,hf,MapKept.run_setObj_map (P:=P) _ U]
 rw[O];have:=fin (E.push {key:=kv n,val:=a.eval z,born:=m}) (m+1) (by rw[Hi _ _ _ _ J];simp[hr]) (by
 intro e I;simp only[Array.toList_push,dq,eR]at I;rcases I with I|rfl;.have:=M e I;omega
 .simp) (by simp only[Array.toList_push,gb,cf,ir];rw[ru];refine⟨hb2,by simp,λx hx y hy hxy=>?_⟩;simp only[eR]at hy;obtain⟨e,I,rfl⟩:=aM.1 hx;have:=M e I;omega);simpa[Oper.upon,hd,Act.put]using this|some p=>
 obtain⟨j,u⟩:=p;rw[J]at hf;obtain⟨_,h2,h3,h4⟩:=Gj l n 0 j u (a.eval z) J;simp only[rq]at h2 h3 h4;have hkey:((E[j]?).map (·.key)).getD (kv n)=kv n:=by
  have h5:(E.toList.map (λe=>(e.key,e.val)))[j]?=some (kv n,u):=by rw[hr];simp[h3]
  grind
 have O:(execOp a.eval o).run P k.w= .ok .skip {k.w with heap:=k.w.heap.setIfInBounds b (.map (E.modify j λe=>{e with key:=kv n,val:=a.eval z}) m)}:=by simp only[execOp,V,hx,hy];simp[Instr.mapUpdate,run_underlying hu,hgo,KO.check,hf,hkey,Instr.keyThatStays,KO.same,MapKept.run_setObj_map (P:=P) _ U]
 rw[O];have hbm:(E.modify j λe=>{e with key:=kv n,val:=a.eval z}).toList.map (·.born)=E.toList.map (·.born):=by rw[Array.toList_modify];refine oC λi=>?_;simp only[nX,List.getElem?_modify];cases hi:E.toList[i]?with|none=>simp;|some e=>by_cases hij:j=i<;>simp[hij]
 have:=fin (E.modify j λe=>{e with key:=kv n,val:=a.eval z}) m (by rw[h4];exact I9 hr) (by intro e I;have:e.born∈(E.modify j λe=>{e with key:=kv n,val:=a.eval z}).toList.map (·.born):=List.mem_map_of_mem I;rw[hbm]at this;obtain⟨e',he',h'⟩:=aM.1 this;have:=M e' he';omega) (by rw[hbm];exact hb2);simpa[Oper.upon,hd,Act.put]using this
theorem qo{t:TypeId}{e:Nat}(h:e<=k.w.heap.size)(f:o.op= .makeMap t none):aX P o a k (λv k=>∃b,v= .map (some b)/\e<=b/\lN kv b [] k):=by refine eS (k':=k.alloc (.map #[] 0)) ?_ (K.dT k _) ⟨_,rfl,h,λg=>fC _ (k.lt _ g),#[],0,heap_alloc_new k.w _,rfl,by simp,by simp⟩;simp[execOp,f];rfl
instance{f:Nat}:aZ (λv k=>∃b,v=Value.map (some b)/\f<=b/\lN kv b [] k):=⟨λg⟨b,e,h,m⟩=>⟨b,e,h,m.grow g⟩⟩
structure kh(r bm since:Nat)(seen:Array Nat)(last:Nat)(k:K):Prop where
 own:¬k.sh r
 is:k.w.heap[r]?=some (.mapIter (some bm) since seen last)
theorem kh.lt{r m e:Nat}{seen:Array Nat}{f:Nat}(h:kh r m e seen f k):r<k.w.heap.size:=(bO.1 h.is).1
theorem kh.keep{r m e:Nat}{seen:Array Nat}{f:Nat}(h:kh r m e seen f k)(g:Chg G k k')(j:¬G r):kh r m e seen f k':=⟨λq=>h.own (g.MH r h.lt j q),by rw[g.blk r h.lt j];exact h.is⟩
theorem kh.grow{r m e:Nat}{seen:Array Nat}{j:Nat}(h:kh r m e seen j k)(g:bE k k'):kh r m e seen j k':=h.keep (Chg.of (F:=noF) g) λf=>f
def zE(B m e:Nat):Pred:=λv k=>∃r,v= .pointer (some ⟨r,0,none⟩)/\B<=r/\kh r m e #[] e k
instance{B j f:Nat}:aZ (zE B j f):=⟨λg⟨r,e,h,m⟩=>⟨r,e,h,m.grow g⟩⟩
theorem uF{t f g:TypeId}{x:Operand}{m e B:Nat}{es:Array MapEntry}(h:B<=k.w.heap.size)(j:o.op= .range t x)(u:P.underlying t=some (.map f g))(q:a.eval x= .map (some m))(y:k.w.heap[m]?=some (.map es e)):aX P o a k (zE B m e):=by refine eS (k':=k.alloc (.mapIter (some m) e #[] e)) ?_ (K.dT k _) ⟨_,rfl,h,λz=>fC _ (k.lt _ z),heap_alloc_new k.w _⟩;simp[execOp,j,q];simp[run_range_map k.w t f g m es e u y,K.alloc]
theorem q9{A:Array Oper}{i d r E g O j:Nat}{seen:Array Nat}{H:Array MapEntry}{m:List Nat}{Q:Exit->Act->World->Prop}{ty:TypeId}{x:Operand}(ho:nth A.toList i=some o)(hg:o.guard=none)(I:o.op= .next x false)(hd:o.dst=some d)(J:d<a.tmps.size)(hx:a.eval x= .pointer (some ⟨r,0,none⟩))(U:kh r E g seen O k)(hb:k.w.heap[E]?=some (.map H j))(M:∀e∈H.toList,e.born<g)(V:g<=O)(h1:(leftOf H seen).size=0->∀q:Act,q.tmps.size=a.tmps.size->q.defers=a.defers->q.get d= .tuple #[.bool false]->(∀t,t≠d->q.get t=a.get t)->wpOps P A Q m q k.w)(h2:∀e∈(leftOf H seen).toList,∀(q:Act)(k':K),q.tmps.size=a.tmps.size->q.defers=a.defers->q.get d= .tuple #[.bool true,e.key,e.val]->(∀t,t≠d->q.get t=a.get t)->Chg (Eq r) k k'->kh r E g (seen.push e.born) j k'->wpOps P A Q m q k'.w):wpOps P A Q (i::m) a k.w:=by
 rw[wpOps_cons];rw[aH]at ho;unfold wpOp;simp[ho,Region.wanted,hg];refine .inl ?_;unfold Oper.wp;have put:∀v,((a.put (some d) v).tmps.size=a.tmps.size/\(a.put (some d) v).defers=a.defers/\(a.put (some d) v).get d=v/\∀t,t≠d->(a.put (some d) v).get t=a.get t):=λv=>⟨fG _ _ _,ez _ _ _,by rw[dD _ _ _ _ J];simp,λt ht=>by rw[dD _ _ _ _ J,if_neg (Ne.symm ht)]⟩;rcases run_next_at (P:=P) k.w o.type r E g O seen H j U.is hb M V with⟨h0,u⟩|⟨e,he,y,W,u⟩
 · have z:(execOp a.eval o).run P k.w= .ok (.value (.tuple #[.bool false])) k.w:=by simp[execOp,I,hx];simp[u]
   rw[z];simp[Oper.upon_value];grind
 · have z:(execOp a.eval o).run P k.w= .ok (.value (.tuple #[.bool true,e.key,e.val])) (setBlock y r (.mapIter (some E) g (seen.push e.born) j)):=by simp only[execOp,I,hx];simp[u]
   rw[z];simp[Oper.upon_value,hd];obtain⟨p1,p2,p3,p4⟩:=put (.tuple #[.bool true,e.key,e.val]);have hlt:=U.lt;have e1:y.heap=k.w.heap/\y.tape=k.w.tape/\y.os=k.w.os/\y.output=k.w.output/\k.w.drawn<=y.drawn:=by
    rcases W with rfl|rfl;.exact⟨rfl,rfl,rfl,rfl,aA _⟩
    .exact⟨rfl,rfl,rfl,rfl,gN _⟩
   let k':K:=⟨setBlock y r (.mapIter (some E) g (seen.push e.born) j),k.sh,λi hi=>by have:=k.lt i hi;simp[setBlock,e1.1];exact this⟩;refine h2 e he _ k' p1 p2 p3 p4 ⟨e1.2.1,e1.2.2.1,e1.2.2.2.1,by simp[k',setBlock,e1.1],λc hc hcr=>?_,λ _ h=>h,λ _ _ h=> .inl h,e1.2.2.2.2⟩ ⟨U.own,?_⟩;.simp[k',setBlock,e1.1];rw[Array.getElem?_setIfInBounds_ne (λe=>hcr e)]
   .simp[k',setBlock,e1.1];rw[Array.getElem?_setIfInBounds_self_of_lt hlt]
theorem um{x:Operand}{r m f g:Nat}{seen:Array Nat}{h:Array MapEntry}{e:MapEntry}(j:o.op= .entry x)(q:a.eval x= .pointer (some ⟨r,0,none⟩))(u:kh r m f (seen.push e.born) g k)(y:k.w.heap[m]?=some (.map h g))(z:e∈h.toList)(E:(h.toList.map (·.born)).Nodup):aX P o a k (Is (.tuple #[e.key,e.val])):=by refine ak ?_ rfl;simp[execOp,j,q];simp[run_entry_at k.w r m f seen h g e u.is y z E]
theorem dV{x:Operand}{e:Array Value}{j:Nat}{w:Value}(h:o.op= .extract x j)(f:a.eval x= .tuple e)(g:e[j]?=some w):aX P o a k (Is w):=by refine ak ?_ rfl;simp[execOp,h,f];simp[Instr.extract,g]
theorem bV{n off:Nat}{m:List Value}{w:Value}{t:TypeId}{p:Operand}(y:o.op= .load t p)(z:Ty P t fD)(E:cw b off (a.eval p) k)(H:Box b (⟨m⟩:dt n) k)(q:m[off]?=some w):aX P o a k (Is w):=by
 obtain⟨I,e,J,M,e1,x,h1⟩:=H;have f:off<e.toList.length:=by rw[e1];exact(kr.1 q).1
 have h:w.oneCell'=true:=h1 w (by rw[e1];exact jx q);have g:At (fD.mk w) ⟨b,off,none⟩ k:=by refine⟨[w],⟨rfl,h⟩,rfl,e,J,(0,0),M,by simp at f⊢;omega,λj Q=>?_⟩;grind
 exact lA (aR y z ⟨_,E,g⟩) λu k' hk O=>Ad O
theorem jb{A:Array Oper}{i n off:Nat}{j:List Value}{w:Value}{e:List Nat}{Q:Exit->Act->World->Prop}{t:TypeId}{p y:Operand}(m:nth A.toList i=some o)(q:o.guard=none)(g:o.op= .store t p y)(u:o.dst=none)(x:(P.info? t).map (·.size)=some (Enc.sz fD))(f:off<n)(z:cw b off (a.eval p) k)(E:Box b (⟨j⟩:dt n) k)(H:a.eval y=w)(h1:w.oneCell'=true)(h:∀k',Chg (Eq b) k k'->Box b (⟨j.set off w⟩:dt n) k'->wpOps P A Q e a k'.w):wpOps P A Q (i::e) a k.w:=cG m q g u x (Nx f) z E (by rw[H];exact AE h1) h
end
open Go.Proofs Go.RowKit Go.Lib Go.Sort Go.Shelf
section
variable{P:Program}{o:Oper}{a a0:Act}{k k' k0:K}{α:Type}[Enc α]{F G:FP}
def Fj(u:Value)(m s:Nat):Pred:=λv _=>∃b off n c,u= .slice (some ⟨b,off,none⟩) n c/\v= .slice (some ⟨b,off+m*s,none⟩) (n-m) (c-m)
instance(u:Value)(m s:Nat):aW (Fj u m s):=⟨λ_ h=>h⟩
theorem G3{t e:TypeId}{x y:Operand}{g:List α}{u:Value}{B m:Nat}(O:o.op= .slice t x (some y) none none)(Q:P.underlying t=some (.slice e))(R:(P.info? e).map (·.size)=some (Enc.sz α))(z:bC u B e g (a.eval x) k)(E:IsV (m:Int) (a.eval y) k)(M:m<g.length):aX P o a k (Fj u m (Enc.sz α)):=by
 have E:=au.1 E;obtain⟨rfl,z⟩:=z;rcases z with⟨_,rfl⟩|⟨_,_,rfl⟩|⟨b,off,f,T,cs,e1,hB,U,hh,hc,V,W,hcs,q,hr⟩;.simp at M
 .simp at M
 · have H:∀w,(sizeOf e).run P w= .ok (Enc.sz α) w:=λw=>run_sizeOf R;have b3:=run_sliceBound (P:=P) (i:=m) (y:=g.length) (c:= .sliceB) (w:=k.w) (by omega) (by omega);have I:(Instr.sliceBounds true g.length f (some (.int .i64 m)) none none).run P k.w= .ok (m,g.length,f) k.w:=by simp[Instr.sliceBounds,b3]
   have j:(⟨b,off,none⟩:Addr).add (m*Enc.sz α)=⟨b,off+m*Enc.sz α,none⟩:=by
    unfold Addr.add;split;.rename_i h;rw[h];simp
    .rfl
   have J:¬f=m:=by omega
   refine ak ?_ ⟨b,off,g.length,f,e1,rfl⟩;simp[execOp,O,E,e1,Instr.sliceAt,Instr.slice,run_underlying Q,I,H,J,j]
theorem Bk(c:Array Value)(n:Nat):(Builtin.zeroCells c n).toList=(List.replicate n c.toList).flatten:=by
 have h:=sW (enc:=λ _=>c.toList) (λ _=>iE) (Array.replicate n ());have e:flatK (λ _:Unit=>c.toList) c.size (Array.replicate n ())=Builtin.zeroCells c n:=by unfold flatK Builtin.zeroCells;grind
 rw[e]at h;rw[h];simp
theorem DN{k:K}{z:α}{e:List Value}(h:Enc.rep k e z):∀n,cV k (List.replicate n e).flatten (List.replicate n z)|0=>rfl|n+1=>cV.cons h (DN h n)
theorem IM{A:Array Oper}{i:Nat}{J:List Nat}{Q:Exit->Act->World->Prop}{t e:TypeId}{x:Operand}{z:α}{f:List α}{u:Value}{m:Nat}(ho:nth A.toList i=some o)(hg:o.guard=none)(hop:o.op= .call {callee:= .builtin .clear,args:=#[x],argTypes:=#[t]})(hd:o.dst=none)(hu:P.underlying t=some (.slice e))(hz:Zero P e z)(hm:m<f.length)(hx:Fj u m (Enc.sz α) (a.eval x) k)(hv:ah 0 e f u k)(h:∀k':K,Chg (obF u) k k'->ah 0 e (f.take m++List.replicate (f.length-m) z) u k'->wpOps P A Q J a k'.w):wpOps P A Q (i::J) a k.w:=by
 obtain⟨b,H,n,c,rfl,e2⟩:=hx;rcases hv with⟨e1,rfl⟩|⟨ad,e1,rfl⟩|⟨b',off,cap,g,cs,e1,hB,R,hh,hc,h0,hmx,hcs,I,hr⟩;.simp at hm
 .simp at hm
 · simp only[Value.slice.injEq,aU,Addr.mk.injEq,and_true]at e1;obtain⟨⟨rfl,rfl⟩,rfl,rfl⟩:=e1;obtain⟨zv,hzv,hzi⟩:=hz;obtain⟨cz,hcz,U⟩:=ni (hzi k);have hzl:cz.toList.length=Enc.sz α:=Enc.len U;have hzs:cz.size=Enc.sz α:=by simpa using hzl
   have hmul:m*Enc.sz α+(f.length-m)*Enc.sz α=f.length*Enc.sz α:=by rw[<-dM,Nat.add_sub_cancel' (by omega)]
   have hcur:H+f.length*Enc.sz α<=g.size:=by have:=ep (Enc.sz α) hc;omega
   generalize M:(Builtin.zeroCells cz (f.length-m)).toList=Z;have hZ:Z=(List.replicate (f.length-m) cz.toList).flatten:=by rw[<-M,Bk]
   have O:cV k Z (List.replicate (f.length-m) z):=hZ▸DN U _;have hZl:Z.length=(f.length-m)*Enc.sz α:=by have:=O.len;simpa using this
   have V:=run_storeCells_at P b (H+m*Enc.sz α) e Z 0 g k.w hh (by omega) O.one;simp only[Nat.add_zero]at V;let k':K:=⟨_,k.sh,λj hj=>by have:=k.lt j hj;show j<(k.w.setRow b (g.toList.take (H+m*Enc.sz α)++Z++g.toList.drop (H+m*Enc.sz α+Z.length)).toArray).heap.size;simpa using this⟩;have y:Gi b k k':=⟨rfl,rfl,rfl,by simp[k'],λj hj=>setRow_other k.w b j _ hj,rfl,aA _⟩;rw[wpOps_cons];rw[aH]at ho;unfold wpOp;simp only[ho,Region.wanted,hg,if_true];refine .inl ?_;unfold Oper.wp;have hx:(execOp a.eval o).run P k.w= .ok (.value (.tuple #[])) k'.w:=by obtain⟨q,hq⟩:∃q,f.length-m=q+1:=⟨f.length-m-1,by omega⟩;rw[hq]at e2 M;simp[execOp,hop,e2,resolve,invoke,builtin,Builtin.clear_,run_underlying hu,hzv,hcz,M,V,k']
   rw[hx];have hob:obF (.slice (some ⟨b,H,none⟩) f.length c) b:=by simp[obF,ob,fW h0]
   have hl:(f.take m++List.replicate (f.length-m) z).length=f.length:=by simp;omega
   have:=h k' ⟨y.tape,y.os,y.out,rY y.size.symm,λc' _ E=>y.blk c' (λe=>E (by rw[e];exact hob)),λc' E=>E,λc' _ E=> .inl E,y.drawn⟩ (.inr (.inr ⟨b,H,c,_,_,by rw[hl],hB,R,setRow_heap k.w b g _ e _ hh,by rw[hl];exact hc,h0,hmx,?_,rfl,?_⟩));.simpa[Oper.upon,hd,Act.put]using this
   ·simp only[kn,bA,dY,fg,iE];omega
   · rw[hl];have e3:((g.toList.take (H+m*Enc.sz α)++Z++g.toList.drop (H+m*Enc.sz α+Z.length)).drop H).take (f.length*Enc.sz α)=cs.take (m*Enc.sz α)++Z:=by rw[dm,rh (by simp;omega),om,r6,<-dm,vx (by simp;omega)];rw[<-I,mj,mb (by omega)];rw[oz (by simp;omega)]
     rw[List.toList_toArray,e3];exact((cV.take m hr).append O).mono (y.le R)
end
section
variable{P:Program}{o:Oper}{a:Act}{k:K}
def bLt(x y:ByteArray):Bool:=Op.bytesLess x.toList y.toList
theorem D4{x y:ByteArray}:bLt x y=true↔x.toList<y.toList:=by unfold bLt;rw[bytesLess_eq,decide_eq_true_iff]
theorem Se{t u:TypeId}{x y:Operand}{b c:ByteArray}(f:o.op= .binOp .lss t x y u)(h:IsV b (a.eval x) k)(e:IsV c (a.eval y) k):aX P o a k (IsV (bLt b c)):=by have h:=cY.1 h;have e:=cY.1 e;refine ak ?_ (aE.2 rfl);simp[execOp,f,h,e];simp[eqGuard,binOp,Op.stringOp,bLt]
theorem TL{t u:TypeId}{x y:Operand}{b c:ByteArray}(f:o.op= .binOp .gtr t x y u)(h:IsV b (a.eval x) k)(e:IsV c (a.eval y) k):aX P o a k (IsV (!(bLt b c||b.toList==c.toList))):=by have h:=cY.1 h;have e:=cY.1 e;refine ak ?_ (aE.2 rfl);simp[execOp,f,h,e];simp[eqGuard,binOp,Op.stringOp,bLt]
end
theorem p9(x:ByteArray):bLt x x=false:=by rw[rV,ne_eq,D4];exact List.lt_irrefl _
theorem sd{x y z:ByteArray}(h:bLt x y=true)(g:bLt y z=true):bLt x z=true:=by rw[D4]at*;exact List.lt_trans h g
theorem toList_inj{x y:ByteArray}(h:x.toList=y.toList):x=y:=by have e:=Lib.toList_data x;have f:=Lib.toList_data y;rw[e,f]at h;cases x;simp[Array.toList_inj]at h;rw[h]
theorem yN{x y:ByteArray}(h:bLt x y=false)(g:bLt y x=false):x=y:=by rw[rV,ne_eq,D4]at h g;exact toList_inj (List.le_antisymm g h)
theorem yA{x y:ByteArray}(h:bLt x y=true):bLt y x=false:=by cases g:bLt y x with|false=>rfl;|true=>have:=sd h g;rw[p9]at this;cases this
theorem Tm(x y:ByteArray):(!(bLt x y||x.toList==y.toList))=bLt y x:=by cases h:bLt x y with|true=>rw[yA h];rfl;|false=>cases g:bLt y x with
 |true=>
 have:¬x.toList=y.toList:=λe=>by rw[toList_inj e,p9]at g;cases g
 simp[this]|false=>simp[yN h g]
theorem qR{Q:Exit->Act->World->Prop}{id:Nat}{a:Act}{w:World}(h:Q .normal a w):Exit.inBlock id Q (.exit id) a w:=by unfold Exit.inBlock;simp[h]
theorem gw{K:Act->World->Prop}{Q:Exit->Act->World->Prop}{i:Nat}{a:Act}{w:World}(h:Q (.exit i) a w):Exit.then K Q (.exit i) a w:=h
theorem xr{j:Type}(f:j->Nat):∀(l:List j)(i:Nat)(hi:i<l.length),(l.map f).Nodup->l.filter (λx=>!(f x==f l[i]))=l.eraseIdx i
 |[],i,hi,_=>absurd hi (fv i)|x::l,0,_,h=>by simp_all;|x::l,i+1,hi,h=>by
  simp[cf]at h;have g:i<l.length:=by simpa using hi
  simp;have m:¬f x=f l[i]:=λe=>h.1 l[i] (aN g) e.symm;rw[List.filter_cons_of_pos (by simp[m]),xr f l i g h.2]
theorem rj(e:Array MapEntry)(seen:Array Nat)(i:Nat)(hi:i<(leftOf e seen).toList.length)(h:(e.toList.map (·.born)).Nodup):(leftOf e (seen.push ((leftOf e seen).toList[i]).born)).toList=(leftOf e seen).toList.eraseIdx i:=by
 have h1:((leftOf e seen).toList.map (·.born)).Nodup:=by unfold leftOf;grind
 rw[<-xr (·.born) _ i hi h1];generalize(leftOf e seen).toList[i].born=b;unfold leftOf;rw[pZ,pZ,List.filter_filter];grind
section
variable{P:Program}{o:Oper}{a:Act}{k k' k0:K}{α:Type}[Enc α]{b:Nat}
def K.vV(k:K)(b:Nat):K:=⟨k.w,λc=>k.sh c/\c≠b,λc h=>k.lt c h.1⟩
theorem bE.vV(h:bE k0 k)(j:k0.w.heap.size<=b):bE k0 (k.vV b):=⟨h.tape,h.os,h.out,h.size,h.blk,λc f=>⟨h.up c f,λe=>by have:=k0.lt c f;omega⟩,λc g f=>h.new c g f.1,h.drawn⟩
theorem ah.vV[cS α]{B:Nat}{e:TypeId}{x:List α}{v:Value}(h:ah B e x v k):ah B e x v (k.vV b):=by
 rcases h with h|h|⟨c,off,f,u,j,e1,m,q,w,y,z,E,F,g,G⟩;.exact .inl h
 .exact .inr (.inl h)
 .exact .inr (.inr ⟨c,off,f,u,j,e1,m,λH=>q H.1,w,y,z,E,F,g,pc.2 (pc.1 G)⟩)
theorem qY.vV{e:Type}{f:e->Value}{c:Nat}{l:List (e×Value)}(h:qY f c l k):qY f c l (k.vV b):=⟨λg=>h.own g.1,h.is⟩
def Di(B:Nat):Pred:=λv k=>∃b,v= .map (some b)/\B<=b/\k.sh b/\k.w.heap[b]?=some (.map #[] 0)
instance{B:Nat}:aZ (Di B):=⟨λg⟨b,e,h,m,f⟩=>⟨b,e,h,g.up b m,by rw[g.blk b (K.lt _ b m)];exact f⟩⟩
theorem He{t:TypeId}{B:Nat}(j:B<=k.w.heap.size)(m:o.op= .makeMap t none):aX P o a k (Di B):=by
 have f:k.w.heap.size<(k.alloc (.map #[] 0)).w.heap.size:=by simp[K.alloc]
 have h:=K.dT k (.map #[] 0);refine eS (k':=(k.alloc (.map #[] 0)).share k.w.heap.size f) ?_ ⟨h.tape,h.os,h.out,h.size,h.blk,λb g=>(K.sk _ _ f).up b (h.up b g),λb q g=>g.elim (h.new b q) (λe=>absurd e (by omega)),h.drawn⟩ ⟨_,rfl,j, .inr rfl,heap_alloc_new k.w _⟩;simp[execOp,m];simp[Instr.makeMap,K.alloc,K.share]
theorem Di.free{e:Type}(f:e->Value)(h:k.w.heap[b]?=some (.map #[] 0)):lN f b [] (k.vV b):=⟨λg=>g.2 rfl,#[],0,h,rfl,by simp,by simp⟩
end
section
variable{P:Program}{k k' k0:K}{F:FP}{hF:∀b,F b->b<k.w.heap.size}
def K.sP(k' k:K)(F:FP):K:=⟨k'.w,λi=>k'.sh i/\(F i->k.sh i),λi hi=>k'.lt i hi.1⟩
theorem bE.sP(h:bE (k.iL F hF) k'):bE k (k'.sP k F):=⟨h.tape,h.os,h.out,h.size,h.blk,λb e=>⟨h.up b (.inl e),λ_=>e⟩,λb f e=>(h.new b f e.1).elim id e.2,h.drawn⟩
theorem tA{f:FuncId}{q:Array Value}{R S:Pred}(h:Calls P f q (k.iL F hF).w (Ret (k.iL F hF) R))(x:∀v k',R v k'->S v (k'.sP k F)):Calls P f q k.w (Ret k S):=by refine Calls.mono h λe w m=>?_;cases e with|returned v=>obtain⟨k',h1,y,z⟩:=m;exact⟨k'.sP k F,h1,y.sP,x _ _ z⟩;|panicked c=>exact m.elim;|outgrown=>exact m.elim
end
end Go.Gb
namespace Go.Proofs.YtlckpjpbladknaaGreat
open Go.Gb
set_option maxRecDepth 100000
structure ay where
 X0:Int
 Y0:Int
 X1:Int
 Y1:Int deriving DecidableEq,Inhabited
instance:Enc ay:=Enc.ofMap λx=>(x.X0,x.Y0,x.X1,x.Y1)
structure Box where
 Base:ay
 Z0:Int
 Z1:Int deriving DecidableEq,Inhabited
instance:Enc Box:=Enc.ofMap λx=>(x.Base,x.Z0,x.Z1)
structure aF where
 Box:Box
 Use:Int
 Units:Int
 Extra:Bool deriving DecidableEq,Inhabited
instance:Enc aF:=Enc.ofMap λx=>(x.Box,x.Use,x.Units,x.Extra)
structure Entry where
 Name:ByteArray
 N:Int deriving DecidableEq,Inhabited
instance:Enc Entry:=Enc.ofMap λx=>(x.Name,x.N)
structure Phase where Volumes:(List aF)cd:(List Entry)deriving DecidableEq,Inhabited
instance:Enc Phase:=Enc.ofMap λx=>(x.Volumes,x.cd)
structure ax where
 Lot:Int
 Phases:(List Phase)deriving DecidableEq,Inhabited
instance:Enc ax:=Enc.ofMap λx=>(x.Lot,x.Phases)
structure ai where
 Id:Int
 Holder:Int
 ax:ax
 Used:Int
 Until:Int
 Over:Bool deriving DecidableEq,Inhabited
instance:Enc ai:=Enc.ofMap λx=>(x.Id,x.Holder,x.ax,x.Used,x.Until,x.Over)
structure aq where
 Counter:Int
 Number:Int
 ai:ai deriving DecidableEq,Inhabited
instance:Enc aq:=Enc.ofMap λx=>(x.Counter,x.Number,x.ai)
structure bN where
 number:Int
 district:(List Int)desk:Ptr
 register:(List aq)deriving DecidableEq,Inhabited
instance:Enc bN:=Enc.ofMap λx=>(x.number,x.district,x.desk,x.register)
structure aG where
 Cap:ByteArray
 Counter:Int
 Held:Int
 Used:Int deriving DecidableEq,Inhabited
instance:Enc aG:=Enc.ofMap λx=>(x.Cap,x.Counter,x.Held,x.Used)
structure gY where
 Cap:ByteArray
 From:Int
 To:Int
 Number:Int
 N:Int deriving DecidableEq,Inhabited
instance:Enc gY:=Enc.ofMap λx=>(x.Cap,x.From,x.To,x.Number,x.N)
structure ot where
 from_:Int
 number:Int deriving DecidableEq,Inhabited
instance:Enc ot:=Enc.ofMap λx=>(x.from_,x.number)
theorem lS:Tryz.prog.follows .mixedOrders=true:=by kernel_rfl
theorem E5:Ty Tryz.prog 54 aq:=⟨⟨_,Tryz.underlying54,rfl⟩,by kernel_rfl⟩
theorem Ni:(Tryz.prog.info? 54).map (·.size)=some (Enc.sz aq):=by kernel_rfl
theorem Vg:dJ Tryz.prog 54 aq:=⟨_,_,rfl,rfl,rfl,rfl,by decide,by decide⟩
theorem z54:Zero Tryz.prog 54 ((⟨0,0,(⟨0,0,(⟨0,[]⟩:ax),0,0,false⟩:ai)⟩:aq):aq):=⟨_,Tryz.zeroValue54,λ _=>⟨_,rfl,⟨rfl,rfl,⟨rfl,rfl,⟨rfl,rfl,⟨rfl,rfl,⟨rfl,⟨rfl,rfl,⟨_,rfl, .inl ⟨rfl,rfl⟩⟩⟩,⟨rfl,rfl,⟨rfl,rfl,rfl⟩⟩⟩⟩⟩⟩⟩⟩⟩
theorem Sm:cT Tryz.prog 54 0 0:=⟨_,_,0,Tryz.underlying54,rfl,rfl,by kernel_rfl⟩
theorem FQ(y:aq)(e:Addr)(k:K)(h:At y e k):At y.Counter (e.add 0) k:=have f:At (y.Counter,y.Number,y.ai) e k:=h
 At.fst (At.zero f)
theorem Sj:cT Tryz.prog 54 2 2:=⟨_,_,6,Tryz.underlying54,rfl,rfl,by kernel_rfl⟩
theorem FC(y:aq)(e:Addr)(k:K)(h:At y e k):At y.ai (e.add 2) k:=have f:At (y.Counter,y.Number,y.ai) e k:=h
 At.sE (At.sE (At.zero f))
theorem EU:cT Tryz.prog 106 0 0:=⟨_,_,0,Tryz.underlying106,rfl,rfl,by kernel_rfl⟩
theorem Qt:cT Tryz.prog 106 1 1:=⟨_,_,0,Tryz.underlying106,rfl,rfl,by kernel_rfl⟩
theorem zX:cT Tryz.prog 106 2 2:=⟨_,_,0,Tryz.underlying106,rfl,rfl,by kernel_rfl⟩
theorem oR:cT Tryz.prog 106 3 3:=⟨_,_,0,Tryz.underlying106,rfl,rfl,by kernel_rfl⟩
theorem ty3:Ty Tryz.prog 3 Int:=⟨⟨_,Tryz.underlying3,rfl⟩,by kernel_rfl⟩
theorem O6:(Tryz.prog.info? 3).map (·.size)=some (Enc.sz Int):=by kernel_rfl
theorem ty9:Ty Tryz.prog 9 ByteArray:=⟨⟨_,Tryz.underlying9,rfl⟩,by kernel_rfl⟩
theorem Mq:Ty Tryz.prog 87 aG:=⟨⟨_,Tryz.underlying87,rfl⟩,by kernel_rfl⟩
theorem Ru:(Tryz.prog.info? 87).map (·.size)=some (Enc.sz aG):=by kernel_rfl
theorem U1:dJ Tryz.prog 87 aG:=⟨_,_,rfl,rfl,rfl,rfl,by decide,by decide⟩
theorem z87:Zero Tryz.prog 87 ((⟨(⟨#[]⟩:ByteArray),0,0,0⟩:aG):aG):=⟨_,Tryz.zeroValue87,λ _=>⟨_,rfl,⟨rfl,rfl,⟨rfl,rfl,⟨rfl,rfl,rfl⟩⟩⟩⟩⟩
theorem Rh:dJ Tryz.prog 187 gY:=⟨_,_,rfl,rfl,rfl,rfl,by decide,by decide⟩
theorem Bu:cT Tryz.prog 87 0 0:=⟨_,_,0,Tryz.underlying87,rfl,rfl,by kernel_rfl⟩
theorem pA(y:aG)(e:Addr)(k:K)(h:At y e k):At y.Cap (e.add 0) k:=have f:At (y.Cap,y.Counter,y.Held,y.Used) e k:=h
 At.fst (At.zero f)
theorem TZ:cT Tryz.prog 87 1 1:=⟨_,_,0,Tryz.underlying87,rfl,rfl,by kernel_rfl⟩
theorem Jh(y:aG)(e:Addr)(k:K)(h:At y e k):At y.Counter (e.add 1) k:=have f:At (y.Cap,y.Counter,y.Held,y.Used) e k:=h
 At.fst (At.sE (At.zero f))
theorem DU:cT Tryz.prog 87 2 2:=⟨_,_,0,Tryz.underlying87,rfl,rfl,by kernel_rfl⟩
theorem tf(y:aG)(e:Addr)(k:K)(h:At y e k):At y.Held (e.add 2) k:=have f:At (y.Cap,y.Counter,y.Held,y.Used) e k:=h
 At.fst (At.sE (At.sE (At.zero f)))
theorem BO:cT Tryz.prog 87 3 3:=⟨_,_,0,Tryz.underlying87,rfl,rfl,by kernel_rfl⟩
theorem te(y:aG)(e:Addr)(k:K)(h:At y e k):At y.Used (e.add 3) k:=have f:At (y.Cap,y.Counter,y.Held,y.Used) e k:=h
 At.sE (At.sE (At.sE (At.zero f)))
theorem QG:cT Tryz.prog 146 0 0:=⟨_,_,0,Tryz.underlying146,rfl,rfl,by kernel_rfl⟩
theorem vK:cT Tryz.prog 146 1 1:=⟨_,_,0,Tryz.underlying146,rfl,rfl,by kernel_rfl⟩
theorem PD:cT Tryz.prog 146 2 2:=⟨_,_,0,Tryz.underlying146,rfl,rfl,by kernel_rfl⟩
theorem QJ:cT Tryz.prog 146 3 3:=⟨_,_,0,Tryz.underlying146,rfl,rfl,by kernel_rfl⟩
theorem Qo:cT Tryz.prog 146 4 4:=⟨_,_,0,Tryz.underlying146,rfl,rfl,by kernel_rfl⟩
theorem Lp:Upd (α:=aG) (β:=Int) (0+3) (λx y=>{x with Used:=y}):=λk e f x y h g=>(Upd.snd (Upd.snd (Upd.snd Upd.self))) k e f (x.Cap,x.Counter,x.Held,x.Used) y h g
noncomputable def TK(S:TypeId):Code:=tyC (Vw 38 S) id (body Tryz.f29)
theorem yI{f S E:TypeId}{y:Func}{z:Type}[Enc z](U:Tryz.prog.funcs[f]?=some y)(V:y.body=some (TK S))(W:y.ntmps=8)(P:y.results=#[.tmp 2])(I:Tryz.prog.underlying S=some (.slice E))(Q:dJ Tryz.prog E z){k0:K}{v0:Value}{s r:List z}(i0:IsV s v0 k0)(u:(eb [] s).bind (λx=>some x)=some r):Calls Tryz.prog f #[v0] k0.w (Ret k0 (ah k0.w.heap.size E r)):=by
 refine Ret.ofC ?_;refine cO U V W (show 1<=8 by decide) λa k F j m ha=>?_;obtain⟨e0,_⟩:=ha;replace i0:IsV s (a.get 0) k:=by rw[e0,F];exact i0
 have hQ:Gb.LetsOut (bodyPost Tryz.prog y (cr noF k0 (ah k0.w.heap.size E r))):=ch;have g:Chg noF k0 k:=by rw[F];exact Chg.refl _ k0
 refine aK 1 (⟨some ij,[]⟩::[]) rfl ⟨g,j,m⟩ (by kernel_rfl) ⟨ob1 rfl λb q h n=>aQ rfl je,trivial⟩ [⟨_,_⟩] (λb q p=>⟨p.ke 0 rfl i0,trivial⟩) ?_;rintro a k ⟨⟨g,j,m⟩,i0,_⟩;refine wp_seq ?_;refine aK 2 (_::⟨some (Jn s),[(3,some 0)]⟩::[]) rfl ⟨g,j,m⟩ (by kernel_rfl) ⟨mu rfl i0,ob1 rfl λ _ _ h n=>Av rfl I (IsV.rd n.1),trivial⟩ [⟨_,_⟩,⟨_,_⟩] (λb q p=>⟨p.ke 0 rfl i0,p.ou 1 4 rfl,trivial⟩) ?_;rintro a k ⟨⟨g,j,m⟩,i0,i4,_⟩;obtain⟨bb,J,G⟩:=i4;refine wp_cond_split J (λR=>?_) (λR=>?_)
 · replace u:some ([]:List z)=some r:=by rw[G R]at u;simpa[eb]using u
   refine O5 (λc l=>Bs noF k0 8 c l/\ah 0 E ([]:List z) (c.get 2) l/\Lo k0 (obF (c.get 2))/\True) ?_ ?_;·intro Q1 W1 w1;refine gS 1 (⟨some ij,[]⟩::[]) j (by kernel_rfl) ⟨ob1 rfl λb q h n=>aQ rfl je,trivial⟩ W1 λb q p=>?_;have H:ij (b.get 2) q:=p.ou 0 2 rfl;exact aj (k:=q) (w1 _ _ ⟨⟨g.then p.grow,p.size.trans j,p.defers.trans m⟩,H.Ts,H.lo,trivial⟩)
   rintro a k ⟨⟨g,j,m⟩,i2,n2,_⟩;refine wp_ret ?_;obtain rfl:=ae u;exact cZ P m g (show gg _ _ _ (.tmp 2) _ from ah.raise (k0:=k0) i2 n2)
 · refine wp_skip ?_;refine wp_seq ?_;obtain⟨x1,M,u⟩:=bind_some u;refine cut (λO T=>Bs noF k0 8 O T/\ah 0 E x1 (O.get 2) T/\Lo k0 (obF (O.get 2))/\True) ?_ hQ ?_;·intro Q2 W2 w2;refine gS 4 (⟨some ij,[]⟩::_::⟨some (ah k.w.heap.size E x1),[(5,some 0),(6,some 1)]⟩::_::[]) j (by kernel_rfl) ⟨ob1 rfl λb q h n=>mz rfl I Q,mu rfl i0,ob1 rfl λ _ _ h n=>sC rfl I Q h.size n.1 (IsV.rd n.2.1) M,cp 2 rfl rfl,trivial⟩ W2 λb q p=>?_;have H:ah k.w.heap.size E x1 (b.get 2) q:=p.ou 3 2 rfl;exact aj (k:=q) (w2 _ _ ⟨⟨g.then p.grow,p.size.trans j,p.defers.trans m⟩,H.weaken (bY _),H.loF.chg g,trivial⟩)
   rintro a k ⟨⟨g,j,m⟩,i2,n2,_⟩;refine wp_ret ?_;obtain rfl:=ae u;exact cZ P m g (show gg _ _ _ (.tmp 2) _ from ah.raise (k0:=k0) i2 n2)
def pN{g:Type}[Enc g](e:(List (List g)))(f:Int×Int):Option (aY (Int×Int) ((List g))):=if(decide (f.2<(e.length:Int)))then(aL e f.2).bind λx1=>(bh f.1 (x1.length:Int)).bind λx=>if(decide (x<0))then none else(bh f.2 1).bind λh=>some (.go (x,h))else some (.ex 0 (f.1,f.2))
def pQ{g:Type}[Enc g](e:(List (List g)))(f:(List g)×Int):Option (aY ((List g)×Int) ((List g))):=if(decide (f.2<(e.length:Int)))then(aL e f.2).bind λx1=>(eb f.1 x1).bind λx=>(bh f.2 1).bind λh=>some (.go (x,h))else some (.ex 2 (f.1,f.2))
def vA{f:Type}[Enc f](e:(List (List f))):Option ((List f)):=(ar (pN e) (e.length+1) (0,0)).bind λf1=>match f1 with
 | .go _=>none| .ex _ g=>(Ax f g.1).bind λx1=>(ar (pQ e) (e.length+1) (x1,0)).bind λf2=>match f2 with| .go _=>none| .ex _ h=>some h.1| .ret j=>some j
 | .ret m=>some m
noncomputable def QM(L S G:Nat):Code:=tyC (VW 247 L 69 S) (Vw 236 G) (body Tryz.f216)
theorem Ju{f L S E G:Nat}{fn:Func}{α:Type}[Enc α](hf:Tryz.prog.funcs[f]?=some fn)(hb:fn.body=some (QM L S G))(hn:fn.ntmps=36)(hq:fn.results=#[.tmp 2])(huL:Tryz.prog.underlying L=some (.slice S))(hu:Tryz.prog.underlying S=some (.slice E))(tyS:Ty Tryz.prog S (List α))(eo:dJ Tryz.prog E α)
    (hG:∀args w,(callFunc G args).run Tryz.prog w= .ok (.enter G args) w)(grow:∀{k0:K}{v0 v1:Value}{n:Int}{r:List α},v0= .slice none 0 0->IsV n v1 k0->Ax α n=some r->Calls Tryz.prog G #[v0,v1] k0.w (Ret k0 (ah k0.w.heap.size E r)))
    {k0:K}{v0:Value}{g:List (List α)}{r:List α}(i0:IsV g v0 k0)(x:vA g=some r):Calls Tryz.prog f #[v0] k0.w (Ret k0 (ah k0.w.heap.size E r)):=by
 unfold vA at x;refine Ret.ofC ?_;refine cO hf hb hn (show 1<=36 by decide) λa k hk0 j F ha=>?_;obtain⟨e0,_⟩:=ha;replace i0:(IsV g) (a.get 0) k:=by rw[e0,hk0];exact i0
 have hQ:Gb.LetsOut (bodyPost Tryz.prog fn (cr noF k0 (ah k0.w.heap.size E r))):=ch;have y:Chg noF k0 k:=by rw[hk0];exact Chg.refl _ k0
 refine aK 1 (⟨some ij,[]⟩::[]) rfl ⟨y,j,F⟩ (by kernel_rfl) ⟨ob1 rfl λb q h n=>aQ rfl je,trivial⟩ [⟨_,_⟩] (λb q p=>⟨p.ke 0 rfl i0,trivial⟩) ?_;rintro a k ⟨⟨y,j,F⟩,i0,_⟩;refine aK 1 (⟨some (IsI 0),[]⟩::[]) rfl ⟨y,j,F⟩ (by kernel_rfl) ⟨aI rfl rfl,trivial⟩ [⟨_,_⟩,⟨_,_⟩] (λb q p=>⟨p.ke 0 rfl i0,p.ou 0 3 rfl,trivial⟩) ?_;rintro a k ⟨⟨y,j,F⟩,i0,i3,_⟩;refine wp_seq ?_;refine aK 3 (_::_::⟨some (IsI 0),[]⟩::[]) rfl ⟨y,j,F⟩ (by kernel_rfl) ⟨mu rfl i0,o1 [(9,some 0)] rfl λ _ _ h n=>gM rfl rfl huL (IsV.rd n.1),ob1 rfl λ _ _ h n=>du rfl (cI rfl),trivial⟩ [⟨_,_⟩,⟨_,_⟩,⟨_,_⟩,⟨_,_⟩,⟨_,_⟩] (λb q p=>⟨p.ke 0 rfl i0,p.ke 3 rfl i3,p.ou 0 9 rfl,p.ou 1 10 rfl,p.ou 2 11 rfl,trivial⟩) ?_;rintro a k ⟨⟨y,j,F⟩,i0,i3,i9,J,I,_⟩;refine wp_block ?_;obtain⟨f1,hf1,x⟩:=bind_some x;refine pC f1 (λs' c l=>Bs noF k0 36 c l/\IsV g (c.get 0) l/\IsV s'.1 (c.get 3) l/\IsV g (c.get 9) l/\IsL g (c.get 10) l/\IsV s'.2 (c.get 11) l/\True) (λi' s' c l=>(i'=0/\Bs noF k0 36 c l/\IsV g (c.get 0) l/\IsV s'.1 (c.get 3) l/\True)) (λr' c l=>bodyPost Tryz.prog fn (cr noF k0 (ah k0.w.heap.size E r')) .ret c l.w) ?_ hQ ?_ ?_ ?_
 .intro Q1 W1 hgo hex W;refine gj ?_ _ _ _ _ _ hf1 ⟨⟨y,j,F⟩,i0,i3,i9,J,I,trivial⟩ Q1 W1 hgo hex W;clear x hf1 hgo hex W W1 hQ y j F i0 J I i3 i9;intro s1 fl_ a k x hS Q hQ hgo1212 hex1213 hret1214;obtain⟨⟨y,j,F⟩,i0,i3,i9,J,I,_⟩:=hS;unfold pN at x;refine aK 1 (_::[]) rfl ⟨y,j,F⟩ (by kernel_rfl) ⟨o1 [(11,none),(10,none)] rfl λ _ _ h n=>jY rfl (up I h n.1) (up J h n.2.1),trivial⟩ [⟨_,_⟩,⟨_,_⟩,⟨_,_⟩,⟨_,_⟩,⟨_,_⟩,⟨_,_⟩] (λb q p=>⟨p.ke 0 rfl i0,p.ke 3 rfl i3,p.ke 9 rfl i9,p.ke 10 rfl J,p.ke 11 rfl I,p.ou 0 12 rfl,trivial⟩) ?_;rintro a k ⟨⟨y,j,F⟩,i0,i3,i9,J,I,i12,_⟩;refine wp_seq ?_;refine wp_cond_split (isBool i12) (λR=>?_) (λR=>?_)
  .rw[if_pos R]at x;refine wp_skip ?_;refine wp_seq ?_;refine wp_block ?_;refine wp_seq ?_;obtain⟨x1,hx1,x⟩:=bind_some x;refine cut (λm z=>Bs noF k0 36 m z/\(IsV g) (m.get 0) z/\(IsV s1.1) (m.get 3) z/\(IsV x1) (m.get 5) z/\(IsV g) (m.get 9) z/\(IsL g) (m.get 10) z/\(IsV s1.2) (m.get 11) z/\True) ?_ hQ ?_;.intro Q2 W2 w1;refine gS 3 (_::_::_::[]) j (by kernel_rfl) ⟨o1 [(9,none),(11,none)] rfl λ _ _ h n=>dj rfl huL tyS (IsV.rd (up i9 h n.1)) (up I h n.2.1) hx1,o1 [(13,some 0)] rfl λ _ _ h n=>aR rfl tyS n.1,cp 1 rfl rfl,trivial⟩ W2 λb q p=>?_;exact aj (k:=q) (w1 _ _ ⟨Bs.post ⟨y,j,F⟩ p,p.ke 0 rfl i0,p.ke 3 rfl i3,p.ou 2 5 rfl,p.ke 9 rfl i9,p.ke 10 rfl J,p.ke 11 rfl I,trivial⟩)
   rintro a k ⟨⟨y,j,F⟩,i0,i3,i5,i9,J,I,_⟩;refine wp_seq ?_;obtain⟨x2,hx2,x⟩:=bind_some x;refine cut (λm z=>Bs noF k0 36 m z/\(IsV g) (m.get 0) z/\(IsV x2) (m.get 3) z/\(IsV g) (m.get 9) z/\(IsL g) (m.get 10) z/\(IsV s1.2) (m.get 11) z/\True) ?_ hQ ?_;.intro Q3 W3 w2;refine gS 5 (_::_::_::_::_::[]) j (by kernel_rfl) ⟨mu rfl i3,mu rfl i5,o1 [(16,some 1)] rfl λ _ _ h n=>gM rfl rfl hu (IsV.rd n.1),o1 [(15,some 0),(17,some 2)] rfl λ _ _ h n=>iK rfl n.1 n.2.1 hx2,cp 3 rfl rfl,trivial⟩ W3 λb q p=>?_;exact aj (k:=q) (w2 _ _ ⟨Bs.post ⟨y,j,F⟩ p,p.ke 0 rfl i0,p.ou 4 3 rfl,p.ke 9 rfl i9,p.ke 10 rfl J,p.ke 11 rfl I,trivial⟩)
   rintro a k ⟨⟨y,j,F⟩,i0,i3,i9,J,I,_⟩;refine aK 2 (_::_::[]) rfl ⟨y,j,F⟩ (by kernel_rfl) ⟨mu rfl i3,o1 [(19,some 0)] rfl λ _ _ h n=>jY rfl n.1 (cI rfl),trivial⟩ [⟨_,_⟩,⟨_,_⟩,⟨_,_⟩,⟨_,_⟩,⟨_,_⟩,⟨_,_⟩] (λb q p=>⟨p.ke 0 rfl i0,p.ke 3 rfl i3,p.ke 9 rfl i9,p.ke 10 rfl J,p.ke 11 rfl I,p.ou 1 20 rfl,trivial⟩) ?_;rintro a k ⟨⟨y,j,F⟩,i0,i3,i9,J,I,i20,_⟩;refine wp_cond_split (isBool i20) (λT=>?_) (λT=>?_);.rw[if_pos T]at x;simp at x
   rw[if_neg (by rw[T];decide)]at x;refine wp_skip ?_;obtain⟨x3,hx3,x⟩:=bind_some x;refine cut (λm z=>Bs noF k0 36 m z/\(IsV g) (m.get 0) z/\(IsV x2) (m.get 3) z/\(IsV g) (m.get 9) z/\(IsL g) (m.get 10) z/\(IsV x3) (m.get 11) z/\True) ?_ hQ ?_;.intro Q4 W4 w3;refine gS 2 (_::_::[]) j (by kernel_rfl) ⟨o1 [(11,none)] rfl λ _ _ h n=>iK rfl (up I h n.1) (cI rfl) hx3,cm 0 rfl rfl,trivial⟩ W4 λb q p=>?_;exact aj (k:=q) (w3 _ _ ⟨Bs.post ⟨y,j,F⟩ p,p.ke 0 rfl i0,p.ke 3 rfl i3,p.ke 9 rfl i9,p.ke 10 rfl J,p.ou 1 11 rfl,trivial⟩)
   rintro a k ⟨⟨y,j,F⟩,i0,i3,i9,J,I,_⟩;exact hgo1212 _ _ _ (ae x).symm ⟨⟨y,j,F⟩,i0,i3,i9,J,I,trivial⟩
  rw[if_neg (by rw[R];decide)]at x;refine wp_exit ?_;exact hex1213 _ _ _ _ (ae x).symm ⟨rfl,⟨y,j,F⟩,i0,i3,trivial⟩
 .rintro r1 a k rfl hR;dsimp only at x;obtain rfl:=ae x;exact hR
 .rintro _ _ _ rfl _;simp at x
 clear hf1;rintro _ s2 a k rfl ⟨rfl,⟨y,j,F⟩,i0,i3,_⟩;dsimp only at x;refine wp_seq ?_;obtain⟨x4,hx4,x⟩:=bind_some x;refine cut (λm z=>Bs noF k0 36 m z/\(IsV g) (m.get 0) z/\ah 0 E x4 (m.get 6) z/\Lo k0 (obF (m.get 6))/\True) ?_ hQ ?_;.intro Q5 W5 w4;refine gS 3 (_::_::_::[]) j (by kernel_rfl) ⟨mu rfl i3,o1 [(23,some 0)] rfl λ _ _ h n=>bU rfl hG (wA h.size (grow rfl n.1 hx4)),cp 1 rfl rfl,trivial⟩ W5 λb q p=>?_;have hgq:=y.then p.grow;have P:=p.size.trans j;have U:=p.defers.trans F;have j0:=p.ke 0 rfl i0;have j6:(ah k.w.heap.size E x4) (b.get 6) q:=p.ou 2 6 rfl;have x6:Lo k (obF (b.get 6)):=j6.loF;have y6:=x6.chg y;replace j6:=j6.weaken (bY _);exact aj (k:=q) (w4 _ _ ⟨⟨hgq,P,U⟩,j0,j6,y6,trivial⟩)
 rintro a k ⟨⟨y,j,F⟩,i0,i6,n6,_⟩;refine wp_seq ?_;refine O5 (λc l=>Bs noF k0 36 c l/\ah 0 E x4 (c.get 6) l/\Lo k0 (obF (c.get 6))/\IsV g (c.get 25) l/\IsL g (c.get 26) l/\IsI 0 (c.get 27) l/\True) ?_ ?_;.intro Q6 W6 w5;refine gS 3 (_::_::⟨some (IsI 0),[]⟩::[]) j (by kernel_rfl) ⟨mu rfl i0,o1 [(25,some 0)] rfl λ _ _ h n=>gM rfl rfl huL (IsV.rd n.1),ob1 rfl λ _ _ h n=>du rfl (cI rfl),trivial⟩ W6 λb q p=>?_;exact aj (k:=q) (w5 _ _ ⟨Bs.post ⟨y,j,F⟩ p,p.ke 6 rfl i6,(by rw[p.old 6 rfl];exact n6),p.ou 0 25 rfl,p.ou 1 26 rfl,p.ou 2 27 rfl,trivial⟩)
 rintro a k ⟨⟨y,j,F⟩,i6,n6,O,i26,M,_⟩;refine wp_block ?_;obtain⟨f2,hf2,x⟩:=bind_some x;refine pC f2 (λs' c l=>Bs noF k0 36 c l/\ah 0 E s'.1 (c.get 6) l/\Lo k0 (obF (c.get 6))/\IsV g (c.get 25) l/\IsL g (c.get 26) l/\IsV s'.2 (c.get 27) l/\True) (λi' s' c l=>(i'=2/\Bs noF k0 36 c l/\ah 0 E s'.1 (c.get 6) l/\Lo k0 (obF (c.get 6))/\True)) (λr' c l=>bodyPost Tryz.prog fn (cr noF k0 (ah k0.w.heap.size E r')) .ret c l.w) ?_ hQ ?_ ?_ ?_
 .intro Q7 W7 hgo hex W;refine gj ?_ _ _ _ _ _ hf2 ⟨⟨y,j,F⟩,i6,n6,O,i26,M,trivial⟩ Q7 W7 hgo hex W;clear x hf2 hgo hex W W7 hQ y j F O i26 M i6 n6;intro s3 fl_ a k x hS Q hQ hgo1237 hex1238 hret1239;obtain⟨⟨y,j,F⟩,i6,n6,O,i26,M,_⟩:=hS;unfold pQ at x;refine O5 (λc l=>Bs noF k0 36 c l/\ah 0 E s3.1 (c.get 6) l/\Lo k0 (obF (c.get 6))/\IsV g (c.get 25) l/\IsL g (c.get 26) l/\IsV s3.2 (c.get 27) l/\(IsV (decide (s3.2<(g.length:Int)))) (c.get 28) l/\True) ?_ ?_;.intro Q8 W8 w6;refine gS 1 (_::[]) j (by kernel_rfl) ⟨o1 [(27,none),(26,none)] rfl λ _ _ h n=>jY rfl (up M h n.1) (up i26 h n.2.1),trivial⟩ W8 λb q p=>?_;exact aj (k:=q) (w6 _ _ ⟨Bs.post ⟨y,j,F⟩ p,p.ke 6 rfl i6,(by rw[p.old 6 rfl];exact n6),p.ke 25 rfl O,p.ke 26 rfl i26,p.ke 27 rfl M,p.ou 0 28 rfl,trivial⟩)
  rintro a k ⟨⟨y,j,F⟩,i6,n6,O,i26,M,i28,_⟩;refine wp_seq ?_;refine wp_cond_split (isBool i28) (λV=>?_) (λV=>?_)
  .rw[if_pos V]at x;refine wp_skip ?_;refine wp_seq ?_;refine wp_block ?_;refine wp_seq ?_;obtain⟨x5,hx5,x⟩:=bind_some x;refine cut (λm z=>Bs noF k0 36 m z/\ah 0 E s3.1 (m.get 6) z/\Lo k0 (obF (m.get 6))/\(IsV x5) (m.get 8) z/\(IsV g) (m.get 25) z/\(IsL g) (m.get 26) z/\(IsV s3.2) (m.get 27) z/\True) ?_ hQ ?_;.intro Q9 W9 w7;refine gS 3 (_::_::_::[]) j (by kernel_rfl) ⟨o1 [(25,none),(27,none)] rfl λ _ _ h n=>dj rfl huL tyS (IsV.rd (up O h n.1)) (up M h n.2.1) hx5,o1 [(29,some 0)] rfl λ _ _ h n=>aR rfl tyS n.1,cp 1 rfl rfl,trivial⟩ W9 λb q p=>?_;exact aj (k:=q) (w7 _ _ ⟨Bs.post ⟨y,j,F⟩ p,p.ke 6 rfl i6,(by rw[p.old 6 rfl];exact n6),p.ou 2 8 rfl,p.ke 25 rfl O,p.ke 26 rfl i26,p.ke 27 rfl M,trivial⟩)
   rintro a k ⟨⟨y,j,F⟩,i6,n6,i8,O,i26,M,_⟩;obtain⟨x7,hx7,x⟩:=bind_some x;refine cut (λm z=>Bs noF k0 36 m z/\ah 0 E x7 (m.get 6) z/\Lo k0 (obF (m.get 6))/\(IsV g) (m.get 25) z/\(IsL g) (m.get 26) z/\(IsV s3.2) (m.get 27) z/\True) ?_ hQ ?_
   .intro Q10 W10 w8;refine gS 2 (⟨some (bC (a.get 6) 0 E s3.1),[(6,none)]⟩::_::[]) j (by kernel_rfl) ⟨ob1 rfl λ _ _ h n=>dH (.inl rfl) (RG n.1 (up i6 h n.1)),mu rfl i8,trivial⟩ W10 λb q p=>?_;have hgq:=y.then p.grow;have P:=p.size.trans j;have U:=p.defers.trans F;have j25:=p.ke 25 rfl O;have j26:=p.ke 26 rfl i26;have j27:=p.ke 27 rfl M;have e31:b.get 31=a.get 6:=(p.ou 0 31 rfl).1;have j31:ah 0 E s3.1 (b.get 31) q:=(p.ou 0 31 rfl).2;have y31:Lo k0 (obF (b.get 31)):=by rw[e31];exact n6
    have j32:(IsV x5) (b.get 32) q:=p.ou 1 32 rfl;have hns:=j31.jl;refine fZ (i:=2) (d:=33) rfl rfl rfl rfl (by rw[P];decide) (e:=E) hu eo j31 (IsV.rd j32) hx7 λb2 q2 hsz hdf H hch hown hob=>?_;have hle:=hch.le hns;have yn:Lo k0 (obF (b2.get 33)):=y31.app hgq hob;replace j25:=aW.pers hle j25;replace j26:=aW.pers hle j26;replace j27:=aW.pers hle j27;replace j32:=aW.pers hle j32;replace hgq:=hgq.step hch y31.wr;rw[<-H 25 (by decide)]at j25;rw[<-H 26 (by decide)]at j26;rw[<-H 27 (by decide)]at j27;rw[<-H 32 (by decide)]at j32;have j33:=hown;have y33:=yn;replace P:=hsz.trans P;replace U:=hdf.trans U;clear hle hch hown hob hns yn hsz hdf H;obtain⟨b,hbb⟩:∃b,b=b2:=⟨b2,rfl⟩;subst hbb;obtain⟨q,hqq⟩:∃q,q=q2:=⟨q2,rfl⟩;subst hqq;refine dg (i:=3) (d:=6) rfl rfl (.inl rfl) rfl (by rw[P];decide) λb2 hsz hdf hnew H=>?_;have jn:(ah 0 E x7) (b2.get 6) q:=by rw[hnew];exact j33
    have yn:Lo k0 (obF (b2.get 6)):=by rw[hnew];exact y33
    rw[<-H 25 (by decide)]at j25;rw[<-H 26 (by decide)]at j26;rw[<-H 27 (by decide)]at j27;rw[<-H 32 (by decide)]at j32;have j6:=jn;have y6:=yn;replace P:=hsz.trans P;replace U:=hdf.trans U;clear hsz hdf H;obtain⟨b,hbb⟩:∃b,b=b2:=⟨b2,rfl⟩;subst hbb;exact aj (k:=q) (w8 _ _ ⟨⟨hgq,P,U⟩,j6,y6,j25,j26,j27,trivial⟩)
   rintro a k ⟨⟨y,j,F⟩,i6,n6,O,i26,M,_⟩;obtain⟨x8,hx8,x⟩:=bind_some x;refine cut (λm z=>Bs noF k0 36 m z/\ah 0 E x7 (m.get 6) z/\Lo k0 (obF (m.get 6))/\(IsV g) (m.get 25) z/\(IsL g) (m.get 26) z/\(IsV x8) (m.get 27) z/\True) ?_ hQ ?_;.intro Q11 W11 w9;refine gS 2 (_::_::[]) j (by kernel_rfl) ⟨o1 [(27,none)] rfl λ _ _ h n=>iK rfl (up M h n.1) (cI rfl) hx8,cm 0 rfl rfl,trivial⟩ W11 λb q p=>?_;exact aj (k:=q) (w9 _ _ ⟨Bs.post ⟨y,j,F⟩ p,p.ke 6 rfl i6,(by rw[p.old 6 rfl];exact n6),p.ke 25 rfl O,p.ke 26 rfl i26,p.ou 1 27 rfl,trivial⟩)
   rintro a k ⟨⟨y,j,F⟩,i6,n6,O,i26,M,_⟩;exact hgo1237 _ _ _ (ae x).symm ⟨⟨y,j,F⟩,i6,n6,O,i26,M,trivial⟩
  rw[if_neg (by rw[V];decide)]at x;refine wp_exit ?_;exact hex1238 _ _ _ _ (ae x).symm ⟨rfl,⟨y,j,F⟩,i6,n6,trivial⟩
 .rintro r2 a k rfl hR;dsimp only at x;obtain rfl:=ae x;exact hR
 .rintro _ _ _ rfl _;simp at x
 clear hf2;rintro _ s4 a k rfl ⟨rfl,⟨y,j,F⟩,i6,n6,_⟩;dsimp only at x;refine O5 (λc l=>Bs noF k0 36 c l/\ah 0 E s4.1 (c.get 2) l/\Lo k0 (obF (c.get 2))/\True) ?_ ?_
 .intro Q12 W12 w10;refine gS 2 (⟨some (bC (a.get 6) 0 E s4.1),[(6,none)]⟩::⟨some (bC (a.get 6) 0 E s4.1),[(35,some 0)]⟩::[]) j (by kernel_rfl) ⟨ob1 rfl λ _ _ h n=>dH (.inl rfl) (RG n.1 (up i6 h n.1)),ob1 rfl λ _ _ h n=>dH (.inr rfl) n.1,trivial⟩ W12 λb q p=>?_;have hgq:=y.then p.grow;have P:=p.size.trans j;have U:=p.defers.trans F;have e2:b.get 2=a.get 6:=(p.ou 1 2 rfl).1;have j2:ah 0 E s4.1 (b.get 2) q:=(p.ou 1 2 rfl).2;have y2:Lo k0 (obF (b.get 2)):=by rw[e2];exact n6
  exact aj (k:=q) (w10 _ _ ⟨⟨hgq,P,U⟩,j2,y2,trivial⟩)
 rintro a k ⟨⟨y,j,F⟩,i2,n2,_⟩;refine wp_ret ?_;obtain rfl:=ae x;exact cZ hq F y (show gg _ _ _ (.tmp 2) _ from ah.raise (k0:=k0) i2 n2)
def BV{e:Type}(s:List e)(f:e->Option Bool):Option Int:=(ar (λi:Int=>if decide (i<(s.length:Int))=true then(aL s i).bind λx=>(f x).bind λb=>if b=true then some (.ret i)else(bh i 1).bind λj=>some (.go j)else some (.ex 0 i)) (s.length+1) 0).bind λf1:aY Int Int=>match f1 with| .go _=>none| .ex _ _=>some (-1)| .ret r=>some r
def Tf{e:Type}(s:List e)(f:e->Option Bool):Option Bool:=(BV s f).bind λr=>some (decide (0<=r))
def eqM{e:Type}[DecidableEq e](a b:List e):Option Bool:=if((a.length:Int)!=(b.length:Int))=true then some false else(ar (λi:Int=>if decide (i<(a.length:Int))=true then(aL a i).bind λx=>(aL b i).bind λy=>if(!decide (x=y))=true then some (.ret false)else(bh i 1).bind λj=>some (.go j)else some (.ex 0 i)) (a.length+1) 0).bind λf1:aY Int Bool=>match f1 with| .go _=>none| .ex _ _=>some true| .ret r=>some r
def ig(f:Int)(e:Int)(h:Int):Option (Bool):=some ((decide (e<=f))&&(decide (f<=h)))
theorem kL{f:K}{v0 E v2:Value}{z:Int}{g:Int}{j:Int}{r:Bool}(i0:(IsV z) v0 f)(m:(IsV g) E f)(i2:(IsV j) v2 f)(F:ig z g j=some r):Calls Tryz.prog 66 #[v0,E,v2] f.w (Ret f (IsV r)):=by
 unfold ig at F;refine Ret.ofC ?_;refine cO Tryz.func66 rfl Tryz.ntmps66 (show 3<=15 by decide) λa k e y u H=>?_;obtain⟨e0,e1,I,_⟩:=H;replace i0:(IsV z) (a.get 0) k:=by rw[e0,e];exact i0
 replace m:(IsV g) (a.get 1) k:=by rw[e1,e];exact m
 replace i2:(IsV j) (a.get 2) k:=by rw[I,e];exact i2
 have Q:Gb.LetsOut (bodyPost Tryz.prog Tryz.f66 (cr noF f (IsV r))):=ch;have x:Chg noF f k:=by rw[e];exact Chg.refl _ f
 refine aK 1 (⟨some (IsV false),[]⟩::[]) rfl ⟨x,y,u⟩ (by kernel_rfl) ⟨ob1 rfl λ _ _ h n=>aQ rfl (aE.2 rfl),trivial⟩ [⟨_,_⟩,⟨_,_⟩,⟨_,_⟩] (λb q p=>⟨p.ke 0 rfl i0,p.ke 1 rfl m,p.ke 2 rfl i2,trivial⟩) ?_;rintro a k ⟨⟨x,y,u⟩,i0,m,i2,_⟩;refine aK 9 (_::_::_::_::_::_::_::_::_::[]) rfl ⟨x,y,u⟩ (by kernel_rfl) ⟨mu rfl m,mu rfl i0,o1 [(7,some 0),(8,some 1)] rfl λ _ _ h n=>DW rfl n.1 n.2.1,cm 2 rfl rfl,mT rfl rfl i0,mT rfl rfl i2,gT [(11,some 4),(12,some 5)] rfl rfl λG _ _ h n=>DW rfl (Gd.get n.1 G) (Gd.get n.2.1 G),o1 [(10,some 3),(13,some 6)] rfl λ _ _ h n=>wx rfl n.1 (Gd.get n.2.1) (cB rfl),cp 7 rfl rfl,trivial⟩ [⟨_,_⟩] (λb q p=>⟨p.ou 8 6 rfl,trivial⟩) ?_;rintro a k ⟨⟨x,y,u⟩,J,_⟩;refine wp_ret ?_;obtain rfl:=ae F;exact cZ rfl u x J
def qI(e:Int):Option (Bool):=(ig e 0 7).bind λx1=>some x1
theorem yS{e:K}{v0:Value}{x:Int}{r:Bool}(i0:(IsV x) v0 e)(u:qI x=some r):Calls Tryz.prog 65 #[v0] e.w (Ret e (IsV r)):=by
 unfold qI at u;refine Ret.ofC ?_;refine cO Tryz.func65 rfl Tryz.ntmps65 (show 1<=5 by decide) λa k f g j F=>?_;obtain⟨e0,_⟩:=F;replace i0:(IsV x) (a.get 0) k:=by rw[e0,f];exact i0
 have Q:Gb.LetsOut (bodyPost Tryz.prog Tryz.f65 (cr noF e (IsV r))):=ch;have m:Chg noF e k:=by rw[f];exact Chg.refl _ e
 refine aK 1 (⟨some (IsV false),[]⟩::[]) rfl ⟨m,g,j⟩ (by kernel_rfl) ⟨ob1 rfl λ _ _ h n=>aQ rfl (aE.2 rfl),trivial⟩ [⟨_,_⟩] (λb q p=>⟨p.ke 0 rfl i0,trivial⟩) ?_;rintro a k ⟨⟨m,g,j⟩,i0,_⟩;refine wp_seq ?_;obtain⟨x1,y,u⟩:=bind_some u;refine cut (λz E=>Bs noF e 5 z E/\(IsV x1) (z.get 2) E/\True) ?_ Q ?_;.intro H W G;refine gS 3 (_::_::_::[]) g (by kernel_rfl) ⟨mu rfl i0,o1 [(3,some 0)] rfl λ _ _ h n=>bU rfl Tryz.call66 (kL n.1 (cI rfl) (cI rfl) y),cp 1 rfl rfl,trivial⟩ W λb q p=>?_;exact aj (k:=q) (G _ _ ⟨Bs.post ⟨m,g,j⟩ p,p.ou 2 2 rfl,trivial⟩)
 rintro a k ⟨⟨m,g,j⟩,i2,_⟩;refine wp_ret ?_;obtain rfl:=ae u;exact cZ rfl j m i2
def cmp_isNaN_string(x:ByteArray):Option (Bool):=some (!(x.toList==x.toList))
theorem oQ{e:K}{v0:Value}{x:ByteArray}{r:Bool}(i0:(IsV x) v0 e)(u:cmp_isNaN_string x=some r):Calls Tryz.prog 102 #[v0] e.w (Ret e (IsV r)):=by
 unfold cmp_isNaN_string at u;refine Ret.ofC ?_;refine cO Tryz.func102 rfl Tryz.ntmps102 (show 1<=6 by decide) λa k f m g y=>?_;obtain⟨e0,_⟩:=y;replace i0:(IsV x) (a.get 0) k:=by rw[e0,f];exact i0
 have Q:Gb.LetsOut (bodyPost Tryz.prog Tryz.f102 (cr noF e (IsV r))):=ch;have j:Chg noF e k:=by rw[f];exact Chg.refl _ e
 refine aK 1 (⟨some (IsV false),[]⟩::[]) rfl ⟨j,m,g⟩ (by kernel_rfl) ⟨ob1 rfl λ _ _ h n=>aQ rfl (aE.2 rfl),trivial⟩ [⟨_,_⟩] (λb q p=>⟨p.ke 0 rfl i0,trivial⟩) ?_;rintro a k ⟨⟨j,m,g⟩,i0,_⟩;refine aK 4 (_::_::⟨some (IsV (!(x.toList==x.toList))),[(3,some 0),(4,some 1)]⟩::_::[]) rfl ⟨j,m,g⟩ (by kernel_rfl) ⟨mu rfl i0,mu rfl i0,ob1 rfl λ _ _ h n=>MV rfl n.1 n.2.1,cp 2 rfl rfl,trivial⟩ [⟨_,_⟩] (λb q p=>⟨p.ou 3 2 rfl,trivial⟩) ?_;rintro a k ⟨⟨j,m,g⟩,i2,_⟩;refine wp_ret ?_;obtain rfl:=ae u;exact cZ rfl g j i2
def ie(x:ByteArray)(y:ByteArray):Option (Int):=(cmp_isNaN_string x).bind λx1=>(cmp_isNaN_string y).bind λe=>if x1 then if e then some 0 else some (-1)else if e then some 1 else if(bLt x y)then some (-1)else if(!(bLt x y||x.toList==y.toList))then some 1 else some 0
theorem tR{H:K}{v0 W:Value}{I:ByteArray}{J:ByteArray}{r:Int}(i0:(IsV I) v0 H)(m:(IsV J) W H)(j:ie I J=some r):Calls Tryz.prog 61 #[v0,W] H.w (Ret H (IsV r)):=by
 unfold ie at j;refine Ret.ofC ?_;refine cO Tryz.func61 rfl Tryz.ntmps61 (show 2<=20 by decide) λa k M f e ha=>?_;obtain⟨e0,e1,_⟩:=ha;replace i0:(IsV I) (a.get 0) k:=by rw[e0,M];exact i0
 replace m:(IsV J) (a.get 1) k:=by rw[e1,M];exact m
 have hQ:Gb.LetsOut (bodyPost Tryz.prog Tryz.f61 (cr noF H (IsV r))):=ch;have g:Chg noF H k:=by rw[M];exact Chg.refl _ H
 refine aK 1 (⟨some (IsI 0),[]⟩::[]) rfl ⟨g,f,e⟩ (by kernel_rfl) ⟨aI rfl rfl,trivial⟩ [⟨_,_⟩,⟨_,_⟩] (λb q p=>⟨p.ke 0 rfl i0,p.ke 1 rfl m,trivial⟩) ?_;rintro a k ⟨⟨g,f,e⟩,i0,m,_⟩;refine wp_seq ?_;obtain⟨x1,P,j⟩:=bind_some j;refine cut (λF G=>Bs noF H 20 F G/\(IsV I) (F.get 0) G/\(IsV J) (F.get 1) G/\(IsV x1) (F.get 5) G/\True) ?_ hQ ?_;.intro Q1 W1 w1;refine gS 3 (_::_::_::[]) f (by kernel_rfl) ⟨mu rfl i0,o1 [(7,some 0)] rfl λ _ _ h n=>bU rfl Tryz.call102 (oQ n.1 P),cp 1 rfl rfl,trivial⟩ W1 λb q p=>?_;exact aj (k:=q) (w1 _ _ ⟨Bs.post ⟨g,f,e⟩ p,p.ke 0 rfl i0,p.ke 1 rfl m,p.ou 2 5 rfl,trivial⟩)
 rintro a k ⟨⟨g,f,e⟩,i0,m,i5,_⟩;refine wp_seq ?_;obtain⟨x2,Q,j⟩:=bind_some j;refine cut (λF G=>Bs noF H 20 F G/\(IsV I) (F.get 0) G/\(IsV J) (F.get 1) G/\(IsV x1) (F.get 5) G/\(IsV x2) (F.get 6) G/\True) ?_ hQ ?_;.intro Q2 W2 w2;refine gS 3 (_::_::_::[]) f (by kernel_rfl) ⟨mu rfl m,o1 [(9,some 0)] rfl λ _ _ h n=>bU rfl Tryz.call102 (oQ n.1 Q),cp 1 rfl rfl,trivial⟩ W2 λb q p=>?_;exact aj (k:=q) (w2 _ _ ⟨Bs.post ⟨g,f,e⟩ p,p.ke 0 rfl i0,p.ke 1 rfl m,p.ke 5 rfl i5,p.ou 2 6 rfl,trivial⟩)
 rintro a k ⟨⟨g,f,e⟩,i0,m,i5,O,_⟩;refine wp_seq ?_;refine aK 1 (_::[]) rfl ⟨g,f,e⟩ (by kernel_rfl) ⟨mu rfl i5,trivial⟩ [⟨_,_⟩,⟨_,_⟩,⟨_,_⟩,⟨_,_⟩] (λb q p=>⟨p.ke 0 rfl i0,p.ke 1 rfl m,p.ke 6 rfl O,p.ou 0 11 rfl,trivial⟩) ?_;rintro a k ⟨⟨g,f,e⟩,i0,m,O,R,_⟩;refine wp_cond_split (isBool R) (λu=>?_) (λu=>?_)
 .rw[if_pos u]at j;refine wp_seq ?_;refine aK 1 (_::[]) rfl ⟨g,f,e⟩ (by kernel_rfl) ⟨mu rfl O,trivial⟩ [⟨_,_⟩] (λb q p=>⟨p.ou 0 12 rfl,trivial⟩) ?_;rintro a k ⟨⟨g,f,e⟩,i12,_⟩;refine wp_cond_split (isBool i12) (λx=>?_) (λx=>?_);.rw[if_pos x]at j;refine aK 1 (⟨some (IsI 0),[]⟩::[]) rfl ⟨g,f,e⟩ (by kernel_rfl) ⟨aI rfl rfl,trivial⟩ [⟨_,_⟩] (λb q p=>⟨p.ou 0 4 rfl,trivial⟩) ?_;rintro a k ⟨⟨g,f,e⟩,i4,_⟩;refine wp_ret ?_;obtain rfl:=ae j;exact cZ rfl e g i4
  rw[if_neg (by rw[x];decide)]at j;refine wp_skip ?_;refine aK 1 (⟨some (IsI (-1)),[]⟩::[]) rfl ⟨g,f,e⟩ (by kernel_rfl) ⟨aI rfl rfl,trivial⟩ [⟨_,_⟩] (λb q p=>⟨p.ou 0 4 rfl,trivial⟩) ?_;rintro a k ⟨⟨g,f,e⟩,i4,_⟩;refine wp_ret ?_;obtain rfl:=ae j;exact cZ rfl e g i4
 rw[if_neg (by rw[u];decide)]at j;refine wp_skip ?_;refine wp_seq ?_;refine aK 1 (_::[]) rfl ⟨g,f,e⟩ (by kernel_rfl) ⟨mu rfl O,trivial⟩ [⟨_,_⟩,⟨_,_⟩,⟨_,_⟩] (λb q p=>⟨p.ke 0 rfl i0,p.ke 1 rfl m,p.ou 0 13 rfl,trivial⟩) ?_;rintro a k ⟨⟨g,f,e⟩,i0,m,T,_⟩;refine wp_cond_split (isBool T) (λy=>?_) (λy=>?_);.rw[if_pos y]at j;refine aK 1 (⟨some (IsI 1),[]⟩::[]) rfl ⟨g,f,e⟩ (by kernel_rfl) ⟨aI rfl rfl,trivial⟩ [⟨_,_⟩] (λb q p=>⟨p.ou 0 4 rfl,trivial⟩) ?_;rintro a k ⟨⟨g,f,e⟩,i4,_⟩;refine wp_ret ?_;obtain rfl:=ae j;exact cZ rfl e g i4
 rw[if_neg (by rw[y];decide)]at j;refine wp_skip ?_;refine wp_seq ?_;refine aK 3 (_::_::⟨some (IsV (bLt I J)),[(14,some 0),(15,some 1)]⟩::[]) rfl ⟨g,f,e⟩ (by kernel_rfl) ⟨mu rfl i0,mu rfl m,ob1 rfl λ _ _ h n=>Se rfl n.1 n.2.1,trivial⟩ [⟨_,_⟩,⟨_,_⟩,⟨_,_⟩] (λb q p=>⟨p.ke 0 rfl i0,p.ke 1 rfl m,p.ou 2 16 rfl,trivial⟩) ?_;rintro a k ⟨⟨g,f,e⟩,i0,m,U,_⟩;refine wp_cond_split (isBool U) (λz=>?_) (λz=>?_);.rw[if_pos z]at j;refine aK 1 (⟨some (IsI (-1)),[]⟩::[]) rfl ⟨g,f,e⟩ (by kernel_rfl) ⟨aI rfl rfl,trivial⟩ [⟨_,_⟩] (λb q p=>⟨p.ou 0 4 rfl,trivial⟩) ?_;rintro a k ⟨⟨g,f,e⟩,i4,_⟩;refine wp_ret ?_;obtain rfl:=ae j;exact cZ rfl e g i4
 rw[if_neg (by rw[z];decide)]at j;refine wp_skip ?_;refine wp_seq ?_;refine aK 3 (_::_::⟨some (IsV (!(bLt I J||I.toList==J.toList))),[(17,some 0),(18,some 1)]⟩::[]) rfl ⟨g,f,e⟩ (by kernel_rfl) ⟨mu rfl i0,mu rfl m,ob1 rfl λ _ _ h n=>TL rfl n.1 n.2.1,trivial⟩ [⟨_,_⟩] (λb q p=>⟨p.ou 2 19 rfl,trivial⟩) ?_;rintro a k ⟨⟨g,f,e⟩,V,_⟩;refine wp_cond_split (isBool V) (λE=>?_) (λE=>?_);.rw[if_pos E]at j;refine aK 1 (⟨some (IsI 1),[]⟩::[]) rfl ⟨g,f,e⟩ (by kernel_rfl) ⟨aI rfl rfl,trivial⟩ [⟨_,_⟩] (λb q p=>⟨p.ou 0 4 rfl,trivial⟩) ?_;rintro a k ⟨⟨g,f,e⟩,i4,_⟩;refine wp_ret ?_;obtain rfl:=ae j;exact cZ rfl e g i4
 rw[if_neg (by rw[E];decide)]at j;refine wp_skip ?_;refine aK 1 (⟨some (IsI 0),[]⟩::[]) rfl ⟨g,f,e⟩ (by kernel_rfl) ⟨aI rfl rfl,trivial⟩ [⟨_,_⟩] (λb q p=>⟨p.ou 0 4 rfl,trivial⟩) ?_;rintro a k ⟨⟨g,f,e⟩,i4,_⟩;refine wp_ret ?_;obtain rfl:=ae j;exact cZ rfl e g i4
def vo(e:aG)(f:aG):Option (Int):=(ie e.Cap f.Cap).bind λx1=>some x1
theorem E2{e:K}{v0 F:Value}{u:aG}{x:aG}{r:Int}(i0:(IsV u) v0 e)(z:(IsV x) F e)(y:vo u x=some r):Calls Tryz.prog 60 #[v0,F] e.w (Ret e (IsV r)):=by
 unfold vo at y;refine Ret.ofC ?_;refine cO Tryz.func60 rfl Tryz.ntmps60 (show 2<=10 by decide) λa k f g j I=>?_;obtain⟨e0,e1,_⟩:=I;replace i0:(IsV u) (a.get 0) k:=by rw[e0,f];exact i0
 replace z:(IsV x) (a.get 1) k:=by rw[e1,f];exact z
 have Q:Gb.LetsOut (bodyPost Tryz.prog Tryz.f60 (cr noF e (IsV r))):=ch;have m:Chg noF e k:=by rw[f];exact Chg.refl _ e
 refine aK 3 (⟨some (aS u),[(0,none)]⟩::⟨some (aS x),[(1,none)]⟩::⟨some (IsI 0),[]⟩::[]) rfl ⟨m,g,j⟩ (by kernel_rfl) ⟨ob1 rfl λ _ _ h n=>o7 rfl (up i0 h n.1),ob1 rfl λ _ _ h n=>o7 rfl (up z h n.1),aI rfl rfl,trivial⟩ [⟨_,_⟩,⟨_,_⟩] (λb q p=>⟨p.ou 0 2 rfl,p.ou 1 3 rfl,trivial⟩) ?_;rintro a k ⟨⟨m,g,j⟩,i2,i3,_⟩;refine wp_seq ?_;obtain⟨x1,E,y⟩:=bind_some y;refine cut (λG H=>Bs noF e 10 G H/\(IsV x1) (G.get 4) H/\True) ?_ Q ?_;.intro M W J;refine gS 6 (_::_::_::_::_::_::[]) g (by kernel_rfl) ⟨o1 [(2,none)] rfl λ _ _ h n=>bF rfl Bu (pA _) ((up i2 h n.1)).ptr,o1 [(5,some 0)] rfl λ _ _ h n=>aR rfl ty9 n.1,o1 [(3,none)] rfl λ _ _ h n=>bF rfl Bu (pA _) ((up i3 h n.1)).ptr,o1 [(7,some 2)] rfl λ _ _ h n=>aR rfl ty9 n.1,o1 [(6,some 1),(8,some 3)] rfl λ _ _ h n=>bU rfl Tryz.call61 (tR n.1 n.2.1 E),cp 4 rfl rfl,trivial⟩ W λb q p=>?_;exact aj (k:=q) (J _ _ ⟨Bs.post ⟨m,g,j⟩ p,p.ou 5 4 rfl,trivial⟩)
 rintro a k ⟨⟨m,g,j⟩,i4,_⟩;refine wp_ret ?_;obtain rfl:=ae y;exact cZ rfl j m i4
structure dS where
 counter:Int
 L:List (ByteArray×aG)out:List gY
 sent:Int
 taken:List (ot×Bool)deriving Inhabited
abbrev kS:ByteArray->Value:=Value.string
def kK(x:ot):Value:= .agg #[.int .i64 x.from_, .int .i64 x.number]
theorem Jx:tL Tryz.prog 9 kS:=ME Tryz.underlying9
abbrev LT:=ByteArray×Nat×aG
def aw(n:Nat):Value:= .pointer (some ⟨n,0,none⟩)
def lkv(t:LT):ByteArray×Value:=(t.1,aw t.2.1)
def lcv(t:LT):ByteArray×aG:=(t.1,t.2.2)
def tkv(p:ot×Bool):ot×Value:=(p.1, .bool p.2)
def qT(d:dS)(e f:Nat)(h:Value):List Value:=[.int .i64 d.counter, .map (some e),h, .int .i64 d.sent, .map (some f)]
def dbl(b e f:Nat)(T:List LT):List Nat:=b::e::f::T.map (·.2.1)
structure bu (d:dS)(b bl bt:Nat)(h:Value)(T:List LT)(k:K):Prop where
 box:Gb.Box b (⟨qT d bl bt h⟩:dt 5) k
 ml:lN kS bl (T.map lkv) k
 bx:∀t∈T,Gb.Box t.2.1 t.2.2 k
 out:ah 0 187 d.out h k
 mt:qY kK bt (d.taken.map tkv) k
 eL:d.L=T.map lcv
 nk:(T.map (·.1)).Nodup
 nd:(dbl b bl bt T).Nodup
 nh:∀c∈dbl b bl bt T,¬obF h c
def DF(b e f:Nat)(h:Value)(T:List LT):FP:=λc=>c∈dbl b e f T∨obF h c
def xz(d:dS):FP->Pred:=λF v k=>∃b e f h T,v=aw b/\bu d b e f h T k/\F=DF b e f h T
section
variable {d:dS}{b bl bt:Nat}{h:Value}{T:List LT}{k k':K}{G:FP}{F:FP}{v:Value}
theorem NM:b∈dbl b bl bt T:=by simp[dbl]
theorem oL:bl∈dbl b bl bt T:=by simp[dbl]
theorem Ny:bt∈dbl b bl bt T:=by simp[dbl]
theorem JM{t:LT}(e:t∈T):t.2.1∈dbl b bl bt T:=by simp only[dbl,bD,aM];exact .inr (.inr (.inr ⟨t,e,rfl⟩))
theorem bu.keep(D:bu d b bl bt h T k)(g:Chg G k k')(e:bj (DF b bl bt h T) G)(f:∀b,G b->¬k.sh b):bu d b bl bt h T k':=⟨D.box.keep g (e _ (.inl NM)) f,D.ml.keep g (e _ (.inl oL)),λt j=>(D.bx t j).keep g (e _ (.inl (JM j))) f,D.out.keep g (λc m=>e c (.inr m)) f,D.mt.keep g (e _ (.inl Ny)),D.eL,D.nk,D.nd,D.nh⟩
theorem bu.handed(D:bu d b bl bt h T k)(g:Gb.Handed k k' G)(e:bj (DF b bl bt h T) G):bu d b bl bt h T k':=⟨D.box.handed g (e _ (.inl NM)),D.ml.handed g (e _ (.inl oL)),λt f=>(D.bx t f).handed g (e _ (.inl (JM f))),D.out.handed g (λc j=>e c (.inr j)),D.mt.handed g (e _ (.inl Ny)),D.eL,D.nk,D.nd,D.nh⟩
theorem bu.grow(D:bu d b bl bt h T k)(g:bE k k'):bu d b bl bt h T k':=D.keep (Chg.of (F:=noF) g) (λ _ _ f=>f) (λ _ f=>f.elim)
theorem bu.lt(D:bu d b bl bt h T k):∀c,DF b bl bt h T c->c<k.w.heap.size:=by
 rintro c (e|e)
 · simp only[dbl,bD,aM]at e;rcases e with rfl|rfl|rfl|⟨t,f,rfl⟩;.exact D.box.lt
   .exact D.ml.lt
   .exact D.mt.lt
   .exact(D.bx t f).lt
 .exact D.out.ltF c e
theorem bu.nsh(D:bu d b bl bt h T k):∀c,DF b bl bt h T c->¬k.sh c:=by
 rintro c (e|e)
 · simp only[dbl,bD,aM]at e;rcases e with rfl|rfl|rfl|⟨t,f,rfl⟩;.exact D.box.own
   .exact D.ml.own
   .exact D.mt.own
   .exact(D.bx t f).own
 .exact D.out.jl c e
instance:Rsc (xz d)where keep:=λ ⟨b,bl,bt,h,T,e,D,f⟩g m q=>⟨b,bl,bt,h,T,e,D.keep g (f▸m) q,f⟩;handed:=λ ⟨b,bl,bt,h,T,e,D,f⟩g m=>⟨b,bl,bt,h,T,e,D.handed g (f▸m),f⟩;lt:=λ ⟨b,bl,bt,h,T,e,D,f⟩c j=>D.lt c (by rw[f]at j;exact j);nsh:=λ ⟨b,bl,bt,h,T,e,D,f⟩c j=>D.nsh c (by rw[f]at j;exact j)
theorem bu.get(e:ByteArray):bz (T.map lkv) e=(bz T e).map λy=>aw y.1:=A5 (λy:Nat×aG=>aw y.1) T e
theorem bu.Mp(D:bu d b bl bt h T k)(cap:ByteArray):bz d.L cap=(bz T cap).map (·.2):=by rw[D.eL];exact A5 (λy:Nat×aG=>y.2) T cap
theorem bu.Om(D:bu d b bl bt h T k){f:ByteArray}{m:Nat}{x y:aG}(M:bz T f=some (m,x))(g:Chg (Eq m) k k')(hx:Gb.Box m y k'):bu {d with L:=dQ d.L f y} b bl bt h (dQ T f (m,y)) k'/\DF b bl bt h (dQ T f (m,y))=DF b bl bt h T/\dbl b bl bt (dQ T f (m,y))=dbl b bl bt T:=by
  have u:=rB M;have E:=JM (b:=b) (bl:=bl) (bt:=bt) u;have O:∀c,m=c->¬k.sh c:=λc e=>e▸D.nsh _ (.inl E);have H:=D.nd;have e1:(dQ T f (m,y)).map (·.2.1)=T.map (·.2.1):=by
    have:∀(T:List LT),bz T f=some (m,x)->(dQ T f (m,y)).map (·.2.1)=T.map (·.2.1):=by intro T;induction T with|nil=>simp[bz];|cons t T Q=>
 obtain⟨a,z⟩:=t;simp only[bz,dQ];split;.intro e;simp at e;simp[e]
 .intro e;simp[Q e]
    exact this T M
  have e2:(dQ T f (m,y)).map lkv=T.map lkv:=by
    have:∀(T:List LT),bz T f=some (m,x)->(dQ T f (m,y)).map lkv=T.map lkv:=by intro T;induction T with|nil=>simp[bz];|cons t T Q=>
 obtain⟨a,z⟩:=t;simp only[bz,dQ];split;.intro e;simp at e;simp[e,lkv]
 .intro e;simp[Q e]
    exact this T M
  have J:dbl b bl bt (dQ T f (m,y))=dbl b bl bt T:=by unfold dbl;rw[e1]
  have ne:∀c∈dbl b bl bt T,(∀t∈T,t.2.1=c->t.1=f)->c≠m->True:=λ _ _ _ _=>trivial;simp only[dbl,gv,bD,aM,not_or]at H;obtain⟨⟨hb1,hb2,R⟩,⟨hl1,U⟩,V,W⟩:=H;have nb:¬m=b:=λe=>R ⟨_,u,e⟩;have nl:¬m=bl:=λe=>U ⟨_,u,e⟩;have nt:¬m=bt:=λe=>V ⟨_,u,e⟩;refine⟨⟨D.box.keep g nb O,by rw[e2];exact D.ml.keep g nl,?_,D.out.keep g (λc hc' e=>D.nh m E (e▸hc')) O,D.mt.keep g nt,?_,yJ T f _ D.nk,by rw[J];exact D.nd,by rw[J];exact D.nh⟩,by unfold DF;rw[J],J⟩
  · intro t ht;rcases Ba D.nk ht with rfl|⟨h1,h2⟩;.exact hx
    · refine(D.bx t h1).keep g (λe=>?_) O;have:∀(T:List LT),(T.map (·.2.1)).Nodup->(f,m,x)∈T->t∈T->m=t.2.1->t.1=f:=by
       intro T W u ht e;have:=fK.1 W;obtain⟨i,hi,w⟩:=br u;obtain⟨j,hj,q⟩:=br ht;by_cases I:i=j;.subst I;rw[w]at q;rw[<-q]
       · exfalso;rcases Nat.lt_or_gt_of_ne I with h|h;.exact this i j (by simpa using hi) (by simpa using hj) h (by simp[w,q,e])
         .exact this j i (by simpa using hj) (by simpa using hi) h (by simp[w,q,e])
      exact h2 (this T W u h1 e)
  ·show dQ d.L f y=_;rw[D.eL];exact Fx (λy:Nat×aG=>y.2) T f (m,y)
end
theorem yp:Ty Tryz.prog 142 fD:=⟨⟨_,Tryz.underlying142,rfl⟩,by kernel_rfl⟩
theorem SM:Ty Tryz.prog 144 fD:=⟨⟨_,Tryz.underlying144,rfl⟩,by kernel_rfl⟩
theorem Tz:Ty Tryz.prog 143 fD:=⟨⟨_,Tryz.underlying143,rfl⟩,by kernel_rfl⟩
theorem MF:Ty Tryz.prog 3 fD:=⟨⟨_,Tryz.underlying3,rfl⟩,by kernel_rfl⟩
theorem Kr:∀w,(zeroValue 147).run Tryz.prog w= .ok (.pointer none) w:=λw=>Tryz.zeroValue147 w
theorem Qd{o:Oper}{a:Act}{k:K}{t s w:TypeId}{x:Operand}{p:Option Addr}(e:o.op= .binOp .eql t x (.const (.pointer none)) w)(u:Tryz.prog.underlying t=some (.pointer s))(h:a.eval x= .pointer p):aX Tryz.prog o a k (IsV p.isNone):=by
 have ev:a.eval (.const (.pointer none))= .pointer none:=rfl;have f:(Op.equal t (.pointer p) (.pointer none)).run Tryz.prog k.w= .ok p.isNone k.w:=by show(Op.equalIn (9999+1) t _ _).run Tryz.prog k.w=_;rw[Op.equalIn];cases p<;>simp[run_underlying u]
 refine ak (v:= .bool p.isNone) ?_ (aE.2 rfl);simp only[execOp,e,h,ev];cases p<;>simp[eqGuard,binOp,f]
theorem PO{o:Oper}{a:Act}{k:K}{t s w:TypeId}{x:Operand}{p:Option Addr}(e:o.op= .binOp .neq t x (.const (.pointer none)) w)(u:Tryz.prog.underlying t=some (.pointer s))(h:a.eval x= .pointer p):aX Tryz.prog o a k (IsV p.isSome):=by
 have ev:a.eval (.const (.pointer none))= .pointer none:=rfl;have f:(Op.equal t (.pointer p) (.pointer none)).run Tryz.prog k.w= .ok p.isNone k.w:=by show(Op.equalIn (9999+1) t _ _).run Tryz.prog k.w=_;rw[Op.equalIn];cases p<;>simp[run_underlying u]
 refine ak (v:= .bool p.isSome) ?_ (aE.2 rfl);simp only[execOp,e,h,ev];cases p<;>simp[eqGuard,binOp,f]
def lpt(y:Option (Nat×aG)):Option Addr:=y.map λy=>⟨y.1,0,none⟩
theorem Jr(T:List LT)(e:ByteArray):(bz (T.map lkv) e).getD (.pointer none)= .pointer (lpt (bz T e)):=by rw[bu.get];cases bz T e<;>rfl
def xj(d:dS)(e:ByteArray):Option Int:=match bz d.L e with|some x=>fi x.Held x.Used|none=>some 0
theorem F9{k0:K}{V:Value}{d:dS}{b bl bt:Nat}{h:Value}{T:List LT}{e:ByteArray}{r:Int}(D:bu d b bl bt h T k0)(J:IsV e V k0)(M:xj d e=some r):Calls Tryz.prog 26 #[aw b,V] k0.w (Ret k0 (IsV r)):=by
 unfold xj at M;rw[D.Mp]at M;refine Ret.ofC ?_;refine cO Tryz.func26 rfl Tryz.ntmps26 (show 2<=23 by decide) λa k Q z u W=>?_;obtain⟨e0,e1,_⟩:=W;have i0:Is (aw b) (a.get 0) k:=e0;replace J:IsV e (a.get 1) k:=by rw[e1,Q];exact J
 have hQ:Gb.LetsOut (bodyPost Tryz.prog Tryz.f26 (cr noF k0 (IsV r))):=ch;have j:Chg noF k0 k:=by rw[Q];exact Chg.refl _ k0
 clear e0 e1;refine aK 1 (⟨some (IsI 0),[]⟩::[]) rfl ⟨j,z,u⟩ (by kernel_rfl) ⟨aI rfl rfl,trivial⟩ [⟨_,_⟩,⟨_,_⟩] (λb q p=>⟨p.ke 0 rfl i0,p.ke 1 rfl J,trivial⟩) ?_;rintro a k ⟨⟨j,z,u⟩,i0,J,_⟩;have R:bu d b bl bt h T k:=D.keep j (λ _ _ f=>f) (λ _ f=>f.elim);refine wp_seq ?_;refine aK 7 (_::⟨some (Is (aw b)),[(6,some 0)]⟩::⟨some (cw b 1),[(7,some 1)]⟩::⟨some (Is (.map (some bl))),[(8,some 2)]⟩::_::⟨some (Is (.pointer (lpt (bz T e)))),[(9,some 3),(10,some 4)]⟩::_::[]) rfl ⟨j,z,u⟩ (by kernel_rfl) ⟨mu rfl i0,ob1 rfl λ _ _ g n=>aO rfl ⟨_,n.1⟩ n.1,ob1 rfl λ _ _ g n=>aV rfl vK n.1,ob1 rfl λ _ _ g n=>bV rfl yp n.1 (R.grow g).box rfl,mu rfl J,ob1 rfl λ _ _ g n=>by rw[<-Jr];exact wj rfl Jx Tryz.underlying142 Kr n.1 (cY.1 n.2.1) (R.grow g).ml.m,cp 5 rfl rfl,trivial⟩ [⟨5,Is (.pointer (lpt (bz T e)))⟩] (λb q p=>⟨p.ou 6 5 rfl,trivial⟩) ?_;rintro a k ⟨⟨j,z,u⟩,i5,_⟩;have D2:bu d b bl bt h T k:=D.keep j (λ _ _ f=>f) (λ _ f=>f.elim);clear i0 J R;refine aK 2 (_::⟨some (IsV (lpt (bz T e)).isSome),[(12,some 0)]⟩::[]) rfl ⟨j,z,u⟩ (by kernel_rfl) ⟨mu rfl i5,ob1 rfl λ _ _ g n=>PO rfl Tryz.underlying147 n.1,trivial⟩ [⟨_,_⟩,⟨_,_⟩] (λb q p=>⟨p.ke 5 rfl i5,p.ou 1 13 rfl,trivial⟩) ?_;clear i5 D2;rintro a k ⟨⟨j,z,u⟩,i5,H,_⟩;have D3:bu d b bl bt h T k:=D.keep j (λ _ _ f=>f) (λ _ f=>f.elim);cases I:bz T e with|none=>rw[I]at H M;refine wp_cond_split (isBool H) (λI=>by simp[lpt]at I) (λI=>?_);refine wp_skip ?_;refine aK 1 (⟨some (IsI 0),[]⟩::[]) rfl ⟨j,z,u⟩ (by kernel_rfl) ⟨aI rfl rfl,trivial⟩ [⟨_,_⟩] (λb q p=>⟨p.ou 0 4 rfl,trivial⟩) ?_;rintro a k ⟨⟨j,z,u⟩,i4,_⟩;refine wp_ret ?_;obtain rfl:=ae M;exact cZ rfl u j i4;|some y=>
 obtain⟨O,x⟩:=y;rw[I]at H M i5;have U:=D3.bx _ (rB I);refine wp_cond_split (isBool H) (λI=>?_) (λI=>by simp[lpt]at I);replace i5:Is (aw O) (a.get 5) k:=i5;have P1:∀{q},bE k q->eE x (aw O) q:=λg=>⟨_,rfl,(U.grow g).at⟩;refine wp_seq ?_;refine cut (λP k'=>Bs noF k0 23 P k'/\IsV r (P.get 4) k') ?_ hQ ?_;·intro Q1 W1 w1;refine region (a0:=a) (k0:=k) (n:=23) (m:=10) (_::⟨some (Is (aw O)),[(14,some 0)]⟩::⟨some (eE x.Held),[(15,some 1)]⟩::⟨some (IsV x.Held),[(16,some 2)]⟩::_::⟨some (Is (aw O)),[(18,some 4)]⟩::⟨some (eE x.Used),[(19,some 5)]⟩::⟨some (IsV x.Used),[(20,some 6)]⟩::⟨some (IsV r),[(17,some 3),(21,some 7)]⟩::_::[]) lS z (by kernel_rfl) ⟨mu rfl i5,ob1 rfl λ _ _ g n=>aO rfl ⟨_,n.1⟩ n.1,ob1 rfl λP _ g n=>bF rfl DU (tf _) (by rw[show P.eval (.tmp 15)=aw O from n.1];exact P1 g),ob1 rfl λ _ _ g n=>aR rfl ty3 n.1,mu rfl i5,ob1 rfl λ _ _ g n=>aO rfl ⟨_,n.1⟩ n.1,ob1 rfl λP _ g n=>bF rfl BO (te _) (by rw[show P.eval (.tmp 19)=aw O from n.1];exact P1 g),ob1 rfl λ _ _ g n=>aR rfl ty3 n.1,ob1 rfl λ _ _ g n=>Ak rfl n.1 n.2.1 M,cp 8 rfl rfl,trivial⟩ W1 λb q p=>?_;exact aj (k:=q) (w1 _ _ ⟨Bs.post ⟨j,z,u⟩ p,p.ou 9 4 rfl⟩)
 rintro a k ⟨⟨j,z,u⟩,i4⟩;refine wp_ret ?_;exact cZ rfl u j i4
theorem KB(n lo hi:Int):ig n lo hi=some (decide (lo<=n)&&decide (n<=hi)):=rfl
def kz{e:Type}(y:Option e)(n:Int):Int:=if(decide (1<=n)&&decide (n<=1099511627776))then(if y.isNone then 4 else 0)else 1
def zg(y:Option (Nat×aG))(n:Int):Option Addr:=if(decide (1<=n)&&decide (n<=1099511627776))then lpt y else none
theorem Qs{H:K}{R v2:Value}{d:dS}{b P U:Nat}{h:Value}{T:List LT}{e:ByteArray}{n:Int}(D:bu d b P U h T H)(I:IsV e R H)(i2:IsV n v2 H):Calls Tryz.prog 81 #[aw b,R,v2] H.w (Ret H (fb (Is (.pointer (zg (bz T e) n))) (IsV (kz (bz T e) n)))):=by
 refine Ret.ofC ?_;refine cO Tryz.func81 rfl Tryz.ntmps81 (show 3<=23 by decide) λa k J x u ha=>?_;obtain⟨e0,e1,V,_⟩:=ha;have i0:Is (aw b) (a.get 0) k:=e0;replace I:IsV e (a.get 1) k:=by rw[e1,J];exact I
 replace i2:IsV n (a.get 2) k:=by rw[V,J];exact i2
 have hQ:Gb.LetsOut (bodyPost Tryz.prog Tryz.f81 (cr noF H (fb (Is (.pointer (zg (bz T e) n))) (IsV (kz (bz T e) n))))):=ch;have j:Chg noF H k:=by rw[J];exact Chg.refl _ H
 clear e0 e1 V;refine aK 2 (⟨some (Is (.pointer none)),[]⟩::⟨some (IsI 0),[]⟩::[]) rfl ⟨j,x,u⟩ (by kernel_rfl) ⟨ob1 rfl λ _ _ g n=>aQ rfl rfl,aI rfl rfl,trivial⟩ [⟨_,_⟩,⟨_,_⟩,⟨_,_⟩] (λb q p=>⟨p.ke 0 rfl i0,p.ke 1 rfl I,p.ke 2 rfl i2,trivial⟩) ?_;clear i0 I i2;rintro a k ⟨⟨j,x,u⟩,i0,I,i2,_⟩;have Q:bu d b P U h T k:=D.keep j (λ _ _ f=>f) (λ _ f=>f.elim);refine aK 7 (_::⟨some (Is (aw b)),[(9,some 0)]⟩::⟨some (cw b 1),[(10,some 1)]⟩::⟨some (Is (.map (some P))),[(11,some 2)]⟩::_::⟨some (Is (.pointer (lpt (bz T e)))),[(12,some 3),(13,some 4)]⟩::_::[]) rfl ⟨j,x,u⟩ (by kernel_rfl) ⟨mu rfl i0,ob1 rfl λ _ _ g n=>aO rfl ⟨_,n.1⟩ n.1,ob1 rfl λ _ _ g n=>aV rfl vK n.1,ob1 rfl λ _ _ g n=>bV rfl yp n.1 (Q.grow g).box rfl,mu rfl I,ob1 rfl λ _ _ g n=>by rw[<-Jr];exact wj rfl Jx Tryz.underlying142 Kr n.1 (cY.1 n.2.1) (Q.grow g).ml.m,cp 5 rfl rfl,trivial⟩ [⟨2,IsV n⟩,⟨8,Is (.pointer (lpt (bz T e)))⟩] (λb q p=>⟨p.ke 2 rfl i2,p.ou 6 8 rfl,trivial⟩) ?_;clear i0 I i2 Q;rintro a k ⟨⟨j,x,u⟩,i2,F,_⟩;refine wp_seq ?_;refine wp_block ?_;refine aK 4 (_::⟨some (IsV ((decide (1<=n)&&decide (n<=1099511627776)))),[(16,some 0)]⟩::⟨some (IsV (!(decide (1<=n)&&decide (n<=1099511627776)))),[(17,some 1)]⟩::_::[]) rfl ⟨j,x,u⟩ (by kernel_rfl) ⟨mu rfl i2,ob1 rfl λ _ _ g n=>bU rfl Tryz.call66 (kL n.1 (au.2 rfl) (au.2 rfl) (KB _ _ _)),ob1 rfl λ _ _ g n=>pW rfl n.1,cp 2 rfl rfl,trivial⟩ [⟨_,_⟩,⟨_,_⟩] (λb q p=>⟨p.ke 8 rfl F,p.ou 3 15 rfl,trivial⟩) ?_;clear i2 F;rintro a k ⟨⟨j,x,u⟩,F,z,_⟩;unfold zg kz at*;cases W:(decide (1<=n)&&decide (n<=1099511627776))with|false=>rw[W]at z;refine wp_cond_split (isBool z) (λ _=>?_) (λE=>by simp at E);refine aK 2 (⟨some (Is (.pointer none)),[]⟩::⟨some (IsI 1),[]⟩::[]) rfl ⟨j,x,u⟩ (by kernel_rfl) ⟨ob1 rfl λ _ _ g n=>aQ rfl rfl,aI rfl rfl,trivial⟩ [⟨_,_⟩,⟨_,_⟩] (λb q p=>⟨p.ou 0 6 rfl,p.ou 1 7 rfl,trivial⟩) ?_;rintro a k ⟨⟨j,x,u⟩,M,O,_⟩;refine wp_ret ?_;exact AQ rfl u j M O|true=>rw[W]at z;refine wp_cond_split (isBool z) (λE=>by simp at E) (λ _=>?_);refine aK 3 (_::⟨some (IsV (lpt (bz T e)).isNone),[(20,some 0)]⟩::_::[]) rfl ⟨j,x,u⟩ (by kernel_rfl) ⟨mu rfl F,ob1 rfl λ _ _ g n=>Qd rfl Tryz.underlying147 n.1,cp 1 rfl rfl,trivial⟩ [⟨_,_⟩,⟨_,_⟩] (λb q p=>⟨p.ke 8 rfl F,p.ou 2 19 rfl,trivial⟩) ?_;clear F z;rintro a k ⟨⟨j,x,u⟩,F,G,_⟩;cases E:bz T e with|none=>rw[E]at G;refine wp_cond_split (isBool G) (λ _=>?_) (λE=>by simp[lpt]at E);refine aK 2 (⟨some (Is (.pointer none)),[]⟩::⟨some (IsI 4),[]⟩::[]) rfl ⟨j,x,u⟩ (by kernel_rfl) ⟨ob1 rfl λ _ _ g n=>aQ rfl rfl,aI rfl rfl,trivial⟩ [⟨_,_⟩,⟨_,_⟩] (λb q p=>⟨p.ou 0 6 rfl,p.ou 1 7 rfl,trivial⟩) ?_;rintro a k ⟨⟨j,x,u⟩,M,O,_⟩;refine wp_ret ?_;exact AQ rfl u j M O|some y=>rw[E]at G F;refine wp_cond_split (isBool G) (λE=>by simp[lpt]at E) (λ _=>?_);refine wp_skip ?_;refine aK 3 (_::_::⟨some (IsI 0),[]⟩::[]) rfl ⟨j,x,u⟩ (by kernel_rfl) ⟨mu rfl F,cp 0 rfl rfl,aI rfl rfl,trivial⟩ [⟨_,_⟩,⟨_,_⟩] (λb q p=>⟨p.ou 1 6 rfl,p.ou 2 7 rfl,trivial⟩) ?_;rintro a k ⟨⟨j,x,u⟩,M,O,_⟩;refine wp_ret ?_;exact AQ rfl u j M O
def Oo(e:dS)(u:Value)(F:FP)(f:K)(R:Pred):Pred:=λv k=>(∃G,xz e G u k/\Wr F f G)/\R v k
theorem bu.r{d:dS}{b e f:Nat}{h:Value}{T:List LT}{k:K}(D:bu d b e f h T k):xz d (DF b e f h T) (aw b) k:=⟨b,e,f,h,T,rfl,D,rfl⟩
theorem Wr.self{F:FP}{k:K}:Wr F k F:=λ _ h=> .inl h
def Ai(d:dS)(e:ByteArray)(n:Int):Option (dS×Int):=if kz (bz d.L e) n !=0 then some (d,kz (bz d.L e) n)else match bz d.L e with|some x=>(fi x.Held x.Used).bind λl=>if l<n then some (d,26)else(bh x.Used n).bind λu=>some ({d with L:=dQ d.L e {x with Used:=u}},0)|none=>none
theorem Lr(T:List LT)(e:ByteArray)(n:Int):kz ((bz T e).map (·.2)) n=kz (bz T e) n:=by unfold kz;cases bz T e<;>rfl
theorem H6{e:Type}{y:Option e}{n:Int}(h:kz y n=0):(decide (1<=n)&&decide (n<=1099511627776))=true/\∃z,y=some z:=by
 unfold kz at h;split at h;.rename_i w;cases y with|none=>simp at h;|some z=>exact⟨w,z,rfl⟩
 .simp at h
theorem H0{k0:K}{v1 v2:Value}{d:dS}{b j y:Nat}{h:Value}{T:List LT}{f:ByteArray}{n:Int}{r:dS×Int}(D:bu d b j y h T k0)(R:IsV f v1 k0)(i2:IsV n v2 k0)(H:Ai d f n=some r):Calls Tryz.prog 48 #[aw b,v1,v2] k0.w (cr (DF b j y h T) k0 (Oo r.1 (aw b) (DF b j y h T) k0 (IsV r.2))):=by
 unfold Ai at H;rw[D.Mp,Lr]at H;refine cO Tryz.func48 rfl Tryz.ntmps48 (show 3<=40 by decide) λa k O F z ha=>?_;obtain⟨e0,e1,e2,_⟩:=ha;have i0:Is (aw b) (a.get 0) k:=e0;replace R:IsV f (a.get 1) k:=by rw[e1,O];exact R
 replace i2:IsV n (a.get 2) k:=by rw[e2,O];exact i2
 have hQ:Gb.LetsOut (bodyPost Tryz.prog Tryz.f48 (cr (DF b j y h T) k0 (Oo r.1 (aw b) (DF b j y h T) k0 (IsV r.2)))):=ch;have E:Chg (DF b j y h T) k0 k:=by rw[O];exact Chg.refl _ k0
 replace D:bu d b j y h T k:=by rw[O];exact D
 clear e0 e1 e2;refine aK 1 (⟨some (IsI 0),[]⟩::[]) rfl ⟨E,F,z⟩ (by kernel_rfl) ⟨aI rfl rfl,trivial⟩ [⟨_,_⟩,⟨_,_⟩,⟨_,_⟩,⟨0,λ _ k=>bu d b j y h T k⟩] (λb q p=>⟨p.ke 0 rfl i0,p.ke 1 rfl R,p.ke 2 rfl i2,D.grow p.grow,trivial⟩) ?_;clear i0 R i2 D;rintro a k ⟨⟨E,F,z⟩,i0,R,i2,D,_⟩;replace D:bu d b j y h T k:=D;refine aK 9 (_::_::_::⟨some (fb (Is (.pointer (zg (bz T f) n))) (IsV (kz (bz T f) n))),[(10,some 0),(11,some 1),(12,some 2)]⟩::_::⟨some (Is (.pointer (zg (bz T f) n))),[(9,some 4)]⟩::⟨some (IsV (kz (bz T f) n)),[(9,some 4)]⟩::_::_::[]) rfl ⟨E,F,z⟩ (by kernel_rfl) ⟨mu rfl i0,mu rfl R,mu rfl i2,ob1 rfl λG _ g n=>bU rfl Tryz.call81 (by show Calls Tryz.prog 81 #[G.eval (.tmp 10),G.eval (.tmp 11),G.eval (.tmp 12)] _ _;rw[show G.eval (.tmp 10)=aw b from n.1];exact Qs (D.grow g) n.2.1 n.2.2.1),cm 3 rfl rfl,ob1 rfl λ _ _ g n=>vP rfl n.1,ob1 rfl λ _ _ g n=>vG rfl n.1,cp 5 rfl rfl,cp 6 rfl rfl,trivial⟩ [⟨_,_⟩,⟨_,_⟩,⟨7,Is (.pointer (zg (bz T f) n))⟩,⟨8,IsV (kz (bz T f) n)⟩,⟨0,λ _ k=>bu d b j y h T k⟩] (λb q p=>⟨p.ke 0 rfl i0,p.ke 2 rfl i2,p.ou 7 7 rfl,p.ou 8 8 rfl,D.grow p.grow,trivial⟩) ?_;clear i0 R i2 D;rintro a k ⟨⟨E,F,z⟩,i0,i2,M,U,D,_⟩;replace D:bu d b j y h T k:=D;refine wp_seq ?_;refine wp_block ?_;refine aK 3 (_::⟨some (IsV (kz (bz T f) n !=0)),[(17,some 0)]⟩::_::[]) rfl ⟨E,F,z⟩ (by kernel_rfl) ⟨mu rfl U,ob1 rfl λ _ _ g n=>EB rfl n.1 (cI rfl),cp 1 rfl rfl,trivial⟩ [⟨_,_⟩,⟨_,_⟩,⟨_,_⟩,⟨16,IsV (kz (bz T f) n !=0)⟩,⟨0,λ _ k=>bu d b j y h T k⟩] (λb q p=>⟨p.ke 2 rfl i2,p.ke 7 rfl M,p.ke 8 rfl U,p.ou 2 16 rfl,D.grow p.grow,trivial⟩) ?_;clear i0 i2 M U D;rintro a k ⟨⟨E,F,z⟩,i2,M,U,V,D,_⟩;replace D:bu d b j y h T k:=D;refine wp_cond_split (isBool V) (λP=>?_) (λP=>?_);·rw[if_pos P]at H;obtain rfl:=ae H;refine aK 2 (_::_::[]) rfl ⟨E,F,z⟩ (by kernel_rfl) ⟨mu rfl U,cp 0 rfl rfl,trivial⟩ [⟨6,IsV (kz (bz T f) n)⟩,⟨0,λ _ k=>bu d b j y h T k⟩] (λb q p=>⟨p.ou 1 6 rfl,D.grow p.grow,trivial⟩) ?_;rintro a k ⟨⟨E,F,z⟩,W,D,_⟩;replace D:bu d b j y h T k:=D;refine wp_ret ?_;exact cZ rfl z E (show gg _ _ _ (.tmp 6) (Oo _ _ _ _ (IsV _))from⟨⟨_,D.r,Wr.self⟩,W⟩)
 rw[if_neg (by rw[P];decide)]at H;have hE:kz (bz T f) n=0:=by simpa using P
 obtain⟨hw,⟨I,x⟩,hT⟩:=H6 hE;have hm:=rB hT;rw[hT]at H;simp only[dW]at H;have eP:zg (bz T f) n=some ⟨I,0,none⟩:=by unfold zg;rw[hw,hT];rfl
 rw[eP]at M;replace M:Is (aw I) (a.get 7) k:=M;clear U V P;have P1:∀{q},bE k q->eE x (aw I) q:=λg=>⟨_,rfl,((D.bx _ hm).grow g).at⟩;obtain⟨l,hl,H⟩:=bind_some H;refine wp_seq ?_;refine cut (λG Q=>Bs (DF b j y h T) k0 40 G Q/\IsV n (G.get 2) Q/\Is (aw I) (G.get 7) Q/\IsV (decide (l<n)) (G.get 20) Q/\bu d b j y h T Q) ?_ trivial ?_;·intro Q1 W1 w1;refine region (a0:=a) (k0:=k) (n:=40) (m:=12) (_::⟨some (Is (aw I)),[(21,some 0)]⟩::⟨some (eE x.Held),[(22,some 1)]⟩::⟨some (IsV x.Held),[(23,some 2)]⟩::_::⟨some (Is (aw I)),[(25,some 4)]⟩::⟨some (eE x.Used),[(26,some 5)]⟩::⟨some (IsV x.Used),[(27,some 6)]⟩::⟨some (IsV l),[(24,some 3),(28,some 7)]⟩::_::⟨some (IsV (decide (l<n))),[(29,some 8),(30,some 9)]⟩::_::[]) lS F (by kernel_rfl) ⟨mu rfl M,ob1 rfl λ _ _ g n=>aO rfl ⟨_,n.1⟩ n.1,ob1 rfl λG _ g n=>bF rfl DU (tf _) (by rw[show G.eval (.tmp 22)=aw I from n.1];exact P1 g),ob1 rfl λ _ _ g n=>aR rfl ty3 n.1,mu rfl M,ob1 rfl λ _ _ g n=>aO rfl ⟨_,n.1⟩ n.1,ob1 rfl λG _ g n=>bF rfl BO (te _) (by rw[show G.eval (.tmp 26)=aw I from n.1];exact P1 g),ob1 rfl λ _ _ g n=>aR rfl ty3 n.1,ob1 rfl λ _ _ g n=>Ak rfl n.1 n.2.1 hl,mu rfl i2,ob1 rfl λ _ _ g n=>jY rfl n.1 n.2.1,cp 10 rfl rfl,trivial⟩ W1 λb q p=>?_;exact aj (k:=q) (w1 _ _ ⟨Bs.post ⟨E,F,z⟩ p,p.ke 2 rfl i2,p.ke 7 rfl M,p.ou 11 20 rfl,D.grow p.grow⟩)
 clear i2 M D E F z P1;rintro a k ⟨⟨E,F,z⟩,i2,M,i20,D⟩;have P1:∀{q},bE k q->eE x (aw I) q:=λg=>⟨_,rfl,((D.bx _ hm).grow g).at⟩;refine wp_cond_split (isBool i20) (λP=>?_) (λP=>?_);·rw[if_pos (of_decide_eq_true P)]at H;obtain rfl:=ae H;refine aK 1 (⟨some (IsI 26),[]⟩::[]) rfl ⟨E,F,z⟩ (by kernel_rfl) ⟨aI rfl rfl,trivial⟩ [⟨6,IsI 26⟩,⟨0,λ _ k=>bu d b j y h T k⟩] (λb q p=>⟨p.ou 0 6 rfl,D.grow p.grow,trivial⟩) ?_;rintro a k ⟨⟨E,F,z⟩,W,D,_⟩;replace D:bu d b j y h T k:=D;refine wp_ret ?_;exact cZ rfl z E (show gg _ _ _ (.tmp 6) (Oo _ _ _ _ (IsV _))from⟨⟨_,D.r,Wr.self⟩,W⟩)
 rw[if_neg (of_decide_eq_false P)]at H;refine wp_skip ?_;obtain⟨u,hu,H⟩:=bind_some H;obtain rfl:=ae H;refine wp_seq ?_;refine cut (λG Q=>Bs (DF b j y h T) k0 40 G Q/\xz {d with L:=dQ d.L f {x with Used:=u}} (DF b j y h T) (aw b) Q) ?_ hQ ?_;·intro Q1 W1 w1;refine gS 8 (_::⟨some (Is (aw I)),[(32,some 0)]⟩::⟨some (eE x.Used),[(33,some 1)]⟩::⟨some (IsV x.Used),[(34,some 2)]⟩::_::⟨some (IsV u),[(35,some 3),(36,some 4)]⟩::⟨some (Is (aw I)),[(32,some 0)]⟩::⟨some (cw I 3),[(38,some 6)]⟩::[]) F (by kernel_rfl) ⟨mu rfl M,ob1 rfl λ _ _ g n=>aO rfl ⟨_,n.1⟩ n.1,ob1 rfl λG _ g n=>bF rfl BO (te _) (by rw[show G.eval (.tmp 33)=aw I from n.1];exact P1 g),ob1 rfl λ _ _ g n=>aR rfl ty3 n.1,mu rfl i2,ob1 rfl λ _ _ g n=>iK rfl n.1 n.2.1 hu,ob1 rfl λ _ _ g n=>aO rfl ⟨_,n.1⟩ n.1,ob1 rfl λ _ _ g n=>aV rfl BO n.1,trivial⟩ W1 λb' q p=>?_;have hgq:=E.then p.grow;have Dq:=D.grow p.grow;have ju:IsV u (b'.get 37) q:=p.ou 5 37 rfl;have jp:cw I 3 (b'.get 39) q:=p.ou 7 39 rfl;refine cG (i:=8) rfl rfl rfl rfl O6 Lp jp (Dq.bx _ hm) ju λq2 hch hz=>?_;obtain⟨D2,eF,_⟩:=Dq.Om hT hch hz;have hw':Wr (DF b j y h T) k0 (Eq I):=λc e=> .inl (.inl (e▸JM hm));exact aj (k:=q2) (w1 _ _ ⟨⟨hgq.step hch hw',p.size.trans F,p.defers.trans z⟩,eF▸D2.r⟩)
 clear i2 M i20 D E F z P1;rintro a k ⟨⟨E,F,z⟩,D⟩;refine aK 1 (⟨some (IsI 0),[]⟩::[]) rfl ⟨E,F,z⟩ (by kernel_rfl) ⟨aI rfl rfl,trivial⟩ [⟨6,IsI 0⟩,⟨0,λ _ k=>xz {d with L:=dQ d.L f {x with Used:=u}} (DF b j y h T) (aw b) k⟩] (λb q p=>⟨p.ou 0 6 rfl,Rsc.grow D p.grow,trivial⟩) ?_;rintro a k ⟨⟨E,F,z⟩,W,D,_⟩;refine wp_ret ?_;exact cZ rfl z E (show gg _ _ _ (.tmp 6) (Oo _ _ _ _ (IsV _))from⟨⟨_,D,Wr.self⟩,W⟩)
abbrev zP:gY:=⟨(⟨#[]⟩:ByteArray),0,0,0,0⟩
theorem IC(n:Int):qI n=some (decide (0<=n)&&decide (n<=7)):=rfl
theorem Is.int{x:Int}{v:Value}{k:K}(h:Is (.int .i64 x) v k):IsV x v k:=au.2 h
theorem Gl{P:Program}{o:Oper}{a:Act}{k:K}{b n off:Nat}{e:List Value}{x:Int}{t:TypeId}{p:Operand}(f:o.op= .load t p)(g:Ty P t fD)(j:cw b off (a.eval p) k)(m:Gb.Box b (⟨e⟩:dt n) k)(w:e[off]?=some (.int .i64 x)):aX P o a k (IsV x):=lA (bV f g j m w) λ_ _ _ h=>Is.int h
def Gu(d:dS)(e:ByteArray)(f n:Int):Option (dS×gY×Int):=if(!(decide (0<=f)&&decide (f<=7)))||f==d.counter then some (d,zP,1)else if kz (bz d.L e) n !=0 then some (d,zP,kz (bz d.L e) n)else match bz d.L e with|some x=>(fi x.Held x.Used).bind λl=>if l<n then some (d,zP,26)else(fi x.Held n).bind λu=>(bh d.sent 1).bind λs=>(eb d.out [(⟨e,d.counter,f,s,n⟩:gY)]).bind λo=>some ({d with L:=dQ d.L e {x with Held:=u},sent:=s,out:=o},⟨e,d.counter,f,s,n⟩,0)|none=>none
theorem KY{m:K}{v0:Value}{x:List gY}(i0:cM x v0 m)(F:x.length<=1073741824):Calls Tryz.prog 98 #[v0] m.w (Ret m (ah m.w.heap.size 187 x)):=by
 refine Ret.ofC ?_;refine cO Tryz.func98 rfl Tryz.ntmps98 (show 1<=8 by decide) λa k u j f G=>?_;obtain⟨e0,_⟩:=G;replace i0:cM x (a.get 0) k:=by rw[e0,u];exact i0
 have e:Chg noF m k:=by rw[u];exact Chg.refl _ m
 clear e0;refine aK 1 (⟨some ij,[]⟩::[]) rfl ⟨e,j,f⟩ (by kernel_rfl) ⟨ob1 rfl λb q h n=>aQ rfl je,trivial⟩ [⟨0,cM x⟩] (λb q p=>⟨p.ke 0 rfl i0,trivial⟩) ?_;clear i0;rintro a k ⟨⟨e,j,f⟩,i0,_⟩;refine wp_seq ?_;refine aK 2 (_::⟨some (Jn x),[(3,some 0)]⟩::[]) rfl ⟨e,j,f⟩ (by kernel_rfl) ⟨mu rfl i0,ob1 rfl λ _ _ g n=>Av rfl Tryz.underlying143 n.1,trivial⟩ [⟨_,_⟩,⟨4,Jn x⟩] (λb q p=>⟨p.ke 0 rfl i0,p.ou 1 4 rfl,trivial⟩) ?_;clear i0;rintro a k ⟨⟨e,j,f⟩,i0,i4,_⟩;obtain⟨c,H,y⟩:=i4;refine wp_cond_split H (λh1=>?_) (λh1=>?_);·obtain rfl:=y h1;refine aK 1 (⟨some (Is (.slice none 0 0)),[]⟩::[]) rfl ⟨e,j,f⟩ (by kernel_rfl) ⟨ob1 rfl λb q h n=>aQ rfl rfl,trivial⟩ [⟨_,_⟩] (λb q p=>⟨p.ou 0 2 rfl,trivial⟩) ?_;rintro a k ⟨⟨e,j,f⟩,i2,_⟩;refine wp_ret ?_;exact cZ rfl f e (show gg _ _ _ (.tmp 2) (ah _ 187 _)from .inl ⟨i2,rfl⟩)
 refine wp_skip ?_;refine wp_seq ?_;refine cut (λz E=>Bs noF m 8 z E/\ah m.w.heap.size 187 x (z.get 2) E) ?_ trivial ?_;·intro Q W I;refine gS 4 (⟨some ij,[]⟩::_::⟨some (ah k.w.heap.size 187 x),[(5,some 0),(6,some 1)]⟩::_::[]) j (by kernel_rfl) ⟨ob1 rfl λ _ _ h n=>mz rfl Tryz.underlying143 Rh,mu rfl i0,ob1 rfl λ _ _ h n=>sC rfl Tryz.underlying143 Rh h.size n.1 n.2.1 (by unfold eb;rw[if_pos (by simpa using F)];rfl),cp 2 rfl rfl,trivial⟩ W λb q p=>?_;exact aj (k:=q) (I _ _ ⟨Bs.post ⟨e,j,f⟩ p,(show ah k.w.heap.size 187 x (b.get 2) q from p.ou 3 2 rfl).weaken e.size⟩)
 rintro a k ⟨⟨e,j,f⟩,i2⟩;refine wp_ret ?_;exact cZ rfl f e (show gg _ _ _ (.tmp 2) (ah _ 187 _)from i2)
theorem sa{g:Type}{f:Type}[DecidableEq f]:∀{l:List (f×g)}{n:f}(x:g),bz l n=none->dQ l n x=l++[(n,x)]
 |[],n,x,_=>rfl|(a,u)::l,n,x,h=>by
  simp only[bz]at h;split at h;.simp at h
  .rename_i e;simp only[dQ,if_neg e,sa x h,rm]
theorem bu.lay{d:dS}{b m z:Nat}{h:Value}{T:List LT}{k I:K}{j:ByteArray}{q:Nat}{x:aG}(D:bu d b m z h T k)(u:bz T j=none)(hx:Gb.Box q x k)(E:¬DF b m z h T q)(g:Chg (Eq m) k I)(W:lN kS m (dQ (T.map lkv) j (aw q)) I):bu {d with L:=dQ d.L j x} b m z h (T++[(j,q,x)]) I:=by
 have w:∀c,m=c->¬k.sh c:=λc e=>e▸D.ml.own;have F:=D.nd;have G:=D.nd;simp only[dbl,gv,bD,aM,not_or]at F;obtain⟨⟨J,hb2,hb3⟩,⟨M,O⟩,ht1,hT⟩:=F;have P:bz (T.map lkv) j=none:=by rw[bu.get,u];rfl
 have Q:bz d.L j=none:=by rw[D.Mp,u];rfl
 have H:q∉dbl b m z T:=λu=>E (.inl u);have R:¬obF h q:=λu=>E (.inr u);have U:=hx.keep g (λe=>H (e▸oL)) w;refine⟨D.box.keep g (λe=>J e.symm) w,?_,?_,D.out.keep g (λc u e=>D.nh m oL (e▸u)) w,D.mt.keep g (λe=>M e),?_,?_,?_,?_⟩;·rw[sa _ P]at W;simpa[lkv]using W
 · intro t y;rcases dq.1 y with y|y;.exact(D.bx t y).keep g (λe=>O ⟨t,y,e.symm⟩) w
   .simp only[eR]at y;subst y;exact U
 ·show dQ d.L j x=_;rw[sa _ Q,D.eL];simp[lcv]
 ·rw[gb,ru];refine⟨D.nk,by simp,λa V c f e=>?_⟩;simp only[cf,ir,eR]at f;obtain⟨t,y,rfl⟩:=aM.1 V;exact C8 u t y (e.trans f)
 · have e:dbl b m z (T++[(j,q,x)])=dbl b m z T++[q]:=by simp[dbl]
   rw[e,ru];refine⟨G,by simp,λa V c f e=>?_⟩;simp only[eR]at f;exact H (f▸e▸V)
 · have e:dbl b m z (T++[(j,q,x)])=dbl b m z T++[q]:=by simp[dbl]
   rw[e];intro c f;rcases dq.1 f with f|f;.exact D.nh c f
   .simp only[eR]at f;subst f;exact R
theorem Ik{b j m:Nat}{h:Value}{T:List LT}{g:ByteArray}{q:Nat}{x:aG}{c:Nat}(f:DF b j m h (T++[(g,q,x)]) c):DF b j m h T c∨c=q:=by
 rcases f with f|f
 · have e:dbl b j m (T++[(g,q,x)])=dbl b j m T++[q]:=by simp[dbl]
   rw[e]at f;rcases dq.1 f with f|f;.exact .inl (.inl f)
   .exact .inr (by simpa using f)
 .exact .inl (.inr f)
abbrev DX(d:dS)(b e f:Nat)(h:Value)(T:List LT):Nat×Pred:=⟨0,λ _ k=>bu d b e f h T k⟩
def uY(f:Int)(g:(List aG))(e:Int)(x:aG):Option (Bool):=(if(x.Counter !=f)then some true else(ig x.Held 0 1099511627776).bind λx1=>some (!x1)).bind λh=>(if h then some true else(ig x.Used 0 x.Held).bind λj=>some (!j)).bind λm=>(if m then some true else(if(decide (0<e))then(fi e 1).bind λq=>(aL g q).bind λu=>some (!(Op.bytesLess u.Cap.toList x.Cap.toList))else some false).bind λw=>some w).bind λy=>some y
def nN(n:Int)(l:List aG)(s:List (ByteArray×aG)×Int):Option (aY (List (ByteArray×aG)×Int) (Option dS×Int)):=if decide (s.2<(l.length:Int))then(aL l s.2).bind λx=>(uY n l s.2 x).bind λc=>if c then some (.ret (none,1))else if(bz s.1 x.Cap).isNone then(bh s.2 1).bind λi=>some (.go (s.1++[(x.Cap,x)],i))else none else some (.ex 0 s)
def ue(n:Int)(l:List aG):Option (Option dS×Int):=if(!(decide (0<=n)&&decide (n<=7)))||decide (30<(l.length:Int))then some (none,1)else(ar (nN n l) (l.length+1) ([],0)).bind λf=>match f with| .ex _ s=>some (some ⟨n,s.1,[],0,[]⟩,0)| .ret r=>some r| .go _=>none
def o5(e:K):Option dS->Pred|none=>Is (.pointer none)|some d=>λv k=>∃G,xz d G v k/\Lo e G
theorem Uu{k:K}{e:List Value}(h:e.length=5)(h1:∀v∈e,v.oneCell'=true):IsV (⟨e⟩:dt 5) (.agg e.toArray) k:=⟨e,rfl,rfl,h,h1⟩
theorem TS{k:K}{v0 g v2:Value}{n:Int}{e f:Nat}(e0:v0= .int .i64 n)(e1:g= .map (some e))(h:v2= .map (some f)):∃v,(∀w,(Instr.build 146 #[(0,v0),(1,g),(4,v2)]).run Tryz.prog w= .ok v w)/\IsV (⟨qT ⟨n,[],[],0,[]⟩ e f (.slice none 0 0)⟩:dt 5) v k:=by subst e0 e1 h;refine⟨.agg #[.int .i64 n, .map (some e), .slice none 0 0, .int .i64 0, .map (some f)],λw=>?_,Uu rfl (by simp[qT];exact⟨rfl,rfl,rfl,rfl,rfl⟩)⟩;have c1:(Value.int .i64 n).cells=#[.int .i64 n]:=rfl;have c2:(Value.map (some e)).cells=#[.map (some e)]:=rfl;have j:(Value.map (some f)).cells=#[.map (some f)]:=rfl;simp[Instr.build,Instr.fill,jF,c1,c2,j]
theorem zB{k0:K}{v0 v1:Value}{n:Int}{l:List aG}{r:Option dS×Int}(i0:IsV n v0 k0)(I:IsV l v1 k0)(O:ue n l=some r):
    Calls Tryz.prog 28 #[v0,v1] k0.w (cr noF k0 (fb (o5 k0 r.1) (IsV r.2))):=by
 unfold ue at O;refine cO Tryz.func28 rfl Tryz.ntmps28 (show 2<=70 by decide) λa k hk0 E H ha=>?_;obtain⟨e0,e1,_⟩:=ha;replace i0:IsV n (a.get 0) k:=by rw[e0,hk0];exact i0
 replace I:IsV l (a.get 1) k:=by rw[e1,hk0];exact I
 have hQ:Gb.LetsOut (bodyPost Tryz.prog Tryz.f28 (cr noF k0 (fb (o5 k0 r.1) (IsV r.2)))):=ch;have G:Chg noF k0 k:=by rw[hk0];exact Chg.refl _ k0
 clear e0 e1;have stop:∀{a:Act}{k:K},Bs noF k0 70 a k->Is (.pointer none) (a.get 4) k->IsV (1:Int) (a.get 5) k->bodyPost Tryz.prog Tryz.f28 (cr noF k0 (fb (o5 k0 none) (IsV (1:Int)))) .ret a k.w:=λhB i4 i5=>AQ rfl hB.d hB.g (show gg _ _ _ (.tmp 4) (o5 k0 none)from i4) i5;refine aK 2 (⟨some (Is (.pointer none)),[]⟩::⟨some (IsI 0),[]⟩::[]) rfl ⟨G,E,H⟩ (by kernel_rfl) ⟨ob1 rfl λ _ _ g n=>aQ rfl rfl,aI rfl rfl,trivial⟩ [⟨_,_⟩,⟨_,_⟩] (λb q p=>⟨p.ke 0 rfl i0,p.ke 1 rfl I,trivial⟩) ?_;clear i0 I G E H;rintro a k⟨⟨G,E,H⟩,i0,I,_⟩;refine wp_seq ?_;refine aK 8 (_::⟨some (IsV (decide (0<=n)&&decide (n<=7))),[(9,some 0)]⟩::⟨some (IsV (!(decide (0<=n)&&decide (n<=7)))),[(10,some 1)]⟩::_::_::_::_::_::[]) rfl ⟨G,E,H⟩ (by kernel_rfl) ⟨mu rfl i0,ob1 rfl λ _ _ g n=>bU rfl Tryz.call65 (yS n.1 (IC _)),ob1 rfl λ _ _ g n=>pW rfl n.1,cm 2 rfl rfl,mF rfl rfl I,gF [(13,some 4)] rfl rfl λj _ _ h n=>gM rfl rfl Tryz.underlying39 (IsV.rd (Gd.get n.1 j)),gF [(14,some 5)] rfl rfl λj _ _ h n=>sU rfl (Gd.get n.1 j) (cI rfl),o1 [(12,some 3),(15,some 6)] rfl λ _ _ h n=>yg rfl n.1 (cB rfl) (Gd.get n.2.1),trivial⟩ [⟨_,_⟩,⟨_,_⟩,⟨16,IsV ((!(decide (0<=n)&&decide (n<=7)))||decide (30<(l.length:Int)))⟩] (λb q p=>⟨p.ke 0 rfl i0,p.ke 1 rfl I,p.ou 7 16 rfl,trivial⟩) ?_;clear i0 I G E H;rintro a k⟨⟨G,E,H⟩,i0,I,i16,_⟩;refine wp_cond_split (isBool i16) (λR=>?_) (λR=>?_);·rw[if_pos R]at O;obtain rfl:=ae O;refine aK 2 (⟨some (Is (.pointer none)),[]⟩::⟨some (IsI 1),[]⟩::[]) rfl ⟨G,E,H⟩ (by kernel_rfl) ⟨ob1 rfl λ _ _ g n=>aQ rfl rfl,aI rfl rfl,trivial⟩ [⟨4,Is (.pointer none)⟩,⟨5,IsI 1⟩] (λb q p=>⟨p.ou 0 4 rfl,p.ou 1 5 rfl,trivial⟩) ?_;rintro a k⟨hB,i4,i5,_⟩;refine wp_ret ?_;exact stop hB i4 i5
 rw[if_neg (by rw[R];decide)]at O;clear i16 R;refine wp_skip ?_;refine wp_seq ?_;refine cut (λu z=>∃b M U,Bs noF k0 70 u z/\IsV n (u.get 0) z/\IsV l (u.get 1) z/\u.get 6=aw b/\bu ⟨n,[],[],0,[]⟩ b M U (.slice none 0 0) [] z/\Lo k0 (DF b M U (.slice none 0 0) [])) ?_ hQ ?_
 .intro Q1 W1 w1;refine gS 1 (_::[]) E (by kernel_rfl) ⟨mu rfl i0,trivial⟩ W1 λb1 q1 p=>?_;have hgq:=G.then p.grow;have hsb:=p.size.trans E;have l0:=p.ke 0 rfl i0;have l1:=p.ke 1 rfl I;have l17:IsV n (b1.get 17) q1:=p.ou 0 17 rfl;refine bL (i:=1) (d:=18) rfl rfl rfl (by rw[hsb];decide) W1 (qo (kv:=kS) (aA _) rfl) λb2 q2 V hdf2 f hgr2 h18=>?_;obtain⟨M,e18,lol,ml⟩:=h18;refine bL (i:=2) (d:=19) rfl rfl rfl (by rw[V,hsb];decide) W1 (qo (kv:=kK) (aA _) rfl) λb3 q3 hsz3 hdf3 hoth3 hgr3 h19=>?_;obtain⟨U,e19,lot,mt⟩:=h19;have l17':b3.get 17= .int .i64 n:=(hoth3 17 (by decide)).trans ((f 17 (by decide)).trans (au.1 l17));have e18':b3.get 18= .map (some M):=(hoth3 18 (by decide)).trans e18;have e19':b3.get 19= .map (some U):=e19;refine bL (i:=3) (d:=20) rfl rfl rfl (by rw[hsz3,V,hsb];decide) W1 (fF (ps:=[(0, .tmp 17),(1, .tmp 18),(4, .tmp 19)]) (x:=(⟨qT ⟨n,[],[],0,[]⟩ M U (.slice none 0 0)⟩:dt 5)) rfl (TS l17' e18' e19')) λb5 q5 hsz5 hdf5 hoth5 hgr5 h20=>?_;refine bL (i:=4) (d:=21) rfl rfl rfl (by rw[hsz5,hsz3,V,hsb];decide) W1 (AX (x:=(⟨qT ⟨n,[],[],0,[]⟩ M U (.slice none 0 0)⟩:dt 5)) q5.w.heap.size (aA _) rfl h20) λb6 q6 hsz6 hdf6 hoth6 hgr6 h21=>?_;obtain⟨b,e21,lob,zb⟩:=h21;refine dg (i:=5) (d:=6) rfl rfl (.inl rfl) rfl (by rw[hsz6,hsz5,hsz3,V,hsb];decide) λb7 hsz7 hdf7 e6 hoth7=>?_;have ml6:=ml.m;have D:bu ⟨n,[],[],0,[]⟩ b M U (.slice none 0 0) [] q6:=by have g2:bE q2 q6:=(hgr3.trans hgr5).trans hgr6;have g3:bE q3 q6:=hgr5.trans hgr6;have lt2:M<q2.w.heap.size:=ml.lt;have lt3:U<q3.w.heap.size:=mt.lt;have s23:=hgr3.size;have s35:=hgr5.size;refine⟨zb,ml.grow g2,by simp, .inl ⟨rfl,rfl⟩,(mt.grow g3).m,rfl,by simp,?_,λc _ R=>by simp[obF,ob]at R⟩;simp only[dbl,ir,gv,bD,pj,or_false,not_or,not_false_eq_true,List.nodup_nil,and_true];omega
  have gall:Chg noF k0 q6:=hgq.then (((hgr2.trans hgr3).trans hgr5).trans hgr6);refine aj (k:=q6) (w1 _ _ ⟨b,M,U,⟨gall,by rw[hsz7,hsz6,hsz5,hsz3,V,hsb],by rw[hdf7,hdf6,hdf5,hdf3,hdf2,p.defers,H]⟩,?_,?_,e6.trans e21,D,?_⟩);.rw[hoth7 0 (by decide),hoth6 0 (by decide),hoth5 0 (by decide),hoth3 0 (by decide),f 0 (by decide)];exact au.2 (au.1 l0)
  .rw[hoth7 1 (by decide),hoth6 1 (by decide),hoth5 1 (by decide),hoth3 1 (by decide),f 1 (by decide)];exact aZ.mono (((hgr2.trans hgr3).trans hgr5).trans hgr6) l1
  · have:=hgq.size;have:=hgr2.size;have:=hgr3.size;have:=hgr5.size;rintro c(R|R);·simp only[dbl,ir,bD,pj,or_false]at R;rcases R with rfl|rfl|rfl<;>omega
    .simp[obF,ob]at R
 clear i0 I G E H;rintro a k⟨b,M,U,⟨G,E,H⟩,i0,I,P,D,W⟩;replace P:Is (aw b) (a.get 6) k:=P;refine wp_seq ?_;refine aK 3 (_::⟨some (IsL l),[(22,some 0)]⟩::⟨some (IsI 0),[]⟩::[]) rfl ⟨G,E,H⟩ (by kernel_rfl) ⟨mu rfl I,ob1 rfl λ _ _ h n=>gM rfl rfl Tryz.underlying39 (IsV.rd n.1),ob1 rfl λ _ _ h n=>du rfl (cI rfl),trivial⟩ [⟨_,_⟩,⟨_,_⟩,⟨6,Is (aw b)⟩,⟨22,IsV l⟩,⟨23,IsL l⟩,⟨24,IsI 0⟩,DX ⟨n,[],[],0,[]⟩ b M U (.slice none 0 0) []] (λb q p=>⟨p.ke 0 rfl i0,p.ke 1 rfl I,p.ke 6 rfl P,p.ou 0 22 rfl,p.ou 1 23 rfl,p.ou 2 24 rfl,D.grow p.grow,trivial⟩) ?_;clear i0 I P D G E H;rintro a k⟨⟨G,E,H⟩,i0,I,P,F,i23,i24,D,_⟩;replace D:bu ⟨n,[],[],0,[]⟩ b M U (.slice none 0 0) [] k:=D;refine wp_block ?_;obtain⟨f1,hf1,O⟩:=bind_some O;refine pC f1 (λs' c q=>∃T,Bs noF k0 70 c q/\IsV n (c.get 0) q/\IsV l (c.get 1) q/\Is (aw b) (c.get 6) q/\IsV l (c.get 22) q/\IsL l (c.get 23) q/\IsV s'.2 (c.get 24) q/\bu ⟨n,s'.1,[],0,[]⟩ b M U (.slice none 0 0) T q/\Lo k0 (DF b M U (.slice none 0 0) T)) (λi' s' c q=>i'=0/\∃T,Bs noF k0 70 c q/\Is (aw b) (c.get 6) q/\bu ⟨n,s'.1,[],0,[]⟩ b M U (.slice none 0 0) T q/\Lo k0 (DF b M U (.slice none 0 0) T)) (λr' c q=>bodyPost Tryz.prog Tryz.f28 (cr noF k0 (fb (o5 k0 r'.1) (IsV r'.2))) .ret c q.w) ?_ hQ ?_ ?_ ?_
 .intro Q1 W1 hgo hex hret;refine gj ?_ _ _ _ _ _ hf1 ⟨[],⟨G,E,H⟩,i0,I,P,F,i23,i24,D,W⟩ Q1 W1 hgo hex hret;clear O hf1 hgo hex hret W1 hQ G E H i0 I P F i23 i24 D W;intro s1 fl_ a k O hS Q hQ hgo hex hret;obtain⟨T,⟨G,E,H⟩,i0,I,P,F,i23,i24,D,W⟩:=hS;unfold nN at O;refine aK 1 (⟨some (IsV (decide (s1.2<(l.length:Int)))),[(24,none),(23,none)]⟩::[]) rfl ⟨G,E,H⟩ (by kernel_rfl) ⟨ob1 rfl λ _ _ h n=>jY rfl (up i24 h n.1) (up i23 h n.2.1),trivial⟩ [⟨_,_⟩,⟨_,_⟩,⟨6,Is (aw b)⟩,⟨22,IsV l⟩,⟨23,IsL l⟩,⟨24,IsV s1.2⟩,⟨25,IsV (decide (s1.2<(l.length:Int)))⟩,DX ⟨n,s1.1,[],0,[]⟩ b M U (.slice none 0 0) T] (λb q p=>⟨p.ke 0 rfl i0,p.ke 1 rfl I,p.ke 6 rfl P,p.ke 22 rfl F,p.ke 23 rfl i23,p.ke 24 rfl i24,p.ou 0 25 rfl,D.grow p.grow,trivial⟩) ?_;clear i0 I P F i23 i24 D G E H;rintro a k⟨⟨G,E,H⟩,i0,I,P,F,i23,i24,i25,D,_⟩;replace D:bu ⟨n,s1.1,[],0,[]⟩ b M U (.slice none 0 0) T k:=D;refine wp_seq ?_;refine wp_cond_split (isBool i25) (λR=>?_) (λR=>?_)
  .rw[if_pos R]at O;refine wp_skip ?_;refine wp_seq ?_;refine wp_block ?_;refine wp_seq ?_;obtain⟨x,hx,O⟩:=bind_some O;obtain⟨c,hb,O⟩:=bind_some O;refine cut (λu z=>∃b8,Bs noF k0 70 u z/\IsV n (u.get 0) z/\IsV l (u.get 1) z/\Is (aw b) (u.get 6) z/\IsV s1.2 (u.get 7) z/\Is (aw b8) (u.get 8) z/\IsV l (u.get 22) z/\IsL l (u.get 23) z/\IsV s1.2 (u.get 24) z/\bu ⟨n,s1.1,[],0,[]⟩ b M U (.slice none 0 0) T z/\Gb.Box b8 x z/\¬DF b M U (.slice none 0 0) T b8/\k0.w.heap.size<=b8) ?_ hQ ?_
   .intro Q2 W2 w2;refine gS 4 (_::⟨some (eE x),[(22,none),(24,none)]⟩::⟨some (IsV x),[(27,some 1)]⟩::⟨some (gV k.w.heap.size (⟨⟨#[]⟩,0,0,0⟩:aG)),[]⟩::[]) E (by kernel_rfl) ⟨mu rfl i24,ob1 rfl λ _ _ h n=>dj rfl Tryz.underlying39 Mq (IsV.rd (up F h n.1)) (up i24 h n.2.1) hx,ob1 rfl λ _ _ h n=>aR rfl Mq n.1,ob1 rfl λ _ _ h n=>gu _ h.size rfl z87,trivial⟩ W2 λb1 q p=>?_;have hgq:=G.then p.grow;have hsb:=p.size.trans E;have Dq:=D.grow p.grow;have j28:IsV x (b1.get 28) q:=p.ou 2 28 rfl;have j26:IsV s1.2 (b1.get 26) q:=p.ou 0 26 rfl;obtain⟨b8,j8,x8,z8⟩:(gV k.w.heap.size (⟨⟨#[]⟩,0,0,0⟩:aG)) (b1.get 8) q:=p.ou 3 8 rfl;have hn8:¬DF b M U (.slice none 0 0) T b8:=λR=>by have:=D.lt b8 R;omega
    have y8:Lo k0 (Eq b8):=(Lo.eq x8).chg G;have l0:=p.ke 0 rfl i0;have l1:=p.ke 1 rfl I;have l6:=p.ke 6 rfl P;have l22:=p.ke 22 rfl F;have l23:=p.ke 23 rfl i23;have l24:=p.ke 24 rfl i24;refine dg (i:=4) (d:=7) rfl rfl (.inl rfl) rfl (by rw[hsb];decide) λb2 V hdf2 e7 f=>?_;have hns:=z8.jl;refine cG (i:=5) rfl rfl rfl rfl Ru (Upd.self (α:=aG)) (show cw b8 0 (b2.get 8) q by rw[f 8 (by decide)];exact j8) z8 (show IsV x (b2.get 28) q by rw[f 28 (by decide)];exact j28) λq2 hch hz=>?_;have hle:=hch.le hns;refine aj (k:=q2) (w2 _ _ ⟨b8,⟨hgq.step hch y8.wr,by rw[V,hsb],by rw[hdf2,p.defers,H]⟩,?_,?_,?_,?_,?_,?_,?_,?_,Dq.keep hch (λc R e=>hn8 (e▸R)) hns,hz,hn8,y8 b8 rfl⟩);.rw[f 0 (by decide)];exact aW.pers hle l0
    .rw[f 1 (by decide)];exact aW.pers hle l1
    .rw[f 6 (by decide)];exact l6
    .exact au.2 (e7.trans (au.1 j26))
    .rw[f 8 (by decide)];exact j8
    .rw[f 22 (by decide)];exact aW.pers hle l22
    .rw[f 23 (by decide)];exact aW.pers hle l23
    .rw[f 24 (by decide)];exact aW.pers hle l24
   clear i0 I P F i23 i24 i25 D G E H;rintro a k⟨b8,⟨G,E,H⟩,i0,I,P,i7,i8,F,i23,i24,D,z8,hn8,lo8⟩;refine wp_seq ?_;refine wp_seq ?_;refine cut (λu z=>Bs noF k0 70 u z/\IsV n (u.get 0) z/\IsV l (u.get 1) z/\Is (aw b) (u.get 6) z/\Is (aw b8) (u.get 8) z/\IsV l (u.get 22) z/\IsL l (u.get 23) z/\IsV s1.2 (u.get 24) z/\bu ⟨n,s1.1,[],0,[]⟩ b M U (.slice none 0 0) T z/\Gb.Box b8 x z/\IsV c (u.get 61) z) ?_ hQ ?_
   .intro Q2 W2 w2;have P8:∀{u:Act}{q:K},bE k q->u.get 8=a.get 8->eE x (u.get 8) q:=λg e=>by rw[e,show a.get 8=aw b8 from i8];exact⟨_,rfl,(z8.grow g).at⟩
    unfold uY at hb;generalize hi:s1.2=i at hb i7 i24 O⊢;obtain⟨y1,hy1,hb⟩:=bind_some hb;obtain⟨y2,hy2,hy1⟩:=pb hy1;obtain⟨y3,hy3,hb⟩:=bind_some hb;obtain⟨y4,hy4,hy3⟩:=pb hy3;obtain⟨y5,hy5,hb⟩:=bind_some hb;obtain⟨y6,hy6,hy5⟩:=pb hy5;obtain⟨y7,hy7,hy6⟩:=ve hy6;obtain⟨y8,hy8,hy6⟩:=ve hy6;refine region (a0:=a) (k0:=k) (n:=70) (m:=33) (_::_::_::⟨some (IsV (x.Counter !=n)),[(30,some 1),(31,some 2)]⟩::_::_::_::_::_::_::_::_::_::_::_::_::_::_::_::_::_::⟨some (Gd (y3=false) (IsV (decide (0<i)))),[(49,some 20)]⟩::⟨some (Gd ((y3=false)/\(decide (0<i))=true) (IsV l)),[(1,none)]⟩::⟨some (Gd ((y3=false)/\(decide (0<i))=true) (IsV i)),[(7,none)]⟩::⟨some (Gd ((y3=false)/\(decide (0<i))=true) (IsV y7)),[(52,some 23)]⟩::⟨some (Gd ((y3=false)/\(decide (0<i))=true) (eE y8)),[(51,some 22),(53,some 24)]⟩::⟨some (Gd ((y3=false)/\(decide (0<i))=true) (eE y8.Cap)),[(54,some 25)]⟩::⟨some (Gd ((y3=false)/\(decide (0<i))=true) (IsV y8.Cap)),[(55,some 26)]⟩::⟨some (Gd ((y3=false)/\(decide (0<i))=true) (eE x.Cap)),[(8,none)]⟩::⟨some (Gd ((y3=false)/\(decide (0<i))=true) (IsV x.Cap)),[(57,some 28)]⟩::⟨some (Gd ((y3=false)/\(decide (0<i))=true) (IsV (!(Op.bytesLess y8.Cap.toList x.Cap.toList)))),[(56,some 27),(58,some 29)]⟩::_::_::[]) lS E (by kernel_rfl) ⟨o1 [(8,none)] rfl λ _ _ h n=>bF rfl TZ (Jh _) (P8 h n.1),o1 [(29,some 0)] rfl λ _ _ h n=>aR rfl ty3 n.1,mu rfl i0,ob1 rfl λ _ _ h n=>EB rfl n.1 n.2.1,cm 3 rfl rfl,gF [(8,none)] rfl rfl λj _ _ h n=>bF rfl DU (tf _) (P8 h n.1),gF [(34,some 5)] rfl rfl λj _ _ h n=>aR rfl ty3 (Gd.get n.1 j),gF [(35,some 6)] rfl rfl λj _ _ h n=>bU rfl Tryz.call66 (kL (Gd.get n.1 j) (cI rfl) (cI rfl) (hy2 j)),gF [(36,some 7)] rfl rfl λj _ _ h n=>pW rfl (Gd.get n.1 j),o1 [(33,some 4),(37,some 8)] rfl λ _ _ h n=>mG rfl n.1 hy1 (cB rfl) (Gd.get n.2.1),cm 9 rfl rfl,gF [(8,none)] rfl rfl λj _ _ h n=>bF rfl BO (te _) (P8 h n.1),gF [(40,some 11)] rfl rfl λj _ _ h n=>aR rfl ty3 (Gd.get n.1 j),gF [(8,none)] rfl rfl λj _ _ h n=>bF rfl DU (tf _) (P8 h n.1),gF [(42,some 13)] rfl rfl λj _ _ h n=>aR rfl ty3 (Gd.get n.1 j),gF [(41,some 12),(43,some 14)] rfl rfl λj _ _ h n=>bU rfl Tryz.call66 (kL (Gd.get n.1 j) (cI rfl) (Gd.get n.2.1 j) (hy4 j)),gF [(44,some 15)] rfl rfl λj _ _ h n=>pW rfl (Gd.get n.1 j),o1 [(39,some 10),(45,some 16)] rfl λ _ _ h n=>mG rfl n.1 hy3 (cB rfl) (Gd.get n.2.1),cm 17 rfl rfl,mF rfl rfl i7,gF [(48,some 19)] rfl rfl λj _ _ h n=>sU rfl (Gd.get n.1 j) (cI rfl),gdF rfl rfl λj _ _ h n=>du rfl (Gd.get n.1 j),vS rfl rfl λj b q h n=>du rfl (up I h n.1),vS rfl rfl λj b q h n=>du rfl (up i7 h n.1),vS rfl rfl λj b q h n=>Ak rfl (Gd.get n.1 j) (cI rfl) (hy7 j),vS rfl rfl λj b q h n=>dj rfl Tryz.underlying39 Mq (IsV.rd (Gd.get n.1 j)) (Gd.get n.2.1 j) (hy8 j),vS rfl rfl λj b q h n=>bF rfl Bu (pA _) (Gd.get n.1 j),vS rfl rfl λj b q h n=>aR rfl ty9 (Gd.get n.1 j),vS rfl rfl λj b q h n=>bF rfl Bu (pA _) (P8 h n.1),vS rfl rfl λj b q h n=>aR rfl ty9 (Gd.get n.1 j),vS rfl rfl λj b q h n=>MA rfl (Gd.get n.1 j) (Gd.get n.2.1 j),gF [(50,some 21),(59,some 30)] rfl rfl λj _ _ h n=>mG rfl (Gd.get n.1 j) (hy6 j) (λhm=>(Gd.get n.2.1 ⟨j,hm⟩)) (cB rfl),o1 [(47,some 18),(60,some 31)] rfl λ _ _ h n=>mG rfl n.1 hy5 (cB rfl) (Gd.get n.2.1),trivial⟩ W2 λb q p=>?_;exact aj (k:=q) (w2 _ _ ⟨Bs.post ⟨G,E,H⟩ p,p.ke 0 rfl i0,p.ke 1 rfl I,p.ke 6 rfl P,p.ke 8 rfl i8,p.ke 22 rfl F,p.ke 23 rfl i23,(by rw[hi];exact p.ke 24 rfl i24),D.grow p.grow,z8.grow p.grow,(by obtain rfl:=ae hb;exact p.ou 32 61 rfl)⟩)
   clear i0 I P i7 i8 F i23 i24 D z8 G E H;rintro a k⟨⟨G,E,H⟩,i0,I,P,i8,F,i23,i24,D,z8,i61⟩;refine wp_cond_split (isBool i61) (λR=>?_) (λR=>?_);·rw[if_pos R]at O;refine aK 2 (⟨some (Is (.pointer none)),[]⟩::⟨some (IsI 1),[]⟩::[]) rfl ⟨G,E,H⟩ (by kernel_rfl) ⟨ob1 rfl λ _ _ g n=>aQ rfl rfl,aI rfl rfl,trivial⟩ [⟨4,Is (.pointer none)⟩,⟨5,IsI 1⟩] (λb q p=>⟨p.ou 0 4 rfl,p.ou 1 5 rfl,trivial⟩) ?_;rintro a k⟨hB,i4,i5,_⟩;refine wp_ret ?_;exact hret _ _ _ (ae O).symm (stop hB i4 i5)
   rw[if_neg (by rw[R];decide)]at O;split at O;rotate_left;.simp at O
   rename_i hnone;obtain⟨i2,hi2,O⟩:=bind_some O;have hgT:bz T x.Cap=none:=by have:=D.Mp (cap:=x.Cap);cases hT:bz T x.Cap with|none=>rfl;|some y=>rw[hT]at this;rw[show(⟨n,s1.1,[],0,[]⟩:dS).L=s1.1 from rfl]at this;rw[this]at hnone;simp at hnone
   have hgL:bz s1.1 x.Cap=none:=by simpa using hnone
   refine wp_skip ?_;refine cut (λu z=>∃T',Bs noF k0 70 u z/\IsV n (u.get 0) z/\IsV l (u.get 1) z/\Is (aw b) (u.get 6) z/\IsV l (u.get 22) z/\IsL l (u.get 23) z/\IsV s1.2 (u.get 24) z/\bu ⟨n,s1.1++[(x.Cap,x)],[],0,[]⟩ b M U (.slice none 0 0) T' z/\Lo k0 (DF b M U (.slice none 0 0) T')) ?_ hQ ?_
   .intro Q2 W2 w2;have P8:∀{u:Act}{q:K},bE k q->u.get 8=a.get 8->eE x (u.get 8) q:=λg e=>by rw[e,show a.get 8=aw b8 from i8];exact⟨_,rfl,(z8.grow g).at⟩
    refine region (a0:=a) (k0:=k) (n:=70) (m:=6) (_::⟨some (Is (aw b)),[(62,some 0)]⟩::⟨some (cw b 1),[(63,some 1)]⟩::⟨some (Is (.map (some M))),[(64,some 2)]⟩::⟨some (eE x.Cap),[(8,none)]⟩::⟨some (IsV x.Cap),[(66,some 4)]⟩::[]) lS E (by kernel_rfl) ⟨mu rfl P,ob1 rfl λ _ _ g n=>aO rfl ⟨_,n.1⟩ n.1,ob1 rfl λ _ _ g n=>aV rfl vK n.1,ob1 rfl λ _ _ g n=>bV rfl yp n.1 (D.grow g).box rfl,ob1 rfl λ _ _ g n=>bF rfl Bu (pA _) (P8 g n.1),ob1 rfl λ _ _ g n=>aR rfl ty9 n.1,trivial⟩ W2 λb1 q p=>?_;have hgq:=G.then p.grow;have Dq:=D.grow p.grow;have z8q:=z8.grow p.grow;have l0:=p.ke 0 rfl i0;have l1:=p.ke 1 rfl I;have l6:=p.ke 6 rfl P;have l22:=p.ke 22 rfl F;have l23:=p.ke 23 rfl i23;have l24:=p.ke 24 rfl i24;have j65:b1.get 65= .map (some M):=(show Is (.map (some M)) (b1.get 65) q from p.ou 3 65 rfl);have j67:IsV x.Cap (b1.get 67) q:=p.ou 5 67 rfl;have j8:b1.get 8=aw b8:=(p.old 8 rfl).trans i8;refine oI (i:=6) rfl rfl rfl rfl Jx Tryz.underlying142 j65 (cY.1 j67) Dq.ml λq2 hch hsz hm=>?_;have hns:∀c,M=c->¬q.sh c:=λc e=>e▸Dq.ml.own;have hle:=hch.le hns;rw[show b1.eval (.tmp 8)=aw b8 from j8]at hm;have D2:=Dq.lay hgT z8q hn8 hch hm;have wl:Wr noF k0 (Eq M):=λc e=> .inr (e▸W M (.inl oL));refine aj (k:=q2) (w2 _ _ ⟨T++[(x.Cap,b8,x)],⟨hgq.step hch wl,p.size.trans E,p.defers.trans H⟩,aW.pers hle l0,aW.pers hle l1,l6,aW.pers hle l22,aW.pers hle l23,aW.pers hle l24,?_,λc R=>?_⟩)
    · have e:({(⟨n,s1.1,[],0,[]⟩:dS)with L:=dQ s1.1 x.Cap x}:dS)=⟨n,s1.1++[(x.Cap,x)],[],0,[]⟩:=by rw[sa x hgL]
      rw[<-e];exact D2
    · rcases Ik R with R|rfl;.exact W c R
      .exact lo8
   clear i0 I P i8 F i23 i24 D z8 G E H i61 W;rintro a k⟨T',⟨G,E,H⟩,i0,I,P,F,i23,i24,D,W⟩;refine cut (λu z=>Bs noF k0 70 u z/\IsV n (u.get 0) z/\IsV l (u.get 1) z/\Is (aw b) (u.get 6) z/\IsV l (u.get 22) z/\IsL l (u.get 23) z/\IsV i2 (u.get 24) z/\bu ⟨n,s1.1++[(x.Cap,x)],[],0,[]⟩ b M U (.slice none 0 0) T' z) ?_ hQ ?_;·intro Q2 W2 w2;refine gS 2 (⟨some (IsV i2),[(24,none)]⟩::_::[]) E (by kernel_rfl) ⟨ob1 rfl λ _ _ h n=>iK rfl (up i24 h n.1) (cI rfl) hi2,cm 0 rfl rfl,trivial⟩ W2 λb1 q p=>?_;exact aj (k:=q) (w2 _ _ ⟨Bs.post ⟨G,E,H⟩ p,p.ke 0 rfl i0,p.ke 1 rfl I,p.ke 6 rfl P,p.ke 22 rfl F,p.ke 23 rfl i23,p.ou 1 24 rfl,D.grow p.grow⟩)
   clear i0 I P F i23 i24 D G E H;rintro a k⟨⟨G,E,H⟩,i0,I,P,F,i23,i24,D⟩;exact hgo _ _ _ (ae O).symm ⟨T',⟨G,E,H⟩,i0,I,P,F,i23,i24,D,W⟩
  ·rw[if_neg (by rw[R];decide)]at O;refine wp_exit ?_;exact hex _ _ _ _ (ae O).symm ⟨rfl,T,⟨G,E,H⟩,P,D,W⟩
 ·rintro r1 a k rfl hR;dsimp only at O;obtain rfl:=ae O;exact hR
 ·rintro _ _ _ rfl _;simp at O
 clear hf1;rintro _ s2 a k rfl⟨rfl,T,⟨G,E,H⟩,P,D,W⟩;dsimp only at O;obtain rfl:=ae O;refine aK 3 (_::_::⟨some (IsI 0),[]⟩::[]) rfl ⟨G,E,H⟩ (by kernel_rfl) ⟨mu rfl P,cp 0 rfl rfl,aI rfl rfl,trivial⟩ [⟨4,Is (aw b)⟩,⟨5,IsI 0⟩,DX ⟨n,s2.1,[],0,[]⟩ b M U (.slice none 0 0) T] (λb q p=>⟨p.ou 1 4 rfl,p.ou 2 5 rfl,D.grow p.grow,trivial⟩) ?_;rintro a k⟨⟨G,E,H⟩,i4,i5,D,_⟩;replace D:bu ⟨n,s2.1,[],0,[]⟩ b M U (.slice none 0 0) T k:=D;refine wp_ret ?_;exact AQ rfl H G (show gg _ _ _ (.tmp 4) (o5 k0 (some _))from⟨_,(show a.get 4=aw b from i4)▸D.r,W⟩) i5
section
open Go.Proofs Go.RowKit Go.Lib Go.Sort Go.Shelf
def Tryz.zG:Go.Shelf.Ren:=⟨λ|6=>59|15=>101|14=>100|28=>148|29=>149|20=>140|21=>141|22=>142|23=>143|24=>144|25=>145|26=>146|27=>147|46=>184|47=>185|48=>186|49=>187|50=>188|57=>213|n=>n,λ|22=>39|24=>87|25=>150|3=>3|39=>158|0=>0|53=>242|55=>244|4=>4|46=>236|45=>235|50=>108|5=>5|9=>9|66=>272|70=>276|76=>302|77=>303|n=>n,λ|n=>n⟩
theorem Tryz.zq:Go.Proofs.SlLaysF0.n6 Tryz.prog Tryz.zG:={mixed:=by kernel_rfl,f6:=⟨Tryz.f59.name,by decide,Tryz.func59.trans (congrArg some (by kernel_rfl))⟩,f14:=⟨Tryz.f100.name,by decide,Tryz.func100.trans (congrArg some (by kernel_rfl))⟩,f15:=Tryz.func101.trans (congrArg some (by kernel_rfl)),f20:=⟨Tryz.f140.name,by decide,Tryz.func140.trans (congrArg some (by kernel_rfl))⟩,f21:=⟨Tryz.f141.name,by decide,Tryz.func141.trans (congrArg some (by kernel_rfl))⟩,f22:=⟨Tryz.f142.name,by decide,Tryz.func142.trans (congrArg some (by kernel_rfl))⟩,f23:=⟨Tryz.f143.name,by decide,Tryz.func143.trans (congrArg some (by kernel_rfl))⟩,f24:=⟨Tryz.f144.name,by decide,Tryz.func144.trans (congrArg some (by kernel_rfl))⟩,f25:=⟨Tryz.f145.name,by decide,Tryz.func145.trans (congrArg some (by kernel_rfl))⟩,f26:=⟨Tryz.f146.name,by decide,Tryz.func146.trans (congrArg some (by kernel_rfl))⟩,f27:=⟨Tryz.f147.name,by decide,Tryz.func147.trans (congrArg some (by kernel_rfl))⟩,f28:=Tryz.func148.trans (congrArg some (by kernel_rfl)),f29:=Tryz.func149.trans (congrArg some (by kernel_rfl)),f46:=⟨Tryz.f184.name,by decide,Tryz.func184.trans (congrArg some (by kernel_rfl))⟩,f47:=Tryz.func185.trans (congrArg some (by kernel_rfl)),f48:=Tryz.func186.trans (congrArg some (by kernel_rfl)),f49:=⟨Tryz.f187.name,by decide,Tryz.func187.trans (congrArg some (by kernel_rfl))⟩,f50:=⟨Tryz.f188.name,by decide,Tryz.func188.trans (congrArg some (by kernel_rfl))⟩,f57:=⟨Tryz.f213.name,by decide,Tryz.func213.trans (congrArg some (by kernel_rfl))⟩,t0:=Tryz.underlying0,a0:=Tryz.isAgg0,z0:=Tryz.sizeOf0,v0:=Tryz.zeroValue0,t3:=Tryz.underlying3,a3:=Tryz.isAgg3,z3:=Tryz.sizeOf3,v3:=Tryz.zeroValue3,t4:=Tryz.underlying4,a4:=Tryz.isAgg4,z4:=Tryz.sizeOf4,v4:=Tryz.zeroValue4,t5:=Tryz.underlying5,a5:=Tryz.isAgg5,z5:=Tryz.sizeOf5,v5:=Tryz.zeroValue5,t9:=Tryz.underlying9,a9:=Tryz.isAgg9,z9:=Tryz.sizeOf9,v9:=Tryz.zeroValue9,t22:=Tryz.underlying39,a22:=Tryz.isAgg39,z22:=Tryz.sizeOf39,v22:=Tryz.zeroValue39,t25:=Tryz.underlying150,a25:=Tryz.isAgg150,z25:=Tryz.sizeOf150,v25:=Tryz.zeroValue150,t39:=Tryz.underlying158,a39:=Tryz.isAgg158,z39:=Tryz.sizeOf158,v39:=Tryz.zeroValue158,t45:=Tryz.underlying235,a45:=Tryz.isAgg235,z45:=Tryz.sizeOf235,v45:=Tryz.zeroValue235,t46:=Tryz.underlying236,a46:=Tryz.isAgg236,z46:=Tryz.sizeOf236,v46:=Tryz.zeroValue236,t50:=Tryz.underlying108,a50:=Tryz.isAgg108,z50:=Tryz.sizeOf108,v50:=Tryz.zeroValue108,t53:=Tryz.underlying242,a53:=Tryz.isAgg242,z53:=Tryz.sizeOf242,v53:=Tryz.zeroValue242,t55:=Tryz.underlying244,a55:=Tryz.isAgg244,z55:=Tryz.sizeOf244,v55:=Tryz.zeroValue244,t66:=Tryz.underlying272,a66:=Tryz.isAgg272,z66:=Tryz.sizeOf272,v66:=Tryz.zeroValue272,t70:=Tryz.underlying276,a70:=Tryz.isAgg276,z70:=Tryz.sizeOf276,v70:=Tryz.zeroValue276,t76:=Tryz.underlying302,a76:=Tryz.isAgg302,z76:=Tryz.sizeOf302,v76:=Tryz.zeroValue302,t77:=Tryz.underlying303,a77:=Tryz.isAgg303,z77:=Tryz.sizeOf303,v77:=Tryz.zeroValue303}
instance:cS aG:=cS.ofMap λx:aG=>(x.Cap,x.Counter,x.Held,x.Used)
def iF(x y:aG):Int:=if bLt x.Cap y.Cap then-1 else if bLt y.Cap x.Cap then 1 else 0
theorem Ci(x y:aG):vo x y=some (iF x y):=by
 unfold vo ie cmp_isNaN_string iF;simp only[beq_self_eq_true,fV,qb,mB,if_false,Tm];by_cases h:bLt x.Cap y.Cap=true;.simp[h]
 .by_cases h2:bLt y.Cap x.Cap=true<;>simp[h,h2]
theorem sM(x y:aG):ltOf iF x y=bLt x.Cap y.Cap:=by
 unfold ltOf iF;by_cases h:bLt x.Cap y.Cap=true;.simp[h]
 .by_cases h2:bLt y.Cap x.Cap=true<;>simp[h,h2]
theorem sB:SWO (ltOf iF):=by
 constructor;.intro x;rw[sM];exact p9 _
 .intro x y z;simp only[sM];exact sd
 ·intro x y z;simp only[sM];intro h1 h2;cases h:bLt x.Cap z.Cap with|false=>rfl;|true=>cases hy:bLt y.Cap z.Cap with|true=>rw[h2]at hy;cases hy;|false=>cases hz:bLt z.Cap y.Cap with|true=>rw[sd h hz]at h1;cases h1;|false=>rw[yN hy hz]at h1;rw[h1]at h;cases h
def fc(l:List aG):List aG:=(pdq (ltOf iF) l.toArray 0 l.toArray.size (Lib.bitLen l.toArray.size) true true).toList
theorem Bo(d:Array aG):(pdq (ltOf iF) d 0 d.size (Lib.bitLen d.size) true true).size=d.size:=(pdq_sorts (ltOf iF) sB d 0 d.size (Lib.bitLen d.size) true true (bY _) (aA _) (Or.inl rfl)).1.1
theorem fR(l:List aG):(fc l).Perm l/\(fc l).Pairwise λa b=>bLt b.Cap a.Cap=false:=by
 obtain⟨⟨h1,_,h2⟩,h3⟩:=pdq_sorts (ltOf iF) sB l.toArray 0 l.toArray.size (Lib.bitLen l.toArray.size) true true (bY _) (aA _) (Or.inl rfl);unfold fc;refine⟨?_,?_⟩
 · generalize pdq (ltOf iF) l.toArray 0 l.toArray.size (Lib.bitLen l.toArray.size) true true=r at h1 h2;have e:r.extract 0 l.toArray.size=r:=by rw[<-h1];simp
   rw[e]at h2;simpa using h2
 ·rw[fK];intro i j hi hj hij;have:=h3 i j (bY _) hij (by rw[<-h1];simpa using hj);rw[getElem!_pos _ j (by simpa using hj),getElem!_pos _ i (by simpa using hi)]at this;rw[sM]at this;simpa only[rW]using this
theorem Ay:∀{l l':List aG},l.Perm l'->(l.map (·.Cap)).Nodup->(l.Pairwise λa b=>bLt b.Cap a.Cap=false)->(l'.Pairwise λa b=>bLt b.Cap a.Cap=false)->l=l':=by
 intro l l' hp hn h1 h2;have strict:∀{m:List aG},(m.map (·.Cap)).Nodup->(m.Pairwise λa b=>bLt b.Cap a.Cap=false)->m.Pairwise λa b=>bLt a.Cap b.Cap=true:=by intro m hm h;refine List.Pairwise.imp₂ (λa b h1 h2=>?_) h (List.pairwise_map.1 hm);cases hb:bLt a.Cap b.Cap with|true=>rfl;|false=>exact absurd (yN hb h1) h2
 have s1:=strict hn h1;have s2:=strict ((hp.map (·.Cap)).nodup_iff.1 hn) h2;exact List.Perm.eq_of_pairwise (le:=λa b=>bLt a.Cap b.Cap=true) (λa b _ _ h g=>by rw[yA h]at g;cases g) s1 s2 hp
set_option maxHeartbeats 2000000 in theorem Cu{k0:K}{v0:Value}{l:List aG}(i0:ah 0 87 l v0 k0)(hl:l.length<=1073741824):Calls Tryz.prog 59 #[v0, .func (.func 60) #[] #[]] k0.w (cr (obF v0) k0 λ_ k'=>ah 0 87 (fc l) v0 k'):=by
 refine Fu (S:=λd=>pdq (ltOf iF) d 0 d.size (Lib.bitLen d.size) true true) Bo (λp cap w=>?_) (λblk off cap w hH hblk=>?_) i0;·have hcon:=AnyF.slices_SortFunc_none {Tryz.zq with} p cap (.func (.func 60) #[] #[]) w;change Calls Tryz.prog 59 _ _ _ at hcon;exact hcon
 ·have hcon:=AnyQ.slices_SortFunc_eq Tryz.zq 4 Tryz.isAgg87 Tryz.sizeOf87 (cS.enc (α:=aG)) (λ _=>rfl) (λx v hv=>GU k0 x v hv) iF sB 60 #[] blk off cap l.toArray w (enters_of Tryz.func60 (by kernel_rfl) rfl) (λ _ _ _ _ x y=>J9 (k:=RA _) (E2 (xw rfl x _) (xw rfl y _) (Ci x y))) hH hblk (by simp;omega);change Calls Tryz.prog 59 _ _ _ at hcon;exact hcon
end
def tv(d:dS):Option (List aG):=if d.L.length<=1000000 then some (fc (d.L.map (·.2)))else none
structure LvI (k0:K)(n s:Nat)(d:dS)(b bl bt:Nat)(h:Value)(T:List LT)(es:Array MapEntry)(clk:Nat)(O:List aG)(R:List LT)(r:Nat)(seen:Array Nat)(c0:Nat)(it:Nat)(a:Act)(k:K):Prop where
 bs:Bs noF k0 n a k
 D:bu d b bl bt h T k
 it:a.get it= .pointer (some ⟨r,0,none⟩)at_:kh r bl clk seen c0 k
 le:clk<=c0
 hh:k.w.heap[bl]?=some (.map es clk)left:(leftOf es seen).toList.map (λe=>(e.key,e.val))=R.map (λt=>(kS t.1,aw t.2.1))sub:∀t∈R,t∈T
 perm:(O++R.map (·.2.2)).Perm (T.map (·.2.2))own:ah 0 87 O (a.get s) k
 lo:Lo k0 (obF (a.get s))lr:k0.w.heap.size<=r
 nr:¬obF (a.get s) r
theorem sn{α β:Type}(f:α->β):∀(l:List α)(i:Nat),(l.eraseIdx i).map f=(l.map f).eraseIdx i|[],_=>rfl|_::_,0=>rfl|_::l,i+1=>by simp[sn f l i]
theorem wU{α β:Type}(f:α->β):∀(R:List α)(i:Nat)(hi:i<R.length)(O:List β),((O++[f R[i]])++(R.eraseIdx i).map f).Perm (O++R.map f)
 |x::R,0,_,O=>by simp;|x::R,i+1,hi,O=>by
  have hi':i<R.length:=by simpa using hi
  have:=wU f R i hi' (O++[f x]);simp only[yL,List.eraseIdx_cons_succ,cf];refine(List.Perm.trans ?_ this).trans (by simp);rw[dm,dm,dm];refine List.Perm.append_left O ?_;exact List.perm_middle (l₁:=[f R[i]])
theorem Cg{k0:K}{d:dS}{b bl bt:Nat}{h:Value}{T:List LT}{r:List aG}(D:bu d b bl bt h T k0)(hr:tv d=some r)(hnd:((d.L.map (·.2)).map (·.Cap)).Nodup):
    Calls Tryz.prog 21 #[aw b] k0.w (Ret k0 (IsV r)):=by
 unfold tv at hr;split at hr;rotate_left;.simp at hr
 rename_i hl;obtain rfl:=ae hr;have eL2:d.L.map (·.2)=T.map (·.2.2):=by rw[D.eL,dX];rfl
 have hlT:T.length<=1000000:=by have:=congrArg List.length D.eL;simp at this;omega
 have hlt0:∀c,DF b bl bt h T c->c<k0.w.heap.size:=D.lt;refine Ret.ofC ?_;refine cO Tryz.func21 rfl Tryz.ntmps21 (show 1<=24 by decide) λa k hk0 hs hd ha=>?_;obtain⟨e0,_⟩:=ha;have i0:Is (aw b) (a.get 0) k:=e0;have hQ:Gb.LetsOut (bodyPost Tryz.prog Tryz.f21 (cr noF k0 (IsV (fc (d.L.map (·.2)))))):=ch;have hg:Chg noF k0 k:=by rw[hk0];exact Chg.refl _ k0
 replace D:bu d b bl bt h T k:=by rw[hk0];exact D
 clear e0;refine aK 1 (⟨some ij,[]⟩::[]) rfl ⟨hg,hs,hd⟩ (by kernel_rfl) ⟨ob1 rfl λb q h n=>aQ rfl je,trivial⟩ [⟨_,_⟩,DX d b bl bt h T] (λb q p=>⟨p.ke 0 rfl i0,D.grow p.grow,trivial⟩) ?_;clear i0 D hg hs hd;rintro a k ⟨⟨hg,hs,hd⟩,i0,D,_⟩;replace D:bu d b bl bt h T k:=D;refine aK 1 (⟨some (Is (.slice none 0 0)),[]⟩::[]) rfl ⟨hg,hs,hd⟩ (by kernel_rfl) ⟨ob1 rfl λb q h n=>aQ rfl rfl,trivial⟩ [⟨_,_⟩,⟨3,Is (.slice none 0 0)⟩,DX d b bl bt h T] (λb q p=>⟨p.ke 0 rfl i0,p.ou 0 3 rfl,D.grow p.grow,trivial⟩) ?_;clear i0 D hg hs hd;rintro a k ⟨⟨hg,hs,hd⟩,i0,i3,D,_⟩;replace D:bu d b bl bt h T k:=D;obtain⟨es,clk,hh,hes,hb1,hb2⟩:=D.ml.is;have hblt:=D.ml.lt;refine wp_seq ?_;refine aK 5 (_::⟨some (Is (aw b)),[(6,some 0)]⟩::⟨some (cw b 1),[(7,some 1)]⟩::⟨some (Is (.map (some bl))),[(8,some 2)]⟩::⟨some (zE k.w.heap.size bl clk),[(9,some 3)]⟩::[]) rfl ⟨hg,hs,hd⟩ (by kernel_rfl) ⟨mu rfl i0,ob1 rfl λ _ _ g n=>aO rfl ⟨_,n.1⟩ n.1,ob1 rfl λ _ _ g n=>aV rfl vK n.1,ob1 rfl λ _ _ g n=>bV rfl yp n.1 (D.grow g).box rfl,ob1 rfl λ _ _ g n=>uF (es:=es) g.size rfl Tryz.underlying142 n.1 (by rw[g.blk bl hblt];exact hh),trivial⟩ [⟨3,Is (.slice none 0 0)⟩,⟨10,zE k.w.heap.size bl clk⟩,⟨0,λ _ k=>bu d b bl bt h T k/\k.w.heap[bl]?=some (.map es clk)⟩] (λb q p=>⟨p.ke 3 rfl i3,p.ou 4 10 rfl,⟨D.grow p.grow,by rw[p.grow.blk bl hblt];exact hh⟩,trivial⟩) ?_;have hk:=hg.size;clear i0 D hg hs hd hh i3;rintro a k1 ⟨⟨hg,hs,hd⟩,i3,⟨r,e10,lor,It⟩,⟨D,hh⟩,_⟩;refine cut (λa' k'=>∃O,Bs noF k0 24 a' k'/\ah 0 87 O (a'.get 3) k'/\Lo k0 (obF (a'.get 3))/\O.Perm (T.map (·.2.2))) ?_ hQ ?_
 .intro Q1 W1 w1;refine wp_block ?_;refine sj (λm a k=>∃O R seen c0,m=R.length/\LvI k0 24 3 d b bl bt h T es clk O R r seen c0 10 a k) ⟨_,[],T,#[],clk,rfl,⟨⟨hg,hs,hd⟩,D,e10,It,aA _,hh,?_,λ _ h=>h,by simp,by rw[show a.get 3= .slice none 0 0 from i3];exact .inl ⟨rfl,rfl⟩,by rw[show a.get 3= .slice none 0 0 from i3];intro c hc;simp[obF,ob]at hc,by omega,by rw[show a.get 3= .slice none 0 0 from i3];intro hc;simp[obF,ob]at hc⟩⟩ ?_
  · have:(leftOf es #[]).toList=es.toList:=by unfold leftOf;simp
    rw[this,hes,dX];rfl
  clear hg hs hd i3 e10 It D hh;rintro m a k ⟨O,R,seen,c0,rfl,I⟩;obtain⟨⟨hg,hs,hd⟩,D,e10,It,hle,hh,hleft,hsub,hperm,hown,hlo,hlr,hnr⟩:=I;have hnD:¬DF b bl bt h T r:=λhc=>by have:=hlt0 r hc;omega
  refine wp_seq ?_;have hnb:¬r=bl:=λe=>hnD (.inl (e▸oL));have hRl:R.length=(leftOf es seen).toList.length:=by have:=congrArg List.length hleft;simp at this;simp;omega
  refine cut (λa' k'=>(IsV false (a'.get 12) k'/\R=[]/\Bs noF k0 24 a' k'/\ah 0 87 O (a'.get 3) k'/\Lo k0 (obF (a'.get 3)))∨(IsV true (a'.get 12) k'/\∃(i:Nat) (hi:i<(leftOf es seen).toList.length),Bs noF k0 24 a' k'/\bu d b bl bt h T k'/\a'.get 10= .pointer (some ⟨r,0,none⟩)/\kh r bl clk (seen.push ((leftOf es seen).toList[i]).born) clk k'/\k'.w.heap[bl]?=some (.map es clk)/\ah 0 87 O (a'.get 3) k'/\Lo k0 (obF (a'.get 3))/\¬obF (a'.get 3) r)) ?_ trivial ?_
  .intro Q2 W2 w2;refine gS 0 [] hs (by kernel_rfl) trivial W2 λb1 q p=>?_;have hgq:=hg.then p.grow;have hsb:=p.size.trans hs;have Dq:=D.grow p.grow;have e3:b1.get 3=a.get 3:=p.old 3 rfl;have hhq:q.w.heap[bl]?=some (.map es clk):=by rw[p.grow.blk bl D.ml.lt];exact hh
   refine q9 (ty:=0) (i:=0) (d:=11) rfl rfl rfl rfl (by rw[hsb];decide) (show b1.get 10=_ from(p.old 10 rfl).trans e10) (It.grow p.grow) hhq hb1 hle (λh0 b2 hsz2 hdf2 e11 hoth2=>?_) (λe he b2 q2 hsz2 hdf2 e11 hoth2 hch2 It2=>?_)
   · refine bL (i:=1) (d:=12) rfl rfl rfl (by rw[hsz2,hsb];decide) W2 (dV (x:= .tmp 11) rfl (show b2.get 11=_ from e11) rfl) λb3 q3 hsz3 hdf3 hoth3 hgr3 h12=>?_;have e33:b3.get 3=a.get 3:=(hoth3 3 (by decide)).trans ((hoth2 3 (by decide)).trans e3);refine aj (k:=q3) (w2 _ _ (.inl ⟨aE.2 h12,?_,⟨hgq.then hgr3,by rw[hsz3,hsz2,hsb],by rw[hdf3,hdf2,p.defers,hd]⟩,?_,?_⟩));.exact iA (by rw[hRl,iE];exact h0)
     .rw[e33];exact aZ.mono (p.grow.trans hgr3) hown
     .rw[e33];exact hlo
   · obtain⟨i,hi,rfl⟩:=br he;have hns:∀c,r=c->¬q.sh c:=λc e=>e▸(It.grow p.grow).own;have D2:=Dq.keep hch2 (λc hc e=>hnD (e▸hc)) hns;have ho2:=(aZ.mono p.grow hown:ah 0 87 O (a.get 3) q).keep hch2 (λc hc e=>hnr (e▸hc)) hns;have hh2:q2.w.heap[bl]?=some (.map es clk):=by rw[hch2.blk bl Dq.ml.lt hnb];exact hhq
     refine bL (i:=1) (d:=12) rfl rfl rfl (by rw[hsz2,hsb];decide) W2 (dV (x:= .tmp 11) rfl (show b2.get 11=_ from e11) rfl) λb3 q3 hsz3 hdf3 hoth3 hgr3 h12=>?_;have e33:b3.get 3=a.get 3:=(hoth3 3 (by decide)).trans ((hoth2 3 (by decide)).trans e3);refine aj (k:=q3) (w2 _ _ (.inr ⟨aE.2 h12,i,hi,⟨(hgq.step hch2 (λc e=> .inr (e▸hlr))).then hgr3,by rw[hsz3,hsz2,hsb],by rw[hdf3,hdf2,p.defers,hd]⟩,D2.grow hgr3,(hoth3 10 (by decide)).trans ((hoth2 10 (by decide)).trans ((p.old 10 rfl).trans e10)),It2.grow hgr3,by rw[hgr3.blk bl D2.ml.lt];exact hh2,?_,?_,?_⟩));.rw[e33];exact aZ.mono hgr3 ho2
     .rw[e33];exact hlo
     .rw[e33];exact hnr
  clear hg hs hd D e10 It hh hown hlo hnr;rintro a k (⟨i12,rfl,hB,hown,hlo⟩|⟨i12,i,hi,⟨hg,hs,hd⟩,D,e10,It,hh,hown,hlo,hnr⟩);·refine wp_seq ?_;refine wp_cond_split (isBool i12) (λhc=>by cases hc) (λ _=>?_);refine wp_exit (gw (gw (qR (w1 _ _ ⟨O,hB,hown,hlo,by simpa using hperm⟩))))
  .refine wp_seq ?_;refine wp_cond_split (isBool i12) (λ _=>?_) (λhc=>by cases hc);refine wp_skip ?_;refine wp_block ?_;have hiR:i<R.length:=by omega
   have hfl:∀e∈(leftOf es seen).toList,e∈es.toList:=by intro e he;unfold leftOf at he;rw[pZ]at he;exact(bQ.1 he).1
   have hin:=hfl _ (aN hi);have hpair:((leftOf es seen).toList[i].key,(leftOf es seen).toList[i].val)=(kS R[i].1,aw R[i].2.1):=by have:=congrArg (.[i]?) hleft;simp only[nX]at this;rw[bZ hi,bZ hiR]at this;simpa using this
   have hpush:=rj es seen i hi hb2;generalize he:(leftOf es seen).toList[i]=e at hin hpair hpush It;obtain⟨ekey,eval_⟩:=Prod.mk.inj hpair;have hRi:=hsub _ (aN hiR);have hpe:=(wU (λt:LT=>t.2.2) R i hiR O).trans hperm;have hleft':(leftOf es (seen.push e.born)).toList.map (λe=>(e.key,e.val))=(R.eraseIdx i).map (λt=>(kS t.1,aw t.2.1)):=by rw[hpush,sn,hleft,sn]
   have hsub':∀t∈R.eraseIdx i,t∈T:=λt ht=>hsub t (List.mem_of_mem_eraseIdx ht);have hlen':(R.eraseIdx i).length<R.length:=by rw[rL hiR];omega
   generalize ht:R[i]=t at hRi ekey eval_ hpe;generalize hu:a.get 3=u at hown hlo hnr;have i3:bC u 0 87 O (a.get 3) k:=⟨hu,by rw[hu];exact hown⟩;have i10:Is (.pointer (some ⟨r,0,none⟩)) (a.get 10) k:=e10;have hOl:O.length<=1000000:=by have:=hpe.length_eq;simp at this;omega
   refine aK 3 (⟨some (Is (.tuple #[e.key,e.val])),[(10,none)]⟩::⟨some (Is (aw t.2.1)),[(13,some 0)]⟩::_::[]) rfl ⟨hg,hs,hd⟩ (by kernel_rfl) ⟨ob1 rfl λa' k' g n=>um rfl (show a'.get 10=_ by rw[show a'.get 10=a.get 10 from n.1];exact e10) (It.grow g) (by rw[g.blk bl D.ml.lt];exact hh) hin hb2,ob1 rfl λa' _ g n=>by rw[<-eval_];exact dV rfl n.1 rfl,cp 1 rfl rfl,trivial⟩ [⟨3,bC u 0 87 O⟩,⟨5,Is (aw t.2.1)⟩,⟨10,Is (.pointer (some ⟨r,0,none⟩))⟩,⟨0,λ _ q=>bu d b bl bt h T q/\kh r bl clk (seen.push e.born) clk q/\q.w.heap[bl]?=some (.map es clk)⟩] (λb1 q p=>⟨p.ke 3 rfl i3,p.ou 2 5 rfl,p.ke 10 rfl i10,⟨D.grow p.grow,It.grow p.grow,by rw[p.grow.blk bl D.ml.lt];exact hh⟩,trivial⟩) ?_;clear i3 i10 D It hh hg hs hd e10 hown hu i12;rintro a k ⟨⟨hg,hs,hd⟩,i3,i5,i10,⟨D,It,hh⟩,_⟩;refine gS 5 (⟨some (bC u 0 87 O),[(3,none)]⟩::_::⟨some (Is (aw t.2.1)),[(16,some 1)]⟩::⟨some (IsV t.2.2),[(17,some 2)]⟩::⟨some (IsV (α:=List aG) [t.2.2]),[(18,some 3)]⟩::[]) hs (by kernel_rfl) ⟨ob1 rfl λ _ _ g n=>dH (.inl rfl) (up i3 g n.1),mu rfl i5,ob1 rfl λ _ _ g n=>aO rfl ⟨_,n.1⟩ n.1,ob1 rfl λa' _ g n=>aR rfl Mq (by rw[show a'.eval (.tmp 17)=aw t.2.1 from n.1];exact⟨_,rfl,((D.bx _ hRi).grow g).at⟩),ob1 rfl λ _ _ g n=>dL rfl Tryz.underlying39 U1 rfl (by decide) (by decide) ⟨rfl,n.1,trivial⟩,trivial⟩ trivial λb1 q p=>?_;have hgq:=hg.then p.grow;have hsb:=p.size.trans hs;have Dq:=D.grow p.grow;have Itq:=It.grow p.grow;have hhq:q.w.heap[bl]?=some (.map es clk):=by rw[p.grow.blk bl D.ml.lt];exact hh
   obtain⟨e15,j15⟩:bC u 0 87 O (b1.get 15) q:=p.ou 0 15 rfl;have j19:IsV (α:=List aG) [t.2.2] (b1.get 19) q:=p.ou 4 19 rfl;have e10:b1.get 10= .pointer (some ⟨r,0,none⟩):=(p.old 10 rfl).trans i10;have hns:=j15.jl;rw[<-e15]at hlo hnr;have hap:bj (DF b bl bt h T) (obF (b1.get 15)):=λc hc e=>by have:=hlt0 c hc;have:=hlo c e;omega
   refine fZ (i:=5) (d:=20) rfl rfl rfl rfl (by rw[hsb];decide) (e:=87) Tryz.underlying39 U1 j15 (IsV.rd j19) (show eb O [t.2.2]=some (O++[t.2.2])from bS (by simp;omega)) λb2 q2 hsz hdf hoth hch hown2 hob=>?_;have D2:=Dq.keep hch hap hns;have It2:=Itq.keep hch hnr;have hh2:q2.w.heap[bl]?=some (.map es clk):=by rw[hch.blk bl Dq.ml.lt (λe=>hap bl (.inl oL) e)];exact hhq
   refine dg (i:=6) (d:=3) rfl rfl (.inl rfl) rfl (by rw[hsz,hsb];decide) λb3 hsz3 hdf3 e3 hoth3=>?_;have e3':b3.get 3=b2.get 20:=e3;refine aj (k:=q2) (⟨_,q2,rfl,hlen',O++[t.2.2],R.eraseIdx i,seen.push e.born,clk,rfl,⟨⟨hgq.step hch hlo.wr,by rw[hsz3,hsz,hsb],by rw[hdf3,hdf,p.defers,hd]⟩,D2,(hoth3 10 (by decide)).trans ((hoth 10 (by decide)).trans e10),It2,aA _,hh2,hleft',hsub',hpe,?_,?_,hlr,?_⟩⟩:∃m k',k'.w=q2.w/\m<R.length/\∃O R seen c0,m=R.length/\LvI k0 24 3 d b bl bt h T es clk O R r seen c0 10 b3 k');.rw[e3'];exact hown2
   .rw[e3'];exact hlo.app hgq hob
   · rw[e3'];intro hc;rcases hob r hc with hc|hc;.exact hnr hc
     .have:=Itq.lt;omega
 clear hg hs hd i3 e10 It D hh;rintro a k ⟨O,⟨hg,hs,hd⟩,hown,hlo,hperm⟩;have hOl:O.length<=1073741824:=by have:=hperm.length_eq;simp at this;omega
 have hres:fc O=fc (d.L.map (·.2)):=by
  refine Ay ?_ ?_ (fR O).2 (fR _).2;.exact((fR O).1.trans hperm).trans ((eL2▸(fR (d.L.map (·.2))).1.symm))
  .exact(((((fR O).1.trans hperm).trans (by rw[eL2])).map (·.Cap)).nodup_iff).2 hnd
 generalize hu:a.get 3=u at hown hlo;have i3:bC u 0 87 O (a.get 3) k:=⟨hu,by rw[hu];exact hown⟩;refine wp_seq ?_;refine cut (λa' k'=>Bs noF k0 24 a' k'/\bC u 0 87 (fc O) (a'.get 3) k') ?_ hQ ?_;·intro Q1 W1 w1;refine gS 1 (⟨some (bC u 0 87 O),[(3,none)]⟩::[]) hs (by kernel_rfl) ⟨ob1 rfl λ _ _ g n=>dH (.inl rfl) (up i3 g n.1),trivial⟩ W1 λb1 q p=>?_;have hgq:=hg.then p.grow;have hsb:=p.size.trans hs;obtain⟨e21,j21⟩:bC u 0 87 O (b1.get 21) q:=p.ou 0 21 rfl;have e3:b1.get 3=u:=(p.old 3 rfl).trans hu;refine iH (F:=obF (b1.get 21)) (i:=1) (d:=22) rfl rfl rfl rfl (by rw[hsb];decide) Tryz.call59 W1 (Cu j21 hOl) λb2 q2 hsz hdf hoth hch hres=>?_;have e32:b2.get 3=u:=(hoth 3 (by decide)).trans e3;refine aj (k:=q2) (w1 _ _ ⟨⟨hgq.step hch (by rw[e21];exact hlo.wr),hsz.trans hsb,hdf.trans (p.defers.trans hd)⟩,e32,?_⟩);rw[e32,<-e21];exact hres
 clear hg hs hd hown i3;rintro a k ⟨⟨hg,hs,hd⟩,i3⟩;obtain⟨k2,sh,iv⟩:=(i3.1▸i3.2:ah 0 87 (fc O) u k).gz;rw[<-sh.w];replace hg:=hg.hand sh hlo.wr;have iv:IsV (fc O) (a.get 3) k2:=by rw[i3.1];exact iv
 clear i3 sh;refine aK 2 (_::_::[]) rfl ⟨hg,hs,hd⟩ (by kernel_rfl) ⟨mu rfl iv,cp 0 rfl rfl,trivial⟩ [⟨2,IsV (fc O)⟩] (λb1 q p=>⟨p.ou 1 2 rfl,trivial⟩) ?_;clear hg hs hd iv;rintro a k ⟨⟨hg,hs,hd⟩,i2,_⟩;refine wp_ret ?_;rw[<-hres];exact cZ rfl hd hg i2
section
open Go.Proofs Go.RowKit Go.Lib Go.Shelf
def Tryz.zH:Go.Shelf.Ren:=⟨λ|5=>99|7=>139|n=>n,λ|23=>144|25=>190|3=>4|4=>4|20=>20|n=>n,λ|n=>n⟩
theorem Tryz.FB:Go.Proofs.SlLaysW.n5 Tryz.prog Tryz.zH:={mixed:=by kernel_rfl,f5:=⟨Tryz.f99.name,by decide,Tryz.func99.trans (congrArg some (by kernel_rfl))⟩,f7:=Tryz.func139.trans (congrArg some (by kernel_rfl)),t4:=Tryz.underlying4,a4:=Tryz.isAgg4,z4:=Tryz.sizeOf4,v4:=Tryz.zeroValue4,t20:=Tryz.underlying20,a20:=Tryz.isAgg20,z20:=Tryz.sizeOf20,v20:=Tryz.zeroValue20,t23:=Tryz.underlying144,a23:=Tryz.isAgg144,z23:=Tryz.sizeOf144,v23:=Tryz.zeroValue144}
theorem G5{k0:K}{κ:Type}{kv:κ->Value}{bt:Nat}{l:List (κ×Value)}(h:qY kv bt l k0):Calls Tryz.prog 99 #[.map (some bt)] k0.w (Ret k0 λv k=>∃b,v= .map (some b)/\k0.w.heap.size<=b/\qY kv b l k):=by obtain⟨es,clk,hh,hr⟩:=h.is;have hcon:=AnyW.maps_Clone Tryz.FB bt es clk k0.w hh;change Calls Tryz.prog 99 _ _ _ at hcon;refine hcon.mono ?_;rintro e w' ⟨rfl,rfl⟩;exact⟨k0.alloc (.map es clk),rfl,K.dT k0 _,_,rfl,aA _,λhs=>fC _ (k0.lt _ hs),es,clk,heap_alloc_new k0.w _,hr⟩
end
instance:cS gY:=cS.ofMap λx:gY=>(x.Cap,x.From,x.To,x.Number,x.N)
def DV(B:Nat)(l:List (ot×Value)):Pred:=λv k=>∃b,v= .map (some b)/\B<=b/\qY kK b l k
instance{B:Nat}{l:List (ot×Value)}:aZ (DV B l):=⟨λg ⟨b,e,h,m⟩=>⟨b,e,h,m.keep (Chg.of (F:=noF) g) λf=>f⟩⟩
theorem Kz{B:Nat}{e:TypeId}{xs:List gY}{v:Value}{k:K}(h:ah B e xs v k):v.cells=#[v]:=by rcases h with⟨rfl,_⟩|⟨_,rfl,_⟩|⟨_,_,_,_,_,rfl,_⟩<;>rfl
theorem TV{k:K}{v0 v1 v2 v3 v4:Value}{d:dS}{bl bt:Nat}{h:Value}(e0:v0= .int .i64 d.counter)(e1:v1= .map (some bl))(e2:v2=h)(e3:v3= .int .i64 d.sent)(e4:v4= .map (some bt))(hc:h.cells=#[h])(ho:h.oneCell'=true):∃v,(∀w,(Instr.build 146 #[(0,v0),(1,v1),(2,v2),(3,v3),(4,v4)]).run Tryz.prog w= .ok v w)/\IsV (⟨qT d bl bt h⟩:dt 5) v k:=by subst e0 e1 e2 e3 e4;refine⟨.agg #[.int .i64 d.counter, .map (some bl),v2, .int .i64 d.sent, .map (some bt)],λw=>?_,Uu rfl (by simp[qT];exact⟨rfl,rfl,ho,rfl,rfl⟩)⟩;have c1:(Value.int .i64 d.counter).cells=#[.int .i64 d.counter]:=rfl;have c2:(Value.map (some bl)).cells=#[.map (some bl)]:=rfl;have c3:(Value.map (some bt)).cells=#[.map (some bt)]:=rfl;have c4:(Value.int .i64 d.sent).cells=#[.int .i64 d.sent]:=rfl;simp[Instr.build,Instr.fill,jF,c1,c2,c3,c4,hc]
structure CpI (k0:K)(d:dS)(b bl bt:Nat)(h:Value)(T:List LT)(es:Array MapEntry)(clk:Nat)(R:List LT)(r:Nat)(seen:Array Nat)(c0:Nat)(b' bl' bt':Nat)(h':Value)(Lc:List (ByteArray×aG))(Tc:List LT)(a:Act)(k:K):Prop where
 bs:Bs noF k0 47 a k
 D:bu d b bl bt h T k
 it:a.get 32= .pointer (some ⟨r,0,none⟩)at_:kh r bl clk seen c0 k
 le:clk<=c0
 hh:k.w.heap[bl]?=some (.map es clk)left:(leftOf es seen).toList.map (λe=>(e.key,e.val))=R.map (λt=>(kS t.1,aw t.2.1))sub:∀t∈R,t∈T
 i3:Is (aw b') (a.get 3) k
 N:bu {d with L:=Lc} b' bl' bt' h' Tc k
 lo:Lo k0 (DF b' bl' bt' h' Tc)perm:(Lc++R.map lcv).Perm (T.map lcv)nr:¬DF b' bl' bt' h' Tc r
 lr:k0.w.heap.size<=r
theorem Hb{k0:K}{d:dS}{b bl bt:Nat}{h:Value}{T:List LT}(D:bu d b bl bt h T k0)(hl:d.out.length<=1073741824):
    Calls Tryz.prog 58 #[aw b] k0.w (cr noF k0 λv k=>∃L',L'.Perm d.L/\o5 k0 (some {d with L:=L'}) v k):=by
 have hlt0:∀c,DF b bl bt h T c->c<k0.w.heap.size:=D.lt;have eL0:=D.eL;refine cO Tryz.func58 rfl Tryz.ntmps58 (show 1<=47 by decide) λa k hk0 hs hd ha=>?_;obtain⟨e0,_⟩:=ha;have i0:Is (aw b) (a.get 0) k:=e0;have hQ:Gb.LetsOut (bodyPost Tryz.prog Tryz.f58 (cr noF k0 λv k=>∃L',L'.Perm d.L/\o5 k0 (some {d with L:=L'}) v k)):=ch;have hg:Chg noF k0 k:=by rw[hk0];exact Chg.refl _ k0
 replace D:bu d b bl bt h T k:=by rw[hk0];exact D
 clear e0;refine aK 1 (⟨some (Is (.pointer none)),[]⟩::[]) rfl ⟨hg,hs,hd⟩ (by kernel_rfl) ⟨ob1 rfl λb q h n=>aQ rfl rfl,trivial⟩ [⟨_,_⟩,DX d b bl bt h T] (λb q p=>⟨p.ke 0 rfl i0,D.grow p.grow,trivial⟩) ?_;clear i0 D hg hs hd;rintro a k ⟨⟨hg,hs,hd⟩,i0,D,_⟩;replace D:bu d b bl bt h T k:=D;have hk:=hg.size;refine wp_seq ?_;refine cut (λa' k'=>∃b' bl' bt' h',Bs noF k0 47 a' k'/\Is (aw b) (a'.get 0) k'/\Is (aw b') (a'.get 3) k'/\bu d b bl bt h T k'/\bu {d with L:=[]} b' bl' bt' h' [] k'/\Lo k0 (DF b' bl' bt' h' [])) ?_ hQ ?_
 .intro Q1 W1 w1;have ld:∀{a':Act} {q:K},True:=λ {_ _}=>trivial;refine region (a0:=a) (k0:=k) (n:=47) (m:=19) (_::⟨some (Is (aw b)),[(7,some 0)]⟩::⟨some (cw b 0),[(8,some 1)]⟩::⟨some (IsV d.counter),[(9,some 2)]⟩::⟨some (Di k.w.heap.size),[]⟩::_::⟨some (Is (aw b)),[(12,some 5)]⟩::⟨some (cw b 2),[(13,some 6)]⟩::⟨some (bC h 0 187 d.out),[(14,some 7)]⟩::⟨some (ah k.w.heap.size 187 d.out),[(15,some 8)]⟩::_::⟨some (Is (aw b)),[(17,some 10)]⟩::⟨some (cw b 3),[(18,some 11)]⟩::⟨some (IsV d.sent),[(19,some 12)]⟩::_::⟨some (Is (aw b)),[(21,some 14)]⟩::⟨some (cw b 4),[(22,some 15)]⟩::⟨some (Is (.map (some bt))),[(23,some 16)]⟩::⟨some (DV k.w.heap.size (d.taken.map tkv)),[(24,some 17)]⟩::[]) lS hs (by kernel_rfl) ⟨mu rfl i0,ob1 rfl λ _ _ g n=>aO rfl ⟨_,n.1⟩ n.1,ob1 rfl λ _ _ g n=>aV rfl QG n.1,ob1 rfl λ _ _ g n=>Gl rfl MF n.1 (D.grow g).box rfl,ob1 rfl λ _ _ g n=>He g.size rfl,mu rfl i0,ob1 rfl λ _ _ g n=>aO rfl ⟨_,n.1⟩ n.1,ob1 rfl λ _ _ g n=>aV rfl PD n.1,ob1 rfl λ _ _ g n=>lA (bV rfl Tz n.1 (D.grow g).box rfl) λv k' g' hv=>⟨hv,by rw[show v=h from hv];exact aZ.mono (g.trans g') D.out⟩,ob1 rfl λ _ _ g n=>lA (bU rfl Tryz.call98 (KY n.1.2.rd hl)) λv k' g' hv=>hv.weaken g.size,mu rfl i0,ob1 rfl λ _ _ g n=>aO rfl ⟨_,n.1⟩ n.1,ob1 rfl λ _ _ g n=>aV rfl QJ n.1,ob1 rfl λ _ _ g n=>Gl rfl MF n.1 (D.grow g).box rfl,mu rfl i0,ob1 rfl λ _ _ g n=>aO rfl ⟨_,n.1⟩ n.1,ob1 rfl λ _ _ g n=>aV rfl Qo n.1,ob1 rfl λ _ _ g n=>bV rfl SM n.1 (D.grow g).box rfl,ob1 rfl λa' q g n=>lA (bU (R:=DV q.w.heap.size (d.taken.map tkv)) rfl Tryz.call99 (by show Calls Tryz.prog 99 #[a'.eval (.tmp 24)] _ _;rw[show a'.eval (.tmp 24)= .map (some bt)from n.1];exact G5 (D.grow g).mt)) λv k' g' hv=>by obtain⟨c,e,hc,m⟩:=hv;exact⟨c,e,bB g.size hc,m⟩,trivial⟩ W1 λb1 q p=>?_;have hsb:=p.size.trans hs;obtain⟨bl',e11,lol,shl,hhl⟩:Di k.w.heap.size (b1.get 11) q:=p.ou 4 11 rfl;have j16:ah k.w.heap.size 187 d.out (b1.get 16) q:=p.ou 9 16 rfl;obtain⟨bt',e25,lot,mt'⟩:DV k.w.heap.size (d.taken.map tkv) (b1.get 25) q:=p.ou 18 25 rfl;have e10:b1.get 10= .int .i64 d.counter:=au.1 (show IsV d.counter (b1.get 10) q from p.ou 3 10 rfl);have e20:b1.get 20= .int .i64 d.sent:=au.1 (show IsV d.sent (b1.get 20) q from p.ou 13 20 rfl);have l0:b1.get 0=aw b:=(p.old 0 rfl).trans i0;have nlt:bl'≠bt':=λe=>mt'.own (e▸shl);have gr:bE k (q.vV bl'):=p.grow.vV lol;have hgq:=hg.then gr;have Dq:=D.grow gr;have ml':lN kS bl' [] (q.vV bl'):=Di.free kS hhl;have ho':ah k.w.heap.size 187 d.out (b1.get 16) (q.vV bl'):=j16.vV;have mt2:qY kK bt' (d.taken.map tkv) (q.vV bl'):=mt'.vV;have nlo:¬obF (b1.get 16) bl':=λhc=>j16.jl bl' hc shl;show wpOps _ _ _ _ _ (q.vV bl').w;generalize q.vV bl'=q at hgq Dq ml' ho' mt2 gr;generalize hu:b1.get 16=h' at ho' nlo;have lo':∀c,obF h' c->k.w.heap.size<=c:=ho'.loF;refine bL (i:=19) (d:=26) rfl rfl rfl (by rw[hsb];decide) W1 (fF (ps:=[(0, .tmp 10),(1, .tmp 11),(2, .tmp 16),(3, .tmp 20),(4, .tmp 25)]) (x:=(⟨qT {d with L:=[]} bl' bt' h'⟩:dt 5)) rfl (TV (d:={d with L:=[]}) e10 e11 hu e20 e25 (Kz ho') (sJ ho'))) λb2 q2 hsz2 hdf2 hoth2 hgr2 h26=>?_;refine bL (i:=20) (d:=27) rfl rfl rfl (by rw[hsz2,hsb];decide) W1 (AX (x:=(⟨qT {d with L:=[]} bl' bt' h'⟩:dt 5)) q2.w.heap.size (aA _) rfl h26) λb3 q3 hsz3 hdf3 hoth3 hgr3 h27=>?_;obtain⟨b',e27,lob,zb⟩:=h27;refine dg (i:=21) (d:=3) rfl rfl (.inl rfl) rfl (by rw[hsz3,hsz2,hsb];decide) λb4 hsz4 hdf4 e3 hoth4=>?_;have g23:=hgr2.trans hgr3;have s2:=hgr2.size;have ltl:=ml'.lt;have ltt:=mt2.lt;have sz:=gr.size
  have N:bu {d with L:=[]} b' bl' bt' h' [] q3:=by
   refine⟨zb,ml'.grow g23,by simp,aZ.mono g23 (ho'.weaken (bY _)),mt2.keep (Chg.of (F:=noF) g23) (λf=>f),rfl,by simp,?_,λc hc hoc=>?_⟩;·simp only[dbl,ir,gv,bD,pj,or_false,not_or,not_false_eq_true,List.nodup_nil,and_true];exact⟨⟨by omega,by omega⟩,nlt⟩
   · simp only[dbl,ir,bD,pj,or_false]at hc;rcases hc with rfl|rfl|rfl;.have:=ho'.ltF _ hoc;omega
     .exact nlo hoc
     .exact Py ho' mt2 hoc
  refine aj (k:=q3) (w1 _ _ ⟨b',bl',bt',h',⟨hgq.then g23,by rw[hsz4,hsz3,hsz2,hsb],by rw[hdf4,hdf3,hdf2,p.defers,hd]⟩,(hoth4 0 (by decide)).trans ((hoth3 0 (by decide)).trans ((hoth2 0 (by decide)).trans l0)),e3.trans e27,Dq.grow g23,N,?_⟩);rintro c (hc|hc);·simp only[dbl,ir,bD,pj,or_false]at hc;rcases hc with rfl|rfl|rfl<;>omega
  .have:=lo' c hc;omega
 clear i0 D hg hs hd;rintro a k ⟨b',bl',bt',h',⟨hg,hs,hd⟩,i0,i3,D,N,hlo⟩;replace i3:Is (aw b') (a.get 3) k:=i3;obtain⟨es,clk,hh,hes,hb1,hb2⟩:=D.ml.is;have hblt:=D.ml.lt;have hk1:=hg.size;refine wp_seq ?_;refine aK 5 (_::⟨some (Is (aw b)),[(28,some 0)]⟩::⟨some (cw b 1),[(29,some 1)]⟩::⟨some (Is (.map (some bl))),[(30,some 2)]⟩::⟨some (zE k.w.heap.size bl clk),[(31,some 3)]⟩::[]) rfl ⟨hg,hs,hd⟩ (by kernel_rfl) ⟨mu rfl i0,ob1 rfl λ _ _ g n=>aO rfl ⟨_,n.1⟩ n.1,ob1 rfl λ _ _ g n=>aV rfl vK n.1,ob1 rfl λ _ _ g n=>bV rfl yp n.1 (D.grow g).box rfl,ob1 rfl λ _ _ g n=>uF (es:=es) g.size rfl Tryz.underlying142 n.1 (by rw[g.blk bl hblt];exact hh),trivial⟩ [⟨3,Is (aw b')⟩,⟨32,zE k.w.heap.size bl clk⟩,⟨0,λ _ q=>bu d b bl bt h T q/\bu {d with L:=[]} b' bl' bt' h' [] q/\q.w.heap[bl]?=some (.map es clk)⟩] (λb1 q p=>⟨p.ke 3 rfl i3,p.ou 4 32 rfl,⟨D.grow p.grow,N.grow p.grow,by rw[p.grow.blk bl hblt];exact hh⟩,trivial⟩) ?_;have hNlt:=N.lt;clear i0 D hg hs hd hh i3 N;rintro a k1 ⟨⟨hg,hs,hd⟩,i3,⟨r,e32,lor,It⟩,⟨D,N,hh⟩,_⟩;refine cut (λa' k'=>∃Lc Tc,Bs noF k0 47 a' k'/\Is (aw b') (a'.get 3) k'/\bu {d with L:=Lc} b' bl' bt' h' Tc k'/\Lo k0 (DF b' bl' bt' h' Tc)/\Lc.Perm (T.map lcv)) ?_ hQ ?_
 .intro Q1 W1 w1;refine wp_block ?_;refine sj (λm a k=>∃R seen c0 Lc Tc,m=R.length/\CpI k0 d b bl bt h T es clk R r seen c0 b' bl' bt' h' Lc Tc a k) ⟨_,T,#[],clk,[],[],rfl,⟨⟨hg,hs,hd⟩,D,e32,It,aA _,hh,?_,λ _ h=>h,i3,N,hlo,by simp,λhc=>by have:=hNlt r hc;omega,by omega⟩⟩ ?_
  · have:(leftOf es #[]).toList=es.toList:=by unfold leftOf;simp
    rw[this,hes,dX];rfl
  clear hg hs hd i3 e32 It D hh N hlo hNlt;rintro m a k ⟨R,seen,c0,Lc,Tc,rfl,I⟩;obtain⟨⟨hg,hs,hd⟩,D,e32,It,hle,hh,hleft,hsub,i3,N,hlo,hperm,hnN,hlr⟩:=I;have hnD:¬DF b bl bt h T r:=λhc=>by have:=hlt0 r hc;omega
  have hapD:bj (DF b bl bt h T) (DF b' bl' bt' h' Tc):=λc hc e=>by have:=hlt0 c hc;have:=hlo c e;omega
  refine wp_seq ?_;have hnb:¬r=bl:=λe=>hnD (.inl (e▸oL));have hRl:R.length=(leftOf es seen).toList.length:=by have:=congrArg List.length hleft;simp at this;simp;omega
  refine cut (λa' k'=>(IsV false (a'.get 34) k'/\R=[]/\Bs noF k0 47 a' k'/\Is (aw b') (a'.get 3) k'/\bu {d with L:=Lc} b' bl' bt' h' Tc k')∨(IsV true (a'.get 34) k'/\∃(i:Nat) (hi:i<(leftOf es seen).toList.length),Bs noF k0 47 a' k'/\bu d b bl bt h T k'/\a'.get 32= .pointer (some ⟨r,0,none⟩)/\kh r bl clk (seen.push ((leftOf es seen).toList[i]).born) clk k'/\k'.w.heap[bl]?=some (.map es clk)/\Is (aw b') (a'.get 3) k'/\bu {d with L:=Lc} b' bl' bt' h' Tc k')) ?_ trivial ?_
  .intro Q2 W2 w2;refine gS 0 [] hs (by kernel_rfl) trivial W2 λb1 q p=>?_;have hgq:=hg.then p.grow;have hsb:=p.size.trans hs;have Dq:=D.grow p.grow;have Nq:=N.grow p.grow;have e3:b1.get 3=aw b':=(p.old 3 rfl).trans i3;have hhq:q.w.heap[bl]?=some (.map es clk):=by rw[p.grow.blk bl D.ml.lt];exact hh
   refine q9 (ty:=0) (i:=0) (d:=33) rfl rfl rfl rfl (by rw[hsb];decide) (show b1.get 32=_ from(p.old 32 rfl).trans e32) (It.grow p.grow) hhq hb1 hle (λh0 b2 hsz2 hdf2 e11 hoth2=>?_) (λe he b2 q2 hsz2 hdf2 e11 hoth2 hch2 It2=>?_);·refine bL (i:=1) (d:=34) rfl rfl rfl (by rw[hsz2,hsb];decide) W2 (dV (x:= .tmp 33) rfl (show b2.get 33=_ from e11) rfl) λb3 q3 hsz3 hdf3 hoth3 hgr3 h12=>?_;refine aj (k:=q3) (w2 _ _ (.inl ⟨aE.2 h12,?_,⟨hgq.then hgr3,by rw[hsz3,hsz2,hsb],by rw[hdf3,hdf2,p.defers,hd]⟩,(hoth3 3 (by decide)).trans ((hoth2 3 (by decide)).trans e3),Nq.grow hgr3⟩));exact iA (by rw[hRl,iE];exact h0)
   · obtain⟨i,hi,rfl⟩:=br he;have hns:∀c,r=c->¬q.sh c:=λc e=>e▸(It.grow p.grow).own;have D2:=Dq.keep hch2 (λc hc e=>hnD (e▸hc)) hns;have N2:=Nq.keep hch2 (λc hc e=>hnN (e▸hc)) hns;have hh2:q2.w.heap[bl]?=some (.map es clk):=by rw[hch2.blk bl Dq.ml.lt hnb];exact hhq
     refine bL (i:=1) (d:=34) rfl rfl rfl (by rw[hsz2,hsb];decide) W2 (dV (x:= .tmp 33) rfl (show b2.get 33=_ from e11) rfl) λb3 q3 hsz3 hdf3 hoth3 hgr3 h12=>?_;exact aj (k:=q3) (w2 _ _ (.inr ⟨aE.2 h12,i,hi,⟨(hgq.step hch2 (λc e=> .inr (e▸hlr))).then hgr3,by rw[hsz3,hsz2,hsb],by rw[hdf3,hdf2,p.defers,hd]⟩,D2.grow hgr3,(hoth3 32 (by decide)).trans ((hoth2 32 (by decide)).trans ((p.old 32 rfl).trans e32)),It2.grow hgr3,by rw[hgr3.blk bl D2.ml.lt];exact hh2,(hoth3 3 (by decide)).trans ((hoth2 3 (by decide)).trans e3),N2.grow hgr3⟩))
  clear hg hs hd D e32 It hh i3 N;rintro a k (⟨i34,rfl,hB,i3,N⟩|⟨i34,i,hi,⟨hg,hs,hd⟩,D,e32,It,hh,i3,N⟩);·refine wp_seq ?_;refine wp_cond_split (isBool i34) (λhc=>by cases hc) (λ _=>?_);refine wp_exit (gw (gw (qR (w1 _ _ ⟨Lc,Tc,hB,i3,N,hlo,by simpa using hperm⟩))))
  .refine wp_seq ?_;refine wp_cond_split (isBool i34) (λ _=>?_) (λhc=>by cases hc);refine wp_skip ?_;refine wp_block ?_;have hiR:i<R.length:=by omega
   have hfl:∀e∈(leftOf es seen).toList,e∈es.toList:=by intro e he;unfold leftOf at he;rw[pZ]at he;exact(bQ.1 he).1
   have hin:=hfl _ (aN hi);have hpair:((leftOf es seen).toList[i].key,(leftOf es seen).toList[i].val)=(kS R[i].1,aw R[i].2.1):=by have:=congrArg (.[i]?) hleft;simp only[nX]at this;rw[bZ hi,bZ hiR]at this;simpa using this
   have hpush:=rj es seen i hi hb2;generalize he:(leftOf es seen).toList[i]=e at hin hpair hpush It;obtain⟨ekey,eval_⟩:=Prod.mk.inj hpair;have hRi:=hsub _ (aN hiR);have hpe:=(wU lcv R i hiR Lc).trans hperm;have hleft':(leftOf es (seen.push e.born)).toList.map (λe=>(e.key,e.val))=(R.eraseIdx i).map (λt=>(kS t.1,aw t.2.1)):=by rw[hpush,sn,hleft,sn]
   have hsub':∀t∈R.eraseIdx i,t∈T:=λt ht=>hsub t (List.mem_of_mem_eraseIdx ht);have hlen':(R.eraseIdx i).length<R.length:=by rw[rL hiR];omega
   have hgL:bz Lc R[i].1=none:=by have hn:=D.nk;have hp2:=(hpe.map (·.1)).nodup_iff.2 (by rw[dX];exact hn);rw[gb,gb]at hp2;have:=(ru.1 (ru.1 hp2).1).2.2;cases hg:bz Lc R[i].1 with|none=>rfl;|some y=>exact absurd rfl (this _ (List.mem_map_of_mem (rB hg)) R[i].1 (by simp[lcv]))
   generalize ht:R[i]=t at hRi ekey eval_ hpe hgL;have hgT:bz Tc t.1=none:=by have:=N.Mp (cap:=t.1);cases hT:bz Tc t.1 with|none=>rfl;|some y=>rw[hT]at this;rw[show({d with L:=Lc}:dS).L=Lc from rfl,hgL]at this;simp at this
   have i32:Is (.pointer (some ⟨r,0,none⟩)) (a.get 32) k:=e32;refine aK 5 (⟨some (Is (.tuple #[e.key,e.val])),[(32,none)]⟩::⟨some (Is (kS t.1)),[(35,some 0)]⟩::⟨some (Is (aw t.2.1)),[(35,some 0)]⟩::_::_::[]) rfl ⟨hg,hs,hd⟩ (by kernel_rfl) ⟨ob1 rfl λa' k' g n=>um rfl (show a'.get 32=_ by rw[show a'.get 32=a.get 32 from n.1];exact e32) (It.grow g) (by rw[g.blk bl D.ml.lt];exact hh) hin hb2,ob1 rfl λa' _ g n=>by rw[<-ekey];exact dV rfl n.1 rfl,ob1 rfl λa' _ g n=>by rw[<-eval_];exact dV rfl n.1 rfl,cp 1 rfl rfl,cp 2 rfl rfl,trivial⟩ [⟨3,Is (aw b')⟩,⟨4,Is (kS t.1)⟩,⟨5,Is (aw t.2.1)⟩,⟨32,Is (.pointer (some ⟨r,0,none⟩))⟩,⟨0,λ _ q=>bu d b bl bt h T q/\kh r bl clk (seen.push e.born) clk q/\q.w.heap[bl]?=some (.map es clk)/\bu {d with L:=Lc} b' bl' bt' h' Tc q⟩] (λb1 q p=>⟨p.ke 3 rfl i3,p.ou 3 4 rfl,p.ou 4 5 rfl,p.ke 32 rfl i32,⟨D.grow p.grow,It.grow p.grow,by rw[p.grow.blk bl D.ml.lt];exact hh,N.grow p.grow⟩,trivial⟩) ?_;clear i3 i32 D It hh hg hs hd e32 N i34;rintro a k ⟨⟨hg,hs,hd⟩,i3,i4,i5,i32,⟨D,It,hh,N⟩,_⟩;refine wp_seq ?_;refine cut (λa' k'=>∃b6,Bs noF k0 47 a' k'/\Is (aw b') (a'.get 3) k'/\Is (kS t.1) (a'.get 4) k'/\Is (aw b6) (a'.get 6) k'/\Is (.pointer (some ⟨r,0,none⟩)) (a'.get 32) k'/\bu d b bl bt h T k'/\kh r bl clk (seen.push e.born) clk k'/\k'.w.heap[bl]?=some (.map es clk)/\bu {d with L:=Lc} b' bl' bt' h' Tc k'/\Gb.Box b6 t.2.2 k'/\¬DF b' bl' bt' h' Tc b6/\k0.w.heap.size<=b6/\¬b6=r) ?_ trivial ?_
   .intro Q2 W2 w2;refine gS 4 (_::⟨some (Is (aw t.2.1)),[(38,some 0)]⟩::⟨some (IsV t.2.2),[(39,some 1)]⟩::⟨some (gV k.w.heap.size (⟨⟨#[]⟩,0,0,0⟩:aG)),[]⟩::[]) hs (by kernel_rfl) ⟨mu rfl i5,ob1 rfl λ _ _ g n=>aO rfl ⟨_,n.1⟩ n.1,ob1 rfl λa' _ g n=>aR rfl Mq (by rw[show a'.eval (.tmp 39)=aw t.2.1 from n.1];exact⟨_,rfl,((D.bx _ hRi).grow g).at⟩),ob1 rfl λ _ _ h n=>gu _ h.size rfl z87,trivial⟩ W2 λb1 q p=>?_;have hgq:=hg.then p.grow;have hsb:=p.size.trans hs;have Dq:=D.grow p.grow;have Nq:=N.grow p.grow;have Itq:=It.grow p.grow;have hhq:q.w.heap[bl]?=some (.map es clk):=by rw[p.grow.blk bl D.ml.lt];exact hh
    have j40:IsV t.2.2 (b1.get 40) q:=p.ou 2 40 rfl;obtain⟨b6,e6,lo6,z6⟩:(gV k.w.heap.size (⟨⟨#[]⟩,0,0,0⟩:aG)) (b1.get 6) q:=p.ou 3 6 rfl;have n6N:¬DF b' bl' bt' h' Tc b6:=λhc=>by have:=N.lt b6 hc;omega
    have n6D:¬DF b bl bt h T b6:=λhc=>by have:=D.lt b6 hc;omega
    have n6r:¬b6=r:=λe=>by have:=It.lt;omega
    have n6b:¬b6=bl:=λe=>n6D (.inl (e▸oL));have l6:k0.w.heap.size<=b6:=bB hg.size lo6;have hns:=z6.jl;refine cG (i:=4) rfl rfl rfl rfl Ru (Upd.self (α:=aG)) e6 z6 j40 λq2 hch hz=>?_;exact aj (k:=q2) (w2 _ _ ⟨b6,⟨hgq.step hch (λc e=> .inr (e▸l6)),hsb,p.defers.trans hd⟩,(p.old 3 rfl).trans i3,(p.old 4 rfl).trans i4,e6,(p.old 32 rfl).trans i32,Dq.keep hch (λc hc e=>n6D (e▸hc)) hns,Itq.keep hch n6r,by rw[hch.blk bl Dq.ml.lt n6b];exact hhq,Nq.keep hch (λc hc e=>n6N (e▸hc)) hns,hz,n6N,l6,n6r⟩)
   clear i3 i4 i5 i32 D It hh hg hs hd N;rintro a k ⟨b6,⟨hg,hs,hd⟩,i3,i4,i6,i32,D,It,hh,N,z6,n6N,l6,n6r⟩;refine gS 5 (_::⟨some (Is (aw b')),[(41,some 0)]⟩::⟨some (cw b' 1),[(42,some 1)]⟩::⟨some (Is (.map (some bl'))),[(43,some 2)]⟩::_::[]) hs (by kernel_rfl) ⟨mu rfl i3,ob1 rfl λ _ _ g n=>aO rfl ⟨_,n.1⟩ n.1,ob1 rfl λ _ _ g n=>aV rfl vK n.1,ob1 rfl λ _ _ g n=>bV rfl yp n.1 (N.grow g).box rfl,mu rfl i4,trivial⟩ trivial λb1 q p=>?_;have hgq:=hg.then p.grow;have hsb:=p.size.trans hs;have Dq:=D.grow p.grow;have Nq:=N.grow p.grow;have Itq:=It.grow p.grow;have z6q:=z6.grow p.grow;have hhq:q.w.heap[bl]?=some (.map es clk):=by rw[p.grow.blk bl D.ml.lt];exact hh
   have j44:b1.get 44= .map (some bl'):=(show Is (.map (some bl')) (b1.get 44) q from p.ou 3 44 rfl);have j45:b1.get 45=kS t.1:=(show Is (kS t.1) (b1.get 45) q from p.ou 4 45 rfl);have j6:b1.get 6=aw b6:=(p.old 6 rfl).trans i6;refine oI (i:=5) rfl rfl rfl rfl Jx Tryz.underlying142 j44 j45 Nq.ml λq2 hch hsz hm=>?_;rw[show b1.eval (.tmp 6)=aw b6 from j6]at hm;have N2:=Nq.lay hgT z6q n6N hch hm;have lbl:k0.w.heap.size<=bl':=hlo bl' (.inl oL);have nbD:¬DF b bl bt h T bl':=λhc=>by have:=hlt0 bl' hc;omega
   have hns:∀c,bl'=c->¬q.sh c:=λc e=>e▸Nq.ml.own;have D2:=Dq.keep hch (λc hc e=>nbD (e▸hc)) hns;have nr':¬bl'=r:=λe=>hnN (.inl (e▸oL));have It2:=Itq.keep hch nr';have hh2:q2.w.heap[bl]?=some (.map es clk):=by rw[hch.blk bl Dq.ml.lt (λe=>nbD (.inl (e▸oL)))];exact hhq
   have eN:({({d with L:=Lc}:dS)with L:=dQ Lc t.1 t.2.2}:dS)={d with L:=Lc++[lcv t]}:=by rw[sa t.2.2 hgL];rfl
   refine aj (k:=q2) (⟨_,q2,rfl,hlen',R.eraseIdx i,seen.push e.born,clk,Lc++[lcv t],Tc++[(t.1,b6,t.2.2)],rfl,⟨⟨hgq.step hch (λc e=> .inr (e▸lbl)),hsb,p.defers.trans hd⟩,D2,(p.old 32 rfl).trans i32,It2,aA _,hh2,hleft',hsub',(p.old 3 rfl).trans i3,eN▸N2,?_,hpe,?_,hlr⟩⟩:∃m k',k'.w=q2.w/\m<R.length/\∃R seen c0 Lc Tc,m=R.length/\CpI k0 d b bl bt h T es clk R r seen c0 b' bl' bt' h' Lc Tc b1 k')
   · intro c hc;rcases Ik hc with hc|rfl;.exact hlo c hc
     .exact l6
   · intro hc;rcases Ik hc with hc|e;.exact hnN hc
     .exact n6r e.symm
 clear hg hs hd i3 e32 It D hh N hlo hNlt;rintro a k ⟨Lc,Tc,⟨hg,hs,hd⟩,i3,N,hlo,hperm⟩;refine aK 2 (_::_::[]) rfl ⟨hg,hs,hd⟩ (by kernel_rfl) ⟨mu rfl i3,cp 0 rfl rfl,trivial⟩ [⟨2,Is (aw b')⟩,⟨0,λ _ q=>bu {d with L:=Lc} b' bl' bt' h' Tc q⟩] (λb1 q p=>⟨p.ou 1 2 rfl,N.grow p.grow,trivial⟩) ?_;clear hg hs hd i3 N;rintro a k ⟨⟨hg,hs,hd⟩,i2,N,_⟩;refine wp_ret ?_;refine cZ rfl hd hg (show gg _ _ _ (.tmp 2) (λv k=>∃L',L'.Perm d.L/\o5 k0 (some {d with L:=L'}) v k)from⟨Lc,by rw[eL0];exact hperm,_,?_,hlo⟩);rw[show a.get 2=aw b' from i2];exact bu.r (d:={d with L:=Lc}) N
structure DC where
 counter:Int
 L:List aG
 out:List gY
 sent:Int
 taken:List (ot×Bool)deriving Inhabited,DecidableEq
def jT:List aG->ByteArray->Option aG|[],_=>none|x::l,e=>if x.Cap=e then some x else jT l e
def s6(l:List aG)(e:ByteArray)(y:aG):List aG:=l.map λx=>if x.Cap=e then y else x
def Sor(l:List aG):Prop:=l.Pairwise λa b=>bLt a.Cap b.Cap=true
theorem yd{l:List aG}(h:Sor l):(l.map (·.Cap)).Nodup:=by unfold List.Nodup;rw[List.pairwise_map];refine List.Pairwise.imp (λ {a b}h e=>?_) h;rw[e,p9]at h;cases h
theorem mq:∀{l:List aG}{f:ByteArray}{x:aG},jT l f=some x->x∈l/\x.Cap=f
 |y::l,f,x,h=>by
  simp[jT]at h;split at h;.rename_i e;obtain rfl:=ae h;exact⟨by simp,e⟩
  .exact⟨bR _ (mq h).1,(mq h).2⟩
theorem C7:∀{l:List aG}{f:ByteArray},jT l f=none->∀x∈l,¬x.Cap=f
 |y::l,f,h,x,g=>by
  simp[jT]at h;split at h;.cases h
  · rename_i e;rcases bD.1 g with rfl|g;.exact e
    .exact C7 h x g
theorem J6:∀{l:List aG}{x:aG},(l.map (·.Cap)).Nodup->x∈l->jT l x.Cap=some x
 |y::l,x,f,h=>by
  simp[cf]at f;simp[jT];split;.grind
  · rename_i e;rcases bD.1 h with rfl|h;.exact absurd rfl e
    .exact J6 f.2 h
theorem CY{l:List (ByteArray×aG)}{f:ByteArray}{x:aG}(g:(l.map (·.1)).Nodup):bz l f=some x↔(f,x)∈l:=by induction l with|nil=>simp[bz];|cons p l m=>simp[bz];grind
structure Inv(c:DC):Prop where
 so:Sor c.L
 len:c.L.length<=30cn:0<=c.counter/\c.counter<=7le:∀x∈c.L,x.Counter=c.counter/\0<=x.Used/\x.Used<=x.Held/\x.Held<=1099511627776ou:∀p∈c.out,p.From=c.counter/\1<=p.Number/\p.Number<=c.sent/\1<=p.N/\p.N<=1099511627776/\0<=p.To/\p.To<=7/\¬p.To=c.counter
 os:c.out.Pairwise λa b=>a.Number<b.Number
 ol:(c.out.length:Int)<=c.sent
 se:0<=c.sent/\c.sent<=1000000
structure Can(d:dS)(c:DC):Prop where
 n:d.counter=c.counter
 o:d.out=c.out
 s:d.sent=c.sent
 t:d.taken=c.taken
 p:(d.L.map (·.2)).Perm c.L
 k:∀p∈d.L,p.1=p.2.Cap
 i:Inv c
theorem Can.vX{d:dS}{c:DC}(h:Can d c):d.L.map (·.1)=(d.L.map (·.2)).map (·.Cap):=by rw[dX];exact nH λp e=>h.k p e
theorem Can.nk{d:dS}{c:DC}(h:Can d c):(d.L.map (·.1)).Nodup:=by rw[h.vX];exact(h.p.map (·.Cap)).nodup_iff.2 (yd h.i.so)
theorem Can.get{d:dS}{c:DC}(h:Can d c)(f:ByteArray):bz d.L f=jT c.L f:=by cases j:jT c.L f with|some x=>have⟨h1,g⟩:=mq j;have⟨p,m,e⟩:=aM.1 (h.p.mem_iff.2 h1);rw[CY h.nk];have:=h.k p m;grind;|none=>cases hk:bz d.L f with|none=>rfl;|some x=>have h1:=(CY h.nk).1 hk;exact absurd (h.k _ h1).symm (C7 j x (h.p.mem_iff.1 (aM.2 ⟨_,h1,rfl⟩)))
theorem Qg{l:List (ByteArray×aG)}{f:ByteArray}{y x:aG}(j:(l.map (·.1)).Nodup)(h:bz l f=some x):dQ l f y=l.map λp=>if p.1=f then(f,y)else p:=by induction l with|nil=>simp[bz]at h;|cons p l q=>
 simp only[cf,gv,aM,not_exists,not_and]at j;simp[bz]at h;simp[dQ];split at h;.rename_i e;subst e;rw[if_pos rfl,if_pos rfl];congr 1;refine(nH λp u=>?_).symm▸(List.map_id l).symm;rw[if_neg (λe=>j.1 p u e)];rfl
 grind
theorem Mw{l:List aG}{f:ByteArray}{x y:aG}(h:x∈s6 l f y):(x=y/\∃z∈l,z.Cap=f)∨(x∈l/\¬x.Cap=f):=by unfold s6 at h;grind
theorem NH{l:List aG}{f:ByteArray}{y:aG}(h:Sor l)(g:y.Cap=f):Sor (s6 l f y):=by unfold Sor s6;rw[List.pairwise_map];refine List.Pairwise.imp (λ {a b}h=>?_) h;grind
theorem OQ{l:List aG}{e:ByteArray}{y:aG}:(s6 l e y).length=l.length:=by simp[s6]
theorem Can.set{d:dS}{c:DC}(h:Can d c){f:ByteArray}{x y:aG}(j:jT c.L f=some x)(m:y.Cap=f):(∀p∈dQ d.L f y,p.1=p.2.Cap)/\((dQ d.L f y).map (·.2)).Perm (s6 c.L f y):=by
 have hk:bz d.L f=some x:=by rw[h.get];exact j
 rw[Qg h.nk hk];constructor
 · intro p g;have⟨q,u,e⟩:=aM.1 g;subst e;split;.exact m.symm
   .exact h.k q u
 · rw[dX];have:(d.L.map ((λp:ByteArray×aG=>p.2)∘λp=>if p.1=f then(f,y)else p))=(d.L.map (·.2)).map λx=>if x.Cap=f then y else x:=by rw[dX];refine nH λp g=>?_;simp;rw[<-h.k p g];split<;>rfl
   rw[this];exact h.p.map _
theorem Inv.set{c:DC}(h:Inv c){e:ByteArray}{x y:aG}(u:jT c.L e=some x)(g:y.Cap=e)(j:y.Counter=c.counter)(m:0<=y.Used)(h1:y.Used<=y.Held)(q:y.Held<=1099511627776):Inv {c with L:=s6 c.L e y}:=⟨NH h.so g,by rw[OQ];exact h.len,h.cn,λz f=>by
 rcases Mw f with⟨rfl,_⟩|⟨f,_⟩;.exact⟨j,m,h1,q⟩
 .exact h.le z f,h.ou,h.os,h.ol,h.se⟩
def Qf{e:Type}(y:Option e)(n:Int):Int:=if 1<=n/\n<=1099511627776 then(if y.isNone then 4 else 0)else 1
def oA(c:DC)(e:ByteArray):Int:=match jT c.L e with|some x=>x.Held-x.Used|none=>0
def tZ(c:DC)(e:ByteArray)(n:Int):DC×Int:=if 1<=n/\n<=1099511627776 then match jT c.L e with|none=>(c,4)|some x=>if x.Held-x.Used<n then(c,26)else({c with L:=s6 c.L e {x with Used:=x.Used+n}},0)else(c,1)
def Rp(c:DC)(e:ByteArray)(f n:Int):Option (DC×gY×Int):=if(0<=f/\f<=7)/\¬f=c.counter then if 1<=n/\n<=1099511627776 then match jT c.L e with|none=>some (c,zP,4)|some x=>if x.Held-x.Used<n then some (c,zP,26)else if c.sent<1000000 then some ({c with L:=s6 c.L e {x with Held:=x.Held-n},sent:=c.sent+1,out:=c.out++[⟨e,c.counter,f,c.sent+1,n⟩]},⟨e,c.counter,f,c.sent+1,n⟩,0)else none else some (c,zP,1)else some (c,zP,1)
def tJ(n:Int)(l:List aG)(i:Nat):Bool:=match l[i]?with|some x=>x.Counter==n&&(decide (0<=x.Held)&&decide (x.Held<=1099511627776))&&(decide (0<=x.Used)&&decide (x.Used<=x.Held))&&(i==0||match l[i-1]?with|some y=>bLt y.Cap x.Cap|none=>false)|none=>false
def lT(n:Int)(l:List aG):Option DC×Int:=if(0<=n/\n<=7)/\l.length<=30/\(List.range l.length).all (tJ n l)=true then(some ⟨n,l,[],0,[]⟩,0)else(none,1)
theorem xP{a b:Int}(h:-9223372036854775808<=a-b/\a-b<=9223372036854775807):fi a b=some (a-b):=if_pos h
theorem Ek{a b:Int}(h:-9223372036854775808<=a+b/\a+b<=9223372036854775807):bh a b=some (a+b):=if_pos h
section
variable{d:dS}{c:DC}
theorem Nf(h:Can d c)(e:ByteArray):xj d e=some (oA c e):=by unfold xj oA;rw[h.get];cases f:jT c.L e with|none=>rfl;|some x=>have⟨m,_⟩:=mq f;have⟨_,g,h1,j⟩:=h.i.le x m;exact xP (by omega)
theorem CP(h:Can d c)(e:ByteArray)(n:Int):kz (bz d.L e) n=Qf (jT c.L e) n:=by unfold kz Qf;rw[h.get];grind
theorem Qv(h:Can d c)(e:ByteArray)(n:Int):∃m,Ai d e n=some (m,(tZ c e n).2)/\Can m (tZ c e n).1:=by
 unfold Ai tZ;rw[CP h,h.get];unfold Qf;by_cases q:1<=n/\n<=1099511627776;.simp[if_pos q];cases j:jT c.L e with|none=>exact⟨d,rfl,h⟩;|some x=>
  have⟨u,f⟩:=mq j;have⟨w,G,h1,z⟩:=h.i.le x u;simp;rw[xP (by omega),qb];by_cases g:x.Held-x.Used<n;.rw[if_pos g,if_pos g];exact⟨d,rfl,h⟩
  .rw[if_neg g,if_neg g,Ek (by omega)];have⟨E,F⟩:=h.set (y:={x with Used:=x.Used+n}) j f;exact⟨_,rfl,⟨h.n,h.o,h.s,h.t,F,E,h.i.set j f w (by show(0:Int)<=x.Used+n;omega) (by show x.Used+n<=x.Held;omega) z⟩⟩
 .simp only[if_neg q];exact⟨d,rfl,h⟩
theorem Vo(h:Can d c){j:ByteArray}{m n:Int}{r:DC×gY×Int}(e:Rp c j m n=some r):∃E,Gu d j m n=some (E,r.2)/\Can E r.1:=by
 unfold Rp at e;unfold Gu;rw[CP h,h.get,h.n,h.s,h.o];unfold Qf;by_cases f:(0<=m/\m<=7)/\¬m=c.counter
 · rw[if_pos f]at e;rw[if_neg (by simp[f])];by_cases w:1<=n/\n<=1099511627776;·simp only[if_pos w]at e⊢;cases u:jT c.L j with|none=>grind|some x=>
  rw[u]at e;dsimp only at e;obtain⟨H,g⟩:=mq u;obtain⟨I,J,h1,R⟩:=h.i.le x H;simp only[Option.isNone_some,mB,if_false,bne_self_eq_false];rw[xP (by omega),qb];by_cases F:x.Held-x.Used<n;·rw[if_pos F]at e⊢;grind
  · rw[if_neg F]at e⊢;by_cases G:c.sent<1000000
    · rw[if_pos G]at e;obtain rfl:=ae e;have se:=h.i.se;have ol:=h.i.ol;rw[xP (by omega),qb,Ek (by omega),qb];unfold eb;rw[if_pos (by simp;omega),qb];obtain⟨M,O⟩:=h.set (y:={x with Held:=x.Held-n}) u g;have z:=h.i.set (y:={x with Held:=x.Held-n}) u g I J (by show x.Used<=x.Held-n;omega) (by show x.Held-n<=1099511627776;omega);refine⟨_,rfl,⟨rfl,rfl,rfl,h.t,O,M,⟨z.so,z.len,z.cn,z.le,λp q=>?_,?_,?_,?_⟩⟩⟩
      · dsimp only at q⊢;rcases dq.1 q with q|q;·obtain⟨g1,g2,g3,g4⟩:=h.i.ou p q;exact⟨g1,g2,by omega,g4⟩
        ·obtain rfl:=eR.1 q;exact⟨rfl,by show(1:Int)<=c.sent+1;omega,by show c.sent+1<=c.sent+1;omega,w.1,w.2,f.1.1,f.1.2,f.2⟩
      ·dsimp only;refine List.pairwise_append.2 ⟨h.i.os,List.pairwise_singleton _ _,λa P b Q=>?_⟩;obtain rfl:=eR.1 Q;have:=(h.i.ou a P).2.2.1;show a.Number<c.sent+1;omega
      ·show _<=c.sent+1;simp;omega
      ·show 0<=c.sent+1/\c.sent+1<=1000000;omega
    .rw[if_neg G]at e;cases e
   ·simp only[if_neg w]at e⊢;obtain rfl:=ae e;exact⟨d,rfl,h⟩
 ·rw[if_neg f]at e;obtain rfl:=ae e;rw[if_pos (by
 simp only[not_and,Decidable.not_not]at f;by_cases h1:0<=m/\m<=7;.simp[f h1]
 ·simp only[bT,cN,vC,decide_eq_false_iff_not];left;omega)];exact⟨d,rfl,h⟩
end
theorem BL(a b:ByteArray):(a.toList==b.toList)=decide (a=b):=by rw[pq,beq_iff_eq,decide_eq_true_iff];exact⟨toList_inj,λh=>by rw[h]⟩
section
variable{g:gY->Bool}{xs:List gY}
theorem Gs{e:Type}{l:List e}{i:Nat}{x:e}(h:l[i]?=some x):aL l (i:Int)=some x:=by unfold aL;simpa using h
theorem Oe{n m:Nat}(h:n<=m)(e:m<=1000000):bh (n:Int) 1=some ((n:Int)+1):=Ek (by omega)
end
theorem CT{n:Int}{l:List aG}{i:Nat}{x:aG}(q:l[i]?=some x)(h:tJ n l i=true):x.Counter=n/\0<=x.Held/\x.Held<=1099511627776/\0<=x.Used/\x.Used<=x.Held/\(0<i->∃y,l[i-1]?=some y/\bLt y.Cap x.Cap=true):=by unfold tJ at h;grind
theorem HH{n:Int}{l:List aG}{m:Nat}(h:∀j<m,tJ n l j=true):∀j<m,∀i<j,∀x y,l[i]?=some x->l[j]?=some y->bLt x.Cap y.Cap=true:=by intro j;induction j with|zero=>intro _ i hi;omega;|succ j E=>
 intro F i hi x y f G;have⟨_,_,_,_,_,h1⟩:=CT G (h (j+1) F);have⟨z,q,e⟩:=h1 (by omega);simp[Nat.add_sub_cancel]at q;rcases Nat.lt_succ_iff_lt_or_eq.1 hi with hi|rfl;.exact sd (E (by omega) i hi x z f q) e
 .rw[q]at f;obtain rfl:=ae f;exact e
theorem Ti{n:Int}{l:List aG}{i:Nat}{x:aG}(e:l[i]?=some x)(w:l.length<=30):uY n l (i:Int) x=some (!(tJ n l i)):=by
 have hi:i<l.length:=(kr.1 e).1;unfold uY tJ ig;rw[e];dsimp;have e1:(if decide (0<i)=true then(fi i 1).bind λm=>(aL l m).bind λu=>some (!(Op.bytesLess u.Cap.toList x.Cap.toList))else some false)=some (!(i==0||match l[i-1]?with|some y=>bLt y.Cap x.Cap|none=>false)):=by
  by_cases f:i=0;.subst f;rfl
  .rw[if_pos (decide_eq_true (by omega)),xP (by omega),qb];have j:l[i-1]?=some l[i-1]:=bZ (by omega);rw[show(i:Int)-1=(i-1:Nat)by omega,Gs j,j];simp[f,bLt]
 grind
theorem G1{l:List aG}{f:ByteArray}(h:∀x∈l,¬x.Cap=f):bz (l.map λx=>(x.Cap,x)) f=none:=by induction l with|nil=>rfl;|cons x l m=>simp[bz];grind
theorem Ol(n:Int)(l:List aG):(∃d c,ue n l=some (some d,0)/\lT n l=(some c,0)/\Can d c)∨(ue n l=some (none,1)/\lT n l=(none,1)):=by
  unfold ue lT;by_cases z:(0<=n/\n<=7)/\l.length<=30;rotate_left;·right;grind
  obtain⟨z,G⟩:=z;rw[if_neg (by simp only[bT,cN,vC,decide_eq_false_iff_not,decide_eq_true_eq];omega)];obtain⟨f,h1,Q,u⟩:=cH (body:=nN n l) (λi(s:List _×Int)=>s.2=(i:Int)/\s.1=(l.take i).map (λx=>(x.Cap,x))/\∀j<i,tJ n l j=true) l.length (λf=>(f= .ex 0 _/\∀j<l.length,tJ n l j=true)∨(f= .ret _/\∃j<l.length,tJ n l j=false)) (λi s hi⟨e1,E,H⟩=>by obtain⟨s,O⟩:=s;dsimp only at e1 E;subst e1 E;have w:l[i]?=some l[i]:=bZ hi;unfold nN;dsimp only;rw[if_pos (decide_eq_true (by omega)),Gs w,qb,Ti w G,qb];cases M:tJ n l i with|false=>exact .inr ⟨_,rfl,trivial, .inr ⟨rfl,i,hi,M⟩⟩;|true=>
 have F:∀j<i+1,tJ n l j=true:=λj q=>by grind
 rw[if_neg (by decide),G1 (λy P e=>by obtain⟨j,q,rfl⟩:=br P;simp only[dY]at q;rw[List.getElem_take]at e;have:=HH F i (by omega) j (by omega) _ _ (bZ (by omega)) w;rw[e,p9]at this;cases this),if_pos (show(none:Option aG).isNone=true from rfl),Oe (m:=30) (by omega) (by omega),qb];refine .inl ⟨_,rfl,by dsimp only;omega,?_,F⟩;dsimp only;rw[List.take_add_one,w,gb];rfl) (λs⟨e1,E,H⟩=>by obtain⟨s,O⟩:=s;dsimp only at e1 E;subst e1 E;refine⟨.ex 0 (l.map (λx=>(x.Cap,x)),(l.length:Int)),?_,trivial, .inl ⟨rfl,H⟩⟩;unfold nN;dsimp only;rw[if_neg (by simp),cQ]) ([],0) ⟨rfl,rfl,λj q=>by omega⟩ (l.length+1) (by omega);rw[h1,qb];rcases u with⟨rfl,u⟩|⟨rfl,j,q,u⟩
  · left;rw[if_pos ⟨z,G,bG.2 λj q=>u j (eH.1 q)⟩];refine⟨_,_,rfl,rfl,⟨rfl,rfl,rfl,rfl,by simp[dX,Function.comp_def],λp I=>?_,⟨?_,G,z,λx w=>?_,λp I=>by simp at I,List.Pairwise.nil,by simp,by simp⟩⟩⟩;.obtain⟨x,_,rfl⟩:=aM.1 I;rfl
    ·show Sor l;unfold Sor;rw[fK];intro i j hi q J;exact HH u j q i J _ _ (bZ hi) (bZ q)
    ·obtain⟨j,q,rfl⟩:=br (show x∈l from w);obtain⟨g1,g2,g3,g4,g5,_⟩:=CT (bZ q) (u j q);exact⟨g1,g4,g5,g3⟩
  ·right;rw[if_neg (λh=>by have:=bG.1 h.2.2 j (eH.2 q);rw[u]at this;cases this)];exact⟨rfl,rfl⟩
def mI(c:DC):FP->Pred:=λF v k=>∃d,xz d F v k/\Can d c
instance{c:DC}:Rsc (mI c)where keep:=λ ⟨d,h,e⟩g f m=>⟨d,Rsc.keep h g f m,e⟩;handed:=λ ⟨d,h,e⟩g f=>⟨d,Rsc.handed h g f,e⟩;lt:=λ ⟨d,h,_⟩c j=>Rsc.lt h c j;nsh:=λ ⟨d,h,_⟩c j=>Rsc.nsh h c j
def wc:Option DC->FP->Pred|none=>λF v _=>v= .pointer none/\F=noF|some c=>mI c
theorem yc(x:Option DC):Rsc (wc x):=match x with|none=>⟨λh _ _ _=>h,λh _ _=>h,λh c e=>by rw[h.2]at e;exact e.elim,λh c e=>by rw[h.2]at e;exact e.elim⟩|some c=>inferInstanceAs (Rsc (mI c))
theorem xg{b e:Nat}(h:aw b=aw e):b=e:=by unfold aw at h;simpa using h
theorem K4{d G:dS}{b w x j m:Nat}{h y:Value}{T f:List LT}{k:K}(D:bu d b w x h T k)(z:bu G b j m y f k):DF b w x h T=DF b j m y f:=by
 have e:=Gb.Box.BD D.box z.box;unfold qT at e;simp only[pn,Value.int.injEq,true_and,Value.map.injEq,aU,and_true]at e;obtain⟨_,rfl,rfl,_,rfl⟩:=e;obtain⟨R,H,h1,I,_⟩:=D.ml.is;obtain⟨J,E,g,u,_⟩:=z.ml.is;rw[h1]at g;injection g with g;injection g with e1 M;subst e1 M;have O:=I.symm.trans u;have F:=congrArg (List.map (λp:Value×Value=>p.2)) O;simp only[dX]at F;have P:T.map (λt=>t.2.1)=f.map (λt=>t.2.1):=by
  have:∀{T f:List LT},T.map (λt=>aw t.2.1)=f.map (λt=>aw t.2.1)->T.map (λt=>t.2.1)=f.map (λt=>t.2.1):=by intro T;induction T with
 |nil=>intro f h;cases f with|nil=>rfl;|cons _ _=>simp at h
 |cons t T Q=>intro f h;cases f with|nil=>simp at h;|cons U f=>simp only[cf,pn]at h⊢;exact⟨xg h.1,Q h.2⟩
  exact this F
 unfold DF dbl;rw[P]
theorem Ks{d f:dS}{F G:FP}{v:Value}{k:K}(h:xz d F v k)(g:xz f G v k):F=G:=by obtain⟨b,w,x,y,T,rfl,D,rfl⟩:=h;obtain⟨z,j,m,q,E,e,u,rfl⟩:=g;obtain rfl:=xg e;exact K4 D u
theorem CD(x y:Option DC)(F G:FP)(v:Value)(k:K)(h:wc x F v k)(f:wc y G v k):F=G:=by cases x with
 |none=>obtain⟨rfl,rfl⟩:=h;cases y with|none=>exact f.2.symm;|some c=>obtain⟨d,⟨b,_,_,_,_,e,_⟩,_⟩:=f;unfold aw at e;simp at e
 |some c=>obtain⟨d,h,_⟩:=h;cases y with|none=>obtain⟨rfl,_⟩:=f;obtain⟨b,_,_,_,_,e,_⟩:=h;unfold aw at e;simp at e;|some g=>obtain⟨j,f,_⟩:=f;exact Ks h f
theorem IE(x:Option DC)(F:FP)(v:Value)(k:K)(b:Nat)(h:wc x F v k)(e:v= .pointer (some ⟨b,0,none⟩)∨obF v b):F b:=by cases x with|none=>obtain⟨rfl,_⟩:=h;simp[obF,ob]at e;|some c=>
 obtain⟨d,⟨f,g,j,m,T,rfl,D,rfl⟩,_⟩:=h;rcases e with e|e;·unfold aw at e;simp only[Value.pointer.injEq,aU,Addr.mk.injEq,and_true]at e;subst e;exact .inl NM
 .simp[obF,ob,aw]at e
theorem LR(x:Option DC)(F:FP)(v:Value)(k:K)(b:Bool)(h:wc x F v k)(e:some x.isNone=some b):∃p,v= .pointer p/\p.isNone=b:=by obtain rfl:=ae e;cases x with|none=>obtain⟨rfl,_⟩:=h;exact⟨none,rfl,rfl⟩;|some c=>obtain⟨d,⟨f,_,_,_,_,rfl,_⟩,_⟩:=h;exact⟨some ⟨f,0,none⟩,rfl,rfl⟩
section
variable {k0:K}{c:DC}{F:FP}{v0 v1 v2 v3:Value}{cap:ByteArray}{n to:Int}
theorem QQ(h:mI c F v0 k0)(f:IsV cap v1 k0)(i2:IsV n v2 k0):Calls Tryz.prog 48 #[v0,v1,v2] k0.w (cr F k0 λu k=>(∃G,mI (tZ c cap n).1 G v0 k/\Wr F k0 G)/\IsV (tZ c cap n).2 u k):=by obtain⟨d,⟨b,z,E,H,T,rfl,D,rfl⟩,g⟩:=h;obtain⟨j,m,e⟩:=Qv g cap n;exact lK (H0 D f i2 m) (λ _=>iD) λv I _ ⟨⟨G,q,x⟩,y⟩=>⟨⟨G,⟨j,q,e⟩,x⟩,y⟩
theorem FX(h:mI c F v0 k0)(e:IsV cap v1 k0):Calls Tryz.prog 26 #[v0,v1] k0.w (Ret k0 (IsV (oA c cap))):=by obtain⟨d,⟨b,g,j,m,T,rfl,D,rfl⟩,f⟩:=h;exact F9 D e (Nf f cap)
theorem Ms{l:List aG}(i0:IsV n v0 k0)(j:IsV l v1 k0):Calls Tryz.prog 28 #[v0,v1] k0.w (cr noF k0 (fb (λu k=>∃G,wc (lT n l).1 G u k/\Lo k0 G) (IsV (lT n l).2))):=by
 rcases Ol n l with⟨d,c,h1,h,m⟩|⟨h1,h⟩;·rw[h];refine lK (zB i0 j h1) (λ _=>iD) λv q _ f=>?_;obtain⟨u,w,e,⟨G,x,y⟩,g⟩:=f;exact⟨u,w,e,⟨G,⟨d,x,m⟩,y⟩,g⟩
 ·rw[h];refine lK (zB i0 j h1) (λ _=>iD) λv q _ f=>?_;obtain⟨u,w,e,z,g⟩:=f;exact⟨u,w,e,⟨noF,⟨z,rfl⟩,λb E=>E.elim⟩,g⟩
end
structure CC where
 num:Int
 dist:List Int
 dc:DC
 reg:List aq deriving Inhabited
def fP(c:CC)(e f g:Value):List Value:=[.int .i64 c.num,e,f,g]
def CFP(b:Nat)(e:Value)(F:FP):FP:=λi=>i=b∨F i∨obF e i
structure CnO (c:CC)(b:Nat)(dv pv rv:Value)(F:FP)(k:K):Prop where
 box:Gb.Box b (⟨fP c dv pv rv⟩:dt 4) k
 od:IsV c.dist dv k
 dk:mI c.dc F pv k
 rg:ah 0 54 c.reg rv k
 n1:¬F b
 n2:¬obF rv b
 ap:bj F (obF rv)
section
variable {c:CC}{b:Nat}{dv pv rv:Value}{F:FP}{k k':K}{G:FP}
theorem CnO.keep(h:CnO c b dv pv rv F k)(g:Chg G k k')(f:bj (CFP b rv F) G)(e:∀i,G i->¬k.sh i):CnO c b dv pv rv F k':=⟨h.box.keep g (λj=>f b (.inl rfl) j) e,aW.pers (g.le e) h.od,Rsc.keep h.dk g (λi hi=>f i (.inr (.inl hi))) e,h.rg.keep g (λi hi=>f i (.inr (.inr hi))) e,h.n1,h.n2,h.ap⟩
theorem CnO.handed(h:CnO c b dv pv rv F k)(g:Gb.Handed k k' G)(e:bj (CFP b rv F) G):CnO c b dv pv rv F k':=⟨h.box.handed g (λf=>e b (.inl rfl) f),aW.pers g.le h.od,Rsc.handed h.dk g (λi hi=>e i (.inr (.inl hi))),h.rg.handed g (λi hi=>e i (.inr (.inr hi))),h.n1,h.n2,h.ap⟩
theorem CnO.lt(h:CnO c b dv pv rv F k):∀i,CFP b rv F i->i<k.w.heap.size/\¬k.sh i:=λi hi=>by
 rcases hi with rfl|hi|hi;.exact⟨h.box.lt,h.box.own⟩
 .exact⟨Rsc.lt h.dk i hi,Rsc.nsh h.dk i hi⟩
 .exact⟨h.rg.ltF i hi,h.rg.jl i hi⟩
theorem CnO.grow(h:CnO c b dv pv rv F k)(g:bE k k'):CnO c b dv pv rv F k':=h.keep (Chg.of (F:=noF) g) (λ _ _ f=>f) (λ _ f=>f.elim)
end
def CnS(c:CC):FP->Pred:=λG v k=>∃b dv pv rv F,v=aw b/\CnO c b dv pv rv F k/\G=CFP b rv F
instance{c:CC}:Rsc (CnS c)where keep:=λ ⟨b,dv,pv,rv,F,e,h,f⟩g j m=>⟨b,dv,pv,rv,F,e,h.keep g (f▸j) m,f⟩;handed:=λ ⟨b,dv,pv,rv,F,e,h,f⟩g j=>⟨b,dv,pv,rv,F,e,h.handed g (f▸j),f⟩;lt:=λ ⟨b,dv,pv,rv,F,e,h,f⟩i hi=>(h.lt i (f▸hi)).1;nsh:=λ ⟨b,dv,pv,rv,F,e,h,f⟩i hi=>(h.lt i (f▸hi)).2
def CnN:Option CC->FP->Pred|none=>λF v _=>v= .pointer none/\F=noF|some c=>CnS c
theorem PT(x:Option CC):Rsc (CnN x):=match x with|none=>⟨λh _ _ _=>h,λh _ _=>h,λh c e=>by rw[h.2]at e;exact e.elim,λh c e=>by rw[h.2]at e;exact e.elim⟩|some c=>inferInstanceAs (Rsc (CnS c))
theorem Qc(x y:Option CC)(F G:FP)(v:Value)(k:K)(h:CnN x F v k)(f:CnN y G v k):F=G:=by cases x with
 |none=>obtain⟨rfl,rfl⟩:=h;cases y with|none=>exact f.2.symm;|some c=>obtain⟨b,_,_,_,_,e,_⟩:=f;unfold aw at e;simp at e
 |some c=>obtain⟨b,dv,pv,rv,j,rfl,D,rfl⟩:=h;cases y with|none=>obtain⟨e,_⟩:=f;unfold aw at e;simp at e;|some m=>obtain⟨E,q,u,w,z,e,g,rfl⟩:=f;obtain rfl:=xg e;have e:=Gb.Box.BD D.box g.box;unfold fP at e;simp only[pn,and_true]at e;obtain⟨_,_,rfl,rfl⟩:=e;rw[CD (some c.dc) (some m.dc) j z pv k D.dk g.dk]
theorem ND(x:Option CC)(F:FP)(v:Value)(k:K)(b:Nat)(h:CnN x F v k)(e:v= .pointer (some ⟨b,0,none⟩)∨obF v b):F b:=by cases x with|none=>obtain⟨rfl,_⟩:=h;simp[obF,ob]at e;|some c=>
 obtain⟨f,dv,pv,rv,g,rfl,D,rfl⟩:=h;rcases e with e|e;·unfold aw at e;simp only[Value.pointer.injEq,aU,Addr.mk.injEq,and_true]at e;subst e;exact .inl rfl
 .simp[obF,ob,aw]at e
theorem QO(x:Option CC)(F:FP)(v:Value)(k:K)(b:Bool)(h:CnN x F v k)(e:some x.isNone=some b):∃p,v= .pointer p/\p.isNone=b:=by obtain rfl:=ae e;cases x with|none=>obtain⟨rfl,_⟩:=h;exact⟨none,rfl,rfl⟩;|some c=>obtain⟨b,_,_,_,_,rfl,_⟩:=h;exact⟨some ⟨b,0,none⟩,rfl,rfl⟩
structure qJ where
 a:Opq
 b:Opq
 p:Ptr
 d:Opq deriving DecidableEq,Inhabited
instance:Enc qJ:=Enc.ofMap λx=>(x.a,x.b,x.p,x.d)
theorem SP{b bp:Nat}{c:CC}{dv rv:Value}{k:K}(h:Gb.Box b (⟨fP c dv (aw bp) rv⟩:dt 4) k):Gb.Box b (⟨⟨⟩,⟨⟩,⟨some ⟨bp,0,none⟩⟩,⟨⟩⟩:qJ) k:=by obtain⟨ho,arr,t,e,hr⟩:=h;have hr:arr.toList=fP c dv (aw bp) rv/\arr.toList.length=4/\∀u∈arr.toList,u.oneCell'=true:=hr;obtain⟨h1,_,h3⟩:=hr;rw[h1]at h3;refine⟨ho,arr,t,e,?_⟩;rw[h1];show Enc.rep (α:=Opq×Opq×Ptr×Opq) k (fP c dv (aw bp) rv) _;exact⟨rfl,⟨_,rfl,h3 _ (by simp[fP])⟩,rfl,⟨_,rfl,h3 _ (by simp[fP])⟩,rfl,rfl,⟨_,rfl,h3 _ (by simp[fP])⟩⟩
theorem Vb(z:Option CC)(F:FP)(b:Nat)(x:qJ)(q:Addr)(k:K)(h:CnN z F (.pointer (some ⟨b,0,none⟩)) k)(hB:Gb.Box b x k)(hx:x.p.a=some q):∃F',wc (z.map λc=>c.dc) F' (.pointer (some q)) k:=by cases z with|none=>obtain⟨e,_⟩:=h;simp at e;|some c=>
 obtain⟨b',dv,pv,rv,F0,e,D,_⟩:=(show CnS c F _ k from h);obtain rfl:b=b':=xg e;obtain⟨bp,rfl⟩:∃bp,pv=aw bp:=by obtain⟨d',⟨b,bl,bt,hh,T,rfl,_⟩,_⟩:=D.dk;exact⟨_,rfl⟩
 obtain⟨_,arr,t,e1,r1⟩:=D.box;obtain⟨_,arr',t',e2,r2⟩:=hB;rw[e1]at e2;obtain⟨rfl,rfl⟩:arr=arr'/\t=t':=by simpa using e2
 have h1:arr.toList=fP c dv (aw bp) rv:=r1.1;have r2:Enc.rep (α:=Opq×Opq×Ptr×Opq) k arr.toList (x.a,x.b,x.p,x.d):=r2;rw[h1]at r2;obtain⟨_,_,_,_,_,hp,_⟩:=r2;have hp:[aw bp]=[Value.pointer x.p.a]:=hp;rw[hx]at hp;have hp:aw bp= .pointer (some q):=by simpa using hp
 exact⟨F0,by rw[<-hp];exact D.dk⟩
end Go.Proofs.YtlckpjpbladknaaGreat
namespace Go.Gb
theorem UY{T:Tb}{n:Nat}{F:FP}{k0:K}{W:List Nat}{a0:Act}{e:Env T}{a:Act}{k:K}(h:Hl n F k0 W a0 e a k){s:Nat}{t:Tp}{x:T.D t}(hx:eV e s (.b t)=some x):lk e s= .box false t x/\∃b,a.get s= .pointer (some ⟨b,0,none⟩)/\Box b x k:=by
 have hs:=h.sl s;simp only[eV]at hx;split at hx;·rename_i u y hl;obtain⟨rfl,e⟩:=cast?_eq hx;obtain rfl:x=y:=e;rw[hl]at hs;exact⟨hl,hs⟩
 .simp at hx
theorem S7{T:Tb}{P:Program}{n:Nat}{F G0:FP}{k0 k q:K}{W:List Nat}{a0 a b:Act}{e:Env T}{m:Nat}{X X':T.RD m}{s:Nat}{D:List Nat}{α:Type}[Enc α]{x x':α}{bb:Nat}{all hs:List (iq α)}{g:iq α}{A:Array Oper}{Q:Exit->Act->World->Prop}{i h0 l0 d1 d2 ty st f N:Nat}{o1 o2 o3:Oper}{l:List g.γ}(hl:Hl n F k0 W a0 e a k)(hlk:lk e s= .rs false m X)(hR:T.RP m X G0 (a.get s) k)(hB:fO bb all all x G0 (a.get s) k)(hD:pS D e=true)(hW:∀t∈D,t∈W)(hsD:¬s∈D)(hg:bE k q)(hz:b.tmps.size=a.tmps.size)(hd:b.defers=a.defers)(ho:∀t,¬t∈D->b.get t=a.get t)(n1:nth A.toList i=some o1)(g1:o1.guard=none)(p1:o1.op= .call {callee:= .builtin .append,args:=#[.tmp h0, .tmp l0],argTypes:=#[ty,ty]}) (r1:o1.dst=some d1)(n2:nth A.toList (i+1)=some o2) (g2:o2.guard=none) (p2:o2.op= .fieldAddr st (.tmp s) f) (r2:o2.dst=some d2)(n3:nth A.toList (i+2)=some o3) (g3:o3.guard=none) (p3:o3.op= .store ty (.tmp d2) (.tmp d1)) (r3:o3.dst=none)(hN:a.tmps.size=N) (m1:d1∈D/\d1<N) (m2:d2∈D/\d2<N/\d1≠d2)(hu:P.underlying ty=some (.slice g.el)) (he:letI:=g.enc;dJ P g.el g.γ) (hf:cT P st f g.off) (sz:(P.info? ty).map (·.size)=some 1)(hi:∀{F v k},fO bb all all x F v k->fO bb all (g::hs) x F v k) (hj:∀{F v k},fO bb all (g::hs) x' F v k->T.RP m X' F v k)(hoff:g.off<Enc.sz α) (hx:zF all x'=zF all x) (hO:∀cs k G,pV cs x k hs G->pV cs x' k hs G) (hne:∀h∈hs,h.off≠g.off) (ha:g∈all)(hh:xX bb g.off (b.get h0) q) (hy:@cM g.γ g.enc l (b.get l0) q) (hq:eb (g.get x) l=some (g.get x'))(hgo:∀a' k',Hl n F k0 W a0 ((s, .rs false m X')::iV (klA s) e) a' k'->Q .normal a' k'.w):wpOps P A Q [i,i+1,i+2] b q.w:=by
 letI:=g.enc;have es:b.get s=a.get s:=ho s hsD;have hA:cw bb 0 (a.get s) q:=hB.ptr;obtain⟨F1,h1,h2,h3,h4,h5⟩:=(hi (Rsc.grow hB hg)).take hh;have h2:ah 0 g.el (g.get x) (b.get h0) q:=h2;have hns:=h2.jl;refine fZ n1 g1 p1 r1 (by rw[hz,hN];exact m1.2) hu he h2 hy hq λb1 q1 hs1 hd1 ho1 hc1 hown hob=>?_;have hB1:fO bb all hs x F1 (a.get s) q1:=Rsc.keep h1 hc1 h3.symm hns;have ha1:bj (obF (b1.get d1)) F1:=λc hc hF=>(hob c hc).elim (λh=>h3 c h hF) λh=>fC _ (gk (Rsc.lt h1 c hF) h);have s1:∀t,¬t∈D->b1.get t=a.get t:=λt ht=>by rw[ho1 t (λe=>ht (e▸m1.1)),ho t ht]
 refine bL n2 g2 r2 (by rw[hs1,hz,hN];exact m2.2.1) trivial (aV p2 hf (show b1.get s=_ by rw[s1 s hsD];exact hA)) λb3 q3 hs3 hd3 ho3 hg3 g4=>?_;have e1:b3.get d1=b1.get d1:=ho3 d1 m2.2.2;have s3:∀t,¬t∈D->b3.get t=a.get t:=λt ht=>by rw[ho3 t (λe=>ht (e▸m2.1)),s1 t ht]
 refine uC n3 g3 p3 r3 sz g4 (Rsc.grow hB1 hg3) hoff ⟨_,ha,rfl⟩ hx hO hne (show ah 0 g.el (g.get x') (b3.get d1) q3 by rw[e1];exact aZ.mono hg3 hown) (by show bj (obF (b3.get d1)) F1;rw[e1];exact ha1) λq4 F4 hch hB4 hF4=>?_;have hRP:T.RP m X' F4 (b3.get s) q4:=by rw[s3 s hsD];exact hj hB4
 have hfp:∀c,G0 c->unl (lk e s)=true/\(lk e s).fp (a.get s) k c:=λc hc=>by rw[hlk];exact⟨rfl,by show Rk.fp T (.c m) (a.get s) k c;rw[iB hR];exact hc⟩
 refine aj (k:=q4) (hgo _ _ (hl.QS (D:=D) hD hW (.inr (s3 s hsD)) (((((Chg.refl G0 k).then hg).step hc1 λc hc=> .inl (h5 c hc)).then hg3).step hch λc hc=> .inl (h4 c hc)) hfp (hs3.trans (hs1.trans hz)) (hd3.trans (hd1.trans hd)) (λt ht _=>s3 t ht) ⟨_,hRP⟩ (λ _=>rfl) λc hc=>?_));have hc:Rk.fp T (.c m) (b3.get s) q4 c:=hc;rw[iB hRP]at hc;rcases hF4 c hc with h|h;.exact .inl (hfp c (h4 c h))
 ·have h:obF (b3.get d1) c:=h;rw[e1]at h;exact(hob c h).elim (λh=> .inl (hfp c (h5 c h))) λh=> .inr (bB hg.size h)
theorem Pp{T:Tb}{C C':Cx T}{i m s:Nat}{A:Array Oper}{d:Bool}{e:Env T}{R:Type}{K:Env T->Option R}{r:R}{X:T.RD m}{t:Tp}{x:T.D t}(hC:rX C')(eP:C'.P=C.P)(en:C'.n=C.n)(hX:eV e s (.c m)=some X)(hc:∀G v k,T.RP m X G v k->∃k':Gb.K,Handed k k' G/\aS x v k')(h:evR C' A.toList d ((s, .ref t x)::iV (klA s) e) K=some r):Ct C (.region i A d) e K r:=by intro F k0 W a0 a k Q hW hl hgo;obtain⟨hlk,G,hG⟩:=CM hl hX;obtain⟨k1,hk,hr⟩:=hc _ _ _ hG;have h1:=hl.hand (s:=s) (av:= .ref t x) (by rw[hlk];rfl) hk (λc hc=>by rw[hlk];show Rk.fp T (.c m) (a.get s) k c;rw[iB hG];exact hc) hr (λ _=>rfl) rfl;rw[<-hk.w,<-eP];exact I2 hC (λo ho d hd=>hW d (List.mem_filterMap.2 ⟨o,ho,hd⟩)) (en▸h1) h λe' a' k' g h=>hgo e' a' k' g (en▸h)
def yC:List Code->Code|[]=> .skip|c::l=> .seq c (yC l)
def Ta:List Code->Code->Code|[],r=>r|c::l,r=> .seq c (Ta l r)
def Ew:Nat->Code->List Code|n+1, .seq a b=>a::Ew n b|_,_=>[]
def Lk:Nat->Code->Code|n+1, .seq _ b=>Lk n b|_,c=>c
theorem Dz{T:Tb}{C:Cx T}{cod:Rv T}(hC:rX C)(hH:xC C)(hg:∀c,C.rg c){Z:Code}{R:Type}{M:Kt T (cod.D T) R}{r:R}{F:FP}{k0:K}{a0:Act}{W:List Nat}{Q:Exit->Act->World->Prop}(hs:isN cod.tu=false->cod.sl∉W)(hgo:∀e' a' k',M.go e'=some r->Hl C.n F k0 W a0 e' a' k'->Z.wp C.P Q a' k'.w)(hx:∀i e,M.ex i e=none)(hr:∀x a' k',M.rv x=some r->qw C cod F k0 a0 x a' k'->Q .ret a' k'.w):∀(l:List Code){h:Hn T}{e:Env T}{a:Act}{k:K},(∀t∈wrs (yC l),t∈W)->ev C cod (yC l) h R e M=some r->Hl C.n F k0 W a0 e a k->(Ta l Z).wp C.P Q a k.w
 |[],_,e,a,k,_,he,hl=>hgo e a k (by unfold yC ev at he;exact he) hl|c::l,h,e,a,k,hW,he,hl=>by
  obtain⟨x,y,he⟩:∃x y,ev C cod c x R e {M with go:=λe'=>ev C cod (yC l) y R e' M}=some r:=by
   unfold yC ev at he;split at he;.exact⟨_,_,he⟩
   .exact⟨.n, .n,he⟩
  exact wp_seq (kW hC hH c (λ _ _=>hg _) x R e _ r he F k0 W a0 a k _ (λt ht=>hW t (dq.2 (.inl ht))) hs hl (λe' a' k' g h'=>Dz hC hH hg hs hgo hx hr l (λt ht=>hW t (dq.2 (.inr ht))) g h') (λi e' _ _ g _=>by rw[show M.ex i e'=none from hx i e']at g;cases g) hr)
theorem G8{T:Tb}{C:Cx T}{cod:Rv T}(hC:rX C)(hH:xC C)(n:Nat){Y:Code}(hy:Y=Ta (Ew n Y) (Lk n Y))(hg:∀c,C.rg c){h:Hn T}{R:Type}{e:Env T}{M:Kt T (cod.D T) R}{r:R}{F:FP}{k0:K}{a0 a:Act}{k:K}{Q:Exit->Act->World->Prop}(hev:ev C cod (yC (Ew n Y)) h R e M=some r)(hs:isN cod.tu=false->cod.sl∉wrs (yC (Ew n Y)))(hl:Hl C.n F k0 (wrs (yC (Ew n Y))) a0 e a k)(hgo:∀e' a' k',M.go e'=some r->Hl C.n F k0 (wrs (yC (Ew n Y))) a0 e' a' k'->(Lk n Y).wp C.P Q a' k'.w)(hx:∀i e,M.ex i e=none)(hr:∀x a' k',M.rv x=some r->qw C cod F k0 a0 x a' k'->Q .ret a' k'.w):Y.wp C.P Q a k.w:=by rw[hy];exact Dz hC hH hg hs hgo hx hr _ (λ _ h=>h) hev hl
section
variable {P:Program}{o:Oper}{a:Act}{k k':K}{κ α:Type}[Enc α]{F G:FP}{kv:κ->Value}
def McR(kv:κ->Value)(m:List (κ×α)):FP->Pred:=λF v k=>∃b,∃T:List (κ×Value×α),v= .map (some b)/\m=T.map (λt=>(t.1,t.2.2))/\lN kv b (T.map λt=>(t.1,t.2.1)) k/\(∀t∈T,IsV t.2.2 t.2.1 k)/\F=Eq b
instance(m:List (κ×α)):Rsc (McR kv m)where
 keep:=λ ⟨b,T,e1,e2,hb,hT,eF⟩g hs hn=>⟨b,T,e1,e2,hb.keep g (hs b (by rw[eF])),λt ht=>aW.pers (g.le hn) (hT t ht),eF⟩;handed:=λ ⟨b,T,e1,e2,hb,hT,eF⟩g hs=>⟨b,T,e1,e2,hb.handed g (hs b (by rw[eF])),λt ht=>aW.pers g.le (hT t ht),eF⟩;lt:=λ ⟨b,T,e1,e2,hb,hT,eF⟩c hc=>by rw[eF]at hc;subst hc;exact hb.lt
 nsh:=λ ⟨b,T,e1,e2,hb,hT,eF⟩c hc=>by rw[eF]at hc;subst hc;exact hb.own
theorem McR.one{x y:List (κ×α)}{v:Value}(h:McR kv x F v k)(g:McR kv y G v k):F=G:=by obtain⟨b,_,e,_,_,_,rfl⟩:=h;obtain⟨c,_,e2,_,_,_,rfl⟩:=g;rw[e]at e2;injection e2 with e2;injection e2 with e2;rw[e2]
theorem McR.root{x:List (κ×α)}{v:Value}{b:Nat}(h:McR kv x F v k)(g:v= .pointer (some ⟨b,0,none⟩)∨obF v b):F b:=by
 obtain⟨c,_,rfl,_⟩:=h;rcases g with g|g;.cases g
 .exact absurd g (by simp[obF,ob])
theorem McR.new{v:Value}{b0:Nat}(h:∃b,v= .map (some b)/\b0<=b/\lN kv b [] k):∃F,McR (α:=α) kv [] F v k/\∀c,F c->b0<=c:=by obtain⟨b,e1,hb0,hb⟩:=h;exact⟨_,⟨b,[],e1,rfl,hb,λt ht=>(by cases ht),rfl⟩,λc hc=>by subst hc;exact hb0⟩
theorem AP[DecidableEq κ]{t kt et:TypeId}{x y:Operand}{m:List (κ×α)}{n:κ}{z:α}(ho:o.op= .lookup t x y false)(KO:tL P kt kv)(hu:P.underlying t=some (.map kt et))(hz:Zero P et z)(hR:McR kv m F (a.eval x) k)(hy:a.eval y=kv n):aX P o a k (IsV ((bz m n).getD z)):=by obtain⟨b,T,e1,e2,hb,hT,_⟩:=hR;obtain⟨zv,hz,hzv⟩:=hz;have h:=wj (o:=o) (a:=a) ho KO hu hz e1 hy hb.m;refine cu h λv k' g hv=>?_;rw[hv,e2,wo (λt:Value×α=>t.1),wo (λt:Value×α=>t.2)];cases hg:bz T n with|none=>exact hzv k';|some p=>obtain⟨t,ht,e⟩:=C4 hg;have:=hT t ht;rw[e]at this;exact aW.pers g.le this
theorem Lq[DecidableEq κ]{A:Array Oper}{i:Nat}{rest:List Nat}{Q:Exit->Act->World->Prop}{t kt et:TypeId}{x y z:Operand}{m:List (κ×α)}{n:κ}{w:α}(ho:nth A.toList i=some o)(hg:o.guard=none)(hop:o.op= .mapUpdate t x y z)(hd:o.dst=none)(KO:tL P kt kv)(hu:P.underlying t=some (.map kt et))(hR:McR kv m F (a.eval x) k)(hy:a.eval y=kv n)(hz:IsV w (a.eval z) k)(next:∀k',Chg F k k'->McR kv (dQ m n w) F (a.eval x) k'->wpOps P A Q rest a k'.w):wpOps P A Q (i::rest) a k.w:=by
 obtain⟨b,T,e1,e2,hb,hT,eF⟩:=hR;refine oI ho hg hop hd KO hu e1 hy hb λk' hch hsz hb'=>?_;subst eF;have hle:=hch.le (λc hc=>by subst hc;exact hb.own);refine next k' hch ⟨b,dQ T n (a.eval z,w),e1,?_,?_,λt ht=>?_,rfl⟩;.rw[e2];exact wi (λt:Value×α=>t.2) (a.eval z,w) T n
 .rw[<-wi (λt:Value×α=>t.1)];exact hb'
 · rcases Dh ht with e|h;.rw[e];exact aW.pers hle hz
   .exact aW.pers hle (hT t h)
end
def mcO{P:Program}{S:Nat->Type}{enc:∀n,Enc (S n)}(ty kt' et:TypeId)(kt vt:Tp)(kv:kt.den S->Value)[hd:DecidableEq (kt.den S)]{R:Type}(l:R->List (kt.den S×vt.den S))(m:List (kt.den S×vt.den S)->R)(hl:∀x,l (m x)=x)(z:vt.den S)(KO:tL P kt' kv)(hv:∀n v k,@IsV _ (qg P enc kt) n v k->v=kv n)(hu:P.underlying ty=some (.map kt' et))(hz:@Zero (vt.den S) (qg P enc vt) P et z):Mb P enc (λr:R=>@McR (kt.den S) (vt.den S) (qg P enc vt) kv (l r))where
 ty:=ty;kt:=kt;vt:=vt;new:=m [];get r n:=(bz (l r) n).getD z;set r n w:=some (m (dQ (l r) n w));new_ok ho:=cu (qo (aA _) ho) λ _ _ _ h=>by rw[hl];exact@McR.new _ _ _ (qg P enc vt) _ _ _ h
 get_ok ho hR hy:=@AP _ _ _ _ _ _ (qg P enc vt) _ _ _ _ _ _ _ _ _ _ _ ho KO hu hz hR (hv _ _ _ hy);set_ok h1 h2 h3 h4 hR hy hz h5 next:=by obtain rfl:=ae h5;letI:Enc (vt.den S):=qg P enc vt;refine Lq h1 h2 h3 h4 KO hu hR (hv _ _ _ hy) hz λk' hc h=>next k' hc ?_;rw[hl];exact h
section
variable{V:Type}[DecidableEq V]{e:V}
def build(e:V)(z:List Int)(A:Int->V):Nat->iJ V|0=>[]|i+1=>wb e (build e z A i) (z.getD i 0) (z.getD (i+1) 0) (A (z.getD i 0))
omit [DecidableEq V]in theorem C1:∀{l:iJ V},Canon e l↔(∀i(h:i<l.length),l[i].1<l[i].2.1/\l[i].2.2≠e)/\∀i(h:i+1<l.length),l[i].2.1<l[i+1].1∨(l[i].2.1=l[i+1].1/\l[i].2.2≠l[i+1].2.2)
 |[]=>⟨λ_=>⟨λi h=>absurd h (fv i),λi h=>absurd h (fv _)⟩,λ_=>trivial⟩|[(a,b,v)]=>⟨λh=>⟨λi hi=>by
 have:i=0:=by simp at hi;omega
 subst this;exact⟨h.1,h.2.1⟩,λi hi=>absurd hi (by simp)⟩,λh=>⟨(h.1 0 (by simp)).1,(h.1 0 (by simp)).2,trivial,trivial⟩⟩|(a,b,v)::(c,d,w)::t=>by
  have g:=C1 (l:=(c,d,w)::t);constructor
  · intro h;obtain⟨h1,f⟩:=g.1 h.2.2.2;refine⟨λi hi=>?_,λi hi=>?_⟩;.cases i with|zero=>exact⟨h.1,h.2.1⟩;|succ i=>exact h1 i (by simpa using hi)
    .cases i with|zero=>exact h.2.2.1;|succ i=>exact f i (by simpa using hi)
  · rintro⟨h1,f⟩;refine⟨(h1 0 (by simp)).1,(h1 0 (by simp)).2,f 0 (by simp),g.2 ⟨λi hi=>?_,λi hi=>?_⟩⟩;.exact h1 (i+1) (by simpa using hi)
    .exact f (i+1) (by simpa using hi)
end
theorem HN{ρ:Type}{body:Int->Option (aY Int ρ)}{k:Nat}(N:Nat)(p:Nat->Prop)(r:Nat->ρ)(E:∀i,i<N->(∀j,j<i->¬p j)->(p i/\body (i:Int)=some (.ret (r i)))∨(¬p i/\body (i:Int)=some (.go ((i+1:Nat):Int))))(F:body (N:Int)=some (.ex k (N:Int))){fuel:Nat}(g:N<fuel):(∃i,i<N/\p i/\(∀j,j<i->¬p j)/\ar body fuel 0=some (.ret (r i)))∨((∀i,i<N->¬p i)/\ar body fuel 0=some (.ex k (N:Int))):=by
  have y:∀m i,i+m=N->(∀j,j<i->¬p j)->∀fuel,m<fuel->(∃j,j<N/\p j/\(∀q,q<j->¬p q)/\ar body fuel i=some (.ret (r j)))∨((∀j,j<N->¬p j)/\ar body fuel i=some (.ex k N)):=by intro m;induction m with
 |zero=>
 intro i hi f fuel g;obtain rfl:i=N:=by omega
 obtain⟨fuel,rfl⟩:∃m,fuel=m+1:=⟨fuel-1,by omega⟩;refine .inr ⟨f,?_⟩;simp[ar,F]|succ m G=>
   intro i hi f fuel g;obtain⟨fuel,rfl⟩:∃m,fuel=m+1:=⟨fuel-1,by omega⟩;rcases E i (by omega) f with⟨h1,u⟩|⟨h1,u⟩;.refine .inl ⟨i,by omega,h1,f,?_⟩;simp[ar,u]
   .simp[ar,u];exact G (i+1) (by omega) (λj x=>by
 rcases bJ j i with h|h;.exact f j h
 · obtain rfl:j=i:=by omega
   exact h1) fuel (by omega)
  exact y N 0 (by omega) (λj x=>absurd x (fv j)) fuel g
section
variable{P:Program}{o:Oper}{a0:Act}{k0:K}{R S:Pred}{es:List Ent}{α:Type}[Enc α]{nd nd2:List (Nat×Option Nat)}
theorem An{es:List Ent}{a:Act}{k:K}{t j:Nat}{l:List (Nat×Option Nat)}(e:nth es j=some ⟨some R,nd⟩)(h:lp es a0 a k ((t,some j)::l)):R (a.get t) k:=by have h1:=h.1;rw[e]at h1;exact h1
theorem e0{t j:Nat}[aZ R](h:(o.guard,o.op)=(none, .extract (.tmp t) 0))(e:nth es j=some ⟨some (fb R S),nd⟩):Ob P es a0 k0 o ⟨some R,[(t,some j)]⟩:=ob1 (Prod.mk.inj h).1 λ_ _ _ n=>vP (Prod.mk.inj h).2 (An e n)
theorem e1{t j:Nat}[aZ S](h:(o.guard,o.op)=(none, .extract (.tmp t) 1))(e:nth es j=some ⟨some (fb R S),nd⟩):Ob P es a0 k0 o ⟨some S,[(t,some j)]⟩:=ob1 (Prod.mk.inj h).1 λ_ _ _ n=>vG (Prod.mk.inj h).2 (An e n)
theorem ld{t j:Nat}{e:TypeId}{y:α}(h:(o.guard,o.op)=(none, .load e (.tmp t)))(f:Ty P e α)(g:nth es j=some ⟨some (eE y),nd⟩):Ob P es a0 k0 o ⟨some (IsV y),[(t,some j)]⟩:=ob1 (Prod.mk.inj h).1 λ_ _ _ n=>aR (Prod.mk.inj h).2 f (An g n)
end
theorem Of{m:Int}{g:Nat}{k:K}(h:aS m (.pointer (some ⟨g,0,none⟩)) k):k.w.cell? ⟨g,0,none⟩=some (.int .i64 m):=by
 obtain⟨a,e,_,f,j,_,q,t,y,u,z,x⟩:=h;obtain rfl:a=⟨g,0,none⟩:=by injection e with e;injection e with e;exact e.symm
 obtain rfl:f=[.int .i64 m]:=j;have:=x 0 (by simp);unfold World.cell?;rw[u];simpa using this
theorem Hm{m:Int}{g:Nat}{W:World}(h:W.cell? ⟨g,0,none⟩=some (.int .i64 m)):aS m (.pointer (some ⟨g,0,none⟩)) (kOf W):=by
 obtain⟨j,e,t,q,f,u⟩:=EI h;refine⟨_,rfl,(bO.1 f).1,[.int .i64 m],rfl,j,e,t,q,f,?_,?_⟩;.have w:0<e.size:=(bO.1 u).1;simpa using(by omega)
 grind
section
variable{P:Program}{o:Oper}{a:Act}{k k' k0:K}{α β γ:Type}[Enc α][Enc β][Enc γ]{F G:FP}{v:Value}{b:Nat}{all hs:List (iq α)}{x:α}{R:Pred}
theorem wM{A:Array Oper}{i d:Nat}{g:List Nat}{Q:Exit->Act->World->Prop}{f:FuncId}{x:Operand}{as_:List Operand}{U:Array TypeId}{first capt:Array Value}(O:nth A.toList i=some o)(I:o.guard=none)(J:o.op= .call {callee:= .value x,args:=as_.toArray,argTypes:=U})(V:o.dst=some d)(y:d<a.tmps.size)(W:a.eval x= .func (.func f) first capt)(hc:∀args w,(callFunc f args).run P w= .ok (.enter f args) w)(_hQ:LetsOut Q)(j:Calls P f (first++(as_.map a.eval).toArray++capt) k.w (cr F k R))(h:∀(z:Act)(k':K),z.tmps.size=a.tmps.size->z.defers=a.defers->(∀t,t≠d->z.get t=a.get t)->Chg F k k'->R (z.get d) k'->wpOps P A Q g z k'.w):wpOps P A Q (i::g) a k.w:=by
 rw[wpOps_cons];rw[aH]at O;unfold wpOp;simp[O,Region.wanted,I];refine .inl ?_;unfold Oper.wp;have hr:(execOp a.eval o).run P k.w= .ok (.enter f (first++(as_.map a.eval).toArray++capt)) k.w:=by simp[execOp,J,resolve,invoke,Deferred.ofValue,W,hc]
 rw[hr];refine Calls.mono j λe w' M=>?_;cases e with|returned v=>
 obtain⟨k',rfl,hg,hv⟩:=M;simp[V];have E:(a.put (some d) v).get d=v:=by rw[dD _ _ _ _ y];simp
 refine h _ k' (fG _ _ _) (ez _ _ _) ?_ hg (by rw[E];exact hv);intro t ht;rw[dD _ _ _ _ y,if_neg (Ne.symm ht)]|panicked c=>exact M.elim;|outgrown=>exact M.elim
def Be(α:Type)[Enc α](B:Nat):Pred:=λv k=>∃b,v= .pointer (some ⟨b,0,none⟩)/\B<=b/\Box b ([]:List α) k/\xX b 0 fo k
theorem zD{t:TypeId}(f:Nat)(e:f<=k.w.heap.size)(g:o.op= .alloc t)(z:∀w,(zeroValue t).run P w= .ok fo w):aX P o a k (Be α f):=by have h:Box k.w.heap.size ([]:List α) (k.alloc (.cells #[fo] t)):=xK ⟨fo,rfl, .inl ⟨rfl,rfl⟩⟩;refine eS (k':=k.alloc (.cells #[fo] t)) ?_ (K.dT k _) ⟨_,rfl,e,h,h.lt,#[fo],t,(0,0),heap_alloc_new k.w _,rfl⟩;simp[execOp,g];simp[Instr.alloc,z];rfl
end
instance{e:IntKind}:Rg (IK e):=⟨λx=>e.min<=x.n/\x.n<=e.max,λ_=>0⟩
end Go.Gb
