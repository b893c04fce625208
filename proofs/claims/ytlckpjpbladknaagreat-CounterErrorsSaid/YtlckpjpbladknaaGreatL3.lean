/- part 3 of the proof -/
import Derived.Test.YtlckpjpbladknaaGreatL2
set_option linter.unusedVariables false
set_option linter.unusedSimpArgs false
set_option linter.unusedSectionVars false
noncomputable section
namespace Go.Gb
def zB(e:Type)(n:Int):Option (List e):=if 0<=n/\n<=1073741824 then some []else none
theorem Hj{e:Type}{n:Int}(f:0<=n)(h:n<=1073741824):zB e n=some []:=if_pos ⟨f,h⟩
theorem yj{e:Type}{l:List e}{x:e}{i:Int}(h:i=(l.length:Int)):aR (l++[x]) i=some x:=by subst h;unfold aR;simp
theorem As{e:Type}{l:List e}{x y:e}{i:Nat}(h:i=l.length):(l++[x]).set i y=l++[y]:=by simp_all
theorem FB{e:Type}{l:List e}{x:e}(h:l.length<4611686018427387904):fh (((l++[x]).length:Nat):Int) 1=some (l.length:Int):=by rw[cZ (by unfold inI;simp;omega)];simp
theorem nu{i:Nat}(e:0<i)(h:i<4611686018427387904):fh (i:Int) 1=some ((i-1:Nat):Int):=by rw[cZ (by unfold inI;omega)];congr 1;omega
theorem ep{e f ρ g:Type}{l:List g}{body:f->Option (aY f ρ)}{k:Nat}(st:e->Int->f)(step:e->g->e)(Inv:Nat->e->Prop)(q:∀i(hi:i<l.length)s,Inv i s->body (st s (i:Int))=some (.go (st (step s l[i]) ((i+1:Nat):Int)))/\Inv (i+1) (step s l[i]))(w:∀s,Inv l.length s->body (st s (l.length:Int))=some (.ex k (st s (l.length:Int)))){s0:e}(F:Inv 0 s0){fuel:Nat}(j:l.length<fuel):az body fuel (st s0 0)=some (.ex k (st (l.foldl step s0) (l.length:Int)))/\Inv l.length (l.foldl step s0):=by
 have y:∀m i s,i+m=l.length->Inv i s->∀fuel,m<fuel->az body fuel (st s i)=some (.ex k (st ((l.drop i).foldl step s) l.length))/\Inv l.length ((l.drop i).foldl step s):=by intro m;induction m with
 |zero=>
 intro i s hi I fuel j;obtain rfl:i=l.length:=by omega
 obtain⟨fuel,rfl⟩:∃m,fuel=m+1:=⟨fuel-1,by omega⟩;simp;simp only[az,w s I];exact⟨trivial,I⟩|succ m x=>
  intro i s hi I fuel j;obtain⟨fuel,rfl⟩:∃m,fuel=m+1:=⟨fuel-1,by omega⟩;have h:i<l.length:=by omega
  obtain⟨h1,E⟩:=q i h s I;rw[lS h,lK];simp[az,h1];exact x (i+1) _ (by omega) E fuel (by omega)
 grind
theorem Gn{f g ρ q:Type}{l:List q}{body:g->Option (aY g ρ)}{k:Nat}(st:f->Int->g)(Inv:Nat->f->Prop)(w:∀i(hi:i<l.length)s,Inv i s->∃e,body (st s (i:Int))=some (.go (st e ((i+1:Nat):Int)))/\Inv (i+1) e)(x:∀s,Inv l.length s->body (st s (l.length:Int))=some (.ex k (st s (l.length:Int)))){s0:f}(E:Inv 0 s0){fuel:Nat}(j:l.length<fuel):∃s,az body fuel (st s0 0)=some (.ex k (st s (l.length:Int)))/\Inv l.length s:=by
 have y:∀m i s,i+m=l.length->Inv i s->∀fuel,m<fuel->∃e,az body fuel (st s i)=some (.ex k (st e l.length))/\Inv l.length e:=by intro m;induction m with
 |zero=>
 intro i s hi h fuel j;obtain rfl:i=l.length:=by omega
 obtain⟨fuel,rfl⟩:∃m,fuel=m+1:=⟨fuel-1,by omega⟩;refine⟨s,?_,h⟩;simp[az,x s h]|succ m F=>intro i s hi h fuel j;obtain⟨fuel,rfl⟩:∃m,fuel=m+1:=⟨fuel-1,by omega⟩;obtain⟨e,h1,G⟩:=w i (by omega) s h;obtain⟨H,I,J⟩:=F (i+1) e (by omega) G fuel (by omega);refine⟨H,?_,J⟩;simp[az,h1];exact I
 exact y l.length 0 s0 (by omega) E fuel j
theorem CH{f g ρ:Type}{body:g->Option (aY g ρ)}{k:Nat}(st:f->Int->g)(a N:Nat)(w:a<=N)(Inv:Nat->f->Prop)(x:∀i,a<=i->i<N->∀s,Inv i s->∃e,body (st s (i:Int))=some (.go (st e ((i+1:Nat):Int)))/\Inv (i+1) e)(y:∀s,Inv N s->body (st s (N:Int))=some (.ex k (st s (N:Int)))){s0:f}(M:Inv a s0){fuel:Nat}(j:N-a<fuel):∃s,az body fuel (st s0 (a:Int))=some (.ex k (st s (N:Int)))/\Inv N s:=by
 have E:∀m i s,i+m=N->a<=i->Inv i s->∀fuel,m<fuel->∃e,az body fuel (st s i)=some (.ex k (st e N))/\Inv N e:=by intro m;induction m with
 |zero=>
 intro i s hi q h fuel j;obtain rfl:i=N:=by omega
 obtain⟨fuel,rfl⟩:∃m,fuel=m+1:=⟨fuel-1,by omega⟩;refine⟨s,?_,h⟩;simp[az,y s h]|succ m F=>intro i s hi q h fuel j;obtain⟨fuel,rfl⟩:∃m,fuel=m+1:=⟨fuel-1,by omega⟩;obtain⟨e,h1,G⟩:=x i q (by omega) s h;obtain⟨H,I,J⟩:=F (i+1) e (by omega) (by omega) G fuel (by omega);refine⟨H,?_,J⟩;simp[az,h1];exact I
 grind
theorem CF{ρ w:Type}{l:List w}{body:Int->Option (aY Int ρ)}{k:Nat}(p:w->Prop)(r:Nat->ρ)(H:∀i(hi:i<l.length),(p l[i]/\body (i:Int)=some (.ret (r i)))∨(¬p l[i]/\body (i:Int)=some (.go ((i+1:Nat):Int))))(I:body (l.length:Int)=some (.ex k (l.length:Int))){fuel:Nat}(u:l.length<fuel):(∃i,∃hi:i<l.length,p l[i]/\(∀j(e:j<i),¬p (l[j]'(by omega)))/\az body fuel 0=some (.ret (r i)))∨((∀x∈l,¬p x)/\az body fuel 0=some (.ex k (l.length:Int))):=by
  have y:∀m i,i+m=l.length->(∀j(e:j<i)z,¬p l[j])->∀fuel,m<fuel->(∃j,∃e:j<l.length,p l[j]/\(∀q(E:q<j),¬p (l[q]'(by omega)))/\az body fuel i=some (.ret (r j)))∨((∀j(e:j<l.length),¬p l[j])/\az body fuel i=some (.ex k l.length)):=by
   intro m;induction m with|zero=>
 intro i hi g fuel u;obtain rfl:i=l.length:=by omega
 obtain⟨fuel,rfl⟩:∃m,fuel=m+1:=⟨fuel-1,by omega⟩;refine .inr ⟨λj e=>g j e e,?_⟩;simp[az,I]|succ m J=>
   intro i hi g fuel u;obtain⟨fuel,rfl⟩:∃m,fuel=m+1:=⟨fuel-1,by omega⟩;rcases H i (by omega)with⟨h1,f⟩|⟨h1,f⟩;.refine .inl ⟨i,by omega,h1,λq E=>g q E (by omega),?_⟩;simp[az,f]
   .simp[az,f];exact J (i+1) (by omega) (λj e z=>by
 rcases bw j i with h|h;.exact g j h z
 · obtain rfl:j=i:=by omega
   exact h1) fuel (by omega)
  rcases y l.length 0 (by omega) (λj e _=>absurd e (fB j)) fuel u with h|⟨h1,f⟩;.exact .inl h
  .refine .inr ⟨λx M=>?_,f⟩;obtain⟨j,e,rfl⟩:=bR M;exact h1 j e
theorem foldl_filterMap{e g:Type}(p:e->Bool)(f:e->g):∀(l:List e)(s:List g),l.foldl (λs r=>if p r then s++[f r]else s) s=s++(l.filter p).map f
 |[],s=>by simp;|x::l,s=>by
  rw[lK,foldl_filterMap p f l];by_cases h:p x=true;.simp [h]
  .simp [h]
theorem foldl_flatMap{e g:Type}(f:e->List g):∀(l:List e)(s:List g),l.foldl (λs r=>s++f r) s=s++l.flatMap f|[],s=>by simp;|x::l,s=>by rw[lK,foldl_flatMap f l];simp
def Ag(n:Int):Int:=IntKind.i64.wrap (IK.shr (IK.mk (IntKind.u64.wrap n):IK .u64) 1).n
theorem Ns{n:Int}(e:0<=n)(h:n<9223372036854775808):Ag n=n/2:=by
 unfold Ag IK.shr;have e1:IntKind.u64.wrap n=n:=by simp[IntKind.wrap,IntKind.bits];omega
 rw[IntKind.wrap_i64];grind
theorem bsearch{G ρ:Type}{l:List G}{p:G->Bool}{body:Int×Int->Option (aY (Int×Int) ρ)}{k:Nat}(V:l.length<4611686018427387904)(H:∀i j(u:i<j)(g:j<l.length),p l[j]=true->p (l[i]'(by omega))=true)(Q:∀i j:Nat,∀u:i<j,∀g:j<=l.length,body ((i:Int),(j:Int))=some (.go (if p (l[(i+j)/2]'(by omega))then((((i+j)/2+1:Nat):Int),(j:Int))else((i:Int),(((i+j)/2:Nat):Int)))))(I:∀i:Nat,body ((i:Int),(i:Int))=some (.ex k ((i:Int),(i:Int)))){fuel:Nat}(x:l.length<fuel):∃n:Nat,n<=l.length/\az body fuel (0,(l.length:Int))=some (.ex k ((n:Int),(n:Int)))/\(∀i(hi:i<l.length),p l[i]=true↔i<n):=by
  have y:∀m i j:Nat,i<=j->j-i<=m->∀g:j<=l.length,(∀q(f:q<l.length),q<i->p l[q]=true)->(∀q(f:q<l.length),j<=q->p l[q]=false)->∀fuel,m<fuel->∃n:Nat,n<=l.length/\az body fuel ((i:Int),(j:Int))=some (.ex k ((n:Int),(n:Int)))/\(∀i(hi:i<l.length),p l[i]=true↔i<n):=by
   intro m;induction m with|zero=>
 intro i j u R g h1 M fuel x;obtain rfl:i=j:=by omega
 obtain⟨fuel,rfl⟩:∃m,fuel=m+1:=⟨fuel-1,by omega⟩;refine⟨i,g,by simp only[az,I],λq f=>⟨λh=>?_,h1 q f⟩⟩;grind|succ m P=>
      intro i j u R g h1 M fuel x;obtain⟨fuel,rfl⟩:∃m,fuel=m+1:=⟨fuel-1,by omega⟩;rcases bw i j with z|T
      · have e:=Q i j z g;have U:(i+j)/2<l.length:=by omega
        split at e;·rename_i w;simp only[az,e];exact P _ j (by omega) (by omega) g (λq f E=>by
 rcases bw q ((i+j)/2)with h|h;.exact H q _ h U w
 · have:q=(i+j)/2:=by omega
   subst this;exact w) M fuel (by omega)
        ·rename_i w;simp only[az,e];exact P i _ (by omega) (by omega) (by omega) h1 (λq f E=>by
 rcases bw ((i+j)/2) q with h|h;.rw[uM];intro F;exact w (H _ q h f F)
 · have:q=(i+j)/2:=by omega
   subst this;simpa using w) fuel (by omega)
      · obtain rfl:i=j:=by omega
        refine⟨i,g,by simp only[az,I],λq f=>⟨λh=>?_,h1 q f⟩⟩;grind
  exact y l.length 0 l.length (cr _) (by omega) (aN _) (λq _ h=>absurd h (fB q)) (λq f h=>absurd f (by omega)) fuel x
open Go.Proofs Go.Sort Go.RowKit Go.Lib
variable{P:Program}
def DA{f:Type}[Enc f](v:Value)(k:K)(e:TypeId)(x:List f):Pred:=λu g=>an 0 e x u g/\Wr (obF v) k (obF u)
theorem PJ{f:Type}[Enc f]{u v:Value}{k:K}{B:Nat}{e:TypeId}{x:List f}(h:v=u)(g:an B e x v k):bL u B e x v k:=⟨h,g⟩
theorem GG{k:K}:∀{f:List Int}{e:List Value},cQ k e f↔e=f.map (Value.int .i64)
 |[],e=>by simp[cQ];|x::f,e=>by
  rw[uE];have:∀l:List Int,(l.map λn=>dt.enc n).flatten=l.map (Value.int .i64):=by intro l;induction l with|nil=>rfl;|cons a l h=>simp[h];rfl
  rw[this]
section
variable{k0:K}{b off cap:Nat}{cur:Array Value}{e:TypeId}{xs:List Int}{cs:List Value}
theorem CT(g:k0.w.heap[b]?=some (.cells cur e (0,0)))(m:off+xs.length<=cur.size)(f:(cur.toList.drop off).take (xs.length*Enc.sz Int)=cs)(h:cQ k0 cs xs):Holds (Value.int .i64) k0.w b off xs.toArray:=by
 intro j q;simp[jI]at q;refine⟨?_,by simp[World.frozen?,g]⟩;have h1:cs[j]?=cur[off+j]?:=by rw[<-f,lN,if_pos (by show j<xs.length*1;omega),mR,qO]
 rw[GG.1 h]at h1;simp only[World.cell?,g,<-h1];rw[getElem!_pos _ j (by simpa using q)];simp
theorem IJ{ys zs:List Int}(V:0<=b)(W:¬k0.sh b)(Q:k0.w.heap[b]?=some (.cells cur e (0,0)))(hc1:xs.length<=cap)(y:0<cap)(J:cap<=maxLen)(j:off+cap*Enc.sz Int<=cur.size)(z:(ys++zs).length=xs.length){w':World}{n:Nat}{os:Array Obj}(q:w'=grow (putRow (Value.int .i64) (Sort.ahead k0.w n) b off (ys++zs).toArray) os):∃f:K,f.w=w'/\Chg (obF (.slice (some ⟨b,off,none⟩) xs.length cap)) k0 f/\an 0 e ys (.slice (some ⟨b,off,none⟩) ys.length cap) f:=by
 have M:b<k0.w.heap.size:=(bJ.1 Q).1;have E:k0.w.heap.size<=w'.heap.size:=by rw[q];unfold putRow mapBlock;simp[grow,Sort.ahead]
 have hblk:∀x,x<k0.w.heap.size->x≠b->w'.heap[x]?=k0.w.heap[x]?:=by intro x F O;rw[q];unfold putRow mapBlock;rw[heap_grow_old _ _ (by simpa[Sort.ahead]using F)];simp[uw,O.symm,Sort.ahead]
 have G:w'.heap[b]?=some (.cells (putCells (Value.int .i64) off (ys++zs).toArray cur) e (0,0)):=by rw[q];unfold putRow mapBlock;rw[heap_grow_old _ _ (by simpa[Sort.ahead]using M)];simp[uw,Q,onCells,Sort.ahead]
 let f:K:=⟨w',k0.sh,λx F=>gz (k0.lt x F) E⟩;have hyl:ys.length<=xs.length:=by rw[<-z,bp];omega
 have T:Enc.sz Int=1:=rfl;refine⟨f,rfl,⟨by rw[show f.w=w' from rfl,q];rfl,by rw[show f.w=w' from rfl,q];rfl,by rw[show f.w=w' from rfl,q];rfl,E,λx F hF=>hblk x F λe'=>hF (by simp[obF,ob,e',gA y]),λ _ h=>h,λ _ _ h=> .inl h,by rw[show f.w=w' from rfl,q];exact Nat.le_add_right _ _⟩, .inr (.inr ⟨b,off,cap,_,_,rfl,V,W,G,by omega,y,J,by simpa[putCells]using j,rfl,?_⟩)⟩;rw[GG];refine nN λt=>?_;rw[lN,T,Nat.mul_one];split
 · rename_i U;have I:off+t<cur.size:=by rw[T]at j;omega
   rw[mR,qO,putCells,Array.getElem?_mapIdx,dV I,eg,if_pos (by simp;omega),qH,getElem!_pos _ t (by simp;omega),rm,cL U];simp[List.getElem_append_left U]
 grind
end
theorem Kp{f:FuncId}{S:List Int->List Int}{e:TypeId}{xs:List Int}{v0:Value}{k0:K}(z:(S xs).length=xs.length)(j:∀p cap w,Calls P f #[.slice p 0 cap] w λe m=>e= .returned (.tuple #[])/\m=w)(T:∀blk off cap (w:World),Holds (Value.int .i64) w blk off xs.toArray->blk<w.heap.size->Calls P f #[.slice (some ⟨blk,off,none⟩) xs.length cap] w λe m=>e= .returned (.tuple #[])/\∃n os,m=grow (putRow (Value.int .i64) (Sort.ahead w n) blk off (S xs).toArray) os)(i0:an 0 e xs v0 k0):Calls P f #[v0] k0.w (bY (obF v0) k0 λ_ q=>an 0 e (S xs) v0 q):=by
 have Q:∀p cap,v0= .slice p 0 cap->xs=[]->Calls P f #[v0] k0.w (bY (obF v0) k0 λ _ q=>an 0 e (S xs) v0 q):=by intro p cap u x;have E:S xs=[]:=oU.1 (by rw[z,x];rfl);subst u;refine(j p cap k0.w).mono ?_;rintro U m⟨rfl,rfl⟩;refine⟨k0,rfl,Chg.refl _ k0,?_⟩;rw[E];rw[x]at i0;exact i0
 rcases i0 with⟨u,x⟩|⟨a,u,x⟩|⟨b,off,cap,cur,cs,rfl,V,W,F,G,I,J,h,M,y⟩;.exact Q _ _ u x
 .exact Q _ _ u x
 .have O:b<k0.w.heap.size:=(bJ.1 F).1;have hE:Enc.sz Int=1:=rfl;have hH:=CT F (by rw[hE]at h;omega) M y;refine(T b off cap k0.w hH O).mono ?_;rintro U m⟨rfl,n,os,hw⟩;obtain⟨q,e1,hg,g⟩:=IJ (zs:=[]) V W F G I J h (by simpa using z) (by simpa using hw);exact⟨q,e1,hg,by rw[z]at g;exact g⟩
theorem Eb{f:FuncId}{e:TypeId}{xs:List Int}{v0:Value}{k0:K}(Q:(compact xs).length<=xs.length)(T:xs.length<=1073741824)(j:∀p cap w,Calls P f #[.slice p 0 cap] w λe w'=>e= .returned (.slice p 0 cap)/\w'=w)(W:∀blk off cap (w:World),Holds (Value.int .i64) w blk off xs.toArray->xs.length<=cap->Calls P f #[.slice (some ⟨blk,off,none⟩) xs.length cap] w λe w'=>e= .returned (.slice (some ⟨blk,off,none⟩) (compact xs).length cap)/\∃q,w'=putRow (Value.int .i64) (Sort.ahead w q) blk off (compact xs++List.replicate (xs.length-(compact xs).length) 0).toArray)(i0:an 0 e xs v0 k0):Calls P f #[v0] k0.w (bY (obF v0) k0 (DA v0 k0 e (compact xs))):=by
 have U:∀p cap,v0= .slice p 0 cap->xs=[]->Calls P f #[v0] k0.w (bY (obF v0) k0 (DA v0 k0 e (compact xs))):=by intro p cap z x;have I:compact xs=[]:=oU.1 (by rw[x]at Q⊢;simpa using Q);subst z;refine(j p cap k0.w).mono ?_;rintro e' w'⟨rfl,rfl⟩;refine⟨k0,rfl,Chg.refl _ k0,?_,λb h=> .inl h⟩;rw[I];rw[x]at i0;exact i0
 rcases i0 with⟨z,x⟩|⟨a,z,x⟩|⟨b,off,cap,cur,cs,rfl,hB,ho,V,E,J,M,g,O,F⟩;.exact U _ _ z x
 .exact U _ _ z x
 .have hE:Enc.sz Int=1:=rfl;have hH:=CT V (by rw[hE]at g;omega) O F;refine(W b off cap k0.w hH E).mono ?_;rintro e' w'⟨rfl,q,hw⟩;obtain⟨k',e1,hg,G⟩:=IJ (ys:=compact xs) (zs:=List.replicate (xs.length-(compact xs).length) 0) (w':=w') hB ho V E J M g (by simp;omega) (by rw[hw,grow_empty]);refine⟨k',e1,hg,G,λb h=> .inl ?_⟩;simpa[obF,ob]using h
theorem Fx{f:FuncId}{x:Type}[Enc x]{e:TypeId}{n:Int}{r:List x}{v0 J:Value}{k0:K}(O:dX P e x)(i0:v0= .slice none 0 0)(Q:IsV n J k0)(y:zB x n=some r)(R:Calls P f #[.slice none 0 0, .int .i64 0] k0.w λe g=>e= .returned (.slice none 0 0)/\g=k0.w)(h1:∀(m:Nat)(i:TypeInfo)(z:Value),0<m->m<=1073741824->P.info? e=some i->i.zero=some z->0<i.size->i.bytes<=65536->Calls P f #[.slice none 0 0, .int .i64 (m:Int)] k0.w λT g=>T= .returned (.slice (some ⟨k0.w.heap.size,0,none⟩) 0 (grownCap k0.w (0+m) 0 e))/\g=k0.w.drew.alloc (.cells (([]:List Value).toArray++Builtin.zeroCells z.cells (0+m-0)++Builtin.zeroCells z.cells (grownCap k0.w (0+m) 0 e-(0+m))) e)):Calls P f #[v0,J] k0.w (Ret k0 (an k0.w.heap.size e r)):=by
 subst i0;obtain rfl:=ar.1 Q;unfold zB at y;split at y
 · rename_i hn;obtain rfl:=ae y;rcases jP 0 n with U|U
   · obtain⟨m,rfl⟩:∃m:Nat,n=m:=⟨n.toNat,by omega⟩;obtain⟨i,z,hi,E,V,F,M,G⟩:=O;refine(h1 m i z (by omega) (by omega) hi E (by omega) G).mono ?_;rintro W g⟨rfl,j⟩;have H:=grownCap_ge k0.w (0+m) 0 e;have u:grownCap k0.w (0+m) 0 e<=maxLen:=grownCap_le_maxLen k0.w _ 0 e (by unfold maxLen;omega);generalize grownCap k0.w (0+m) 0 e=cap at H u j;let q:K:=⟨g,k0.sh,λb I=>by have:=k0.lt b I;rw[j];simp;omega⟩;have hblk:∀b,b<k0.w.heap.size->g.heap[b]?=k0.w.heap[b]?:=λb I=>by rw[j];exact(World.grownBy_alloc k0.w.drew _ none).block b I (by simp)
     refine⟨q,rfl,⟨by rw[show q.w=g from rfl,j];rfl,by rw[show q.w=g from rfl,j];rfl,by rw[show q.w=g from rfl,j];rfl,by rw[show q.w=g from rfl,j];simp,hblk,λ _ h=>h,λ _ _ h=>h,by rw[show q.w=g from rfl,j];exact gP _⟩,.inr (.inr ⟨k0.w.heap.size,0,cap,_,[],rfl,aN _,λhs=>fU _ (k0.lt _ hs),by rw[show q.w=g from rfl,j];exact heap_alloc_new k0.w.drew _,cr _,by omega,u,?_,by simp,rfl⟩)⟩;simp only[tX,size_zeroCells,F];simp[gV,bS];rw[<-dJ];exact eh _ (by omega)
   · obtain rfl:n=0:=by omega
     refine R.mono ?_;rintro W g⟨rfl,rfl⟩;exact⟨k0,rfl,bD.refl k0, .inl ⟨rfl,rfl⟩⟩
 .simp at y
theorem Hp{k f:K}(h:bD k f):∃q g,f.w=grow (k.w.drewN q) g:=by
 refine⟨f.w.drawn-k.w.drawn,f.w.heap.extract k.w.heap.size f.w.heap.size,?_⟩;have e1:f.w.heap=k.w.heap++f.w.heap.extract k.w.heap.size f.w.heap.size:=by
  refine Array.ext_getElem? λi=>?_;rw[Array.getElem?_append];split;.rename_i hi;exact h.blk i hi
  grind
 have j:f.w.drawn=k.w.drawn+(f.w.drawn-k.w.drawn):=by have:=h.drawn;omega
 have h1:=h.tape;have m:=h.os;have u:=h.out;unfold grow World.drewN;revert e1 j h1 m u;generalize f.w=x;obtain⟨y,z,E,F,G⟩:=x;grind
theorem NQ{f:FuncId}{args:Array Value}{k:K}{r:Int}(h:Calls P f args k.w (Ret k (IsV r))):Calls P f args k.w λe x=>e= .returned (.int .i64 r)/\∃q j,x=grow (k.w.drewN q) j:=h.mono λe x m=>by cases e with|returned v=>obtain⟨E,rfl,y,z⟩:=m;exact⟨by rw[ar.1 z],Hp y⟩;|panicked c=>exact m.elim;|outgrown=>exact m.elim
def Si(w:World):K:=⟨w,λ_=>False,λ_ h=>h.elim⟩
theorem FR{f:Type}[Enc f][dt f](h:Enc.agg f=true)(x:f)(k:K):IsV x (.agg (dt.enc x).toArray) k:=⟨dt.enc x,by rw[h];rfl,dt.rep.2 rfl⟩
theorem KE{g:Type}[DecidableEq g][Inhabited g]{z:List g}{j:Nat}(h:j<z.length)(m:0<j):keeps z.toArray j=decide (z[j]≠z[j-1]'(by omega)):=by unfold keeps;grind
theorem AI{l:List Int}(H:l.Pairwise λa b=>a<=b):(compact l).Pairwise (λa b=>a<b)/\(∀x,x∈compact l↔x∈l)/\(compact l).length<=l.length:=by
  have g:=fe.1 H;have q:∀m,m<=l.length->(compactUpTo l.toArray m).Pairwise (λa b=>a<b)/\(∀x,x∈compactUpTo l.toArray m↔x∈l.take m)/\(compactUpTo l.toArray m).length<=m:=by intro m;induction m with|zero=>intro _;simp[compactUpTo];|succ m I=>
 intro R;obtain⟨h1,u,V⟩:=I (by omega);rw[compactUpTo_succ,dj (by omega:m<l.length)];have e:l.toArray[m]! =l[m]:=by rw[getElem!_pos _ m (by simp;omega)];simp
 rcases qp m with rfl|J;.simp[keeps,compactUpTo,e]
 · rw[KE (by omega) J,e];have M:l[m-1]'(by omega)<=l[m]:=g (m-1) m (by omega) (by omega) (by omega);by_cases F:l[m]=l[m-1]'(by omega)
   · simp only[F,ne_eq,not_true_eq_false,decide_false,mW,if_false,ni];refine⟨h1,λx=>?_,by omega⟩;rw[u];constructor;.intro h;exact qL _ h
     · intro h;rcases dK.1 h with h|h;.exact h
       ·simp only[eZ]at h;subst h;rw[List.mem_iff_getElem];exact⟨m-1,by simp;omega,by simp⟩
   · simp only[ne_eq,F,not_false_eq_true,decide_true,if_true];refine⟨?_,λx=>?_,by simp;omega⟩
     · rw[List.pairwise_append];refine⟨h1,List.pairwise_singleton _ _,λx O y G=>?_⟩;simp only[eZ]at G;subst G;have:=(u x).1 O;obtain⟨j,Q,rfl⟩:=bR this;rw[List.getElem_take];simp only[dT]at Q;have W:l[j]'(by omega)<=l[m-1]'(by omega):=by
        rcases bw j (m-1)with h|h;.exact g j (m-1) (by omega) (by omega) h
        grind
       omega
     .rw[dK,dK,u]
  have:=q l.length (aN _);rwa[cJ]at this
theorem zC{l:List Int}:(compact l).length<=l.length:=by unfold compact compactUpTo;grind
def HN(x:Int):List Int->List Int|[]=>[x]|y::l=>if x<=y then x::y::l else y::HN x l
def Ft:List Int->List Int|[]=>[]|x::l=>HN x (Ft l)
theorem xB(x:Int):∀l,(HN x l).Perm (x::l)
 |[]=> .refl _|y::l=>by
  unfold HN;split;.exact .refl _
  .exact((xB x l).cons y).trans (.swap x y l)
theorem FJ(x:Int):∀{l:List Int},l.Pairwise (.<=.)->(HN x l).Pairwise (.<=.)
 |[],_=>by simp[HN];|y::l,h=>by
  have j:=jK.1 h;unfold HN;split;.rename_i g;exact jK.2 ⟨λz f=>by
 rcases bF.1 f with rfl|f;.exact g
 .exact Int.le_trans g (j.1 z f),h⟩
  .exact jK.2 ⟨λz f=>by
 rcases bF.1 ((xB x l).subset f)with rfl|f;.omega
 .exact j.1 z f,FJ x j.2⟩
theorem vr:∀l,(Ft l).Perm l|[]=> .refl _|x::l=>(xB x _).trans ((vr l).cons x)
theorem xN:∀l,(Ft l).Pairwise (.<=.)|[]=> .nil|x::l=>FJ x (xN l)
theorem KY(l:List Int):Ft l=l.mergeSort λx y=>decide (x<=y):=List.Perm.eq_of_pairwise (λa b _ _ h1 h=>Int.le_antisymm h1 h) (xN l) (by have:=List.pairwise_mergeSort (le:=λx y:Int=>decide (x<=y)) (by simp;omega) (by simp;omega) l;simpa using this) ((vr l).trans (List.mergeSort_perm _ _).symm)
def jS(l:List Int):Option (List Int):=if l.length<=1073741824 then some (Ft l)else none
theorem mL{l:List Int}(h:l.length<=1000000):∃r,jS l=some r/\r.Perm l/\r.Pairwise λa b=>a<=b:=⟨_,if_pos (by omega),vr l,xN l⟩
def fM(l:List Int):Option (List Int):=if l.length<=1073741824 then some (compact l)else none
theorem mr{l:List Int}(h:l.length<=1000000)(f:l.Pairwise λa b=>a<=b):∃r,fM l=some r/\r.Pairwise (λa b=>a<b)/\(∀x,x∈r↔x∈l)/\r.length<=l.length:=⟨_,if_pos (by omega),AI f⟩
end Go.Gb
namespace Go.Gb
variable{T:Tb}{R:Type}
def body(f:Func):Code:=f.body.getD .skip
def Tl:List (Nat×Tp)->Nat->Option Tp|[],_=>none|(a,t)::l,i=>bif Nat.beq a i then some t else Tl l i
def fI(s:Nat)(e:Env T):Nat:=match lk e s with| .v .int n=>n.toNat+1|_=>0
def S7(e:Env T)(s:Nat):Nat:=match nrm (lk e s)with| .v (.list _) x=>x.length| .own _ _ _ x=>x.length|_=>0
def fLs(e:Env T):Nat->List Nat->Nat|a,[]=>a+1|a,s::l=>fLs e (a+S7 e s) l
def fL(l:List Nat)(e:Env T):Nat:=match l with|[]=>1|s::l=>fLs e (S7 e s) l
def gt(e:Env T)(s:Nat)(t:Tp):T.D t:=(asT t (nrm (lk e s))).getD (T.yN t)
def vY(P:Program)(T:Tb):List (TypeId×Nat)->Prop|[]=>True|(t,n)::l=>@zr P t (T.S n) (T.enc n) (T.deq n)/\vY P T l
theorem vY.at{P:Program}:∀{l:List (TypeId×Nat)},vY P T l->∀t n,l.contains (t,n)=true->@zr P t (T.S n) (T.enc n) (T.deq n)
 |[],_,_,_,h=>by simp at h;|(f,g)::l,h,t,n,e=>by
  simp only[List.contains_cons,bU,beq_iff_eq]at e;rcases e with⟨rfl,rfl⟩|e;.exact h.1
  .exact vY.at h.2 t n e
structure Fk(T:Tb)(P:Program)where
 f:FuncId
 d:FnE T
 ok:JN P f d
def kD{P:Program}(l:List (Fk T P)):PU T:=l.map λk=>(k.f,k.d)
theorem xR{P:Program}:∀(l:List (Fk T P))(f:FuncId)(d:FnE T),dep (kD l) f=some d->JN P f d|[],_,_,h=>by simp[kD,dep]at h;|k::l,f,d,h=>by simp[kD,dep]at h;cases e:Nat.beq k.f f with|true=>rw[e]at h;obtain rfl:=bd e;obtain rfl:=ae h;exact k.ok;|false=>rw[e]at h;exact xR l f d h
theorem HIs.cons{a b:Tp}{l:List Tp}{x:HL T.S (a::b::l)}{f:List Value}{k:K}(h:HIs (a::b::l) x f k):∃u e,f=u::e/\IsV x.1 u k/\HIs (b::l) x.2 e k:=by cases f with|nil=>exact h.elim;|cons u e=>exact⟨u,e,rfl,h.1,h.2⟩
theorem HIs.one{a:Tp}{x:HL T.S [a]}{e:List Value}{k:K}(h:HIs [a] x e k):∃u,e=[u]/\IsV (α:=T.D a) x u k:=by cases e with|nil=>exact h.elim;|cons u g=>cases g with|nil=>exact⟨u,rfl,h⟩;|cons _ _=>exact h.elim
theorem HIs.nil{x:HL T.S []}{e:List Value}{k:K}(h:HIs [] x e k):e=[]:=by cases e with|nil=>rfl;|cons u g=>exact h.elim
theorem F9{a:Act}{k:K}:∀{l:List Tp}{x:HL T.S l}{f:List Value}{i:Nat},HIs l x f k->oA a i f->∀t,(lk (zZ i l x) t).is a (a.get t) k/\aO (lk (zZ i l x) t)=false/\∀s,(lk (zZ i l x) t).bW s=false
 |[],_,_,_,_,_,t=>⟨trivial,rfl,λ_=>rfl⟩|[b],x,f,i,h,g,t=>by
  obtain⟨u,rfl,j⟩:=h.one;simp[zZ];rw[bB];split;.rename_i e;subst e;rw[g.1];exact⟨iD.2 j,ug,λ_=>qS⟩
  .exact⟨trivial,rfl,λ_=>rfl⟩|b::c::l,x,f,i,h,g,t=>by
  obtain⟨u,q,rfl,j,m⟩:=h.cons;simp[zZ];rw[bB];split;.rename_i e;subst e;rw[g.1];exact⟨iD.2 j,ug,λ_=>qS⟩
  .exact F9 m g.2 t
theorem HIs.len{k:K}:∀{l:List Tp}{x:HL T.S l}{e:List Value},HIs l x e k->e.length=l.length|[],_,_,h=>by rw[h.nil];rfl;|[_],_,_,h=>by obtain⟨u,rfl,_⟩:=h.one;rfl;|_::_::_,_,_,h=>by obtain⟨u,g,rfl,_,f⟩:=h.cons;simp[HIs.len f]
structure FkR(T:Tb)(P:Program)where
 f:FuncId
 d:FnR T
 ok:yB P f d
def jX{P:Program}(l:List (FkR T P)):LJ T:=l.map λk=>(k.f,k.d)
theorem vN{P:Program}:∀(l:List (FkR T P))(f:FuncId)(d:FnR T),BK (jX l) f=some d->yB P f d|[],_,_,h=>by simp[jX,BK]at h;|k::l,f,d,h=>by simp[jX,BK]at h;cases e:Nat.beq k.f f with|true=>rw[e]at h;obtain rfl:=bd e;obtain rfl:=ae h;exact k.ok;|false=>rw[e]at h;exact vN l f d h
structure FkQ(T:Tb)(P:Program)where
 f:FuncId
 d:FnQ T
 ok:LC P f d
def mQ{P:Program}(l:List (FkQ T P)):LN T:=l.map λk=>(k.f,k.d)
theorem vi{P:Program}:∀(l:List (FkQ T P))(f:FuncId)(d:FnQ T),Ka (mQ l) f=some d->LC P f d|[],_,_,h=>by simp[mQ,Ka]at h;|k::l,f,d,h=>by simp[mQ,Ka]at h;cases e:Nat.beq k.f f with|true=>rw[e]at h;obtain rfl:=bd e;obtain rfl:=ae h;exact k.ok;|false=>rw[e]at h;exact vi l f d h
theorem My{P:Program}{tid:TypeId->Option Tp}{eqs:List (TypeId×Nat)}{d:FnE T}{f:FuncId}(E:List (Fk T P))(j:List (FkR T P))(q:List (FkQ T P))(wr:Bool)(own:List Nat)(e:Func)(hk:Nat->Code->Env T->(R:Type)->(Env T->Option R)->Option R)(hH:Cn ⟨P,tid,eqs,kD E,jX j,wr,own,e.results.toList,e.ntmps,hk,λc=>c∈mb (body e),mQ q⟩)(h:Hn T)(U:vY P T eqs)(V:P.follows .mixedOrders=true)(F:P=T.P)(W:P.funcs[f]?=some e)(hc:∀args w,(callFunc f args).run P w= .ok (.enter f args) w)(G:e.body=some (body e))(hl:Nat.ble d.dom.length e.ntmps=true)(he:∀x,evF ⟨P,tid,eqs,kD E,jX j,wr,own,e.results.toList,e.ntmps,hk,λc=>c∈mb (body e),mQ q⟩ (body e) h d.dom d.cod x=d.run x):JN P f d:=by let C:Cx T:=⟨P,tid,eqs,kD E,jX j,wr,own,e.results.toList,e.ntmps,hk,λc=>c∈mb (body e),mQ q⟩;refine⟨hc,λk0 vs x r hG hi hr=>?_⟩;refine Ret.ofC ?_;refine dp W G rfl (by have:=hi.len;simpa[this]using(mZ hl)) λa k I hs hd ha=>?_;subst I;have m:=F9 hi ha;have h0:Hl C.n noF k (wrs (body e)) a _ a k:=⟨Chg.refl _ k,hs,hd,λ _ _=>rfl,λt=>(m t).1,λt s u=>by rw[(m t).2.2]at u;simp at u,λt M=>by have h1:=rR M;rw[(m t).2.1]at h1;simp at h1,λt t' _ b G=>absurd G (dC (m t).2.1 _ _ b),hG⟩;refine pH ⟨xR E,vN j,U.at,V,F,vi q⟩ hH (body e) (λ _ h=>h) h _ _ _ r ((he x).trans hr) noF k _ a a k _ (λt M=>M) (λhN=>by simp[isN]at hN) h0 (λe' O Q g=>by simp at g) (λi e' O Q g=>by simp at g) (λy O Q g z=>?_);obtain rfl:=ae g;have⟨h1,_,k2,H,h3,_,_,h4⟩:=z;have⟨v,h5,h6,_⟩:=h4 e rfl;rw[<-H];exact qg h1 h5 h3 h6
theorem zi{C:Cx T}(e:C.hk=yT:=by rfl):Cn C:=λ _ _ _ _ _ _ _ h=>by rw[e]at h;simp[yT]at h
theorem SJ{P:Program}{tid:TypeId->Option Tp}{eqs:List (TypeId×Nat)}{d:FnE T}{f:FuncId}(j:List (Fk T P))(own:List Nat)(e:Func)(h:Hn T)(E:vY P T eqs)(m:P.follows .mixedOrders=true)(g:P=T.P)(q:P.funcs[f]?=some e)(u:∀args w,(callFunc f args).run P w= .ok (.enter f args) w)(y:e.body=some (body e))(z:Nat.ble d.dom.length e.ntmps=true)(F:∀x,evF ⟨P,tid,eqs,kD j,[],false,own,e.results.toList,e.ntmps,yT,λc=>c∈mb (body e),[]⟩ (body e) h d.dom d.cod x=d.run x):JN P f d:=My j [] [] false own e yT (zi rfl) h E m g q u y z F
def xh(tk:Bool):List Pm->Nat->Option Nat|[],_=>none| .v _::l,i=>xh tk l (i+1)| .tu::l,i=>bif tk then xh tk l (i+1)else some i| .tk::l,i=>bif tk then some i else xh tk l (i+1)| .fn _::l,i=>xh tk l (i+1)
theorem PIs.len{k:K}{u f:Value}:∀{l:List Pm}{x:HL T.S (eR l)}{e:List Value},PIs l x u f e k->e.length=l.length|[],_,[],_=>rfl| .v _::l,_,_::_,h=>by simp[PIs.len h.2];| .tu::l,_,_::_,h=>by simp[PIs.len h.2];| .tk::l,_,_::_,h=>by simp[PIs.len h.2];| .fn _::l,_,_::_,h=>by simp[PIs.len h.2]
theorem tA{a:Act}{k:K}{j m:Value}{y z:AV T}:∀{l:List Pm}{x:HL T.S (eR l)}{g:List Value}{i:Nat},PIs l x j m g k->oA a i g->sD l=true->∀t,((lk (pD i l x y z) t).is a (a.get t) k/\aO (lk (pD i l x y z) t)=false/\∀s,(lk (pD i l x y z) t).bW s=false)∨(xh false l i=some t/\lk (pD i l x y z) t=y/\a.get t=j)∨(xh true l i=some t/\lk (pD i l x y z) t=z/\a.get t=m)
 |[],_,_,_,_,_,_,t=> .inl ⟨trivial,rfl,λ_=>rfl⟩| .v _::_,_,[],_,h,_,_,_=>h.elim| .tu::_,_,[],_,h,_,_,_=>h.elim| .tk::_,_,[],_,h,_,_,_=>h.elim| .v p::l,x,v::g,i,h,f,u,t=>by
  simp only[pD];rw[bB];split;·rename_i e;subst e;rw[f.1];exact .inl ⟨iD.2 h.1,ug,λ_=>qS⟩
  .exact tA (l:=l) h.2 f.2 u t| .tu::l,x,v::g,i,h,f,u,t=>by
  simp only[sD,aG]at u;simp only[pD];rw[bB];split;·rename_i e;subst e;exact .inr (.inl ⟨rfl,rfl,f.1.trans h.1⟩)
  · rcases tA (l:=l) (x:=x) (y:=y) (z:=z) h.2 f.2 u.2 t with h1|⟨h1,_⟩|h1;.exact .inl h1
    .exact absurd h1 (by rw[P u.1];simp)
    .exact .inr (.inr h1)| .tk::l,x,v::g,i,h,f,u,t=>by
  simp only[sD,aG]at u;simp only[pD];rw[bB];split;·rename_i e;subst e;exact .inr (.inr ⟨rfl,rfl,f.1.trans h.1⟩)
  · rcases tA (l:=l) (x:=x) (y:=y) (z:=z) h.2 f.2 u.2 t with h1|h1|⟨h1,_⟩;.exact .inl h1
    .exact .inr (.inl h1)
    .exact absurd h1 (by rw[P u.1];simp)| .fn _::_,_,[],_,h,_,_,_=>h.elim| .fn _::l,x,v::g,i,h,f,u,t=>tA (l:=l) h.2 f.2 u t where P{tk:Bool}:∀{l:List Pm}{i:Nat},noP tk l=true->xh tk l i=none
 |[],_,_=>rfl| .v _::l,i,h=>P (l:=l) h| .tu::l,i,h=>by cases tk with|false=>simp[noP]at h;|true=>exact P (l:=l) (by simpa[noP]using h)
 | .tk::l,i,h=>by cases tk with|true=>simp[noP]at h;|false=>exact P (l:=l) (by simpa[noP]using h)
 | .fn _::l,i,h=>P (l:=l) h
def Qs(d:FnR T)(sl:Nat)(c:Code):Bool:=sD d.pm&&(isN d.tu||((match xh false d.pm 0 with|some i=>Nat.beq i sl|none=>false)&&!((wrs c).contains sl)))
theorem SV{P:Program}{tid:TypeId->Option Tp}{eqs:List (TypeId×Nat)}{d:FnR T}{f:FuncId}(pr:d.tu.D T×d.ro.D T×HL T.S d.cod->d.ρ)(hpr:∀r,d.inj (pr r)=r)(ks:List (Fk T P))(W:List (FkR T P))(qks:List (FkQ T P))(wr:Bool)(own:List Nat)(fn:Func)(hk:Nat->Code->Env T->(R:Type)->(Env T->Option R)->Option R)(hH:Cn ⟨P,tid,eqs,kD ks,jX W,wr,own,fn.results.toList,fn.ntmps,hk,λc=>c∈mb (body fn),mQ qks⟩)(h:Hn T)(sl:Nat)(hE:vY P T eqs)(hm:P.follows .mixedOrders=true)(hpe:P=T.P)(hf:P.funcs[f]?=some fn)(hc:∀args w,(callFunc f args).run P w= .ok (.enter f args) w)(q:fn.body=some (body fn))(hl:Nat.ble d.pm.length fn.ntmps=true)(hsl:Qs d sl (body fn)=true)(he:∀x y z,QF ⟨P,tid,eqs,kD ks,jX W,wr,own,fn.results.toList,fn.ntmps,hk,λc=>c∈mb (body fn),mQ qks⟩ (body fn) h d pr hpr sl x y z=d.run x y z):yB P f d:=by
  let C:Cx T:=⟨P,tid,eqs,kD ks,jX W,wr,own,fn.results.toList,fn.ntmps,hk,λc=>c∈mb (body fn),mQ qks⟩;have hC:yL C:=⟨xR ks,vN W,hE.at,hm,hpe,vi qks⟩;simp only[Qs,aG,bU]at hsl;obtain⟨huq,hsl⟩:=hsl;have J:isN d.tu=false->xh false d.pm 0=some sl/\sl∉wrs _:=λm=>by
   rcases hsl with h1|⟨h1,h2⟩;.rw[m]at h1;simp at h1
   · refine⟨?_,by simpa using h2⟩;split at h1;.rename_i i hi;rw[hi,bd h1]
     .simp at h1
  refine⟨hc,λk0 vs E M x y z r hG hi h1 h2 hap hr=>?_⟩;refine dp hf q rfl (by have:=hi.len;have h2:=mZ hl;simpa[this]using h2) λa k hk0 hs hd Q=>?_;subst hk0;have hev:QF C _ h d pr hpr sl x y z=some r:=(he x y z).trans hr;have F:=tA (y:=d.tu.av y) (z:=d.tk.av z) hi Q huq;have av1:(d.tu.av y).is a E k:=by cases m:isN d.tu with|false=>exact(Rk.FL m).2 h1;|true=>
 have:∀(j:Rk)(w:j.D T),isN j=true->(j.av w).is a E k:=λj w h=>by cases j<;>first|trivial|simp[isN]at h
 exact this _ _ m
  have av2:(d.tk.av z).is a M k:=by cases m:isN d.tk with|false=>exact(Rk.FL m).2 h2;|true=>
 have:∀(j:Rk)(w:j.D T),isN j=true->(j.av w).is a M k:=λj w h=>by cases j<;>first|trivial|simp[isN]at h
 exact this _ _ m
  have f1:∀b,(d.tu.av y).fp E k b->d.tu.fp T E k b:=λb q=>by cases m:isN d.tu with|false=>rw[<-Rk.CI m];exact q;|true=>
 have:∀(j:Rk)(w:j.D T),isN j=true->¬(j.av w).fp E k b:=λj w h=>by cases j<;>first|exactλf=>f|simp[isN]at h
 exact(this _ _ m q).elim
  have f2:∀b,(d.tk.av z).fp M k b->d.tk.fp T M k b:=λb q=>by cases m:isN d.tk with|false=>rw[<-Rk.CI m];exact q;|true=>
 have:∀(j:Rk)(w:j.D T),isN j=true->¬(j.av w).fp M k b:=λj w h=>by cases j<;>first|exactλf=>f|simp[isN]at h
 exact(this _ _ m q).elim
  have h0:Hl C.n (λb=>d.tu.fp T E k b∨d.tk.fp T M k b) k (wrs (body fn)) a (pD 0 d.pm x (d.tu.av y) (d.tk.av z)) a k:=by
   refine⟨Chg.refl _ k,hs,hd,λ _ _=>rfl,λt=>?_,λt s G=>?_,λt _ b q=>?_,λt t' hne b q H=>?_,hG⟩
   · rcases F t with u|⟨_,u,I⟩|⟨_,u,I⟩;.exact u.1
     .rw[u,I];exact av1
     .rw[u,I];exact av2
   · rcases F t with u|⟨_,u,I⟩|⟨_,u,I⟩;.rw[u.2.2]at G;simp at G
     .rw[u,Rk.wU]at G;simp at G
     .rw[u,Rk.wU]at G;simp at G
   · rcases F t with u|⟨_,u,I⟩|⟨_,u,I⟩;.exact absurd q (dC u.2.1 _ _ b)
     .rw[u,I]at q;exact .inl (.inl (f1 b q))
     .rw[u,I]at q;exact .inl (.inr (f2 b q))
   · rcases F t with u|⟨h5,u,I⟩|⟨h5,u,I⟩;.exact absurd q (dC u.2.1 _ _ b)
     · rw[u,I]at q;rcases F t' with g3|⟨g5,g3,g4⟩|⟨g5,g3,g4⟩;.exact absurd H (dC g3.2.1 _ _ b)
       .exact hne (ae (h5.symm.trans g5))
       .rw[g3,g4]at H;exact hap b (f1 b q) (f2 b H)
     · rw[u,I]at q;rcases F t' with g3|⟨g5,g3,g4⟩|⟨g5,g3,g4⟩;.exact absurd H (dC g3.2.1 _ _ b)
       .rw[g3,g4]at H;exact hap b (f1 b H) (f2 b q)
       .exact hne (ae (h5.symm.trans g5))
  have fin:∀(y:d.ρ)(U:Act)(k':K),y=r->ve C ⟨sl,d.tu,d.ro,d.cod,d.ρ,pr,d.inj,hpr⟩ _ k a y U k'->∃V v,U.defers=[]/\V.w=k'.w/\(results fn U.tmps).run P V.w= .ok v V.w/\Chg (λb=>d.tu.fp T E k b∨d.tk.fp T M k b) k V/\Py d (λb=>d.tu.fp T E k b∨d.tk.fp T M k b) E (d.inj r) k v V:=λy U k' hy O=>by
   subst hy;obtain⟨g1,g2,V,g3,g4,g5,g6,g7⟩:=O;obtain⟨v,g8,g9,g10,g11⟩:=g7 fn rfl;have hu1:isN d.tu=false->U.get sl=E:=λm=>by obtain⟨p1,p2⟩:=J m;refine(g2 m).trans ?_;exact e hi Q p1
   refine⟨V,v,g1,g3,g8,g4,?_⟩;cases m:isN d.tu with|false=>have e1:=hu1 m;dsimp only at g5 g6 g11;rw[e1]at g5 g6 g11;exact⟨g5,g9,g11,g6,g10⟩|true=>
   have:∀(j:Rk)(w:j.D T),isN j=true->j.is w E V:=λj w h=>by cases j<;>first|trivial|simp[isN]at h
   exact⟨this _ _ m,g9,λb q=>(Rk.fpN m b q).elim,λb q=>(Rk.fpN m b q).elim,g10⟩
  refine pH hC hH (body fn) (λ _ h=>h) h _ _ _ r hev _ k _ a a k _ (λt ht=>ht) (λm=>(J m).2) h0 (λe' U k' g hl'=>?_) (λi e' U k' g=>by simp at g) (λy U k' g O=>?_);·obtain⟨V,v,g1,g3,g8,g4,g5⟩:=fin r U k' rfl (Nh hl' (λm=>(J m).2) g);rw[<-g3];exact qg g1 g8 g4 g5
  ·obtain⟨V,v,g1,g3,g8,g4,g5⟩:=fin y U k' (ae g) O;rw[<-g3];exact qg g1 g8 g4 g5;where e{a:Act}{k:K}{E M:Value}{sl:Nat}:∀{l:List Pm}{x:HL T.S (eR l)}{vs:List Value}{i:Nat},PIs l x E M vs k->oA a i vs->xh false l i=some sl->a.get sl=E|[],_,_,_,_,_,h=>by simp[xh]at h;| .v _::_,_,[],_,h,_,_=>h.elim| .tu::_,_,[],_,h,_,_=>h.elim| .tk::_,_,[],_,h,_,_=>h.elim| .v _::l,_,_::_,_,h,Q,hp=>e (l:=l) h.2 Q.2 hp| .tu::l,_,_::_,i,h,Q,hp=>by simp only[xh,cond_false,aV]at hp;subst hp;exact Q.1.trans h.1| .tk::l,_,_::_,_,h,Q,hp=>e (l:=l) h.2 Q.2 (by simpa[xh]using hp)| .fn _::_,_,[],_,h,_,_=>h.elim| .fn _::l,_,_::_,_,h,Q,hp=>e (l:=l) h.2 Q.2 hp
section
variable{P:Program}{f:FuncId}
theorem kZ{x:Array Value}{w:World}{k:K}{F G:FP}{R S:Pred}(h:Calls P f x w (bY F k R))(z:∀b,F b↔G b)(hi:∀v m,Chg F k m->R v m->S v m):Calls P f x w (bY G k S):=by have e:F=G:=funext λb=>propext (z b);subst e;refine Calls.mono h λe H q=>?_;cases e with|returned v=>have⟨m,h1,y,E⟩:=q;exact⟨m,h1,y,hi _ _ y E⟩;|panicked c=>exact q.elim;|outgrown=>exact q.elim
def fnO(T:Tb)(m:List Pm)(e:TypeId)(t:Tp)(run:HL T.S (eR m)->Option (List (T.D t))):FnR T:=⟨m, .n, .n, .o e t,[],List (T.D t),λr=>((),r,()),λx _ _=>run x⟩
def fnT(T:Tb)(m:List Pm)(e:TypeId)(t:Tp)(run:HL T.S (eR m)->List (T.D t)->Option (List (T.D t))):FnR T:=⟨m, .o e t, .n, .n,[],List (T.D t),λr=>(r,(),()),λx y _=>run x y⟩
def fnB(T:Tb)(m:List Pm)(t:Tp)(run:HL T.S (eR m)->T.D t->Option (T.D t)):FnR T:=⟨m, .b t, .n, .n,[],T.D t,λr=>(r,(),()),λx y _=>run x y⟩
def fnK(T:Tb)(m:List Pm)(e:TypeId)(t:Tp)(h:TypeId)(g:Tp)(run:HL T.S (eR m)->List (T.D t)->Option (List (T.D g))):FnR T:=⟨m, .n, .o e t, .o h g,[],List (T.D g),λr=>((),r,()),λx _ z=>run x z⟩
theorem Mx{m:List Pm}{e:TypeId}{t:Tp}{run:HL T.S (eR m)->List (T.D t)->Option (List (T.D t))}(F:∀args w,(callFunc f args).run P w= .ok (.enter f args) w)(ok:∀(g:K)(j:List Value)(u q:Value)(x:HL T.S (eR m))(y r:List (T.D t)),GOk T g->PIs m x u q j g->an 0 e y u g->run x y=some r->Calls P f j.toArray g.w (bY (obF u) g λ_ E=>an 0 e r u E)):yB P f (fnT T m e t run):=⟨F,λg j u q x y z r G hi h1 _ _ H=>kZ (ok g j u q x y r G hi h1 H) (λb=>⟨.inl,λh=>h.elim id λh=>h.elim⟩) λv E M I=>⟨I,trivial,λb _ h=>h.elim,λb J=> .inl (.inl J),λb h=>h.elim⟩⟩
theorem QC{m:List Pm}{e F:TypeId}{t q:Tp}{run:HL T.S (eR m)->List (T.D t)->Option (List (T.D q))}(H:∀args w,(callFunc f args).run P w= .ok (.enter f args) w)(ok:∀(g:K)(j:List Value)(E u:Value)(x:HL T.S (eR m))(z:List (T.D t))(r:List (T.D q)),GOk T g->PIs m x E u j g->an 0 e z u g->run x z=some r->Calls P f j.toArray g.w (bY (obF u) g (DA u g F r))):yB P f (fnK T m e t F q run):=⟨H,λg j E u x y z r I hi _ J _ M=>kZ (ok g j E u x z r I hi J M) (λb=>⟨.inr,λh=>h.elim (λh=>h.elim) id⟩) λv Q U G=>⟨trivial,G.1,λb h=>h.elim,λb h=>h.elim,λb O=>(G.2 b O).imp .inr id⟩⟩
end
theorem T5{P:Program}{f:FuncId}{x:Array Value}{w:World}{k:K}{R S:Pred}(h:Calls P f x w (Ret k R))(hi:∀v m,R v m->S v m):Calls P f x w (Ret k S):=by refine Calls.mono h λe E q=>?_;cases e with|returned v=>have⟨m,h1,y,z⟩:=q;exact⟨m,h1,y,hi _ _ z⟩;|panicked c=>exact q.elim;|outgrown=>exact q.elim
theorem GOk.none{k:K}(h:∀g,T.gl g= .none)(j:∀g,T.gi=some g->∃m:Int,ax m (.pointer (some ⟨g,0, .none⟩)) k):GOk T k:=⟨λg t x e=>by rw[h g]at e;simp at e,j⟩
theorem GOk.at{e k j:K}(h:GOk T e)(g:Chg noF e k)(m:bD k j):GOk T j:=(h.le (g.le λ_ f=>f.elim)).le m.le
def Tb.zF(T:Tb)(gl:Nat->Option (Σ t:Tp,t.den T.S))(gi:Option Nat):Tb:={T with gl:=gl,gi:=gi}
def FnE.lift(gl:Nat->Option (Σ t:Tp,t.den T.S))(gi:Option Nat)(d:FnE T):FnE (T.zF gl gi):=⟨d.dom,d.cod,d.run⟩
theorem HIs.low{gl:Nat->Option (Σ t:Tp,t.den T.S)}{gi:Option Nat}{k:K}:∀{l:List Tp}{x:HL T.S l}{e:List Value},HIs (T:=T.zF gl gi) l x e k->HIs (T:=T) l x e k|[],_,[],_=>trivial|[_],_,[_],h=>h|_::_::_,_,_::_,h=>⟨h.1,HIs.low h.2⟩
theorem Fa2.lift{gl:Nat->Option (Σ t:Tp,t.den T.S)}{gi:Option Nat}{k:K}:∀{l:List Tp}{x:HL T.S l}{e:List Value},Fa2 (T:=T) (unH l x) e k->Fa2 (T:=T.zF gl gi) (unH (T:=T.zF gl gi) l x) e k|[],_,[],_=>trivial|[_],_,[_],h=>⟨h.1,trivial⟩|_::_::_,_,_::_,h=>⟨h.1,Fa2.lift h.2⟩
theorem KB{gl:Nat->Option (Σ t:Tp,t.den T.S)}{gi:Option Nat}{k:K}{a:Act}{v:Value}:∀{l:List Tp}{x:HL T.S l},(oy (T:=T) l x).is a v k->(oy (T:=T.zF gl gi) l x).is a v k|[],_,_=>trivial|[t],x,h=>(iD).2 ((iD).1 h)|_::_::_,_,⟨g,e,h⟩=>⟨g,e,Fa2.lift h⟩
def Fk.lift{P:Program}(gl:Nat->Option (Σ t:Tp,t.den T.S))(gi:Option Nat)(j:(∀g,T.gl g= .none)/\T.gi= .none)(k:Fk T P):Fk (T.zF gl gi) P:=⟨k.f,k.d.lift gl gi,⟨k.ok.call,λm q x r _ hi u=>T5 (k.ok.ok m q x r (GOk.none j.1 λ_ e=>by rw[j.2]at e;cases e) (HIs.low (T:=T) (gl:=gl) (gi:=gi) (l:=k.d.dom) (x:=x) hi) u) λ _ _ h=>KB (T:=T) (gl:=gl) (gi:=gi) (l:=k.d.cod) (x:=r) h⟩⟩
section
variable{P:Program}{f:FuncId}{vs:Array Value}{w:World}{k:K}
theorem sU{R S:Pred}(h:Calls P f vs w (Ret k R))(hi:∀v m,R v m->S v m):Calls P f vs w (Ret k S):=by refine Calls.mono h λe z q=>?_;cases e with|returned v=>have⟨m,h1,x,y⟩:=q;exact⟨m,h1,x,hi _ _ y⟩;|panicked c=>exact q.elim;|outgrown=>exact q.elim
theorem Nc{a b:Tp}{x:HL T.S [a,b]}(h:Calls P f vs w (Ret k λu j=>(oy [a,b] x).is ⟨#[],[]⟩ u j)):Calls P f vs w (Ret k (eO (IsV (α:=T.D a) x.1) (IsV (α:=T.D b) x.2))):=sU h λv j⟨q,e,g⟩=>by match q,g with|[y,z],g=>exact⟨y,z,e,g.1,g.2.1⟩
end
end Go.Gb
namespace Go.Gb
variable{T:Tb}
theorem PIs.v{t:Tp}{l:List Pm}{x:HL T.S (eR (.v t::l))}{u g:Value}{vs:List Value}{k:K}(h:PIs (.v t::l) x u g vs k):∃v e,vs=v::e/\IsV (α:=T.D t) (hdH x) v k/\PIs l (tlH x) u g e k:=by cases vs with|nil=>exact h.elim;|cons v e=>exact⟨v,e,rfl,h.1,h.2⟩
theorem PIs.tu{l:List Pm}{x:HL T.S (eR (.tu::l))}{u g:Value}{vs:List Value}{k:K}(h:PIs (.tu::l) x u g vs k):∃e,vs=u::e/\PIs l x u g e k:=by cases vs with|nil=>exact h.elim;|cons v e=>exact⟨e,by rw[h.1],h.2⟩
theorem PIs.tk{l:List Pm}{x:HL T.S (eR (.tk::l))}{g u:Value}{vs:List Value}{k:K}(h:PIs (.tk::l) x g u vs k):∃e,vs=u::e/\PIs l x g u e k:=by cases vs with|nil=>exact h.elim;|cons v e=>exact⟨e,by rw[h.1],h.2⟩
theorem PIs.fn{g:Nat}{l:List Pm}{x:HL T.S (eR (.fn g::l))}{u j:Value}{vs:List Value}{k:K}(h:PIs (.fn g::l) x u j vs k):∃e,vs= .func (.func g) #[] #[]::e/\PIs l x u j e k:=by cases vs with|nil=>exact h.elim;|cons v e=>exact⟨e,by rw[h.1],h.2⟩
theorem PIs.nil{x:HL T.S (eR [])}{u e:Value}{vs:List Value}{k:K}(h:PIs [] x u e vs k):vs=[]:=by cases vs with|nil=>rfl;|cons v j=>exact h.elim
end Go.Gb
namespace Go.Gb
def NY(n m:Nat)(f g:List Nat)(A:Array Oper)(q:List Ent):Bool:=lD n m A.toList q&&Region.noSelect A&&pQ A (Array.replicate A.size false) f&&f.all (λl=>decide (l<A.size))&&allI (λj _=>decide (j<m)||f.contains j||(List.range m).all λi=>f.contains i||dW (eB A.toList []) j i) 0 A.toList&&LI A (vV A m f) g&&((vV A m f).toList.filter (.=false)).length==g.length&&decide f.Nodup&&f.all (λl=>f.all λh=>(jc A l).2!=(jc A h).1&&(l==h||(jc A l).1!=(jc A h).1))&&f.all (λl=>decide ((jc A l).1<n))&&f.all λl=>match nth q l with|some e=>e.need.all λx=>x.1!=(jc A l).1|none=>true
section
variable{P:Program}{a0:Act}{k0:K}{es:List Ent}
theorem OK{A:Array Oper}{n m:Nat}{g G:List Nat}{Q:Exit->Act->World->Prop}(hn:a0.tmps.size=n)(hchk:NY n m g G A es=true)(hst:Steps P es a0 k0 (A.toList.take m) es)(hQ:LetsOut Q)(hQp:∀c a w,¬Q (.panic c) a w)(hQo:∀a w,¬Q .outgrown a w)(M:∀a k,Inv A.toList es a0 k0 (.<m) a k->wpOps P A Q G a k.w):∀(z:Nat)(f:Array Bool)(a:Act)(k:K),f.size=A.size->z=(f.toList.filter (.=false)).length->(∀l∈g,f.getD l false=true)->(∀j,f.getD j false=true->j<m∨j∈g)->Inv A.toList es a0 k0 (λj=>f.getD j false=true/\j<m) a k->wpAny P .any A Q z f a k.w:=by
 have O:=hchk;simp only[NY,aG,beq_iff_eq,decide_eq_true_eq]at O;obtain⟨⟨⟨⟨⟨⟨⟨⟨⟨⟨hS,hnos⟩,hlate⟩,hlm⟩,htail⟩,hT⟩,hcnt⟩,hnd⟩,hsrc⟩,hdst⟩,hown⟩:=O;have hS':=hS;simp only[lD,aG,beq_iff_eq,decide_eq_true_eq]at hS';obtain⟨⟨⟨⟨hlen,hml⟩,h2⟩,R⟩,hdist⟩:=hS';have hmA:m<=A.size:=by simpa using hml
 have hmv:∀l∈g,∃o,A[l]?=some o/\o.after=#[]:=by
  have:∀(r:List Nat)(b:Array Bool),pQ A b r=true->∀l∈r,Ng A l=true:=by intro r;induction r with|nil=>intro b _ l T;simp at T;|cons x r ih=>
   intro b hb l T;simp only[pQ,aG]at hb;rcases bF.1 T with rfl|T;.exact hb.1.1.1
   .exact ih _ hb.2 l T
  intro l T;obtain⟨o,ho,_,ha,_⟩:=xS (P:=P) (this g _ hlate l T);exact⟨o,ho,ha⟩
 intro z;induction z with|zero=>
 intro f a k hls hf hL U q;have F:∀j,j<A.size->f.getD j false=true:=by
  intro j H;have hz:=jJ hf.symm;have:f[j]'(by omega)∉f.toList.filter (.=false):=by rw[hz];simp
  simp only[bq,dI,Array.getElem_mem,true_and,decide_eq_true_eq,Bool.not_eq_false]at this;simp[ch,dV (show j<f.size by omega),this]
 have V:f=vV A m g:=by
  refine Array.ext (by simp[vV,hls]) λj h1 h2=>?_;have h3:=F j (by omega);have h4:=U j h3;have h5:f[j]=true:=by simpa[ch,dV h1]using h3
  rw[h5];simp only[vV,Array.getElem_map,Array.getElem_range];simpa using h4
 have u:Inv A.toList es a0 k0 (.<m) a k:=by have W:(λj=>f.getD j false=true/\j<m)=(.<m):=funext λj=>propext ⟨λh=>h.2,λh=>⟨F j (by omega),h⟩⟩;rw[W]at q;exact q
 have h0:G.length=0:=by rw[<-hcnt,<-V];exact hf.symm
 have:=wy hnos hQp hQo G f a k.w (by rw[V];exact hT) (M a k u);rw[h0]at this;exact this|succ z ih=>
    intro f a k hls hf hL U q;by_cases E:∀j,j<m->f.getD j false=true
    · have V:f=vV A m g:=by
       refine Array.ext (by simp[vV,hls]) λj h1 h2=>?_;have hg:f.getD j false=f[j]:=by simp[ch,dV h1]
       have e:(vV A m g)[j]=(decide (j<m)||g.contains j):=by simp[vV]
       rw[e,<-hg,oK];simp only[bU,decide_eq_true_eq,jU];exact⟨U j,λh=>h.elim (E j) (hL j)⟩
      have u:Inv A.toList es a0 k0 (.<m) a k:=by have W:(λj=>f.getD j false=true/\j<m)=(.<m):=funext λj=>propext ⟨λh=>h.2,λh=>⟨E j h,h⟩⟩;rw[W]at q;exact q
      have h0:G.length=z+1:=by rw[<-hcnt,<-V];exact hf.symm
      have:=wy hnos hQp hQo G f a k.w (by rw[V];exact hT) (M a k u);rw[h0]at this;exact this
    · have hex:∃j,j<m/\f.getD j false=false/\∀i,i<j->f.getD i false=true:=by
       obtain⟨j,H⟩:=Classical.not_forall.1 E;have H:j<m/\f.getD j false=false:=by
        by_cases h:j<m;.exact⟨h,by cases hb:f.getD j false with|false=>rfl|true=>exact absurd (λ _=>hb) H⟩
        .exact absurd (λh'=>absurd h' h) H
       clear E;induction j using Nat.strongRecOn with|_ j ihj=>
 by_cases F:∀i,i<j->f.getD i false=true;.exact⟨j,H.1,H.2,F⟩
 ·obtain⟨i,hi⟩:=Classical.not_forall.1 F;obtain⟨hij,hib⟩:i<j/\¬f.getD i false=true:=⟨Classical.byContradiction λh=>hi λh'=>absurd h' h,λh=>hi λ _=>h⟩;exact ihj i hij (λh=>absurd (h (by omega)) hib) ⟨by omega,by simpa using hib⟩
      have hT2:∀j,j<A.size->f.getD j true=f.getD j false:=by intro j H;simp[ch,dV (show j<f.size by omega)]
      have hbind:∀j,j<A.size->((A[j]?).map (·.after.all λe=>!Region.binds .any e||f.getD e.on false)).getD false=true->∀o,nth A.toList j=some o->∀e∈aU o,f.getD e false=true:=by
       intro j hjA hj2 o ho e W;have hA:A[j]?=some o:=by rw[<-aM];exact ho
       rw[hA]at hj2;simp only[eg,eY,fb]at hj2;simp only[aU,aS,bq,dI]at W;obtain⟨y,⟨hy,hyb⟩,rfl⟩:=W;have:=hj2 y hy;simpa only[hyb,gu,fJ]using this
      have hclosed:∀x o',nth A.toList x=some o'->f.getD x false=true->∀e∈aU o',f.getD e false=true:=by
       intro x o' ho' hx e W;rcases U x hx with h|h;.exact(q.closed x o' ho' ⟨hx,h⟩ e W).1
       ·obtain⟨o2,h1,h2⟩:=hmv x h;rw[aM,h1,aV]at ho';subst ho';simp[aU,h2]at W
      refine⟨λhnil=>?_,λi hi=>?_⟩
      · exfalso;obtain⟨j,hjm,I,hlow⟩:=hex;have hjr:j∈Region.ready .any A f:=by
         simp only[Region.ready,bq,eN,aG,cH];refine⟨by omega,by rw[hT2 j (by omega)];exact I,?_⟩;have hA:A[j]?=some A[j]:=by simp[show j<A.size by omega]
         rw[hA];simp only[eg,eY,fb];intro y hy;cases hyb:Region.binds .any y with
 |false=>rfl
 |true=> have ho:nth A.toList j=some A[j]:=by rw[aM];exact hA
         have:=bc R j _ ho;simp only[bS,br,decide_eq_true_eq]at this;exact hlow _ (this y.on (by simp only[aU,aS,bq,dI];exact⟨y,⟨hy,hyb⟩,rfl⟩))
        rw[hnil]at hjr;simp at hjr
      · simp only[Region.ready,bq,eN,aG,cH]at hi;obtain⟨hiA,J,hi2⟩:=hi;rw[hT2 i hiA]at J;have ho:nth A.toList i=some A[i]:=by rw[aM];simp[hiA]
        have hb:=hbind i hiA hi2 _ ho;have him:i<m:=by
         rcases bw i m with h|h;.exact h
         · exfalso;have hnl:i∉g:=λT=>by rw[hL i T]at J;simp at J
           have hc:=bc htail i _ ho;simp only[bS,bU,decide_eq_true_eq,jU]at hc;have hc:=(hc.resolve_left (λh'=>h'.elim (λh''=>by omega) hnl));obtain⟨j,hjm,I,hlow⟩:=hex;have hbit:=br.1 hc j (by simp;omega);have hjl:g.contains j=false:=by cases hcj:g.contains j with|false=>rfl;|true=>rw[hL j (by simpa using hcj)]at I;simp at I
           rw[hjl,fJ]at hbit;have:=cf (L:=A.toList) (D:=λx=>f.getD x false=true) hclosed (j:=i) (i:=j) (λo' ho'=>hbind i hiA hi2 o' ho') hbit;rw[this]at I;simp at I
        have hbm:∀e∈aU A[i],e<i:=by have:=bc R i _ ho;simp only[bS,br,decide_eq_true_eq]at this;exact this
        refine wO hn hS hst q (λj h=>h.2) ho him (λj H=>⟨hb j H,by have:=hbm j H;omega⟩) (λh=>by rw[h.1]at J;simp at J) hQ λa' k' u=>?_;refine ih _ a' k' (by simp[hls]) ?_ (λl T=>getD_set_true (hL l T)) (λj H=>?_) ?_
        · have hil:i<f.size:=by omega
          have h0:f[i]=false:=by simpa[ch,dV hil]using J
          have hsplit:f.toList=f.toList.take i++false::f.toList.drop (i+1):=by have h1:=gB i f.toList;have h2:f.toList.drop i=f.toList[i]'(by simpa using hil)::f.toList.drop (i+1):=lS (by simpa using hil);rw[ur,h0]at h2;exact(h1.symm.trans (by rw[h2]))
          have hset:(f.setIfInBounds i true).toList=f.toList.take i++true::f.toList.drop (i+1):=by rw[uk,qK,if_pos (by simpa using hil)]
          rw[hset,qm,bp];rw[hsplit,qm,bp]at hf;simp at hf⊢;omega
        · by_cases hji:j=i;.exact .inl (by omega)
          .rw[getD_set_ne _ (λe=>hji e.symm)]at H;exact U j H
        · have W:(λj=>(f.setIfInBounds i true).getD j false=true/\j<m)=(λj=>(f.getD j false=true/\j<m)∨j=i):=by
           funext j;by_cases hji:j=i;.subst hji;simp[ch,show j<f.size by omega,him]
           .rw[getD_set_ne _ (λe=>hji e.symm)];simp[hji]
          rw[W];exact u
structure Tm(A:Array Oper)(es:List Ent)(m:Nat)(late:List Nat)(a0:Act)(k0:K)(a:Act)(k:K):Prop where
 grow:bD k0 k
 size:a.tmps.size=a0.tmps.size
 defers:a.defers=a0.defers
 val:∀i d R nd,i<m->(nth A.toList i).bind (·.dst)=some d->nth es i=some ⟨some R,nd⟩->R (a.get d) k
 old:∀t,allI (λi o=>(decide (i>=m)&&!late.contains i)||o.dst !=some t) 0 A.toList=true->a.get t=a0.get t
 moved:∀l d s,late.contains l=true->m<=l->jc A l=(d,s)->a.get d=a0.get s
set_option maxHeartbeats 2000000 in theorem Ht{id:Nat}{A:Array Oper}{n m:Nat}{Q:Exit->Act->World->Prop}(es:List Ent)(late ord:List Nat)(hm:P.follows .mixedOrders=true)(hn:a0.tmps.size=n)(hchk:NY n m late ord A es=true)(hst:Steps P es a0 k0 (A.toList.take m) es)(hQ:LetsOut Q)(hlo:∀l∈late,l<m->∀e,nth es l=some e->∃R,e.R=some R/\∀k,bD k0 k->R (a0.get (jc A l).2) k)(hpost:∀a k,Tm A es m late a0 k0 a k->wpOps P A (QN Q) ord a k.w):(Code.region id A true).wp P Q a0 k0.w:=by
 have hchk':=hchk;simp only[NY,aG,beq_iff_eq,decide_eq_true_eq]at hchk';obtain⟨⟨⟨⟨⟨⟨⟨⟨⟨⟨hS,hnos⟩,hlate⟩,hlm⟩,htail⟩,hT⟩,hcnt⟩,hnd⟩,hsrc⟩,hdst⟩,hown⟩:=hchk';have hS':=hS;simp only[lD,aG,beq_iff_eq,decide_eq_true_eq]at hS';obtain⟨⟨⟨_,h2⟩,hedge⟩,hdist⟩:=hS';have hlm':∀l∈late,l<A.size:=λl hl=>by have:=br.1 hlm l hl;simpa using this
 have hdst':∀l∈late,(jc A l).1<n:=λl hl=>by have:=br.1 hdst l hl;simpa using this
 have hsrc':∀l∈late,∀l'∈late,(jc A l).2≠(jc A l').1/\(l=l'∨(jc A l).1≠(jc A l').1):=λl hl l' hl'=>by have:=br.1 (br.1 hsrc l hl) l' hl';simpa using this
 have hmv:∀l∈late,∃o,A[l]?=some o/\o.after=#[]/\o.dst=some (jc A l).1:=by
  have:∀(r:List Nat)(b:Array Bool),pQ A b r=true->∀l∈r,Ng A l=true:=by intro r;induction r with|nil=>intro b _ l hl;simp at hl;|cons x r ih=>
   intro b hb l hl;simp only[pQ,aG]at hb;rcases bF.1 hl with rfl|hl;.exact hb.1.1.1
   .exact ih _ hb.2 l hl
  intro l hl;obtain⟨o,ho,_,ha,hd,_⟩:=xS (P:=P) (this late _ hlate l hl);exact⟨o,ho,ha,hd⟩
 have hbase:∀t,_->(js A late a0).get t=a0.get t:=λt ht=>tf (n:=n) late a0 hn hdst' ht;have hst':Steps P es (js A late a0) k0 (A.toList.take m) es:=by
  refine AR (λi o e ho he t ht=>hbase t λl hl hd=>?_) hst;have hi:i<m:=by have:=qh ho;simp only[dT]at this;omega
  obtain⟨e',he',hc⟩:=tZ h2 i o ho;rw[he,aV]at he';subst he';simp only[va,aG,bS]at hc;have:=br.1 hc.2 _ ht;simp only at this;obtain⟨ol,hol,hal,hdl⟩:=hmv l hl;have hnl:nth A.toList l=some ol:=by rw[aM];exact hol
  have h3:=bc this l ol hnl;simp only[bS,bU,bne_iff_ne,beq_iff_eq,hdl]at h3;rcases h3 with(h3|h3)|h3;.exact h3 (by rw[hd])
  ·subst h3;have h5:=br.1 hown l hl;simp only[he,br,bne_iff_ne]at h5;exact h5 _ ht hd.symm
  ·have hf:=cf (L:=A.toList) (D:=λ _=>False) (λ _ _ _ hx=>hx.elim) (j:=l) (i:=i) (λo' ho' e he=>by rw[hnl,aV]at ho';subst ho';simp[aU,hal]at he) h3;exact hf
 have hp:∀a k,Inv A.toList es (js A late a0) k0 (.<m) a k->wpOps P A (QN Q) ord a k.w:=by
  intro a k hinv;refine hpost a k ⟨hinv.grow,hinv.size.trans (rq late a0),hinv.defers.trans (tI late a0),?_,?_,?_⟩;·intro i d R nd him hd he;cases ho:nth A.toList i with|none=>rw[ho]at hd;simp at hd;|some o=>rw[ho]at hd;exact hinv.vals i o d _ him ho hd he
  · intro t ht;rw[hinv.rest t ?_,hbase t ?_]
    · intro l hl hd;obtain⟨ol,hol,_,hdl⟩:=hmv l hl;have:=bc ht l ol (by rw[aM];exact hol);simp only[bS,bU,aG,decide_eq_true_eq,cH,bne_iff_ne,ne_eq,hdl]at this;rcases this with h|h;.exact absurd (jU.2 hl) (by rw[h.2];simp)
      .exact h (by rw[hd])
    · intro i o hi ho hd;have:=bc ht i o ho;simp only[bS,bU,aG,decide_eq_true_eq,bne_iff_ne,ne_eq]at this;rcases this with h|h;.omega
      .exact h hd
  · intro l d s hl hml hds;have hlm2:=jU.1 hl;obtain⟨ol,hol,_,hdl⟩:=hmv l hlm2;have hd:(jc A l).1=d:=by rw[hds]
    have hs:(jc A l).2=s:=by rw[hds]
    rw[hinv.rest d ?_,<-hd,<-hs,s8 (n:=n) late a0 hn hdst' hnd hsrc' l hlm2];intro i o hi ho hod;have:=bc (bc hdist i o ho) l ol (by rw[aM];exact hol);simp only[bS,bU,beq_iff_eq,bne_iff_ne,ne_eq]at this;rcases this with(h|h)|h;.omega
    .rw[hod]at h;simp at h
    .exact h (by rw[hod,hdl,hd])
 refine wp_mono (Q:=QN Q) ?_ (λe a w h=>by cases e<;>first|exact h|exact h.elim);refine wp_region_any hm ?_;let k1:K:=⟨{k0.w with drawn:=k0.w.drawn+1},k0.sh,k0.lt⟩;have hg:bD k0 k1:=⟨rfl,rfl,rfl,aN _,λ _ _=>rfl,λ _ h=>h,λ _ _ h=>h,gP _⟩;have hF:∀j,¬(Array.replicate A.size false).getD j false=true:=by intro j hj;simp[ch,qN]at hj;split at hj<;>simp at hj
 have hLg:∀j,(tO (Array.replicate A.size false) late).getD j false=true↔j∈late:=by intro j;rw[Cd late _ j (λl hl=>by simpa using hlm' l hl)];exact⟨λh=>h.resolve_left (hF j), .inr⟩
 obtain⟨fuel,hfuel⟩:∃f,f=((tO (Array.replicate A.size false) late).toList.filter (.=false)).length:=⟨_,rfl⟩;have hsum:∀(r:List Nat)(b:Array Bool),r.Nodup->(∀l∈r,l<b.size/\b.getD l false=false)->((tO b r).toList.filter (.=false)).length+r.length=(b.toList.filter (.=false)).length:=by intro r;induction r with|nil=>intro b _ _;rfl;|cons l r ih=>
  intro b hn hb;obtain⟨hx,hn'⟩:=iK.1 hn;obtain⟨hl,hlb⟩:=hb l dU;have ih:=ih (b.setIfInBounds l true) hn' λl' hl'=>⟨by simpa using(hb l' (bu _ hl')).1,by rw[getD_set_ne _ (λe:l=l'=>hx (by rw[e];exact hl'))];exact(hb l' (bu _ hl')).2⟩;have h0:b[l]=false:=by simpa[ch,dV hl]using hlb
  have hsplit:b.toList=b.toList.take l++false::b.toList.drop (l+1):=by have h1:=gB l b.toList;have h2:b.toList.drop l=b.toList[l]'(by simpa using hl)::b.toList.drop (l+1):=lS (by simpa using hl);rw[ur,h0]at h2;exact(h1.symm.trans (by rw[h2]))
  have hset:(b.setIfInBounds l true).toList=b.toList.take l++true::b.toList.drop (l+1):=by rw[uk,qK,if_pos (by simpa using hl)]
  rw[tO];rw[hset,qm,bp]at ih;rw[hsplit,qm,bp];simp at ih⊢;omega
 have hs:=hsum late (Array.replicate A.size false) hnd λl hl=>⟨by simpa using hlm' l hl,by simpa using hF l⟩;have hsz:A.size=fuel+late.length:=by rw[hfuel,hs];simp
 have hbig:=CP (P:=P) (A:=A) (Q:=QN Q) hnos (λ _ _ _ h=>h) late _ a0 k1.w fuel hlate ?_;.rw[<-hsz]at hbig;exact hbig
 refine OK (by rw[rq];exact hn) hchk hst' trivial (λ _ _ _ h=>h) (λ _ _ h=>h) hp fuel _ _ k1 (by rw[Ba];simp) hfuel (λl hl=>(hLg l).2 hl) (λj hj=> .inr ((hLg j).1 hj)) ?_;refine⟨hg,rfl,rfl,λi o d e hi ho hd he=>?_,λ _ _=>rfl,λj o ho hj x hx=>?_,λi hi=>by simpa using hlm' i ((hLg i).1 hi.1)⟩;·have hl:=(hLg i).1 hi.1;obtain⟨ol,hol,_,hdl⟩:=hmv i hl;rw[aM,hol,aV]at ho;subst ho;rw[hdl,aV]at hd;subst hd;obtain⟨R,hR,hk⟩:=hlo i hl hi.2 e he;rw[hR,s8 (n:=n) late a0 hn hdst' hnd hsrc' i hl];exact hk k1 hg
 ·obtain⟨ol,hol,hal,_⟩:=hmv j ((hLg j).1 hj.1);rw[aM,hol,aV]at ho;subst ho;simp[aU,hal]at hx
end
section
variable{P:Program}{o:Oper}{a:Act}{k:K}{α:Type}[Enc α]{b:Nat}{all hs:List (iA α)}{x:α}{F G:FP}{v:Value}
theorem Box.zz{g f:List Value}{n:Nat}(h:Box b (⟨g⟩:dR n) k)(m:Box b (⟨f⟩:dR n) k):g=f:=by obtain⟨_,q,t,w,e,_⟩:=h;obtain⟨_,j,y,u,z,_⟩:=m;grind
omit [Enc α]in theorem qa.one{j:List Value}{y:α}:∀{l:List (iA α)}{F G:FP},qa j x k l F->qa j y k l G->F=G|[],_,_,h,q=>(h).trans (q).symm|_::_,_,_,⟨w,H,u,_,z,_,e⟩,⟨I,J,f,_,g,_,E⟩=>by rw[u]at f;obtain rfl:=ae f;rw[e,E,z.one g]
theorem cP.one{b m:Nat}{y:α}(h:cP b all hs x F v k)(q:cP m all hs y G v k):F=G:=by
 obtain⟨e,J,H,u,_,w,_,z⟩:=h;obtain⟨f,E,M,g,_,j,_,I⟩:=q;rw[e]at f;have f:b=m:=by simpa using f
 subst f;obtain rfl:=u.zz g;rw[z,I,w.one j]
theorem cP.root{c:Nat}(h:cP b all hs x F v k)(f:v= .pointer (some ⟨c,0,none⟩)∨obF v c):F c:=by
 have e:=h.ptr;rcases f with f|f
 · rw[e]at f;have:b=c:=by simpa using f
   exact this▸h.has
 .rw[e]at f;simp[obF,ob]at f
end
theorem Rsc.ex{g:Type}{R:g->FP->Pred}(h:∀i,Rsc (R i)):Rsc (λF v k=>∃i,R i F v k):=⟨λ⟨i,h1⟩c f j=>⟨i,(h i).keep h1 c f j⟩,λ⟨i,h1⟩c f=>⟨i,(h i).handed h1 c f⟩,λ⟨i,h1⟩=>(h i).lt h1,λ⟨i,h1⟩=>(h i).nsh h1⟩
def TN(e:TypeId->TypeId)(j:FuncId->FuncId):Op->Op| .binOp b t x y u=> .binOp b (e t) x y (e u)| .buildSlice t n l=> .buildSlice (e t) n l| .indexAddr t a i=> .indexAddr (e t) a i| .load t a=> .load (e t) a| .call ⟨.value (.func f),g,h⟩=> .call ⟨.value (.func (j f)),g,⟨h.toList.map e⟩⟩| .call ⟨c,g,h⟩=> .call ⟨c,g,⟨h.toList.map e⟩⟩|x=>x
def tyC(e:TypeId->TypeId)(f:FuncId->FuncId):Code->Code| .region i A d=> .region i ⟨A.toList.map λo=>{o with op:=TN e f o.op,type:=e o.type}⟩ d| .seq a b=> .seq (tyC e f a) (tyC e f b)| .cond c a b=> .cond c (tyC e f a) (tyC e f b)| .block i a=> .block i (tyC e f a)| .loop a=> .loop (tyC e f a)|c=>c
def R4(a b:Nat)(t:Nat):Nat:=bif Nat.beq t a then b else t
def U5(a b c d:Nat)(t:Nat):Nat:=bif Nat.beq t a then b else bif Nat.beq t c then d else t
open Go.ChangeMaps(setBlock)
theorem ya{P:Program}{c:Code}{Q:Exit->Act->World->Prop}(I:Nat->Act->K->Prop){a:Act}{k:K}(M:∃n,I n a k)(u:∀n a k,I n a k->c.wp P (Exit.then (λE R=>∃m g,g.w=R/\m<n/\I m E g) Q) a k.w):(Code.loop c).wp P Q a k.w:=by
 let J:Nat->Act->World->Prop:=λn a w=>∃k,k.w=w/\I n a k;let F:Act->World->Nat:=λa w=>open Classical in if h:∃n,J n a w then Classical.choose (r6 h)else 0;have j:∀n a w,J n a w->J (F a w) a w/\F a w<=n:=by intro n a w G;have h:∃n,J n a w:=⟨n,G⟩;have:=Classical.choose_spec (r6 h);simp[F,dif_pos h];exact⟨this.1,this.2 n G⟩
 obtain⟨T,M⟩:=M;refine wp_loop (λa w=>∃n,J n a w) F ⟨T,k,rfl,M⟩ ?_;rintro f q⟨x,G⟩;obtain⟨⟨y,rfl,U⟩,_⟩:=j x f q G;refine wp_mono (u _ f y U) λe E R h=>?_;cases e with|normal=>obtain⟨m,g,rfl,V,O⟩:=h;have z:J m E g.w:=⟨g,rfl,O⟩;exact⟨⟨m,z⟩,Nat.lt_of_le_of_lt (j m E g.w z).2 V⟩;|_=>exact h
structure iH{κ:Type}(kv:κ->Value)(b:Nat)(l:List (κ×Value))(k:K):Prop where
 own:¬k.sh b
 is:∃es clk,k.w.heap[b]?=some (.map es clk)/\es.toList.map (λe=>(e.key,e.val))=l.map (λp=>(kv p.1,p.2))/\(∀e∈es.toList,e.born<clk)/\(es.toList.map (·.born)).Nodup
section
variable{P:Program}{o:Oper}{a a0:Act}{k k' k0:K}{R S T:Pred}{κ:Type}{kv:κ->Value}{F G:FP}{b:Nat}{l:List (κ×Value)}
theorem iH.m(h:iH kv b l k):q8 kv b l k:=let⟨f,e,h1,g,_⟩:=h.is;⟨h.own,f,e,h1,g⟩
theorem iH.lt(h:iH kv b l k):b<k.w.heap.size:=h.m.lt
theorem iH.keep(h:iH kv b l k)(g:Chg G k k')(j:¬G b):iH kv b l k':=by have e:=h.lt;obtain⟨m,q,f,h,r⟩:=h;exact⟨λu=>m (g.MR b e j u),q,f,by rw[g.blk b e j];exact h,r⟩
theorem iH.handed(h:iH kv b l k)(g:Handed k k' G)(f:¬G b):iH kv b l k':=by obtain⟨j,m,e,h,r⟩:=h;exact⟨λq=>(g.sh b q).elim j f,m,e,by rw[g.w];exact h,r⟩
theorem iH.grow(h:iH kv b l k)(g:bD k k'):iH kv b l k':=h.keep (Chg.of (F:=noF) g) λf=>f
theorem kz[DecidableEq κ]{A:Array Oper}{i:Nat}{q:List Nat}{Q:Exit->Act->World->Prop}{t kt et:TypeId}{x y z:Operand}{n:κ}(ho:nth A.toList i=some o)(hg:o.guard=none)(V:o.op= .mapUpdate t x y z)(hd:o.dst=none)(KO:tG P kt kv)(hu:P.underlying t=some (.map kt et))(hx:a.eval x= .map (some b))(hy:a.eval y=kv n)(h:iH kv b l k)(next:∀k',Chg (Eq b) k k'->k'.w.heap.size=k.w.heap.size->iH kv b (dA l n (a.eval z)) k'->wpOps P A Q q a k'.w):wpOps P A Q (i::q) a k.w:=by
 obtain⟨W,E,m,U,hr,M,hb2⟩:=h;have hf:=KO.find l E.toList n k.w hr;have hlt:b<k.w.heap.size:=(bJ.1 U).1;have fin:∀(g:Array MapEntry)(f:Nat),g.toList.map (λe=>(e.key,e.val))=(dA l n (a.eval z)).map (λp=>(kv p.1,p.2))->(∀e∈g.toList,e.born<f)->(g.toList.map (·.born)).Nodup->wpOps P A Q q a {k.w with heap:=k.w.heap.setIfInBounds b (.map g f)}:=by intro g f I h1 h2;let k':K:=⟨{k.w with heap:=k.w.heap.setIfInBounds b (.map g f)},k.sh,λi hi=>by have:=k.lt i hi;simpa using this⟩;refine next k' ⟨rfl,rfl,rfl,by simp[k'],λc _ hc=>(MapKept.heap_set U).2 c (λe=>hc e.symm),λ _ h=>h,λ _ _ h=> .inl h,aN _⟩ (by simp[k']) ⟨W,g,f,(MapKept.heap_set U).1,I,h1,h2⟩
 rw[wpOps_cons];rw[aM]at ho;unfold wpOp;simp only[ho,Region.wanted,hg,if_true];refine .inl ?_;unfold Oper.wp;have hgo:=MapKept.run_getObj_map (P:=P) U;cases J:fnd l n 0 with|none=>
 rw[J]at hf;have O:(execOp a.eval o).run P k.w= .ok .skip {k.w with heap:=k.w.heap.setIfInBounds b (.map (E.push {key:=kv n,val:=a.eval z,born:=m}) (m+1))}:=by simp only[execOp,V,hx,hy];simp[Instr.mapUpdate,run_underlying hu,hgo,KO.check,hf,MapKept.run_setObj_map (P:=P) _ U]
 rw[O];have:=fin (E.push {key:=kv n,val:=a.eval z,born:=m}) (m+1) (by rw[Bb _ _ _ _ J];simp[hr]) (by
 intro e I;simp only[Array.toList_push,dK,eZ]at I;rcases I with I|rfl;.have:=M e I;omega
 .simp) (by simp only[Array.toList_push,hY,dz,mV];rw[List.nodup_append];refine⟨hb2,by simp,λx hx y hy hxy=>?_⟩;simp only[eZ]at hy;obtain⟨e,I,rfl⟩:=aS.1 hx;have:=M e I;omega);simpa[Oper.upon,hd,Act.put]using this|some p=>
 obtain⟨j,u⟩:=p;rw[J]at hf;obtain⟨_,h2,h3,h4⟩:=AU l n 0 j u (a.eval z) J;simp only[qZ]at h2 h3 h4;have hkey:((E[j]?).map (·.key)).getD (kv n)=kv n:=by
  have h5:(E.toList.map (λe=>(e.key,e.val)))[j]?=some (kv n,u):=by rw[hr];simp[h3]
  grind
 have O:(execOp a.eval o).run P k.w= .ok .skip {k.w with heap:=k.w.heap.setIfInBounds b (.map (E.modify j λe=>{e with key:=kv n,val:=a.eval z}) m)}:=by simp only[execOp,V,hx,hy];simp[Instr.mapUpdate,run_underlying hu,hgo,KO.check,hf,hkey,Instr.keyThatStays,KO.same,MapKept.run_setObj_map (P:=P) _ U]
 rw[O];have hbm:(E.modify j λe=>{e with key:=kv n,val:=a.eval z}).toList.map (·.born)=E.toList.map (·.born):=by rw[Array.toList_modify];refine nN λi=>?_;simp only[rm,List.getElem?_modify];cases hi:E.toList[i]?with|none=>simp;|some e=>by_cases hij:j=i<;>simp[hij]
 have:=fin (E.modify j λe=>{e with key:=kv n,val:=a.eval z}) m (by rw[h4];exact Ak hr) (by intro e I;have:e.born∈(E.modify j λe=>{e with key:=kv n,val:=a.eval z}).toList.map (·.born):=List.mem_map_of_mem I;rw[hbm]at this;obtain⟨e',he',h'⟩:=aS.1 this;have:=M e' he';omega) (by rw[hbm];exact hb2);simpa[Oper.upon,hd,Act.put]using this
theorem kM{t:TypeId}{e:Nat}(h:e<=k.w.heap.size)(f:o.op= .makeMap t none):aX P o a k (λv k=>∃b,v= .map (some b)/\e<=b/\iH kv b [] k):=by refine eJ (k':=k.alloc (.map #[] 0)) ?_ (K.er k _) ⟨_,rfl,h,λg=>fU _ (k.lt _ g),#[],0,heap_alloc_new k.w _,rfl,by simp,by simp⟩;simp[execOp,f];rfl
instance{f:Nat}:aZ (λv k=>∃b,v=Value.map (some b)/\f<=b/\iH kv b [] k):=⟨λg⟨b,e,h,m⟩=>⟨b,e,h,m.grow g⟩⟩
structure nZ(r bm since:Nat)(seen:Array Nat)(last:Nat)(k:K):Prop where
 own:¬k.sh r
 is:k.w.heap[r]?=some (.mapIter (some bm) since seen last)
theorem nZ.lt{r m e:Nat}{seen:Array Nat}{f:Nat}(h:nZ r m e seen f k):r<k.w.heap.size:=(bJ.1 h.is).1
theorem nZ.keep{r m e:Nat}{seen:Array Nat}{f:Nat}(h:nZ r m e seen f k)(g:Chg G k k')(j:¬G r):nZ r m e seen f k':=⟨λq=>h.own (g.MR r h.lt j q),by rw[g.blk r h.lt j];exact h.is⟩
theorem nZ.grow{r m e:Nat}{seen:Array Nat}{j:Nat}(h:nZ r m e seen j k)(g:bD k k'):nZ r m e seen j k':=h.keep (Chg.of (F:=noF) g) λf=>f
def FT(B m e:Nat):Pred:=λv k=>∃r,v= .pointer (some ⟨r,0,none⟩)/\B<=r/\nZ r m e #[] e k
instance{B j f:Nat}:aZ (FT B j f):=⟨λg⟨r,e,h,m⟩=>⟨r,e,h,m.grow g⟩⟩
theorem Bh{t f g:TypeId}{x:Operand}{m e B:Nat}{es:Array MapEntry}(h:B<=k.w.heap.size)(j:o.op= .range t x)(u:P.underlying t=some (.map f g))(q:a.eval x= .map (some m))(y:k.w.heap[m]?=some (.map es e)):aX P o a k (FT B m e):=by refine eJ (k':=k.alloc (.mapIter (some m) e #[] e)) ?_ (K.er k _) ⟨_,rfl,h,λz=>fU _ (k.lt _ z),heap_alloc_new k.w _⟩;simp[execOp,j,q];simp[run_range_map k.w t f g m es e u y,K.alloc]
theorem xw{A:Array Oper}{i d r E g O j:Nat}{seen:Array Nat}{H:Array MapEntry}{m:List Nat}{Q:Exit->Act->World->Prop}{ty:TypeId}{x:Operand}(ho:nth A.toList i=some o)(hg:o.guard=none)(I:o.op= .next x false)(hd:o.dst=some d)(J:d<a.tmps.size)(hx:a.eval x= .pointer (some ⟨r,0,none⟩))(U:nZ r E g seen O k)(hb:k.w.heap[E]?=some (.map H j))(M:∀e∈H.toList,e.born<g)(V:g<=O)(h1:(leftOf H seen).size=0->∀q:Act,q.tmps.size=a.tmps.size->q.defers=a.defers->q.get d= .tuple #[.bool false]->(∀t,t≠d->q.get t=a.get t)->wpOps P A Q m q k.w)(h2:∀e∈(leftOf H seen).toList,∀(q:Act)(k':K),q.tmps.size=a.tmps.size->q.defers=a.defers->q.get d= .tuple #[.bool true,e.key,e.val]->(∀t,t≠d->q.get t=a.get t)->Chg (Eq r) k k'->nZ r E g (seen.push e.born) j k'->wpOps P A Q m q k'.w):wpOps P A Q (i::m) a k.w:=by
 rw[wpOps_cons];rw[aM]at ho;unfold wpOp;simp[ho,Region.wanted,hg];refine .inl ?_;unfold Oper.wp;have put:∀v,((a.put (some d) v).tmps.size=a.tmps.size/\(a.put (some d) v).defers=a.defers/\(a.put (some d) v).get d=v/\∀t,t≠d->(a.put (some d) v).get t=a.get t):=λv=>⟨fw _ _ _,eA _ _ _,by rw[dD _ _ _ _ J];simp,λt ht=>by rw[dD _ _ _ _ J,if_neg (Ne.symm ht)]⟩;rcases run_next_at (P:=P) k.w o.type r E g O seen H j U.is hb M V with⟨h0,u⟩|⟨e,he,y,W,u⟩
 · have z:(execOp a.eval o).run P k.w= .ok (.value (.tuple #[.bool false])) k.w:=by simp[execOp,I,hx];simp[u]
   rw[z];simp[Oper.upon_value];grind
 · have z:(execOp a.eval o).run P k.w= .ok (.value (.tuple #[.bool true,e.key,e.val])) (setBlock y r (.mapIter (some E) g (seen.push e.born) j)):=by simp only[execOp,I,hx];simp[u]
   rw[z];simp[Oper.upon_value,hd];obtain⟨p1,p2,p3,p4⟩:=put (.tuple #[.bool true,e.key,e.val]);have hlt:=U.lt;have e1:y.heap=k.w.heap/\y.tape=k.w.tape/\y.os=k.w.os/\y.output=k.w.output/\k.w.drawn<=y.drawn:=by
    rcases W with rfl|rfl;.exact⟨rfl,rfl,rfl,rfl,aN _⟩
    .exact⟨rfl,rfl,rfl,rfl,gP _⟩
   let k':K:=⟨setBlock y r (.mapIter (some E) g (seen.push e.born) j),k.sh,λi hi=>by have:=k.lt i hi;simp[setBlock,e1.1];exact this⟩;refine h2 e he _ k' p1 p2 p3 p4 ⟨e1.2.1,e1.2.2.1,e1.2.2.2.1,by simp[k',setBlock,e1.1],λc hc hcr=>?_,λ _ h=>h,λ _ _ h=> .inl h,e1.2.2.2.2⟩ ⟨U.own,?_⟩;.simp[k',setBlock,e1.1];rw[Array.getElem?_setIfInBounds_ne (λe=>hcr e)]
   .simp[k',setBlock,e1.1];rw[Array.getElem?_setIfInBounds_self_of_lt hlt]
theorem Am{x:Operand}{r m f g:Nat}{seen:Array Nat}{h:Array MapEntry}{e:MapEntry}(j:o.op= .entry x)(q:a.eval x= .pointer (some ⟨r,0,none⟩))(u:nZ r m f (seen.push e.born) g k)(y:k.w.heap[m]?=some (.map h g))(z:e∈h.toList)(E:(h.toList.map (·.born)).Nodup):aX P o a k (Is (.tuple #[e.key,e.val])):=by refine ak ?_ rfl;simp[execOp,j,q];simp[run_entry_at k.w r m f seen h g e u.is y z E]
theorem gm{x:Operand}{e:Array Value}{j:Nat}{w:Value}(h:o.op= .extract x j)(f:a.eval x= .tuple e)(g:e[j]?=some w):aX P o a k (Is w):=by refine ak ?_ rfl;simp[execOp,h,f];simp[Instr.extract,g]
theorem dw{n off:Nat}{m:List Value}{w:Value}{t:TypeId}{p:Operand}(y:o.op= .load t p)(z:Ty P t fW)(E:cU b off (a.eval p) k)(H:Box b (⟨m⟩:dR n) k)(q:m[off]?=some w):aX P o a k (Is w):=by
 obtain⟨I,e,J,M,e1,x,h1⟩:=H;have f:off<e.toList.length:=by rw[e1];exact(jN.1 q).1
 have h:w.oneCell'=true:=h1 w (by rw[e1];exact iF q);have g:At (fW.mk w) ⟨b,off,none⟩ k:=by refine⟨[w],⟨rfl,h⟩,rfl,e,J,(0,0),M,by simp at f⊢;omega,λj Q=>?_⟩;grind
 exact tY (aw y z ⟨_,E,g⟩) λu k' hk O=>yY O
theorem iR{A:Array Oper}{i n off:Nat}{j:List Value}{w:Value}{e:List Nat}{Q:Exit->Act->World->Prop}{t:TypeId}{p y:Operand}(m:nth A.toList i=some o)(q:o.guard=none)(g:o.op= .store t p y)(u:o.dst=none)(x:(P.info? t).map (·.size)=some (Enc.sz fW))(f:off<n)(z:cU b off (a.eval p) k)(E:Box b (⟨j⟩:dR n) k)(H:a.eval y=w)(h1:w.oneCell'=true)(h:∀k',Chg (Eq b) k k'->Box b (⟨j.set off w⟩:dR n) k'->wpOps P A Q e a k'.w):wpOps P A Q (i::e) a k.w:=bf m q g u x (MC f) z E (by rw[H];exact AG h1) h
end
open Go.Proofs Go.RowKit Go.Lib Go.Sort Go.Shelf
section
variable{P:Program}{o:Oper}{a a0:Act}{k k' k0:K}{α:Type}[Enc α]{F G:FP}
def Fp(u:Value)(m s:Nat):Pred:=λv _=>∃b off n c,u= .slice (some ⟨b,off,none⟩) n c/\v= .slice (some ⟨b,off+m*s,none⟩) (n-m) (c-m)
instance(u:Value)(m s:Nat):ai (Fp u m s):=⟨λ_ h=>h⟩
theorem Gy{t e:TypeId}{x y:Operand}{g:List α}{u:Value}{B m:Nat}(O:o.op= .slice t x (some y) none none)(Q:P.underlying t=some (.slice e))(R:(P.info? e).map (·.size)=some (Enc.sz α))(z:bL u B e g (a.eval x) k)(E:IsV (m:Int) (a.eval y) k)(M:m<g.length):aX P o a k (Fp u m (Enc.sz α)):=by
 have E:=ar.1 E;obtain⟨rfl,z⟩:=z;rcases z with⟨_,rfl⟩|⟨_,_,rfl⟩|⟨b,off,f,T,cs,e1,hB,U,hh,hc,V,W,hcs,q,hr⟩;.simp at M
 .simp at M
 · have H:∀w,(sizeOf e).run P w= .ok (Enc.sz α) w:=λw=>run_sizeOf R;have b3:=run_sliceBound (P:=P) (i:=m) (y:=g.length) (c:= .sliceB) (w:=k.w) (by omega) (by omega);have I:(Instr.sliceBounds true g.length f (some (.int .i64 m)) none none).run P k.w= .ok (m,g.length,f) k.w:=by simp[Instr.sliceBounds,b3]
   have j:(⟨b,off,none⟩:Addr).add (m*Enc.sz α)=⟨b,off+m*Enc.sz α,none⟩:=by
    unfold Addr.add;split;.rename_i h;rw[h];simp
    .rfl
   have J:¬f=m:=by omega
   refine ak ?_ ⟨b,off,g.length,f,e1,rfl⟩;simp[execOp,O,E,e1,Instr.sliceAt,Instr.slice,run_underlying Q,I,H,J,j]
theorem Ab(c:Array Value)(n:Nat):(Builtin.zeroCells c n).toList=(List.replicate n c.toList).flatten:=by
 have h:=rX (enc:=λ _=>c.toList) (λ _=>jH) (Array.replicate n ());have e:flatK (λ _:Unit=>c.toList) c.size (Array.replicate n ())=Builtin.zeroCells c n:=by unfold flatK Builtin.zeroCells;grind
 rw[e]at h;rw[h];simp
theorem B8{k:K}{z:α}{e:List Value}(h:Enc.rep k e z):∀n,cQ k (List.replicate n e).flatten (List.replicate n z)|0=>rfl|n+1=>cQ.cons h (B8 h n)
theorem HY{A:Array Oper}{i:Nat}{J:List Nat}{Q:Exit->Act->World->Prop}{t e:TypeId}{x:Operand}{z:α}{f:List α}{u:Value}{m:Nat}(ho:nth A.toList i=some o)(hg:o.guard=none)(hop:o.op= .call {callee:= .builtin .clear,args:=#[x],argTypes:=#[t]})(hd:o.dst=none)(hu:P.underlying t=some (.slice e))(hz:Zero P e z)(hm:m<f.length)(hx:Fp u m (Enc.sz α) (a.eval x) k)(hv:an 0 e f u k)(h:∀k':K,Chg (obF u) k k'->an 0 e (f.take m++List.replicate (f.length-m) z) u k'->wpOps P A Q J a k'.w):wpOps P A Q (i::J) a k.w:=by
 obtain⟨b,H,n,c,rfl,e2⟩:=hx;rcases hv with⟨e1,rfl⟩|⟨ad,e1,rfl⟩|⟨b',off,cap,g,cs,e1,hB,R,hh,hc,h0,hmx,hcs,I,hr⟩;.simp at hm
 .simp at hm
 · simp only[Value.slice.injEq,aV,Addr.mk.injEq,and_true]at e1;obtain⟨⟨rfl,rfl⟩,rfl,rfl⟩:=e1;obtain⟨zv,hzv,hzi⟩:=hz;obtain⟨cz,hcz,U⟩:=mC (hzi k);have hzl:cz.toList.length=Enc.sz α:=Enc.len U;have hzs:cz.size=Enc.sz α:=by simpa using hzl
   have hmul:m*Enc.sz α+(f.length-m)*Enc.sz α=f.length*Enc.sz α:=by rw[<-dJ,Nat.add_sub_cancel' (by omega)]
   have hcur:H+f.length*Enc.sz α<=g.size:=by have:=eh (Enc.sz α) hc;omega
   generalize M:(Builtin.zeroCells cz (f.length-m)).toList=Z;have hZ:Z=(List.replicate (f.length-m) cz.toList).flatten:=by rw[<-M,Ab]
   have O:cQ k Z (List.replicate (f.length-m) z):=hZ▸B8 U _;have hZl:Z.length=(f.length-m)*Enc.sz α:=by have:=O.len;simpa using this
   have V:=run_storeCells_at P b (H+m*Enc.sz α) e Z 0 g k.w hh (by omega) O.one;simp only[Nat.add_zero]at V;let k':K:=⟨_,k.sh,λj hj=>by have:=k.lt j hj;show j<(k.w.setRow b (g.toList.take (H+m*Enc.sz α)++Z++g.toList.drop (H+m*Enc.sz α+Z.length)).toArray).heap.size;simpa using this⟩;have y:E6 b k k':=⟨rfl,rfl,rfl,by simp[k'],λj hj=>setRow_other k.w b j _ hj,rfl,aN _⟩;rw[wpOps_cons];rw[aM]at ho;unfold wpOp;simp only[ho,Region.wanted,hg,if_true];refine .inl ?_;unfold Oper.wp;have hx:(execOp a.eval o).run P k.w= .ok (.value (.tuple #[])) k'.w:=by obtain⟨q,hq⟩:∃q,f.length-m=q+1:=⟨f.length-m-1,by omega⟩;rw[hq]at e2 M;simp[execOp,hop,e2,resolve,invoke,builtin,Builtin.clear_,run_underlying hu,hzv,hcz,M,V,k']
   rw[hx];have hob:obF (.slice (some ⟨b,H,none⟩) f.length c) b:=by simp[obF,ob,gA h0]
   have hl:(f.take m++List.replicate (f.length-m) z).length=f.length:=by simp;omega
   have:=h k' ⟨y.tape,y.os,y.out,qB y.size.symm,λc' _ E=>y.blk c' (λe=>E (by rw[e];exact hob)),λc' E=>E,λc' _ E=> .inl E,y.drawn⟩ (.inr (.inr ⟨b,H,c,_,_,by rw[hl],hB,R,setRow_heap k.w b g _ e _ hh,by rw[hl];exact hc,h0,hmx,?_,rfl,?_⟩));.simpa[Oper.upon,hd,Act.put]using this
   ·simp only[jI,bp,dT,eX,jH];omega
   · rw[hl];have e3:((g.toList.take (H+m*Enc.sz α)++Z++g.toList.drop (H+m*Enc.sz α+Z.length)).drop H).take (f.length*Enc.sz α)=cs.take (m*Enc.sz α)++Z:=by rw[dM,qU (by simp;omega),mU,qH,<-dM,tU (by simp;omega)];rw[<-I,lV,lR (by omega)];rw[nJ (by simp;omega)]
     rw[List.toList_toArray,e3];exact((cQ.take m hr).append O).mono (y.le R)
end
section
variable{P:Program}{o:Oper}{a:Act}{k:K}
def bLt(x y:ByteArray):Bool:=Op.bytesLess x.toList y.toList
theorem I6{x y:ByteArray}:bLt x y=true↔x.toList<y.toList:=by unfold bLt;rw[bytesLess_eq,decide_eq_true_iff]
end
theorem Bd(x:ByteArray):bLt x x=false:=by rw[uM,ne_eq,I6];exact List.lt_irrefl _
theorem JM{x y z:ByteArray}(h:bLt x y=true)(g:bLt y z=true):bLt x z=true:=by rw[I6]at*;exact List.lt_trans h g
theorem Bz{Q:Exit->Act->World->Prop}{id:Nat}{a:Act}{w:World}(h:Q .normal a w):Exit.inBlock id Q (.exit id) a w:=by unfold Exit.inBlock;simp[h]
theorem mz{K:Act->World->Prop}{Q:Exit->Act->World->Prop}{i:Nat}{a:Act}{w:World}(h:Q (.exit i) a w):Exit.then K Q (.exit i) a w:=h
theorem wi{j:Type}(f:j->Nat):∀(l:List j)(i:Nat)(hi:i<l.length),(l.map f).Nodup->l.filter (λx=>!(f x==f l[i]))=l.eraseIdx i
 |[],i,hi,_=>absurd hi (fB i)|x::l,0,_,h=>by simp_all;|x::l,i+1,hi,h=>by
  simp[dz]at h;have g:i<l.length:=by simpa using hi
  simp;have m:¬f x=f l[i]:=λe=>h.1 l[i] (aQ g) e.symm;rw[List.filter_cons_of_pos (by simp[m]),wi f l i g h.2]
theorem xX(e:Array MapEntry)(seen:Array Nat)(i:Nat)(hi:i<(leftOf e seen).toList.length)(h:(e.toList.map (·.born)).Nodup):(leftOf e (seen.push ((leftOf e seen).toList[i]).born)).toList=(leftOf e seen).toList.eraseIdx i:=by
 have h1:((leftOf e seen).toList.map (·.born)).Nodup:=by unfold leftOf;grind
 rw[<-wi (·.born) _ i hi h1];generalize(leftOf e seen).toList[i].born=b;unfold leftOf;rw[qk,qk,List.filter_filter];grind
section
variable{P:Program}{k k' k0:K}{F:FP}{hF:∀b,F b->b<k.w.heap.size}
def K.rJ(k' k:K)(F:FP):K:=⟨k'.w,λi=>k'.sh i/\(F i->k.sh i),λi hi=>k'.lt i hi.1⟩
theorem bD.rJ(h:bD (k.gG F hF) k'):bD k (k'.rJ k F):=⟨h.tape,h.os,h.out,h.size,h.blk,λb e=>⟨h.up b (.inl e),λ_=>e⟩,λb f e=>(h.new b f e.1).elim id e.2,h.drawn⟩
theorem sa{f:FuncId}{q:Array Value}{R S:Pred}(h:Calls P f q (k.gG F hF).w (Ret (k.gG F hF) R))(x:∀v k',R v k'->S v (k'.rJ k F)):Calls P f q k.w (Ret k S):=by refine Calls.mono h λe w m=>?_;cases e with|returned v=>obtain⟨k',h1,y,z⟩:=m;exact⟨k'.rJ k F,h1,y.rJ,x _ _ z⟩;|panicked c=>exact m.elim;|outgrown=>exact m.elim
end
end Go.Gb
namespace Go.Proofs.YtlckpjpbladknaaGreat
open Go.Gb
set_option maxRecDepth 100000
structure aC where
 X0:Int
 Y0:Int
 X1:Int
 Y1:Int deriving DecidableEq,Inhabited
instance:Enc aC:=Enc.ofMap λx=>(x.X0,x.Y0,x.X1,x.Y1)
structure Box where
 Base:aC
 Z0:Int
 Z1:Int deriving DecidableEq,Inhabited
instance:Enc Box:=Enc.ofMap λx=>(x.Base,x.Z0,x.Z1)
structure aD where
 Box:Box
 Use:Int
 Units:Int
 Extra:Bool deriving DecidableEq,Inhabited
instance:Enc aD:=Enc.ofMap λx=>(x.Box,x.Use,x.Units,x.Extra)
structure Entry where
 Name:ByteArray
 N:Int deriving DecidableEq,Inhabited
instance:Enc Entry:=Enc.ofMap λx=>(x.Name,x.N)
structure Phase where Volumes:(List aD)ba:(List Entry)deriving DecidableEq,Inhabited
instance:Enc Phase:=Enc.ofMap λx=>(x.Volumes,x.ba)
structure ay where
 Lot:Int
 Phases:(List Phase)deriving DecidableEq,Inhabited
instance:Enc ay:=Enc.ofMap λx=>(x.Lot,x.Phases)
structure aq where
 Id:Int
 Holder:Int
 ay:ay
 Used:Int
 Until:Int
 Over:Bool deriving DecidableEq,Inhabited
instance:Enc aq:=Enc.ofMap λx=>(x.Id,x.Holder,x.ay,x.Used,x.Until,x.Over)
structure au where
 Counter:Int
 Number:Int
 aq:aq deriving DecidableEq,Inhabited
instance:Enc au:=Enc.ofMap λx=>(x.Counter,x.Number,x.aq)
structure bT where
 number:Int
 district:(List Int)desk:Ptr
 register:(List au)deriving DecidableEq,Inhabited
instance:Enc bT:=Enc.ofMap λx=>(x.number,x.district,x.desk,x.register)
structure bn where
 Cap:ByteArray
 Counter:Int
 Held:Int
 Used:Int deriving DecidableEq,Inhabited
instance:Enc bn:=Enc.ofMap λx=>(x.Cap,x.Counter,x.Held,x.Used)
structure mK where
 Cap:ByteArray
 From:Int
 To:Int
 Number:Int
 N:Int deriving DecidableEq,Inhabited
instance:Enc mK:=Enc.ofMap λx=>(x.Cap,x.From,x.To,x.Number,x.N)
structure qT where
 from_:Int
 number:Int deriving DecidableEq,Inhabited
instance:Enc qT:=Enc.ofMap λx=>(x.from_,x.number)
theorem om:Tryz.prog.follows .mixedOrders=true:=by kernel_rfl
theorem sF:Ty Tryz.prog 54 au:=⟨⟨_,Tryz.underlying54,rfl⟩,by kernel_rfl⟩
theorem GC:(Tryz.prog.info? 54).map (·.size)=some (Enc.sz au):=by kernel_rfl
theorem Sl:dX Tryz.prog 54 au:=⟨_,_,rfl,rfl,rfl,rfl,by decide,by decide⟩
theorem z54:Zero Tryz.prog 54 ((⟨0,0,(⟨0,0,(⟨0,[]⟩:ay),0,0,false⟩:aq)⟩:au):au):=⟨_,Tryz.zeroValue54,λ _=>⟨_,rfl,⟨rfl,rfl,⟨rfl,rfl,⟨rfl,rfl,⟨rfl,rfl,⟨rfl,⟨rfl,rfl,⟨_,rfl, .inl ⟨rfl,rfl⟩⟩⟩,⟨rfl,rfl,⟨rfl,rfl,rfl⟩⟩⟩⟩⟩⟩⟩⟩⟩
theorem Dt:cu Tryz.prog 54 0 0:=⟨_,_,0,Tryz.underlying54,rfl,rfl,by kernel_rfl⟩
theorem pR(y:au)(e:Addr)(k:K)(h:At y e k):At y.Counter (e.add 0) k:=have f:At (y.Counter,y.Number,y.aq) e k:=h
 At.fst (At.zero f)
theorem Ry:cu Tryz.prog 54 1 1:=⟨_,_,0,Tryz.underlying54,rfl,rfl,by kernel_rfl⟩
theorem FO(y:au)(e:Addr)(k:K)(h:At y e k):At y.Number (e.add 1) k:=have f:At (y.Counter,y.Number,y.aq) e k:=h
 At.fst (At.jx (At.zero f))
theorem Ib:cu Tryz.prog 54 2 2:=⟨_,_,6,Tryz.underlying54,rfl,rfl,by kernel_rfl⟩
theorem tJ(y:au)(e:Addr)(k:K)(h:At y e k):At y.aq (e.add 2) k:=have f:At (y.Counter,y.Number,y.aq) e k:=h
 At.jx (At.jx (At.zero f))
theorem C6:cu Tryz.prog 106 0 0:=⟨_,_,0,Tryz.underlying106,rfl,rfl,by kernel_rfl⟩
theorem C9:cu Tryz.prog 106 2 2:=⟨_,_,0,Tryz.underlying106,rfl,rfl,by kernel_rfl⟩
theorem mJ:cu Tryz.prog 106 3 3:=⟨_,_,0,Tryz.underlying106,rfl,rfl,by kernel_rfl⟩
theorem ty3:Ty Tryz.prog 3 Int:=⟨⟨_,Tryz.underlying3,rfl⟩,by kernel_rfl⟩
theorem Ol:(Tryz.prog.info? 3).map (·.size)=some (Enc.sz Int):=by kernel_rfl
theorem ty9:Ty Tryz.prog 9 ByteArray:=⟨⟨_,Tryz.underlying9,rfl⟩,by kernel_rfl⟩
theorem Qo:Ty Tryz.prog 87 bn:=⟨⟨_,Tryz.underlying87,rfl⟩,by kernel_rfl⟩
theorem S5:(Tryz.prog.info? 87).map (·.size)=some (Enc.sz bn):=by kernel_rfl
theorem z87:Zero Tryz.prog 87 ((⟨(⟨#[]⟩:ByteArray),0,0,0⟩:bn):bn):=⟨_,Tryz.zeroValue87,λ _=>⟨_,rfl,⟨rfl,rfl,⟨rfl,rfl,⟨rfl,rfl,rfl⟩⟩⟩⟩⟩
theorem G3:cu Tryz.prog 87 0 0:=⟨_,_,0,Tryz.underlying87,rfl,rfl,by kernel_rfl⟩
theorem vA(y:bn)(e:Addr)(k:K)(h:At y e k):At y.Cap (e.add 0) k:=have f:At (y.Cap,y.Counter,y.Held,y.Used) e k:=h
 At.fst (At.zero f)
theorem Qw:cu Tryz.prog 87 1 1:=⟨_,_,0,Tryz.underlying87,rfl,rfl,by kernel_rfl⟩
theorem HP(y:bn)(e:Addr)(k:K)(h:At y e k):At y.Counter (e.add 1) k:=have f:At (y.Cap,y.Counter,y.Held,y.Used) e k:=h
 At.fst (At.jx (At.zero f))
theorem D4:cu Tryz.prog 87 2 2:=⟨_,_,0,Tryz.underlying87,rfl,rfl,by kernel_rfl⟩
theorem sq(y:bn)(e:Addr)(k:K)(h:At y e k):At y.Held (e.add 2) k:=have f:At (y.Cap,y.Counter,y.Held,y.Used) e k:=h
 At.fst (At.jx (At.jx (At.zero f)))
theorem Ae:cu Tryz.prog 87 3 3:=⟨_,_,0,Tryz.underlying87,rfl,rfl,by kernel_rfl⟩
theorem rA(y:bn)(e:Addr)(k:K)(h:At y e k):At y.Used (e.add 3) k:=have f:At (y.Cap,y.Counter,y.Held,y.Used) e k:=h
 At.jx (At.jx (At.jx (At.zero f)))
theorem Dn:cu Tryz.prog 146 1 1:=⟨_,_,0,Tryz.underlying146,rfl,rfl,by kernel_rfl⟩
theorem JA:Upd (α:=bn) (β:=Int) (0+3) (λx y=>{x with Used:=y}):=λk e f x y h g=>(Upd.snd (Upd.snd (Upd.snd Upd.self))) k e f (x.Cap,x.Counter,x.Held,x.Used) y h g
noncomputable def Qj(S:TypeId):Code:=tyC (R4 38 S) id (body Tryz.f29)
theorem xL{f S E:TypeId}{y:Func}{z:Type}[Enc z](U:Tryz.prog.funcs[f]?=some y)(V:y.body=some (Qj S))(W:y.ntmps=8)(P:y.results=#[.tmp 2])(I:Tryz.prog.underlying S=some (.slice E))(Q:dX Tryz.prog E z){k0:K}{v0:Value}{s r:List z}(i0:IsV s v0 k0)(u:(eE [] s).bind (λx=>some x)=some r):Calls Tryz.prog f #[v0] k0.w (Ret k0 (an k0.w.heap.size E r)):=by
 refine Ret.ofC ?_;refine dp U V W (show 1<=8 by decide) λa k F j m ha=>?_;obtain⟨e0,_⟩:=ha;replace i0:IsV s (a.get 0) k:=by rw[e0,F];exact i0
 have hQ:Gb.LetsOut (bodyPost Tryz.prog y (bY noF k0 (an k0.w.heap.size E r))):=ct;have g:Chg noF k0 k:=by rw[F];exact Chg.refl _ k0
 refine aF 1 (⟨some iE,[]⟩::[]) rfl ⟨g,j,m⟩ (by kernel_rfl) ⟨ob1 rfl λb q h n=>aP rfl ng,trivial⟩ [⟨_,_⟩] (λb q p=>⟨p.ke 0 rfl i0,trivial⟩) ?_;rintro a k ⟨⟨g,j,m⟩,i0,_⟩;refine wp_seq ?_;refine aF 2 (_::⟨some (Nf s),[(3,some 0)]⟩::[]) rfl ⟨g,j,m⟩ (by kernel_rfl) ⟨mu rfl i0,ob1 rfl λ _ _ h n=>Gq rfl I (IsV.rd n.1),trivial⟩ [⟨_,_⟩,⟨_,_⟩] (λb q p=>⟨p.ke 0 rfl i0,p.ou 1 4 rfl,trivial⟩) ?_;rintro a k ⟨⟨g,j,m⟩,i0,i4,_⟩;obtain⟨bb,J,G⟩:=i4;refine wp_cond_split J (λR=>?_) (λR=>?_)
 · replace u:some ([]:List z)=some r:=by rw[G R]at u;simpa[eE]using u
   refine tB (λc l=>Bs noF k0 8 c l/\an 0 E ([]:List z) (c.get 2) l/\Lo k0 (obF (c.get 2))/\True) ?_ ?_;·intro Q1 W1 w1;refine gS 1 (⟨some iE,[]⟩::[]) j (by kernel_rfl) ⟨ob1 rfl λb q h n=>aP rfl ng,trivial⟩ W1 λb q p=>?_;have H:iE (b.get 2) q:=p.ou 0 2 rfl;exact af (k:=q) (w1 _ _ ⟨⟨g.then p.grow,p.size.trans j,p.defers.trans m⟩,H.Qp,H.lo,trivial⟩)
   rintro a k ⟨⟨g,j,m⟩,i2,n2,_⟩;refine wp_ret ?_;obtain rfl:=ae u;exact cW P m g (show gj _ _ _ (.tmp 2) _ from an.raise (k0:=k0) i2 n2)
 · refine wp_skip ?_;refine wp_seq ?_;obtain⟨x1,M,u⟩:=bind_some u;refine cut (λO T=>Bs noF k0 8 O T/\an 0 E x1 (O.get 2) T/\Lo k0 (obF (O.get 2))/\True) ?_ hQ ?_;·intro Q2 W2 w2;refine gS 4 (⟨some iE,[]⟩::_::⟨some (an k.w.heap.size E x1),[(5,some 0),(6,some 1)]⟩::_::[]) j (by kernel_rfl) ⟨ob1 rfl λb q h n=>oV rfl I Q,mu rfl i0,ob1 rfl λ _ _ h n=>vC rfl I Q h.size n.1 (IsV.rd n.2.1) M,cp 2 rfl rfl,trivial⟩ W2 λb q p=>?_;have H:an k.w.heap.size E x1 (b.get 2) q:=p.ou 3 2 rfl;exact af (k:=q) (w2 _ _ ⟨⟨g.then p.grow,p.size.trans j,p.defers.trans m⟩,H.weaken (cr _),H.loF.chg g,trivial⟩)
   rintro a k ⟨⟨g,j,m⟩,i2,n2,_⟩;refine wp_ret ?_;obtain rfl:=ae u;exact cW P m g (show gj _ _ _ (.tmp 2) _ from an.raise (k0:=k0) i2 n2)
def oX{g:Type}[Enc g](e:(List (List g)))(f:Int×Int):Option (aY (Int×Int) ((List g))):=if(decide (f.2<(e.length:Int)))then(aR e f.2).bind λx1=>(bg f.1 (x1.length:Int)).bind λx=>if(decide (x<0))then none else(bg f.2 1).bind λh=>some (.go (x,h))else some (.ex 0 (f.1,f.2))
def pa{g:Type}[Enc g](e:(List (List g)))(f:(List g)×Int):Option (aY ((List g)×Int) ((List g))):=if(decide (f.2<(e.length:Int)))then(aR e f.2).bind λx1=>(eE f.1 x1).bind λx=>(bg f.2 1).bind λh=>some (.go (x,h))else some (.ex 2 (f.1,f.2))
def uz{f:Type}[Enc f](e:(List (List f))):Option ((List f)):=(az (oX e) (e.length+1) (0,0)).bind λf1=>match f1 with
 | .go _=>none| .ex _ g=>(zB f g.1).bind λx1=>(az (pa e) (e.length+1) (x1,0)).bind λf2=>match f2 with| .go _=>none| .ex _ h=>some h.1| .ret j=>some j
 | .ret m=>some m
noncomputable def N6(L S G:Nat):Code:=tyC (U5 247 L 69 S) (R4 236 G) (body Tryz.f216)
theorem Il{f L S E G:Nat}{fn:Func}{α:Type}[Enc α](hf:Tryz.prog.funcs[f]?=some fn)(hb:fn.body=some (N6 L S G))(hn:fn.ntmps=36)(hq:fn.results=#[.tmp 2])(huL:Tryz.prog.underlying L=some (.slice S))(hu:Tryz.prog.underlying S=some (.slice E))(tyS:Ty Tryz.prog S (List α))(eo:dX Tryz.prog E α)
    (hG:∀args w,(callFunc G args).run Tryz.prog w= .ok (.enter G args) w)(grow:∀{k0:K}{v0 v1:Value}{n:Int}{r:List α},v0= .slice none 0 0->IsV n v1 k0->zB α n=some r->Calls Tryz.prog G #[v0,v1] k0.w (Ret k0 (an k0.w.heap.size E r)))
    {k0:K}{v0:Value}{g:List (List α)}{r:List α}(i0:IsV g v0 k0)(x:uz g=some r):Calls Tryz.prog f #[v0] k0.w (Ret k0 (an k0.w.heap.size E r)):=by
 unfold uz at x;refine Ret.ofC ?_;refine dp hf hb hn (show 1<=36 by decide) λa k hk0 j F ha=>?_;obtain⟨e0,_⟩:=ha;replace i0:(IsV g) (a.get 0) k:=by rw[e0,hk0];exact i0
 have hQ:Gb.LetsOut (bodyPost Tryz.prog fn (bY noF k0 (an k0.w.heap.size E r))):=ct;have y:Chg noF k0 k:=by rw[hk0];exact Chg.refl _ k0
 refine aF 1 (⟨some iE,[]⟩::[]) rfl ⟨y,j,F⟩ (by kernel_rfl) ⟨ob1 rfl λb q h n=>aP rfl ng,trivial⟩ [⟨_,_⟩] (λb q p=>⟨p.ke 0 rfl i0,trivial⟩) ?_;rintro a k ⟨⟨y,j,F⟩,i0,_⟩;refine aF 1 (⟨some (IsI 0),[]⟩::[]) rfl ⟨y,j,F⟩ (by kernel_rfl) ⟨aI rfl rfl,trivial⟩ [⟨_,_⟩,⟨_,_⟩] (λb q p=>⟨p.ke 0 rfl i0,p.ou 0 3 rfl,trivial⟩) ?_;rintro a k ⟨⟨y,j,F⟩,i0,i3,_⟩;refine wp_seq ?_;refine aF 3 (_::_::⟨some (IsI 0),[]⟩::[]) rfl ⟨y,j,F⟩ (by kernel_rfl) ⟨mu rfl i0,o1 [(9,some 0)] rfl λ _ _ h n=>cO rfl rfl huL (IsV.rd n.1),ob1 rfl λ _ _ h n=>bE rfl (cI rfl),trivial⟩ [⟨_,_⟩,⟨_,_⟩,⟨_,_⟩,⟨_,_⟩,⟨_,_⟩] (λb q p=>⟨p.ke 0 rfl i0,p.ke 3 rfl i3,p.ou 0 9 rfl,p.ou 1 10 rfl,p.ou 2 11 rfl,trivial⟩) ?_;rintro a k ⟨⟨y,j,F⟩,i0,i3,i9,J,I,_⟩;refine wp_block ?_;obtain⟨f1,hf1,x⟩:=bind_some x;refine fT f1 (λs' c l=>Bs noF k0 36 c l/\IsV g (c.get 0) l/\IsV s'.1 (c.get 3) l/\IsV g (c.get 9) l/\IsL g (c.get 10) l/\IsV s'.2 (c.get 11) l/\True) (λi' s' c l=>(i'=0/\Bs noF k0 36 c l/\IsV g (c.get 0) l/\IsV s'.1 (c.get 3) l/\True)) (λr' c l=>bodyPost Tryz.prog fn (bY noF k0 (an k0.w.heap.size E r')) .ret c l.w) ?_ hQ ?_ ?_ ?_
 .intro Q1 W1 hgo hex W;refine cD ?_ _ _ _ _ _ hf1 ⟨⟨y,j,F⟩,i0,i3,i9,J,I,trivial⟩ Q1 W1 hgo hex W;clear x hf1 hgo hex W W1 hQ y j F i0 J I i3 i9;intro s1 fl_ a k x hS Q hQ hgo1212 hex1213 hret1214;obtain⟨⟨y,j,F⟩,i0,i3,i9,J,I,_⟩:=hS;unfold oX at x;refine aF 1 (_::[]) rfl ⟨y,j,F⟩ (by kernel_rfl) ⟨o1 [(11,none),(10,none)] rfl λ _ _ h n=>dm rfl (up I h n.1) (up J h n.2.1),trivial⟩ [⟨_,_⟩,⟨_,_⟩,⟨_,_⟩,⟨_,_⟩,⟨_,_⟩,⟨_,_⟩] (λb q p=>⟨p.ke 0 rfl i0,p.ke 3 rfl i3,p.ke 9 rfl i9,p.ke 10 rfl J,p.ke 11 rfl I,p.ou 0 12 rfl,trivial⟩) ?_;rintro a k ⟨⟨y,j,F⟩,i0,i3,i9,J,I,i12,_⟩;refine wp_seq ?_;refine wp_cond_split (isBool i12) (λR=>?_) (λR=>?_)
  .rw[if_pos R]at x;refine wp_skip ?_;refine wp_seq ?_;refine wp_block ?_;refine wp_seq ?_;obtain⟨x1,hx1,x⟩:=bind_some x;refine cut (λm z=>Bs noF k0 36 m z/\(IsV g) (m.get 0) z/\(IsV s1.1) (m.get 3) z/\(IsV x1) (m.get 5) z/\(IsV g) (m.get 9) z/\(IsL g) (m.get 10) z/\(IsV s1.2) (m.get 11) z/\True) ?_ hQ ?_;.intro Q2 W2 w1;refine gS 3 (_::_::_::[]) j (by kernel_rfl) ⟨o1 [(9,none),(11,none)] rfl λ _ _ h n=>aW rfl huL tyS (IsV.rd (up i9 h n.1)) (up I h n.2.1) hx1,o1 [(13,some 0)] rfl λ _ _ h n=>aw rfl tyS n.1,cp 1 rfl rfl,trivial⟩ W2 λb q p=>?_;exact af (k:=q) (w1 _ _ ⟨Bs.post ⟨y,j,F⟩ p,p.ke 0 rfl i0,p.ke 3 rfl i3,p.ou 2 5 rfl,p.ke 9 rfl i9,p.ke 10 rfl J,p.ke 11 rfl I,trivial⟩)
   rintro a k ⟨⟨y,j,F⟩,i0,i3,i5,i9,J,I,_⟩;refine wp_seq ?_;obtain⟨x2,hx2,x⟩:=bind_some x;refine cut (λm z=>Bs noF k0 36 m z/\(IsV g) (m.get 0) z/\(IsV x2) (m.get 3) z/\(IsV g) (m.get 9) z/\(IsL g) (m.get 10) z/\(IsV s1.2) (m.get 11) z/\True) ?_ hQ ?_;.intro Q3 W3 w2;refine gS 5 (_::_::_::_::_::[]) j (by kernel_rfl) ⟨mu rfl i3,mu rfl i5,o1 [(16,some 1)] rfl λ _ _ h n=>cO rfl rfl hu (IsV.rd n.1),o1 [(15,some 0),(17,some 2)] rfl λ _ _ h n=>dF rfl n.1 n.2.1 hx2,cp 3 rfl rfl,trivial⟩ W3 λb q p=>?_;exact af (k:=q) (w2 _ _ ⟨Bs.post ⟨y,j,F⟩ p,p.ke 0 rfl i0,p.ou 4 3 rfl,p.ke 9 rfl i9,p.ke 10 rfl J,p.ke 11 rfl I,trivial⟩)
   rintro a k ⟨⟨y,j,F⟩,i0,i3,i9,J,I,_⟩;refine aF 2 (_::_::[]) rfl ⟨y,j,F⟩ (by kernel_rfl) ⟨mu rfl i3,o1 [(19,some 0)] rfl λ _ _ h n=>dm rfl n.1 (cI rfl),trivial⟩ [⟨_,_⟩,⟨_,_⟩,⟨_,_⟩,⟨_,_⟩,⟨_,_⟩,⟨_,_⟩] (λb q p=>⟨p.ke 0 rfl i0,p.ke 3 rfl i3,p.ke 9 rfl i9,p.ke 10 rfl J,p.ke 11 rfl I,p.ou 1 20 rfl,trivial⟩) ?_;rintro a k ⟨⟨y,j,F⟩,i0,i3,i9,J,I,i20,_⟩;refine wp_cond_split (isBool i20) (λT=>?_) (λT=>?_);.rw[if_pos T]at x;simp at x
   rw[if_neg (by rw[T];decide)]at x;refine wp_skip ?_;obtain⟨x3,hx3,x⟩:=bind_some x;refine cut (λm z=>Bs noF k0 36 m z/\(IsV g) (m.get 0) z/\(IsV x2) (m.get 3) z/\(IsV g) (m.get 9) z/\(IsL g) (m.get 10) z/\(IsV x3) (m.get 11) z/\True) ?_ hQ ?_;.intro Q4 W4 w3;refine gS 2 (_::_::[]) j (by kernel_rfl) ⟨o1 [(11,none)] rfl λ _ _ h n=>dF rfl (up I h n.1) (cI rfl) hx3,cm 0 rfl rfl,trivial⟩ W4 λb q p=>?_;exact af (k:=q) (w3 _ _ ⟨Bs.post ⟨y,j,F⟩ p,p.ke 0 rfl i0,p.ke 3 rfl i3,p.ke 9 rfl i9,p.ke 10 rfl J,p.ou 1 11 rfl,trivial⟩)
   rintro a k ⟨⟨y,j,F⟩,i0,i3,i9,J,I,_⟩;exact hgo1212 _ _ _ (ae x).symm ⟨⟨y,j,F⟩,i0,i3,i9,J,I,trivial⟩
  rw[if_neg (by rw[R];decide)]at x;refine wp_exit ?_;exact hex1213 _ _ _ _ (ae x).symm ⟨rfl,⟨y,j,F⟩,i0,i3,trivial⟩
 .rintro r1 a k rfl hR;dsimp only at x;obtain rfl:=ae x;exact hR
 .rintro _ _ _ rfl _;simp at x
 clear hf1;rintro _ s2 a k rfl ⟨rfl,⟨y,j,F⟩,i0,i3,_⟩;dsimp only at x;refine wp_seq ?_;obtain⟨x4,hx4,x⟩:=bind_some x;refine cut (λm z=>Bs noF k0 36 m z/\(IsV g) (m.get 0) z/\an 0 E x4 (m.get 6) z/\Lo k0 (obF (m.get 6))/\True) ?_ hQ ?_;.intro Q5 W5 w4;refine gS 3 (_::_::_::[]) j (by kernel_rfl) ⟨mu rfl i3,o1 [(23,some 0)] rfl λ _ _ h n=>bQ rfl hG (vl h.size (grow rfl n.1 hx4)),cp 1 rfl rfl,trivial⟩ W5 λb q p=>?_;have hgq:=y.then p.grow;have P:=p.size.trans j;have U:=p.defers.trans F;have j0:=p.ke 0 rfl i0;have j6:(an k.w.heap.size E x4) (b.get 6) q:=p.ou 2 6 rfl;have x6:Lo k (obF (b.get 6)):=j6.loF;have y6:=x6.chg y;replace j6:=j6.weaken (cr _);exact af (k:=q) (w4 _ _ ⟨⟨hgq,P,U⟩,j0,j6,y6,trivial⟩)
 rintro a k ⟨⟨y,j,F⟩,i0,i6,n6,_⟩;refine wp_seq ?_;refine tB (λc l=>Bs noF k0 36 c l/\an 0 E x4 (c.get 6) l/\Lo k0 (obF (c.get 6))/\IsV g (c.get 25) l/\IsL g (c.get 26) l/\IsI 0 (c.get 27) l/\True) ?_ ?_;.intro Q6 W6 w5;refine gS 3 (_::_::⟨some (IsI 0),[]⟩::[]) j (by kernel_rfl) ⟨mu rfl i0,o1 [(25,some 0)] rfl λ _ _ h n=>cO rfl rfl huL (IsV.rd n.1),ob1 rfl λ _ _ h n=>bE rfl (cI rfl),trivial⟩ W6 λb q p=>?_;exact af (k:=q) (w5 _ _ ⟨Bs.post ⟨y,j,F⟩ p,p.ke 6 rfl i6,(by rw[p.old 6 rfl];exact n6),p.ou 0 25 rfl,p.ou 1 26 rfl,p.ou 2 27 rfl,trivial⟩)
 rintro a k ⟨⟨y,j,F⟩,i6,n6,O,i26,M,_⟩;refine wp_block ?_;obtain⟨f2,hf2,x⟩:=bind_some x;refine fT f2 (λs' c l=>Bs noF k0 36 c l/\an 0 E s'.1 (c.get 6) l/\Lo k0 (obF (c.get 6))/\IsV g (c.get 25) l/\IsL g (c.get 26) l/\IsV s'.2 (c.get 27) l/\True) (λi' s' c l=>(i'=2/\Bs noF k0 36 c l/\an 0 E s'.1 (c.get 6) l/\Lo k0 (obF (c.get 6))/\True)) (λr' c l=>bodyPost Tryz.prog fn (bY noF k0 (an k0.w.heap.size E r')) .ret c l.w) ?_ hQ ?_ ?_ ?_
 .intro Q7 W7 hgo hex W;refine cD ?_ _ _ _ _ _ hf2 ⟨⟨y,j,F⟩,i6,n6,O,i26,M,trivial⟩ Q7 W7 hgo hex W;clear x hf2 hgo hex W W7 hQ y j F O i26 M i6 n6;intro s3 fl_ a k x hS Q hQ hgo1237 hex1238 hret1239;obtain⟨⟨y,j,F⟩,i6,n6,O,i26,M,_⟩:=hS;unfold pa at x;refine tB (λc l=>Bs noF k0 36 c l/\an 0 E s3.1 (c.get 6) l/\Lo k0 (obF (c.get 6))/\IsV g (c.get 25) l/\IsL g (c.get 26) l/\IsV s3.2 (c.get 27) l/\(IsV (decide (s3.2<(g.length:Int)))) (c.get 28) l/\True) ?_ ?_;.intro Q8 W8 w6;refine gS 1 (_::[]) j (by kernel_rfl) ⟨o1 [(27,none),(26,none)] rfl λ _ _ h n=>dm rfl (up M h n.1) (up i26 h n.2.1),trivial⟩ W8 λb q p=>?_;exact af (k:=q) (w6 _ _ ⟨Bs.post ⟨y,j,F⟩ p,p.ke 6 rfl i6,(by rw[p.old 6 rfl];exact n6),p.ke 25 rfl O,p.ke 26 rfl i26,p.ke 27 rfl M,p.ou 0 28 rfl,trivial⟩)
  rintro a k ⟨⟨y,j,F⟩,i6,n6,O,i26,M,i28,_⟩;refine wp_seq ?_;refine wp_cond_split (isBool i28) (λV=>?_) (λV=>?_)
  .rw[if_pos V]at x;refine wp_skip ?_;refine wp_seq ?_;refine wp_block ?_;refine wp_seq ?_;obtain⟨x5,hx5,x⟩:=bind_some x;refine cut (λm z=>Bs noF k0 36 m z/\an 0 E s3.1 (m.get 6) z/\Lo k0 (obF (m.get 6))/\(IsV x5) (m.get 8) z/\(IsV g) (m.get 25) z/\(IsL g) (m.get 26) z/\(IsV s3.2) (m.get 27) z/\True) ?_ hQ ?_;.intro Q9 W9 w7;refine gS 3 (_::_::_::[]) j (by kernel_rfl) ⟨o1 [(25,none),(27,none)] rfl λ _ _ h n=>aW rfl huL tyS (IsV.rd (up O h n.1)) (up M h n.2.1) hx5,o1 [(29,some 0)] rfl λ _ _ h n=>aw rfl tyS n.1,cp 1 rfl rfl,trivial⟩ W9 λb q p=>?_;exact af (k:=q) (w7 _ _ ⟨Bs.post ⟨y,j,F⟩ p,p.ke 6 rfl i6,(by rw[p.old 6 rfl];exact n6),p.ou 2 8 rfl,p.ke 25 rfl O,p.ke 26 rfl i26,p.ke 27 rfl M,trivial⟩)
   rintro a k ⟨⟨y,j,F⟩,i6,n6,i8,O,i26,M,_⟩;obtain⟨x7,hx7,x⟩:=bind_some x;refine cut (λm z=>Bs noF k0 36 m z/\an 0 E x7 (m.get 6) z/\Lo k0 (obF (m.get 6))/\(IsV g) (m.get 25) z/\(IsL g) (m.get 26) z/\(IsV s3.2) (m.get 27) z/\True) ?_ hQ ?_
   .intro Q10 W10 w8;refine gS 2 (⟨some (bL (a.get 6) 0 E s3.1),[(6,none)]⟩::_::[]) j (by kernel_rfl) ⟨ob1 rfl λ _ _ h n=>dS (.inl rfl) (PJ n.1 (up i6 h n.1)),mu rfl i8,trivial⟩ W10 λb q p=>?_;have hgq:=y.then p.grow;have P:=p.size.trans j;have U:=p.defers.trans F;have j25:=p.ke 25 rfl O;have j26:=p.ke 26 rfl i26;have j27:=p.ke 27 rfl M;have e31:b.get 31=a.get 6:=(p.ou 0 31 rfl).1;have j31:an 0 E s3.1 (b.get 31) q:=(p.ou 0 31 rfl).2;have y31:Lo k0 (obF (b.get 31)):=by rw[e31];exact n6
    have j32:(IsV x5) (b.get 32) q:=p.ou 1 32 rfl;have hns:=j31.fF;refine ff (i:=2) (d:=33) rfl rfl rfl rfl (by rw[P];decide) (e:=E) hu eo j31 (IsV.rd j32) hx7 λb2 q2 hsz hdf H hch hown hob=>?_;have hle:=hch.le hns;have yn:Lo k0 (obF (b2.get 33)):=y31.app hgq hob;replace j25:=ai.pers hle j25;replace j26:=ai.pers hle j26;replace j27:=ai.pers hle j27;replace j32:=ai.pers hle j32;replace hgq:=hgq.step hch y31.wr;rw[<-H 25 (by decide)]at j25;rw[<-H 26 (by decide)]at j26;rw[<-H 27 (by decide)]at j27;rw[<-H 32 (by decide)]at j32;have j33:=hown;have y33:=yn;replace P:=hsz.trans P;replace U:=hdf.trans U;clear hle hch hown hob hns yn hsz hdf H;obtain⟨b,hbb⟩:∃b,b=b2:=⟨b2,rfl⟩;subst hbb;obtain⟨q,hqq⟩:∃q,q=q2:=⟨q2,rfl⟩;subst hqq;refine da (i:=3) (d:=6) rfl rfl (.inl rfl) rfl (by rw[P];decide) λb2 hsz hdf hnew H=>?_;have jn:(an 0 E x7) (b2.get 6) q:=by rw[hnew];exact j33
    have yn:Lo k0 (obF (b2.get 6)):=by rw[hnew];exact y33
    rw[<-H 25 (by decide)]at j25;rw[<-H 26 (by decide)]at j26;rw[<-H 27 (by decide)]at j27;rw[<-H 32 (by decide)]at j32;have j6:=jn;have y6:=yn;replace P:=hsz.trans P;replace U:=hdf.trans U;clear hsz hdf H;obtain⟨b,hbb⟩:∃b,b=b2:=⟨b2,rfl⟩;subst hbb;exact af (k:=q) (w8 _ _ ⟨⟨hgq,P,U⟩,j6,y6,j25,j26,j27,trivial⟩)
   rintro a k ⟨⟨y,j,F⟩,i6,n6,O,i26,M,_⟩;obtain⟨x8,hx8,x⟩:=bind_some x;refine cut (λm z=>Bs noF k0 36 m z/\an 0 E x7 (m.get 6) z/\Lo k0 (obF (m.get 6))/\(IsV g) (m.get 25) z/\(IsL g) (m.get 26) z/\(IsV x8) (m.get 27) z/\True) ?_ hQ ?_;.intro Q11 W11 w9;refine gS 2 (_::_::[]) j (by kernel_rfl) ⟨o1 [(27,none)] rfl λ _ _ h n=>dF rfl (up M h n.1) (cI rfl) hx8,cm 0 rfl rfl,trivial⟩ W11 λb q p=>?_;exact af (k:=q) (w9 _ _ ⟨Bs.post ⟨y,j,F⟩ p,p.ke 6 rfl i6,(by rw[p.old 6 rfl];exact n6),p.ke 25 rfl O,p.ke 26 rfl i26,p.ou 1 27 rfl,trivial⟩)
   rintro a k ⟨⟨y,j,F⟩,i6,n6,O,i26,M,_⟩;exact hgo1237 _ _ _ (ae x).symm ⟨⟨y,j,F⟩,i6,n6,O,i26,M,trivial⟩
  rw[if_neg (by rw[V];decide)]at x;refine wp_exit ?_;exact hex1238 _ _ _ _ (ae x).symm ⟨rfl,⟨y,j,F⟩,i6,n6,trivial⟩
 .rintro r2 a k rfl hR;dsimp only at x;obtain rfl:=ae x;exact hR
 .rintro _ _ _ rfl _;simp at x
 clear hf2;rintro _ s4 a k rfl ⟨rfl,⟨y,j,F⟩,i6,n6,_⟩;dsimp only at x;refine tB (λc l=>Bs noF k0 36 c l/\an 0 E s4.1 (c.get 2) l/\Lo k0 (obF (c.get 2))/\True) ?_ ?_
 .intro Q12 W12 w10;refine gS 2 (⟨some (bL (a.get 6) 0 E s4.1),[(6,none)]⟩::⟨some (bL (a.get 6) 0 E s4.1),[(35,some 0)]⟩::[]) j (by kernel_rfl) ⟨ob1 rfl λ _ _ h n=>dS (.inl rfl) (PJ n.1 (up i6 h n.1)),ob1 rfl λ _ _ h n=>dS (.inr rfl) n.1,trivial⟩ W12 λb q p=>?_;have hgq:=y.then p.grow;have P:=p.size.trans j;have U:=p.defers.trans F;have e2:b.get 2=a.get 6:=(p.ou 1 2 rfl).1;have j2:an 0 E s4.1 (b.get 2) q:=(p.ou 1 2 rfl).2;have y2:Lo k0 (obF (b.get 2)):=by rw[e2];exact n6
  exact af (k:=q) (w10 _ _ ⟨⟨hgq,P,U⟩,j2,y2,trivial⟩)
 rintro a k ⟨⟨y,j,F⟩,i2,n2,_⟩;refine wp_ret ?_;obtain rfl:=ae x;exact cW hq F y (show gj _ _ _ (.tmp 2) _ from an.raise (k0:=k0) i2 n2)
def zY{e:Type}(s:List e)(f:e->Option Bool):Option Int:=(az (λi:Int=>if decide (i<(s.length:Int))=true then(aR s i).bind λx=>(f x).bind λb=>if b=true then some (.ret i)else(bg i 1).bind λj=>some (.go j)else some (.ex 0 i)) (s.length+1) 0).bind λf1:aY Int Int=>match f1 with| .go _=>none| .ex _ _=>some (-1)| .ret r=>some r
def Rz{e:Type}(s:List e)(f:e->Option Bool):Option Bool:=(zY s f).bind λr=>some (decide (0<=r))
def eqM{e:Type}[DecidableEq e](a b:List e):Option Bool:=if((a.length:Int)!=(b.length:Int))=true then some false else(az (λi:Int=>if decide (i<(a.length:Int))=true then(aR a i).bind λx=>(aR b i).bind λy=>if(!decide (x=y))=true then some (.ret false)else(bg i 1).bind λj=>some (.go j)else some (.ex 0 i)) (a.length+1) 0).bind λf1:aY Int Bool=>match f1 with| .go _=>none| .ex _ _=>some true| .ret r=>some r
def gE(f:Int)(e:Int)(h:Int):Option (Bool):=some ((decide (e<=f))&&(decide (f<=h)))
theorem kh{f:K}{v0 E v2:Value}{z:Int}{g:Int}{j:Int}{r:Bool}(i0:(IsV z) v0 f)(m:(IsV g) E f)(i2:(IsV j) v2 f)(F:gE z g j=some r):Calls Tryz.prog 66 #[v0,E,v2] f.w (Ret f (IsV r)):=by
 unfold gE at F;refine Ret.ofC ?_;refine dp Tryz.func66 rfl Tryz.ntmps66 (show 3<=15 by decide) λa k e y u H=>?_;obtain⟨e0,e1,I,_⟩:=H;replace i0:(IsV z) (a.get 0) k:=by rw[e0,e];exact i0
 replace m:(IsV g) (a.get 1) k:=by rw[e1,e];exact m
 replace i2:(IsV j) (a.get 2) k:=by rw[I,e];exact i2
 have Q:Gb.LetsOut (bodyPost Tryz.prog Tryz.f66 (bY noF f (IsV r))):=ct;have x:Chg noF f k:=by rw[e];exact Chg.refl _ f
 refine aF 1 (⟨some (IsV false),[]⟩::[]) rfl ⟨x,y,u⟩ (by kernel_rfl) ⟨ob1 rfl λ _ _ h n=>aP rfl (aE.2 rfl),trivial⟩ [⟨_,_⟩,⟨_,_⟩,⟨_,_⟩] (λb q p=>⟨p.ke 0 rfl i0,p.ke 1 rfl m,p.ke 2 rfl i2,trivial⟩) ?_;rintro a k ⟨⟨x,y,u⟩,i0,m,i2,_⟩;refine aF 9 (_::_::_::_::_::_::_::_::_::[]) rfl ⟨x,y,u⟩ (by kernel_rfl) ⟨mu rfl m,mu rfl i0,o1 [(7,some 0),(8,some 1)] rfl λ _ _ h n=>DS rfl n.1 n.2.1,cm 2 rfl rfl,mT rfl rfl i0,mT rfl rfl i2,gT [(11,some 4),(12,some 5)] rfl rfl λG _ _ h n=>DS rfl (Gd.get n.1 G) (Gd.get n.2.1 G),o1 [(10,some 3),(13,some 6)] rfl λ _ _ h n=>sv rfl n.1 (Gd.get n.2.1) (cB rfl),cp 7 rfl rfl,trivial⟩ [⟨_,_⟩] (λb q p=>⟨p.ou 8 6 rfl,trivial⟩) ?_;rintro a k ⟨⟨x,y,u⟩,J,_⟩;refine wp_ret ?_;obtain rfl:=ae F;exact cW rfl u x J
def qd(e:Int):Option (Bool):=(gE e 0 7).bind λx1=>some x1
theorem xv{e:K}{v0:Value}{x:Int}{r:Bool}(i0:(IsV x) v0 e)(u:qd x=some r):Calls Tryz.prog 65 #[v0] e.w (Ret e (IsV r)):=by
 unfold qd at u;refine Ret.ofC ?_;refine dp Tryz.func65 rfl Tryz.ntmps65 (show 1<=5 by decide) λa k f g j F=>?_;obtain⟨e0,_⟩:=F;replace i0:(IsV x) (a.get 0) k:=by rw[e0,f];exact i0
 have Q:Gb.LetsOut (bodyPost Tryz.prog Tryz.f65 (bY noF e (IsV r))):=ct;have m:Chg noF e k:=by rw[f];exact Chg.refl _ e
 refine aF 1 (⟨some (IsV false),[]⟩::[]) rfl ⟨m,g,j⟩ (by kernel_rfl) ⟨ob1 rfl λ _ _ h n=>aP rfl (aE.2 rfl),trivial⟩ [⟨_,_⟩] (λb q p=>⟨p.ke 0 rfl i0,trivial⟩) ?_;rintro a k ⟨⟨m,g,j⟩,i0,_⟩;refine wp_seq ?_;obtain⟨x1,y,u⟩:=bind_some u;refine cut (λz E=>Bs noF e 5 z E/\(IsV x1) (z.get 2) E/\True) ?_ Q ?_;.intro H W G;refine gS 3 (_::_::_::[]) g (by kernel_rfl) ⟨mu rfl i0,o1 [(3,some 0)] rfl λ _ _ h n=>bQ rfl Tryz.call66 (kh n.1 (cI rfl) (cI rfl) y),cp 1 rfl rfl,trivial⟩ W λb q p=>?_;exact af (k:=q) (G _ _ ⟨Bs.post ⟨m,g,j⟩ p,p.ou 2 2 rfl,trivial⟩)
 rintro a k ⟨⟨m,g,j⟩,i2,_⟩;refine wp_ret ?_;obtain rfl:=ae u;exact cW rfl j m i2
structure fk where
 counter:Int
 L:List (ByteArray×bn)out:List mK
 sent:Int
 taken:List (qT×Bool)deriving Inhabited
abbrev kS:ByteArray->Value:=Value.string
def kK(x:qT):Value:= .agg #[.int .i64 x.from_, .int .i64 x.number]
theorem Ex:tG Tryz.prog 9 kS:=MI Tryz.underlying9
abbrev LT:=ByteArray×Nat×bn
def aL(n:Nat):Value:= .pointer (some ⟨n,0,none⟩)
def lkv(t:LT):ByteArray×Value:=(t.1,aL t.2.1)
def lcv(t:LT):ByteArray×bn:=(t.1,t.2.2)
def tkv(p:qT×Bool):qT×Value:=(p.1, .bool p.2)
def xK(d:fk)(e f:Nat)(h:Value):List Value:=[.int .i64 d.counter, .map (some e),h, .int .i64 d.sent, .map (some f)]
def dbl(b e f:Nat)(T:List LT):List Nat:=b::e::f::T.map (·.2.1)
structure ck (d:fk)(b bl bt:Nat)(h:Value)(T:List LT)(k:K):Prop where
 box:Gb.Box b (⟨xK d bl bt h⟩:dR 5) k
 ml:iH kS bl (T.map lkv) k
 bx:∀t∈T,Gb.Box t.2.1 t.2.2 k
 out:an 0 187 d.out h k
 mt:q8 kK bt (d.taken.map tkv) k
 eL:d.L=T.map lcv
 nk:(T.map (·.1)).Nodup
 nd:(dbl b bl bt T).Nodup
 nh:∀c∈dbl b bl bt T,¬obF h c
def DF(b e f:Nat)(h:Value)(T:List LT):FP:=λc=>c∈dbl b e f T∨obF h c
def wR(d:fk):FP->Pred:=λF v k=>∃b e f h T,v=aL b/\ck d b e f h T k/\F=DF b e f h T
section
variable {d:fk}{b bl bt:Nat}{h:Value}{T:List LT}{k k':K}{G:FP}{F:FP}{v:Value}
theorem MS:b∈dbl b bl bt T:=by simp[dbl]
theorem Bg:bl∈dbl b bl bt T:=by simp[dbl]
theorem K2:bt∈dbl b bl bt T:=by simp[dbl]
theorem IZ{t:LT}(e:t∈T):t.2.1∈dbl b bl bt T:=by simp only[dbl,bF,aS];exact .inr (.inr (.inr ⟨t,e,rfl⟩))
theorem ck.keep(D:ck d b bl bt h T k)(g:Chg G k k')(e:aB (DF b bl bt h T) G)(f:∀b,G b->¬k.sh b):ck d b bl bt h T k':=⟨D.box.keep g (e _ (.inl MS)) f,D.ml.keep g (e _ (.inl Bg)),λt j=>(D.bx t j).keep g (e _ (.inl (IZ j))) f,D.out.keep g (λc m=>e c (.inr m)) f,D.mt.keep g (e _ (.inl K2)),D.eL,D.nk,D.nd,D.nh⟩
theorem ck.handed(D:ck d b bl bt h T k)(g:Gb.Handed k k' G)(e:aB (DF b bl bt h T) G):ck d b bl bt h T k':=⟨D.box.handed g (e _ (.inl MS)),D.ml.handed g (e _ (.inl Bg)),λt f=>(D.bx t f).handed g (e _ (.inl (IZ f))),D.out.handed g (λc j=>e c (.inr j)),D.mt.handed g (e _ (.inl K2)),D.eL,D.nk,D.nd,D.nh⟩
theorem ck.grow(D:ck d b bl bt h T k)(g:bD k k'):ck d b bl bt h T k':=D.keep (Chg.of (F:=noF) g) (λ _ _ f=>f) (λ _ f=>f.elim)
theorem ck.lt(D:ck d b bl bt h T k):∀c,DF b bl bt h T c->c<k.w.heap.size:=by
 rintro c (e|e)
 · simp only[dbl,bF,aS]at e;rcases e with rfl|rfl|rfl|⟨t,f,rfl⟩;.exact D.box.lt
   .exact D.ml.lt
   .exact D.mt.lt
   .exact(D.bx t f).lt
 .exact D.out.ltF c e
theorem ck.nsh(D:ck d b bl bt h T k):∀c,DF b bl bt h T c->¬k.sh c:=by
 rintro c (e|e)
 · simp only[dbl,bF,aS]at e;rcases e with rfl|rfl|rfl|⟨t,f,rfl⟩;.exact D.box.own
   .exact D.ml.own
   .exact D.mt.own
   .exact(D.bx t f).own
 .exact D.out.fF c e
instance:Rsc (wR d)where keep:=λ ⟨b,bl,bt,h,T,e,D,f⟩g m q=>⟨b,bl,bt,h,T,e,D.keep g (f▸m) q,f⟩;handed:=λ ⟨b,bl,bt,h,T,e,D,f⟩g m=>⟨b,bl,bt,h,T,e,D.handed g (f▸m),f⟩;lt:=λ ⟨b,bl,bt,h,T,e,D,f⟩c j=>D.lt c (by rw[f]at j;exact j);nsh:=λ ⟨b,bl,bt,h,T,e,D,f⟩c j=>D.nsh c (by rw[f]at j;exact j)
theorem ck.get(e:ByteArray):bV (T.map lkv) e=(bV T e).map λy=>aL y.1:=wA (λy:Nat×bn=>aL y.1) T e
theorem ck.OY(D:ck d b bl bt h T k)(cap:ByteArray):bV d.L cap=(bV T cap).map (·.2):=by rw[D.eL];exact wA (λy:Nat×bn=>y.2) T cap
theorem ck.Oz(D:ck d b bl bt h T k){f:ByteArray}{m:Nat}{x y:bn}(M:bV T f=some (m,x))(g:Chg (Eq m) k k')(hx:Gb.Box m y k'):ck {d with L:=dA d.L f y} b bl bt h (dA T f (m,y)) k'/\DF b bl bt h (dA T f (m,y))=DF b bl bt h T/\dbl b bl bt (dA T f (m,y))=dbl b bl bt T:=by
  have u:=tn M;have E:=IZ (b:=b) (bl:=bl) (bt:=bt) u;have O:∀c,m=c->¬k.sh c:=λc e=>e▸D.nsh _ (.inl E);have H:=D.nd;have e1:(dA T f (m,y)).map (·.2.1)=T.map (·.2.1):=by
    have:∀(T:List LT),bV T f=some (m,x)->(dA T f (m,y)).map (·.2.1)=T.map (·.2.1):=by intro T;induction T with|nil=>simp[bV];|cons t T Q=>
 obtain⟨a,z⟩:=t;simp only[bV,dA];split;.intro e;simp at e;simp[e]
 .intro e;simp[Q e]
    exact this T M
  have e2:(dA T f (m,y)).map lkv=T.map lkv:=by
    have:∀(T:List LT),bV T f=some (m,x)->(dA T f (m,y)).map lkv=T.map lkv:=by intro T;induction T with|nil=>simp[bV];|cons t T Q=>
 obtain⟨a,z⟩:=t;simp only[bV,dA];split;.intro e;simp at e;simp[e,lkv]
 .intro e;simp[Q e]
    exact this T M
  have J:dbl b bl bt (dA T f (m,y))=dbl b bl bt T:=by unfold dbl;rw[e1]
  have ne:∀c∈dbl b bl bt T,(∀t∈T,t.2.1=c->t.1=f)->c≠m->True:=λ _ _ _ _=>trivial;simp only[dbl,iK,bF,aS,not_or]at H;obtain⟨⟨hb1,hb2,R⟩,⟨hl1,U⟩,V,W⟩:=H;have nb:¬m=b:=λe=>R ⟨_,u,e⟩;have nl:¬m=bl:=λe=>U ⟨_,u,e⟩;have nt:¬m=bt:=λe=>V ⟨_,u,e⟩;refine⟨⟨D.box.keep g nb O,by rw[e2];exact D.ml.keep g nl,?_,D.out.keep g (λc hc' e=>D.nh m E (e▸hc')) O,D.mt.keep g nt,?_,xo T f _ D.nk,by rw[J];exact D.nd,by rw[J];exact D.nh⟩,by unfold DF;rw[J],J⟩
  · intro t ht;rcases Bi D.nk ht with rfl|⟨h1,h2⟩;.exact hx
    · refine(D.bx t h1).keep g (λe=>?_) O;have:∀(T:List LT),(T.map (·.2.1)).Nodup->(f,m,x)∈T->t∈T->m=t.2.1->t.1=f:=by
       intro T W u ht e;have:=fe.1 W;obtain⟨i,hi,w⟩:=bR u;obtain⟨j,hj,q⟩:=bR ht;by_cases I:i=j;.subst I;rw[w]at q;rw[<-q]
       · exfalso;rcases Nat.lt_or_gt_of_ne I with h|h;.exact this i j (by simpa using hi) (by simpa using hj) h (by simp[w,q,e])
         .exact this j i (by simpa using hj) (by simpa using hi) h (by simp[w,q,e])
      exact h2 (this T W u h1 e)
  ·show dA d.L f y=_;rw[D.eL];exact AP (λy:Nat×bn=>y.2) T f (m,y)
end
theorem If:Ty Tryz.prog 142 fW:=⟨⟨_,Tryz.underlying142,rfl⟩,by kernel_rfl⟩
theorem SG:Ty Tryz.prog 3 fW:=⟨⟨_,Tryz.underlying3,rfl⟩,by kernel_rfl⟩
theorem ID:∀w,(zeroValue 147).run Tryz.prog w= .ok (.pointer none) w:=λw=>Tryz.zeroValue147 w
theorem NW{o:Oper}{a:Act}{k:K}{t s w:TypeId}{x:Operand}{p:Option Addr}(e:o.op= .binOp .eql t x (.const (.pointer none)) w)(u:Tryz.prog.underlying t=some (.pointer s))(h:a.eval x= .pointer p):aX Tryz.prog o a k (IsV p.isNone):=by
 have ev:a.eval (.const (.pointer none))= .pointer none:=rfl;have f:(Op.equal t (.pointer p) (.pointer none)).run Tryz.prog k.w= .ok p.isNone k.w:=by show(Op.equalIn (9999+1) t _ _).run Tryz.prog k.w=_;rw[Op.equalIn];cases p<;>simp[run_underlying u]
 refine ak (v:= .bool p.isNone) ?_ (aE.2 rfl);simp only[execOp,e,h,ev];cases p<;>simp[eqGuard,binOp,f]
theorem Od{o:Oper}{a:Act}{k:K}{t s w:TypeId}{x:Operand}{p:Option Addr}(e:o.op= .binOp .neq t x (.const (.pointer none)) w)(u:Tryz.prog.underlying t=some (.pointer s))(h:a.eval x= .pointer p):aX Tryz.prog o a k (IsV p.isSome):=by
 have ev:a.eval (.const (.pointer none))= .pointer none:=rfl;have f:(Op.equal t (.pointer p) (.pointer none)).run Tryz.prog k.w= .ok p.isNone k.w:=by show(Op.equalIn (9999+1) t _ _).run Tryz.prog k.w=_;rw[Op.equalIn];cases p<;>simp[run_underlying u]
 refine ak (v:= .bool p.isSome) ?_ (aE.2 rfl);simp only[execOp,e,h,ev];cases p<;>simp[eqGuard,binOp,f]
def lpt(y:Option (Nat×bn)):Option Addr:=y.map λy=>⟨y.1,0,none⟩
theorem IY(T:List LT)(e:ByteArray):(bV (T.map lkv) e).getD (.pointer none)= .pointer (lpt (bV T e)):=by rw[ck.get];cases bV T e<;>rfl
def we(d:fk)(e:ByteArray):Option Int:=match bV d.L e with|some x=>fh x.Held x.Used|none=>some 0
theorem EL{k0:K}{V:Value}{d:fk}{b bl bt:Nat}{h:Value}{T:List LT}{e:ByteArray}{r:Int}(D:ck d b bl bt h T k0)(J:IsV e V k0)(M:we d e=some r):Calls Tryz.prog 26 #[aL b,V] k0.w (Ret k0 (IsV r)):=by
 unfold we at M;rw[D.OY]at M;refine Ret.ofC ?_;refine dp Tryz.func26 rfl Tryz.ntmps26 (show 2<=23 by decide) λa k Q z u W=>?_;obtain⟨e0,e1,_⟩:=W;have i0:Is (aL b) (a.get 0) k:=e0;replace J:IsV e (a.get 1) k:=by rw[e1,Q];exact J
 have hQ:Gb.LetsOut (bodyPost Tryz.prog Tryz.f26 (bY noF k0 (IsV r))):=ct;have j:Chg noF k0 k:=by rw[Q];exact Chg.refl _ k0
 clear e0 e1;refine aF 1 (⟨some (IsI 0),[]⟩::[]) rfl ⟨j,z,u⟩ (by kernel_rfl) ⟨aI rfl rfl,trivial⟩ [⟨_,_⟩,⟨_,_⟩] (λb q p=>⟨p.ke 0 rfl i0,p.ke 1 rfl J,trivial⟩) ?_;rintro a k ⟨⟨j,z,u⟩,i0,J,_⟩;have R:ck d b bl bt h T k:=D.keep j (λ _ _ f=>f) (λ _ f=>f.elim);refine wp_seq ?_;refine aF 7 (_::⟨some (Is (aL b)),[(6,some 0)]⟩::⟨some (cU b 1),[(7,some 1)]⟩::⟨some (Is (.map (some bl))),[(8,some 2)]⟩::_::⟨some (Is (.pointer (lpt (bV T e)))),[(9,some 3),(10,some 4)]⟩::_::[]) rfl ⟨j,z,u⟩ (by kernel_rfl) ⟨mu rfl i0,ob1 rfl λ _ _ g n=>bA rfl ⟨_,n.1⟩ n.1,ob1 rfl λ _ _ g n=>bI rfl Dn n.1,ob1 rfl λ _ _ g n=>dw rfl If n.1 (R.grow g).box rfl,mu rfl J,ob1 rfl λ _ _ g n=>by rw[<-IY];exact o5 rfl Ex Tryz.underlying142 ID n.1 (di.1 n.2.1) (R.grow g).ml.m,cp 5 rfl rfl,trivial⟩ [⟨5,Is (.pointer (lpt (bV T e)))⟩] (λb q p=>⟨p.ou 6 5 rfl,trivial⟩) ?_;rintro a k ⟨⟨j,z,u⟩,i5,_⟩;have D2:ck d b bl bt h T k:=D.keep j (λ _ _ f=>f) (λ _ f=>f.elim);clear i0 J R;refine aF 2 (_::⟨some (IsV (lpt (bV T e)).isSome),[(12,some 0)]⟩::[]) rfl ⟨j,z,u⟩ (by kernel_rfl) ⟨mu rfl i5,ob1 rfl λ _ _ g n=>Od rfl Tryz.underlying147 n.1,trivial⟩ [⟨_,_⟩,⟨_,_⟩] (λb q p=>⟨p.ke 5 rfl i5,p.ou 1 13 rfl,trivial⟩) ?_;clear i5 D2;rintro a k ⟨⟨j,z,u⟩,i5,H,_⟩;have D3:ck d b bl bt h T k:=D.keep j (λ _ _ f=>f) (λ _ f=>f.elim);cases I:bV T e with|none=>rw[I]at H M;refine wp_cond_split (isBool H) (λI=>by simp[lpt]at I) (λI=>?_);refine wp_skip ?_;refine aF 1 (⟨some (IsI 0),[]⟩::[]) rfl ⟨j,z,u⟩ (by kernel_rfl) ⟨aI rfl rfl,trivial⟩ [⟨_,_⟩] (λb q p=>⟨p.ou 0 4 rfl,trivial⟩) ?_;rintro a k ⟨⟨j,z,u⟩,i4,_⟩;refine wp_ret ?_;obtain rfl:=ae M;exact cW rfl u j i4;|some y=>
 obtain⟨O,x⟩:=y;rw[I]at H M i5;have U:=D3.bx _ (tn I);refine wp_cond_split (isBool H) (λI=>?_) (λI=>by simp[lpt]at I);replace i5:Is (aL O) (a.get 5) k:=i5;have P1:∀{q},bD k q->db x (aL O) q:=λg=>⟨_,rfl,(U.grow g).at⟩;refine wp_seq ?_;refine cut (λP k'=>Bs noF k0 23 P k'/\IsV r (P.get 4) k') ?_ hQ ?_;·intro Q1 W1 w1;refine region (a0:=a) (k0:=k) (n:=23) (m:=10) (_::⟨some (Is (aL O)),[(14,some 0)]⟩::⟨some (db x.Held),[(15,some 1)]⟩::⟨some (IsV x.Held),[(16,some 2)]⟩::_::⟨some (Is (aL O)),[(18,some 4)]⟩::⟨some (db x.Used),[(19,some 5)]⟩::⟨some (IsV x.Used),[(20,some 6)]⟩::⟨some (IsV r),[(17,some 3),(21,some 7)]⟩::_::[]) om z (by kernel_rfl) ⟨mu rfl i5,ob1 rfl λ _ _ g n=>bA rfl ⟨_,n.1⟩ n.1,ob1 rfl λP _ g n=>aA rfl D4 (sq _) (by rw[show P.eval (.tmp 15)=aL O from n.1];exact P1 g),ob1 rfl λ _ _ g n=>aw rfl ty3 n.1,mu rfl i5,ob1 rfl λ _ _ g n=>bA rfl ⟨_,n.1⟩ n.1,ob1 rfl λP _ g n=>aA rfl Ae (rA _) (by rw[show P.eval (.tmp 19)=aL O from n.1];exact P1 g),ob1 rfl λ _ _ g n=>aw rfl ty3 n.1,ob1 rfl λ _ _ g n=>vg rfl n.1 n.2.1 M,cp 8 rfl rfl,trivial⟩ W1 λb q p=>?_;exact af (k:=q) (w1 _ _ ⟨Bs.post ⟨j,z,u⟩ p,p.ou 9 4 rfl⟩)
 rintro a k ⟨⟨j,z,u⟩,i4⟩;refine wp_ret ?_;exact cW rfl u j i4
theorem KP(n lo hi:Int):gE n lo hi=some (decide (lo<=n)&&decide (n<=hi)):=rfl
def jM{e:Type}(y:Option e)(n:Int):Int:=if(decide (1<=n)&&decide (n<=1099511627776))then(if y.isNone then 4 else 0)else 1
def yE(y:Option (Nat×bn))(n:Int):Option Addr:=if(decide (1<=n)&&decide (n<=1099511627776))then lpt y else none
theorem OJ{H:K}{R v2:Value}{d:fk}{b P U:Nat}{h:Value}{T:List LT}{e:ByteArray}{n:Int}(D:ck d b P U h T H)(I:IsV e R H)(i2:IsV n v2 H):Calls Tryz.prog 81 #[aL b,R,v2] H.w (Ret H (eO (Is (.pointer (yE (bV T e) n))) (IsV (jM (bV T e) n)))):=by
 refine Ret.ofC ?_;refine dp Tryz.func81 rfl Tryz.ntmps81 (show 3<=23 by decide) λa k J x u ha=>?_;obtain⟨e0,e1,V,_⟩:=ha;have i0:Is (aL b) (a.get 0) k:=e0;replace I:IsV e (a.get 1) k:=by rw[e1,J];exact I
 replace i2:IsV n (a.get 2) k:=by rw[V,J];exact i2
 have hQ:Gb.LetsOut (bodyPost Tryz.prog Tryz.f81 (bY noF H (eO (Is (.pointer (yE (bV T e) n))) (IsV (jM (bV T e) n))))):=ct;have j:Chg noF H k:=by rw[J];exact Chg.refl _ H
 clear e0 e1 V;refine aF 2 (⟨some (Is (.pointer none)),[]⟩::⟨some (IsI 0),[]⟩::[]) rfl ⟨j,x,u⟩ (by kernel_rfl) ⟨ob1 rfl λ _ _ g n=>aP rfl rfl,aI rfl rfl,trivial⟩ [⟨_,_⟩,⟨_,_⟩,⟨_,_⟩] (λb q p=>⟨p.ke 0 rfl i0,p.ke 1 rfl I,p.ke 2 rfl i2,trivial⟩) ?_;clear i0 I i2;rintro a k ⟨⟨j,x,u⟩,i0,I,i2,_⟩;have Q:ck d b P U h T k:=D.keep j (λ _ _ f=>f) (λ _ f=>f.elim);refine aF 7 (_::⟨some (Is (aL b)),[(9,some 0)]⟩::⟨some (cU b 1),[(10,some 1)]⟩::⟨some (Is (.map (some P))),[(11,some 2)]⟩::_::⟨some (Is (.pointer (lpt (bV T e)))),[(12,some 3),(13,some 4)]⟩::_::[]) rfl ⟨j,x,u⟩ (by kernel_rfl) ⟨mu rfl i0,ob1 rfl λ _ _ g n=>bA rfl ⟨_,n.1⟩ n.1,ob1 rfl λ _ _ g n=>bI rfl Dn n.1,ob1 rfl λ _ _ g n=>dw rfl If n.1 (Q.grow g).box rfl,mu rfl I,ob1 rfl λ _ _ g n=>by rw[<-IY];exact o5 rfl Ex Tryz.underlying142 ID n.1 (di.1 n.2.1) (Q.grow g).ml.m,cp 5 rfl rfl,trivial⟩ [⟨2,IsV n⟩,⟨8,Is (.pointer (lpt (bV T e)))⟩] (λb q p=>⟨p.ke 2 rfl i2,p.ou 6 8 rfl,trivial⟩) ?_;clear i0 I i2 Q;rintro a k ⟨⟨j,x,u⟩,i2,F,_⟩;refine wp_seq ?_;refine wp_block ?_;refine aF 4 (_::⟨some (IsV ((decide (1<=n)&&decide (n<=1099511627776)))),[(16,some 0)]⟩::⟨some (IsV (!(decide (1<=n)&&decide (n<=1099511627776)))),[(17,some 1)]⟩::_::[]) rfl ⟨j,x,u⟩ (by kernel_rfl) ⟨mu rfl i2,ob1 rfl λ _ _ g n=>bQ rfl Tryz.call66 (kh n.1 (ar.2 rfl) (ar.2 rfl) (KP _ _ _)),ob1 rfl λ _ _ g n=>iN rfl n.1,cp 2 rfl rfl,trivial⟩ [⟨_,_⟩,⟨_,_⟩] (λb q p=>⟨p.ke 8 rfl F,p.ou 3 15 rfl,trivial⟩) ?_;clear i2 F;rintro a k ⟨⟨j,x,u⟩,F,z,_⟩;unfold yE jM at*;cases W:(decide (1<=n)&&decide (n<=1099511627776))with|false=>rw[W]at z;refine wp_cond_split (isBool z) (λ _=>?_) (λE=>by simp at E);refine aF 2 (⟨some (Is (.pointer none)),[]⟩::⟨some (IsI 1),[]⟩::[]) rfl ⟨j,x,u⟩ (by kernel_rfl) ⟨ob1 rfl λ _ _ g n=>aP rfl rfl,aI rfl rfl,trivial⟩ [⟨_,_⟩,⟨_,_⟩] (λb q p=>⟨p.ou 0 6 rfl,p.ou 1 7 rfl,trivial⟩) ?_;rintro a k ⟨⟨j,x,u⟩,M,O,_⟩;refine wp_ret ?_;exact AE rfl u j M O|true=>rw[W]at z;refine wp_cond_split (isBool z) (λE=>by simp at E) (λ _=>?_);refine aF 3 (_::⟨some (IsV (lpt (bV T e)).isNone),[(20,some 0)]⟩::_::[]) rfl ⟨j,x,u⟩ (by kernel_rfl) ⟨mu rfl F,ob1 rfl λ _ _ g n=>NW rfl Tryz.underlying147 n.1,cp 1 rfl rfl,trivial⟩ [⟨_,_⟩,⟨_,_⟩] (λb q p=>⟨p.ke 8 rfl F,p.ou 2 19 rfl,trivial⟩) ?_;clear F z;rintro a k ⟨⟨j,x,u⟩,F,G,_⟩;cases E:bV T e with|none=>rw[E]at G;refine wp_cond_split (isBool G) (λ _=>?_) (λE=>by simp[lpt]at E);refine aF 2 (⟨some (Is (.pointer none)),[]⟩::⟨some (IsI 4),[]⟩::[]) rfl ⟨j,x,u⟩ (by kernel_rfl) ⟨ob1 rfl λ _ _ g n=>aP rfl rfl,aI rfl rfl,trivial⟩ [⟨_,_⟩,⟨_,_⟩] (λb q p=>⟨p.ou 0 6 rfl,p.ou 1 7 rfl,trivial⟩) ?_;rintro a k ⟨⟨j,x,u⟩,M,O,_⟩;refine wp_ret ?_;exact AE rfl u j M O|some y=>rw[E]at G F;refine wp_cond_split (isBool G) (λE=>by simp[lpt]at E) (λ _=>?_);refine wp_skip ?_;refine aF 3 (_::_::⟨some (IsI 0),[]⟩::[]) rfl ⟨j,x,u⟩ (by kernel_rfl) ⟨mu rfl F,cp 0 rfl rfl,aI rfl rfl,trivial⟩ [⟨_,_⟩,⟨_,_⟩] (λb q p=>⟨p.ou 1 6 rfl,p.ou 2 7 rfl,trivial⟩) ?_;rintro a k ⟨⟨j,x,u⟩,M,O,_⟩;refine wp_ret ?_;exact AE rfl u j M O
def K5(e:fk)(u:Value)(F:FP)(f:K)(R:Pred):Pred:=λv k=>(∃G,wR e G u k/\Wr F f G)/\R v k
theorem ck.r{d:fk}{b e f:Nat}{h:Value}{T:List LT}{k:K}(D:ck d b e f h T k):wR d (DF b e f h T) (aL b) k:=⟨b,e,f,h,T,rfl,D,rfl⟩
theorem Wr.self{F:FP}{k:K}:Wr F k F:=λ _ h=> .inl h
def za(d:fk)(e:ByteArray)(n:Int):Option (fk×Int):=if jM (bV d.L e) n !=0 then some (d,jM (bV d.L e) n)else match bV d.L e with|some x=>(fh x.Held x.Used).bind λl=>if l<n then some (d,26)else(bg x.Used n).bind λu=>some ({d with L:=dA d.L e {x with Used:=u}},0)|none=>none
theorem Kf(T:List LT)(e:ByteArray)(n:Int):jM ((bV T e).map (·.2)) n=jM (bV T e) n:=by unfold jM;cases bV T e<;>rfl
theorem GU{e:Type}{y:Option e}{n:Int}(h:jM y n=0):(decide (1<=n)&&decide (n<=1099511627776))=true/\∃z,y=some z:=by
 unfold jM at h;split at h;.rename_i w;cases y with|none=>simp at h;|some z=>exact⟨w,z,rfl⟩
 .simp at h
theorem Ia{k0:K}{v1 v2:Value}{d:fk}{b j y:Nat}{h:Value}{T:List LT}{f:ByteArray}{n:Int}{r:fk×Int}(D:ck d b j y h T k0)(R:IsV f v1 k0)(i2:IsV n v2 k0)(H:za d f n=some r):Calls Tryz.prog 48 #[aL b,v1,v2] k0.w (bY (DF b j y h T) k0 (K5 r.1 (aL b) (DF b j y h T) k0 (IsV r.2))):=by
 unfold za at H;rw[D.OY,Kf]at H;refine dp Tryz.func48 rfl Tryz.ntmps48 (show 3<=40 by decide) λa k O F z ha=>?_;obtain⟨e0,e1,e2,_⟩:=ha;have i0:Is (aL b) (a.get 0) k:=e0;replace R:IsV f (a.get 1) k:=by rw[e1,O];exact R
 replace i2:IsV n (a.get 2) k:=by rw[e2,O];exact i2
 have hQ:Gb.LetsOut (bodyPost Tryz.prog Tryz.f48 (bY (DF b j y h T) k0 (K5 r.1 (aL b) (DF b j y h T) k0 (IsV r.2)))):=ct;have E:Chg (DF b j y h T) k0 k:=by rw[O];exact Chg.refl _ k0
 replace D:ck d b j y h T k:=by rw[O];exact D
 clear e0 e1 e2;refine aF 1 (⟨some (IsI 0),[]⟩::[]) rfl ⟨E,F,z⟩ (by kernel_rfl) ⟨aI rfl rfl,trivial⟩ [⟨_,_⟩,⟨_,_⟩,⟨_,_⟩,⟨0,λ _ k=>ck d b j y h T k⟩] (λb q p=>⟨p.ke 0 rfl i0,p.ke 1 rfl R,p.ke 2 rfl i2,D.grow p.grow,trivial⟩) ?_;clear i0 R i2 D;rintro a k ⟨⟨E,F,z⟩,i0,R,i2,D,_⟩;replace D:ck d b j y h T k:=D;refine aF 9 (_::_::_::⟨some (eO (Is (.pointer (yE (bV T f) n))) (IsV (jM (bV T f) n))),[(10,some 0),(11,some 1),(12,some 2)]⟩::_::⟨some (Is (.pointer (yE (bV T f) n))),[(9,some 4)]⟩::⟨some (IsV (jM (bV T f) n)),[(9,some 4)]⟩::_::_::[]) rfl ⟨E,F,z⟩ (by kernel_rfl) ⟨mu rfl i0,mu rfl R,mu rfl i2,ob1 rfl λG _ g n=>bQ rfl Tryz.call81 (by show Calls Tryz.prog 81 #[G.eval (.tmp 10),G.eval (.tmp 11),G.eval (.tmp 12)] _ _;rw[show G.eval (.tmp 10)=aL b from n.1];exact OJ (D.grow g) n.2.1 n.2.2.1),cm 3 rfl rfl,ob1 rfl λ _ _ g n=>rj rfl n.1,ob1 rfl λ _ _ g n=>qt rfl n.1,cp 5 rfl rfl,cp 6 rfl rfl,trivial⟩ [⟨_,_⟩,⟨_,_⟩,⟨7,Is (.pointer (yE (bV T f) n))⟩,⟨8,IsV (jM (bV T f) n)⟩,⟨0,λ _ k=>ck d b j y h T k⟩] (λb q p=>⟨p.ke 0 rfl i0,p.ke 2 rfl i2,p.ou 7 7 rfl,p.ou 8 8 rfl,D.grow p.grow,trivial⟩) ?_;clear i0 R i2 D;rintro a k ⟨⟨E,F,z⟩,i0,i2,M,U,D,_⟩;replace D:ck d b j y h T k:=D;refine wp_seq ?_;refine wp_block ?_;refine aF 3 (_::⟨some (IsV (jM (bV T f) n !=0)),[(17,some 0)]⟩::_::[]) rfl ⟨E,F,z⟩ (by kernel_rfl) ⟨mu rfl U,ob1 rfl λ _ _ g n=>DU rfl n.1 (cI rfl),cp 1 rfl rfl,trivial⟩ [⟨_,_⟩,⟨_,_⟩,⟨_,_⟩,⟨16,IsV (jM (bV T f) n !=0)⟩,⟨0,λ _ k=>ck d b j y h T k⟩] (λb q p=>⟨p.ke 2 rfl i2,p.ke 7 rfl M,p.ke 8 rfl U,p.ou 2 16 rfl,D.grow p.grow,trivial⟩) ?_;clear i0 i2 M U D;rintro a k ⟨⟨E,F,z⟩,i2,M,U,V,D,_⟩;replace D:ck d b j y h T k:=D;refine wp_cond_split (isBool V) (λP=>?_) (λP=>?_);·rw[if_pos P]at H;obtain rfl:=ae H;refine aF 2 (_::_::[]) rfl ⟨E,F,z⟩ (by kernel_rfl) ⟨mu rfl U,cp 0 rfl rfl,trivial⟩ [⟨6,IsV (jM (bV T f) n)⟩,⟨0,λ _ k=>ck d b j y h T k⟩] (λb q p=>⟨p.ou 1 6 rfl,D.grow p.grow,trivial⟩) ?_;rintro a k ⟨⟨E,F,z⟩,W,D,_⟩;replace D:ck d b j y h T k:=D;refine wp_ret ?_;exact cW rfl z E (show gj _ _ _ (.tmp 6) (K5 _ _ _ _ (IsV _))from⟨⟨_,D.r,Wr.self⟩,W⟩)
 rw[if_neg (by rw[P];decide)]at H;have hE:jM (bV T f) n=0:=by simpa using P
 obtain⟨hw,⟨I,x⟩,hT⟩:=GU hE;have hm:=tn hT;rw[hT]at H;simp only[eg]at H;have eP:yE (bV T f) n=some ⟨I,0,none⟩:=by unfold yE;rw[hw,hT];rfl
 rw[eP]at M;replace M:Is (aL I) (a.get 7) k:=M;clear U V P;have P1:∀{q},bD k q->db x (aL I) q:=λg=>⟨_,rfl,((D.bx _ hm).grow g).at⟩;obtain⟨l,hl,H⟩:=bind_some H;refine wp_seq ?_;refine cut (λG Q=>Bs (DF b j y h T) k0 40 G Q/\IsV n (G.get 2) Q/\Is (aL I) (G.get 7) Q/\IsV (decide (l<n)) (G.get 20) Q/\ck d b j y h T Q) ?_ trivial ?_;·intro Q1 W1 w1;refine region (a0:=a) (k0:=k) (n:=40) (m:=12) (_::⟨some (Is (aL I)),[(21,some 0)]⟩::⟨some (db x.Held),[(22,some 1)]⟩::⟨some (IsV x.Held),[(23,some 2)]⟩::_::⟨some (Is (aL I)),[(25,some 4)]⟩::⟨some (db x.Used),[(26,some 5)]⟩::⟨some (IsV x.Used),[(27,some 6)]⟩::⟨some (IsV l),[(24,some 3),(28,some 7)]⟩::_::⟨some (IsV (decide (l<n))),[(29,some 8),(30,some 9)]⟩::_::[]) om F (by kernel_rfl) ⟨mu rfl M,ob1 rfl λ _ _ g n=>bA rfl ⟨_,n.1⟩ n.1,ob1 rfl λG _ g n=>aA rfl D4 (sq _) (by rw[show G.eval (.tmp 22)=aL I from n.1];exact P1 g),ob1 rfl λ _ _ g n=>aw rfl ty3 n.1,mu rfl M,ob1 rfl λ _ _ g n=>bA rfl ⟨_,n.1⟩ n.1,ob1 rfl λG _ g n=>aA rfl Ae (rA _) (by rw[show G.eval (.tmp 26)=aL I from n.1];exact P1 g),ob1 rfl λ _ _ g n=>aw rfl ty3 n.1,ob1 rfl λ _ _ g n=>vg rfl n.1 n.2.1 hl,mu rfl i2,ob1 rfl λ _ _ g n=>dm rfl n.1 n.2.1,cp 10 rfl rfl,trivial⟩ W1 λb q p=>?_;exact af (k:=q) (w1 _ _ ⟨Bs.post ⟨E,F,z⟩ p,p.ke 2 rfl i2,p.ke 7 rfl M,p.ou 11 20 rfl,D.grow p.grow⟩)
 clear i2 M D E F z P1;rintro a k ⟨⟨E,F,z⟩,i2,M,i20,D⟩;have P1:∀{q},bD k q->db x (aL I) q:=λg=>⟨_,rfl,((D.bx _ hm).grow g).at⟩;refine wp_cond_split (isBool i20) (λP=>?_) (λP=>?_);·rw[if_pos (of_decide_eq_true P)]at H;obtain rfl:=ae H;refine aF 1 (⟨some (IsI 26),[]⟩::[]) rfl ⟨E,F,z⟩ (by kernel_rfl) ⟨aI rfl rfl,trivial⟩ [⟨6,IsI 26⟩,⟨0,λ _ k=>ck d b j y h T k⟩] (λb q p=>⟨p.ou 0 6 rfl,D.grow p.grow,trivial⟩) ?_;rintro a k ⟨⟨E,F,z⟩,W,D,_⟩;replace D:ck d b j y h T k:=D;refine wp_ret ?_;exact cW rfl z E (show gj _ _ _ (.tmp 6) (K5 _ _ _ _ (IsV _))from⟨⟨_,D.r,Wr.self⟩,W⟩)
 rw[if_neg (of_decide_eq_false P)]at H;refine wp_skip ?_;obtain⟨u,hu,H⟩:=bind_some H;obtain rfl:=ae H;refine wp_seq ?_;refine cut (λG Q=>Bs (DF b j y h T) k0 40 G Q/\wR {d with L:=dA d.L f {x with Used:=u}} (DF b j y h T) (aL b) Q) ?_ hQ ?_;·intro Q1 W1 w1;refine gS 8 (_::⟨some (Is (aL I)),[(32,some 0)]⟩::⟨some (db x.Used),[(33,some 1)]⟩::⟨some (IsV x.Used),[(34,some 2)]⟩::_::⟨some (IsV u),[(35,some 3),(36,some 4)]⟩::⟨some (Is (aL I)),[(32,some 0)]⟩::⟨some (cU I 3),[(38,some 6)]⟩::[]) F (by kernel_rfl) ⟨mu rfl M,ob1 rfl λ _ _ g n=>bA rfl ⟨_,n.1⟩ n.1,ob1 rfl λG _ g n=>aA rfl Ae (rA _) (by rw[show G.eval (.tmp 33)=aL I from n.1];exact P1 g),ob1 rfl λ _ _ g n=>aw rfl ty3 n.1,mu rfl i2,ob1 rfl λ _ _ g n=>dF rfl n.1 n.2.1 hu,ob1 rfl λ _ _ g n=>bA rfl ⟨_,n.1⟩ n.1,ob1 rfl λ _ _ g n=>bI rfl Ae n.1,trivial⟩ W1 λb' q p=>?_;have hgq:=E.then p.grow;have Dq:=D.grow p.grow;have ju:IsV u (b'.get 37) q:=p.ou 5 37 rfl;have jp:cU I 3 (b'.get 39) q:=p.ou 7 39 rfl;refine bf (i:=8) rfl rfl rfl rfl Ol JA jp (Dq.bx _ hm) ju λq2 hch hz=>?_;obtain⟨D2,eF,_⟩:=Dq.Oz hT hch hz;have hw':Wr (DF b j y h T) k0 (Eq I):=λc e=> .inl (.inl (e▸IZ hm));exact af (k:=q2) (w1 _ _ ⟨⟨hgq.step hch hw',p.size.trans F,p.defers.trans z⟩,eF▸D2.r⟩)
 clear i2 M i20 D E F z P1;rintro a k ⟨⟨E,F,z⟩,D⟩;refine aF 1 (⟨some (IsI 0),[]⟩::[]) rfl ⟨E,F,z⟩ (by kernel_rfl) ⟨aI rfl rfl,trivial⟩ [⟨6,IsI 0⟩,⟨0,λ _ k=>wR {d with L:=dA d.L f {x with Used:=u}} (DF b j y h T) (aL b) k⟩] (λb q p=>⟨p.ou 0 6 rfl,Rsc.grow D p.grow,trivial⟩) ?_;rintro a k ⟨⟨E,F,z⟩,W,D,_⟩;refine wp_ret ?_;exact cW rfl z E (show gj _ _ _ (.tmp 6) (K5 _ _ _ _ (IsV _))from⟨⟨_,D,Wr.self⟩,W⟩)
abbrev zP:mK:=⟨(⟨#[]⟩:ByteArray),0,0,0,0⟩
theorem H3(n:Int):qd n=some (decide (0<=n)&&decide (n<=7)):=rfl
def Fj(d:fk)(e:ByteArray)(f n:Int):Option (fk×mK×Int):=if(!(decide (0<=f)&&decide (f<=7)))||f==d.counter then some (d,zP,1)else if jM (bV d.L e) n !=0 then some (d,zP,jM (bV d.L e) n)else match bV d.L e with|some x=>(fh x.Held x.Used).bind λl=>if l<n then some (d,zP,26)else(fh x.Held n).bind λu=>(bg d.sent 1).bind λs=>(eE d.out [(⟨e,d.counter,f,s,n⟩:mK)]).bind λo=>some ({d with L:=dA d.L e {x with Held:=u},sent:=s,out:=o},⟨e,d.counter,f,s,n⟩,0)|none=>none
theorem tW{g:Type}{f:Type}[DecidableEq f]:∀{l:List (f×g)}{n:f}(x:g),bV l n=none->dA l n x=l++[(n,x)]
 |[],n,x,_=>rfl|(a,u)::l,n,x,h=>by
  simp only[bV]at h;split at h;.simp at h
  .rename_i e;simp only[dA,if_neg e,tW x h,qs]
theorem ck.lay{d:fk}{b m z:Nat}{h:Value}{T:List LT}{k I:K}{j:ByteArray}{q:Nat}{x:bn}(D:ck d b m z h T k)(u:bV T j=none)(hx:Gb.Box q x k)(E:¬DF b m z h T q)(g:Chg (Eq m) k I)(W:iH kS m (dA (T.map lkv) j (aL q)) I):ck {d with L:=dA d.L j x} b m z h (T++[(j,q,x)]) I:=by
 have w:∀c,m=c->¬k.sh c:=λc e=>e▸D.ml.own;have F:=D.nd;have G:=D.nd;simp only[dbl,iK,bF,aS,not_or]at F;obtain⟨⟨J,hb2,hb3⟩,⟨M,O⟩,ht1,hT⟩:=F;have P:bV (T.map lkv) j=none:=by rw[ck.get,u];rfl
 have Q:bV d.L j=none:=by rw[D.OY,u];rfl
 have H:q∉dbl b m z T:=λu=>E (.inl u);have R:¬obF h q:=λu=>E (.inr u);have U:=hx.keep g (λe=>H (e▸Bg)) w;refine⟨D.box.keep g (λe=>J e.symm) w,?_,?_,D.out.keep g (λc u e=>D.nh m Bg (e▸u)) w,D.mt.keep g (λe=>M e),?_,?_,?_,?_⟩;·rw[tW _ P]at W;simpa[lkv]using W
 · intro t y;rcases dK.1 y with y|y;.exact(D.bx t y).keep g (λe=>O ⟨t,y,e.symm⟩) w
   .simp only[eZ]at y;subst y;exact U
 ·show dA d.L j x=_;rw[tW _ Q,D.eL];simp[lcv]
 ·rw[hY,List.nodup_append];refine⟨D.nk,by simp,λa V c f e=>?_⟩;simp only[dz,mV,eZ]at f;obtain⟨t,y,rfl⟩:=aS.1 V;exact CD u t y (e.trans f)
 · have e:dbl b m z (T++[(j,q,x)])=dbl b m z T++[q]:=by simp[dbl]
   rw[e,List.nodup_append];refine⟨G,by simp,λa V c f e=>?_⟩;simp only[eZ]at f;exact H (f▸e▸V)
 · have e:dbl b m z (T++[(j,q,x)])=dbl b m z T++[q]:=by simp[dbl]
   rw[e];intro c f;rcases dK.1 f with f|f;.exact D.nh c f
   .simp only[eZ]at f;subst f;exact R
theorem QL{b j m:Nat}{h:Value}{T:List LT}{g:ByteArray}{q:Nat}{x:bn}{c:Nat}(f:DF b j m h (T++[(g,q,x)]) c):DF b j m h T c∨c=q:=by
 rcases f with f|f
 · have e:dbl b j m (T++[(g,q,x)])=dbl b j m T++[q]:=by simp[dbl]
   rw[e]at f;rcases dK.1 f with f|f;.exact .inl (.inl f)
   .exact .inr (by simpa using f)
 .exact .inl (.inr f)
abbrev DX(d:fk)(b e f:Nat)(h:Value)(T:List LT):Nat×Pred:=⟨0,λ _ k=>ck d b e f h T k⟩
def uu(f:Int)(g:(List bn))(e:Int)(x:bn):Option (Bool):=(if(x.Counter !=f)then some true else(gE x.Held 0 1099511627776).bind λx1=>some (!x1)).bind λh=>(if h then some true else(gE x.Used 0 x.Held).bind λj=>some (!j)).bind λm=>(if m then some true else(if(decide (0<e))then(fh e 1).bind λq=>(aR g q).bind λu=>some (!(Op.bytesLess u.Cap.toList x.Cap.toList))else some false).bind λw=>some w).bind λy=>some y
def nA(n:Int)(l:List bn)(s:List (ByteArray×bn)×Int):Option (aY (List (ByteArray×bn)×Int) (Option fk×Int)):=if decide (s.2<(l.length:Int))then(aR l s.2).bind λx=>(uu n l s.2 x).bind λc=>if c then some (.ret (none,1))else if(bV s.1 x.Cap).isNone then(bg s.2 1).bind λi=>some (.go (s.1++[(x.Cap,x)],i))else none else some (.ex 0 s)
def sQ(n:Int)(l:List bn):Option (Option fk×Int):=if(!(decide (0<=n)&&decide (n<=7)))||decide (30<(l.length:Int))then some (none,1)else(az (nA n l) (l.length+1) ([],0)).bind λf=>match f with| .ex _ s=>some (some ⟨n,s.1,[],0,[]⟩,0)| .ret r=>some r| .go _=>none
def uI(e:K):Option fk->Pred|none=>Is (.pointer none)|some d=>λv k=>∃G,wR d G v k/\Lo e G
theorem Vh{k:K}{e:List Value}(h:e.length=5)(h1:∀v∈e,v.oneCell'=true):IsV (⟨e⟩:dR 5) (.agg e.toArray) k:=⟨e,rfl,rfl,h,h1⟩
theorem Qa{k:K}{v0 g v2:Value}{n:Int}{e f:Nat}(e0:v0= .int .i64 n)(e1:g= .map (some e))(h:v2= .map (some f)):∃v,(∀w,(Instr.build 146 #[(0,v0),(1,g),(4,v2)]).run Tryz.prog w= .ok v w)/\IsV (⟨xK ⟨n,[],[],0,[]⟩ e f (.slice none 0 0)⟩:dR 5) v k:=by subst e0 e1 h;refine⟨.agg #[.int .i64 n, .map (some e), .slice none 0 0, .int .i64 0, .map (some f)],λw=>?_,Vh rfl (by simp[xK];exact⟨rfl,rfl,rfl,rfl,rfl⟩)⟩;have c1:(Value.int .i64 n).cells=#[.int .i64 n]:=rfl;have c2:(Value.map (some e)).cells=#[.map (some e)]:=rfl;have j:(Value.map (some f)).cells=#[.map (some f)]:=rfl;simp[Instr.build,Instr.fill,mh,c1,c2,j]
theorem yD{k0:K}{v0 v1:Value}{n:Int}{l:List bn}{r:Option fk×Int}(i0:IsV n v0 k0)(I:IsV l v1 k0)(O:sQ n l=some r):
    Calls Tryz.prog 28 #[v0,v1] k0.w (bY noF k0 (eO (uI k0 r.1) (IsV r.2))):=by
 unfold sQ at O;refine dp Tryz.func28 rfl Tryz.ntmps28 (show 2<=70 by decide) λa k hk0 E H ha=>?_;obtain⟨e0,e1,_⟩:=ha;replace i0:IsV n (a.get 0) k:=by rw[e0,hk0];exact i0
 replace I:IsV l (a.get 1) k:=by rw[e1,hk0];exact I
 have hQ:Gb.LetsOut (bodyPost Tryz.prog Tryz.f28 (bY noF k0 (eO (uI k0 r.1) (IsV r.2)))):=ct;have G:Chg noF k0 k:=by rw[hk0];exact Chg.refl _ k0
 clear e0 e1;have stop:∀{a:Act}{k:K},Bs noF k0 70 a k->Is (.pointer none) (a.get 4) k->IsV (1:Int) (a.get 5) k->bodyPost Tryz.prog Tryz.f28 (bY noF k0 (eO (uI k0 none) (IsV (1:Int)))) .ret a k.w:=λhB i4 i5=>AE rfl hB.d hB.g (show gj _ _ _ (.tmp 4) (uI k0 none)from i4) i5;refine aF 2 (⟨some (Is (.pointer none)),[]⟩::⟨some (IsI 0),[]⟩::[]) rfl ⟨G,E,H⟩ (by kernel_rfl) ⟨ob1 rfl λ _ _ g n=>aP rfl rfl,aI rfl rfl,trivial⟩ [⟨_,_⟩,⟨_,_⟩] (λb q p=>⟨p.ke 0 rfl i0,p.ke 1 rfl I,trivial⟩) ?_;clear i0 I G E H;rintro a k⟨⟨G,E,H⟩,i0,I,_⟩;refine wp_seq ?_;refine aF 8 (_::⟨some (IsV (decide (0<=n)&&decide (n<=7))),[(9,some 0)]⟩::⟨some (IsV (!(decide (0<=n)&&decide (n<=7)))),[(10,some 1)]⟩::_::_::_::_::_::[]) rfl ⟨G,E,H⟩ (by kernel_rfl) ⟨mu rfl i0,ob1 rfl λ _ _ g n=>bQ rfl Tryz.call65 (xv n.1 (H3 _)),ob1 rfl λ _ _ g n=>iN rfl n.1,cm 2 rfl rfl,mF rfl rfl I,gF [(13,some 4)] rfl rfl λj _ _ h n=>cO rfl rfl Tryz.underlying39 (IsV.rd (Gd.get n.1 j)),gF [(14,some 5)] rfl rfl λj _ _ h n=>gJ rfl (Gd.get n.1 j) (cI rfl),o1 [(12,some 3),(15,some 6)] rfl λ _ _ h n=>fq rfl n.1 (cB rfl) (Gd.get n.2.1),trivial⟩ [⟨_,_⟩,⟨_,_⟩,⟨16,IsV ((!(decide (0<=n)&&decide (n<=7)))||decide (30<(l.length:Int)))⟩] (λb q p=>⟨p.ke 0 rfl i0,p.ke 1 rfl I,p.ou 7 16 rfl,trivial⟩) ?_;clear i0 I G E H;rintro a k⟨⟨G,E,H⟩,i0,I,i16,_⟩;refine wp_cond_split (isBool i16) (λR=>?_) (λR=>?_);·rw[if_pos R]at O;obtain rfl:=ae O;refine aF 2 (⟨some (Is (.pointer none)),[]⟩::⟨some (IsI 1),[]⟩::[]) rfl ⟨G,E,H⟩ (by kernel_rfl) ⟨ob1 rfl λ _ _ g n=>aP rfl rfl,aI rfl rfl,trivial⟩ [⟨4,Is (.pointer none)⟩,⟨5,IsI 1⟩] (λb q p=>⟨p.ou 0 4 rfl,p.ou 1 5 rfl,trivial⟩) ?_;rintro a k⟨hB,i4,i5,_⟩;refine wp_ret ?_;exact stop hB i4 i5
 rw[if_neg (by rw[R];decide)]at O;clear i16 R;refine wp_skip ?_;refine wp_seq ?_;refine cut (λu z=>∃b M U,Bs noF k0 70 u z/\IsV n (u.get 0) z/\IsV l (u.get 1) z/\u.get 6=aL b/\ck ⟨n,[],[],0,[]⟩ b M U (.slice none 0 0) [] z/\Lo k0 (DF b M U (.slice none 0 0) [])) ?_ hQ ?_
 .intro Q1 W1 w1;refine gS 1 (_::[]) E (by kernel_rfl) ⟨mu rfl i0,trivial⟩ W1 λb1 q1 p=>?_;have hgq:=G.then p.grow;have hsb:=p.size.trans E;have l0:=p.ke 0 rfl i0;have l1:=p.ke 1 rfl I;have l17:IsV n (b1.get 17) q1:=p.ou 0 17 rfl;refine bO (i:=1) (d:=18) rfl rfl rfl (by rw[hsb];decide) W1 (kM (kv:=kS) (aN _) rfl) λb2 q2 V hdf2 f hgr2 h18=>?_;obtain⟨M,e18,lol,ml⟩:=h18;refine bO (i:=2) (d:=19) rfl rfl rfl (by rw[V,hsb];decide) W1 (kM (kv:=kK) (aN _) rfl) λb3 q3 hsz3 hdf3 hoth3 hgr3 h19=>?_;obtain⟨U,e19,lot,mt⟩:=h19;have l17':b3.get 17= .int .i64 n:=(hoth3 17 (by decide)).trans ((f 17 (by decide)).trans (ar.1 l17));have e18':b3.get 18= .map (some M):=(hoth3 18 (by decide)).trans e18;have e19':b3.get 19= .map (some U):=e19;refine bO (i:=3) (d:=20) rfl rfl rfl (by rw[hsz3,V,hsb];decide) W1 (gw (ps:=[(0, .tmp 17),(1, .tmp 18),(4, .tmp 19)]) (x:=(⟨xK ⟨n,[],[],0,[]⟩ M U (.slice none 0 0)⟩:dR 5)) rfl (Qa l17' e18' e19')) λb5 q5 hsz5 hdf5 hoth5 hgr5 h20=>?_;refine bO (i:=4) (d:=21) rfl rfl rfl (by rw[hsz5,hsz3,V,hsb];decide) W1 (D5 (x:=(⟨xK ⟨n,[],[],0,[]⟩ M U (.slice none 0 0)⟩:dR 5)) q5.w.heap.size (aN _) rfl h20) λb6 q6 hsz6 hdf6 hoth6 hgr6 h21=>?_;obtain⟨b,e21,lob,zb⟩:=h21;refine da (i:=5) (d:=6) rfl rfl (.inl rfl) rfl (by rw[hsz6,hsz5,hsz3,V,hsb];decide) λb7 hsz7 hdf7 e6 hoth7=>?_;have ml6:=ml.m;have D:ck ⟨n,[],[],0,[]⟩ b M U (.slice none 0 0) [] q6:=by have g2:bD q2 q6:=(hgr3.trans hgr5).trans hgr6;have g3:bD q3 q6:=hgr5.trans hgr6;have lt2:M<q2.w.heap.size:=ml.lt;have lt3:U<q3.w.heap.size:=mt.lt;have s23:=hgr3.size;have s35:=hgr5.size;refine⟨zb,ml.grow g2,by simp, .inl ⟨rfl,rfl⟩,(mt.grow g3).m,rfl,by simp,?_,λc _ R=>by simp[obF,ob]at R⟩;simp only[dbl,mV,iK,bF,List.not_mem_nil,or_false,not_or,not_false_eq_true,List.nodup_nil,and_true];omega
  have gall:Chg noF k0 q6:=hgq.then (((hgr2.trans hgr3).trans hgr5).trans hgr6);refine af (k:=q6) (w1 _ _ ⟨b,M,U,⟨gall,by rw[hsz7,hsz6,hsz5,hsz3,V,hsb],by rw[hdf7,hdf6,hdf5,hdf3,hdf2,p.defers,H]⟩,?_,?_,e6.trans e21,D,?_⟩);.rw[hoth7 0 (by decide),hoth6 0 (by decide),hoth5 0 (by decide),hoth3 0 (by decide),f 0 (by decide)];exact ar.2 (ar.1 l0)
  .rw[hoth7 1 (by decide),hoth6 1 (by decide),hoth5 1 (by decide),hoth3 1 (by decide),f 1 (by decide)];exact aZ.mono (((hgr2.trans hgr3).trans hgr5).trans hgr6) l1
  · have:=hgq.size;have:=hgr2.size;have:=hgr3.size;have:=hgr5.size;rintro c(R|R);·simp only[dbl,mV,bF,List.not_mem_nil,or_false]at R;rcases R with rfl|rfl|rfl<;>omega
    .simp[obF,ob]at R
 clear i0 I G E H;rintro a k⟨b,M,U,⟨G,E,H⟩,i0,I,P,D,W⟩;replace P:Is (aL b) (a.get 6) k:=P;refine wp_seq ?_;refine aF 3 (_::⟨some (IsL l),[(22,some 0)]⟩::⟨some (IsI 0),[]⟩::[]) rfl ⟨G,E,H⟩ (by kernel_rfl) ⟨mu rfl I,ob1 rfl λ _ _ h n=>cO rfl rfl Tryz.underlying39 (IsV.rd n.1),ob1 rfl λ _ _ h n=>bE rfl (cI rfl),trivial⟩ [⟨_,_⟩,⟨_,_⟩,⟨6,Is (aL b)⟩,⟨22,IsV l⟩,⟨23,IsL l⟩,⟨24,IsI 0⟩,DX ⟨n,[],[],0,[]⟩ b M U (.slice none 0 0) []] (λb q p=>⟨p.ke 0 rfl i0,p.ke 1 rfl I,p.ke 6 rfl P,p.ou 0 22 rfl,p.ou 1 23 rfl,p.ou 2 24 rfl,D.grow p.grow,trivial⟩) ?_;clear i0 I P D G E H;rintro a k⟨⟨G,E,H⟩,i0,I,P,F,i23,i24,D,_⟩;replace D:ck ⟨n,[],[],0,[]⟩ b M U (.slice none 0 0) [] k:=D;refine wp_block ?_;obtain⟨f1,hf1,O⟩:=bind_some O;refine fT f1 (λs' c q=>∃T,Bs noF k0 70 c q/\IsV n (c.get 0) q/\IsV l (c.get 1) q/\Is (aL b) (c.get 6) q/\IsV l (c.get 22) q/\IsL l (c.get 23) q/\IsV s'.2 (c.get 24) q/\ck ⟨n,s'.1,[],0,[]⟩ b M U (.slice none 0 0) T q/\Lo k0 (DF b M U (.slice none 0 0) T)) (λi' s' c q=>i'=0/\∃T,Bs noF k0 70 c q/\Is (aL b) (c.get 6) q/\ck ⟨n,s'.1,[],0,[]⟩ b M U (.slice none 0 0) T q/\Lo k0 (DF b M U (.slice none 0 0) T)) (λr' c q=>bodyPost Tryz.prog Tryz.f28 (bY noF k0 (eO (uI k0 r'.1) (IsV r'.2))) .ret c q.w) ?_ hQ ?_ ?_ ?_
 .intro Q1 W1 hgo hex hret;refine cD ?_ _ _ _ _ _ hf1 ⟨[],⟨G,E,H⟩,i0,I,P,F,i23,i24,D,W⟩ Q1 W1 hgo hex hret;clear O hf1 hgo hex hret W1 hQ G E H i0 I P F i23 i24 D W;intro s1 fl_ a k O hS Q hQ hgo hex hret;obtain⟨T,⟨G,E,H⟩,i0,I,P,F,i23,i24,D,W⟩:=hS;unfold nA at O;refine aF 1 (⟨some (IsV (decide (s1.2<(l.length:Int)))),[(24,none),(23,none)]⟩::[]) rfl ⟨G,E,H⟩ (by kernel_rfl) ⟨ob1 rfl λ _ _ h n=>dm rfl (up i24 h n.1) (up i23 h n.2.1),trivial⟩ [⟨_,_⟩,⟨_,_⟩,⟨6,Is (aL b)⟩,⟨22,IsV l⟩,⟨23,IsL l⟩,⟨24,IsV s1.2⟩,⟨25,IsV (decide (s1.2<(l.length:Int)))⟩,DX ⟨n,s1.1,[],0,[]⟩ b M U (.slice none 0 0) T] (λb q p=>⟨p.ke 0 rfl i0,p.ke 1 rfl I,p.ke 6 rfl P,p.ke 22 rfl F,p.ke 23 rfl i23,p.ke 24 rfl i24,p.ou 0 25 rfl,D.grow p.grow,trivial⟩) ?_;clear i0 I P F i23 i24 D G E H;rintro a k⟨⟨G,E,H⟩,i0,I,P,F,i23,i24,i25,D,_⟩;replace D:ck ⟨n,s1.1,[],0,[]⟩ b M U (.slice none 0 0) T k:=D;refine wp_seq ?_;refine wp_cond_split (isBool i25) (λR=>?_) (λR=>?_)
  .rw[if_pos R]at O;refine wp_skip ?_;refine wp_seq ?_;refine wp_block ?_;refine wp_seq ?_;obtain⟨x,hx,O⟩:=bind_some O;obtain⟨c,hb,O⟩:=bind_some O;refine cut (λu z=>∃b8,Bs noF k0 70 u z/\IsV n (u.get 0) z/\IsV l (u.get 1) z/\Is (aL b) (u.get 6) z/\IsV s1.2 (u.get 7) z/\Is (aL b8) (u.get 8) z/\IsV l (u.get 22) z/\IsL l (u.get 23) z/\IsV s1.2 (u.get 24) z/\ck ⟨n,s1.1,[],0,[]⟩ b M U (.slice none 0 0) T z/\Gb.Box b8 x z/\¬DF b M U (.slice none 0 0) T b8/\k0.w.heap.size<=b8) ?_ hQ ?_
   .intro Q2 W2 w2;refine gS 4 (_::⟨some (db x),[(22,none),(24,none)]⟩::⟨some (IsV x),[(27,some 1)]⟩::⟨some (dr k.w.heap.size (⟨⟨#[]⟩,0,0,0⟩:bn)),[]⟩::[]) E (by kernel_rfl) ⟨mu rfl i24,ob1 rfl λ _ _ h n=>aW rfl Tryz.underlying39 Qo (IsV.rd (up F h n.1)) (up i24 h n.2.1) hx,ob1 rfl λ _ _ h n=>aw rfl Qo n.1,ob1 rfl λ _ _ h n=>cT _ h.size rfl z87,trivial⟩ W2 λb1 q p=>?_;have hgq:=G.then p.grow;have hsb:=p.size.trans E;have Dq:=D.grow p.grow;have j28:IsV x (b1.get 28) q:=p.ou 2 28 rfl;have j26:IsV s1.2 (b1.get 26) q:=p.ou 0 26 rfl;obtain⟨b8,j8,x8,z8⟩:(dr k.w.heap.size (⟨⟨#[]⟩,0,0,0⟩:bn)) (b1.get 8) q:=p.ou 3 8 rfl;have hn8:¬DF b M U (.slice none 0 0) T b8:=λR=>by have:=D.lt b8 R;omega
    have y8:Lo k0 (Eq b8):=(Lo.eq x8).chg G;have l0:=p.ke 0 rfl i0;have l1:=p.ke 1 rfl I;have l6:=p.ke 6 rfl P;have l22:=p.ke 22 rfl F;have l23:=p.ke 23 rfl i23;have l24:=p.ke 24 rfl i24;refine da (i:=4) (d:=7) rfl rfl (.inl rfl) rfl (by rw[hsb];decide) λb2 V hdf2 e7 f=>?_;have hns:=z8.fF;refine bf (i:=5) rfl rfl rfl rfl S5 (Upd.self (α:=bn)) (show cU b8 0 (b2.get 8) q by rw[f 8 (by decide)];exact j8) z8 (show IsV x (b2.get 28) q by rw[f 28 (by decide)];exact j28) λq2 hch hz=>?_;have hle:=hch.le hns;refine af (k:=q2) (w2 _ _ ⟨b8,⟨hgq.step hch y8.wr,by rw[V,hsb],by rw[hdf2,p.defers,H]⟩,?_,?_,?_,?_,?_,?_,?_,?_,Dq.keep hch (λc R e=>hn8 (e▸R)) hns,hz,hn8,y8 b8 rfl⟩);.rw[f 0 (by decide)];exact ai.pers hle l0
    .rw[f 1 (by decide)];exact ai.pers hle l1
    .rw[f 6 (by decide)];exact l6
    .exact ar.2 (e7.trans (ar.1 j26))
    .rw[f 8 (by decide)];exact j8
    .rw[f 22 (by decide)];exact ai.pers hle l22
    .rw[f 23 (by decide)];exact ai.pers hle l23
    .rw[f 24 (by decide)];exact ai.pers hle l24
   clear i0 I P F i23 i24 i25 D G E H;rintro a k⟨b8,⟨G,E,H⟩,i0,I,P,i7,i8,F,i23,i24,D,z8,hn8,lo8⟩;refine wp_seq ?_;refine wp_seq ?_;refine cut (λu z=>Bs noF k0 70 u z/\IsV n (u.get 0) z/\IsV l (u.get 1) z/\Is (aL b) (u.get 6) z/\Is (aL b8) (u.get 8) z/\IsV l (u.get 22) z/\IsL l (u.get 23) z/\IsV s1.2 (u.get 24) z/\ck ⟨n,s1.1,[],0,[]⟩ b M U (.slice none 0 0) T z/\Gb.Box b8 x z/\IsV c (u.get 61) z) ?_ hQ ?_
   .intro Q2 W2 w2;have P8:∀{u:Act}{q:K},bD k q->u.get 8=a.get 8->db x (u.get 8) q:=λg e=>by rw[e,show a.get 8=aL b8 from i8];exact⟨_,rfl,(z8.grow g).at⟩
    unfold uu at hb;generalize hi:s1.2=i at hb i7 i24 O⊢;obtain⟨y1,hy1,hb⟩:=bind_some hb;obtain⟨y2,hy2,hy1⟩:=ga hy1;obtain⟨y3,hy3,hb⟩:=bind_some hb;obtain⟨y4,hy4,hy3⟩:=ga hy3;obtain⟨y5,hy5,hb⟩:=bind_some hb;obtain⟨y6,hy6,hy5⟩:=ga hy5;obtain⟨y7,hy7,hy6⟩:=ji hy6;obtain⟨y8,hy8,hy6⟩:=ji hy6;refine region (a0:=a) (k0:=k) (n:=70) (m:=33) (_::_::_::⟨some (IsV (x.Counter !=n)),[(30,some 1),(31,some 2)]⟩::_::_::_::_::_::_::_::_::_::_::_::_::_::_::_::_::_::⟨some (Gd (y3=false) (IsV (decide (0<i)))),[(49,some 20)]⟩::⟨some (Gd ((y3=false)/\(decide (0<i))=true) (IsV l)),[(1,none)]⟩::⟨some (Gd ((y3=false)/\(decide (0<i))=true) (IsV i)),[(7,none)]⟩::⟨some (Gd ((y3=false)/\(decide (0<i))=true) (IsV y7)),[(52,some 23)]⟩::⟨some (Gd ((y3=false)/\(decide (0<i))=true) (db y8)),[(51,some 22),(53,some 24)]⟩::⟨some (Gd ((y3=false)/\(decide (0<i))=true) (db y8.Cap)),[(54,some 25)]⟩::⟨some (Gd ((y3=false)/\(decide (0<i))=true) (IsV y8.Cap)),[(55,some 26)]⟩::⟨some (Gd ((y3=false)/\(decide (0<i))=true) (db x.Cap)),[(8,none)]⟩::⟨some (Gd ((y3=false)/\(decide (0<i))=true) (IsV x.Cap)),[(57,some 28)]⟩::⟨some (Gd ((y3=false)/\(decide (0<i))=true) (IsV (!(Op.bytesLess y8.Cap.toList x.Cap.toList)))),[(56,some 27),(58,some 29)]⟩::_::_::[]) om E (by kernel_rfl) ⟨o1 [(8,none)] rfl λ _ _ h n=>aA rfl Qw (HP _) (P8 h n.1),o1 [(29,some 0)] rfl λ _ _ h n=>aw rfl ty3 n.1,mu rfl i0,ob1 rfl λ _ _ h n=>DU rfl n.1 n.2.1,cm 3 rfl rfl,gF [(8,none)] rfl rfl λj _ _ h n=>aA rfl D4 (sq _) (P8 h n.1),gF [(34,some 5)] rfl rfl λj _ _ h n=>aw rfl ty3 (Gd.get n.1 j),gF [(35,some 6)] rfl rfl λj _ _ h n=>bQ rfl Tryz.call66 (kh (Gd.get n.1 j) (cI rfl) (cI rfl) (hy2 j)),gF [(36,some 7)] rfl rfl λj _ _ h n=>iN rfl (Gd.get n.1 j),o1 [(33,some 4),(37,some 8)] rfl λ _ _ h n=>fa rfl n.1 hy1 (cB rfl) (Gd.get n.2.1),cm 9 rfl rfl,gF [(8,none)] rfl rfl λj _ _ h n=>aA rfl Ae (rA _) (P8 h n.1),gF [(40,some 11)] rfl rfl λj _ _ h n=>aw rfl ty3 (Gd.get n.1 j),gF [(8,none)] rfl rfl λj _ _ h n=>aA rfl D4 (sq _) (P8 h n.1),gF [(42,some 13)] rfl rfl λj _ _ h n=>aw rfl ty3 (Gd.get n.1 j),gF [(41,some 12),(43,some 14)] rfl rfl λj _ _ h n=>bQ rfl Tryz.call66 (kh (Gd.get n.1 j) (cI rfl) (Gd.get n.2.1 j) (hy4 j)),gF [(44,some 15)] rfl rfl λj _ _ h n=>iN rfl (Gd.get n.1 j),o1 [(39,some 10),(45,some 16)] rfl λ _ _ h n=>fa rfl n.1 hy3 (cB rfl) (Gd.get n.2.1),cm 17 rfl rfl,mF rfl rfl i7,gF [(48,some 19)] rfl rfl λj _ _ h n=>gJ rfl (Gd.get n.1 j) (cI rfl),gdF rfl rfl λj _ _ h n=>bE rfl (Gd.get n.1 j),gC rfl rfl λj b q h n=>bE rfl (up I h n.1),gC rfl rfl λj b q h n=>bE rfl (up i7 h n.1),gC rfl rfl λj b q h n=>vg rfl (Gd.get n.1 j) (cI rfl) (hy7 j),gC rfl rfl λj b q h n=>aW rfl Tryz.underlying39 Qo (IsV.rd (Gd.get n.1 j)) (Gd.get n.2.1 j) (hy8 j),gC rfl rfl λj b q h n=>aA rfl G3 (vA _) (Gd.get n.1 j),gC rfl rfl λj b q h n=>aw rfl ty9 (Gd.get n.1 j),gC rfl rfl λj b q h n=>aA rfl G3 (vA _) (P8 h n.1),gC rfl rfl λj b q h n=>aw rfl ty9 (Gd.get n.1 j),gC rfl rfl λj b q h n=>Mo rfl (Gd.get n.1 j) (Gd.get n.2.1 j),gF [(50,some 21),(59,some 30)] rfl rfl λj _ _ h n=>fa rfl (Gd.get n.1 j) (hy6 j) (λhm=>(Gd.get n.2.1 ⟨j,hm⟩)) (cB rfl),o1 [(47,some 18),(60,some 31)] rfl λ _ _ h n=>fa rfl n.1 hy5 (cB rfl) (Gd.get n.2.1),trivial⟩ W2 λb q p=>?_;exact af (k:=q) (w2 _ _ ⟨Bs.post ⟨G,E,H⟩ p,p.ke 0 rfl i0,p.ke 1 rfl I,p.ke 6 rfl P,p.ke 8 rfl i8,p.ke 22 rfl F,p.ke 23 rfl i23,(by rw[hi];exact p.ke 24 rfl i24),D.grow p.grow,z8.grow p.grow,(by obtain rfl:=ae hb;exact p.ou 32 61 rfl)⟩)
   clear i0 I P i7 i8 F i23 i24 D z8 G E H;rintro a k⟨⟨G,E,H⟩,i0,I,P,i8,F,i23,i24,D,z8,i61⟩;refine wp_cond_split (isBool i61) (λR=>?_) (λR=>?_);·rw[if_pos R]at O;refine aF 2 (⟨some (Is (.pointer none)),[]⟩::⟨some (IsI 1),[]⟩::[]) rfl ⟨G,E,H⟩ (by kernel_rfl) ⟨ob1 rfl λ _ _ g n=>aP rfl rfl,aI rfl rfl,trivial⟩ [⟨4,Is (.pointer none)⟩,⟨5,IsI 1⟩] (λb q p=>⟨p.ou 0 4 rfl,p.ou 1 5 rfl,trivial⟩) ?_;rintro a k⟨hB,i4,i5,_⟩;refine wp_ret ?_;exact hret _ _ _ (ae O).symm (stop hB i4 i5)
   rw[if_neg (by rw[R];decide)]at O;split at O;rotate_left;.simp at O
   rename_i hnone;obtain⟨i2,hi2,O⟩:=bind_some O;have hgT:bV T x.Cap=none:=by have:=D.OY (cap:=x.Cap);cases hT:bV T x.Cap with|none=>rfl;|some y=>rw[hT]at this;rw[show(⟨n,s1.1,[],0,[]⟩:fk).L=s1.1 from rfl]at this;rw[this]at hnone;simp at hnone
   have hgL:bV s1.1 x.Cap=none:=by simpa using hnone
   refine wp_skip ?_;refine cut (λu z=>∃T',Bs noF k0 70 u z/\IsV n (u.get 0) z/\IsV l (u.get 1) z/\Is (aL b) (u.get 6) z/\IsV l (u.get 22) z/\IsL l (u.get 23) z/\IsV s1.2 (u.get 24) z/\ck ⟨n,s1.1++[(x.Cap,x)],[],0,[]⟩ b M U (.slice none 0 0) T' z/\Lo k0 (DF b M U (.slice none 0 0) T')) ?_ hQ ?_
   .intro Q2 W2 w2;have P8:∀{u:Act}{q:K},bD k q->u.get 8=a.get 8->db x (u.get 8) q:=λg e=>by rw[e,show a.get 8=aL b8 from i8];exact⟨_,rfl,(z8.grow g).at⟩
    refine region (a0:=a) (k0:=k) (n:=70) (m:=6) (_::⟨some (Is (aL b)),[(62,some 0)]⟩::⟨some (cU b 1),[(63,some 1)]⟩::⟨some (Is (.map (some M))),[(64,some 2)]⟩::⟨some (db x.Cap),[(8,none)]⟩::⟨some (IsV x.Cap),[(66,some 4)]⟩::[]) om E (by kernel_rfl) ⟨mu rfl P,ob1 rfl λ _ _ g n=>bA rfl ⟨_,n.1⟩ n.1,ob1 rfl λ _ _ g n=>bI rfl Dn n.1,ob1 rfl λ _ _ g n=>dw rfl If n.1 (D.grow g).box rfl,ob1 rfl λ _ _ g n=>aA rfl G3 (vA _) (P8 g n.1),ob1 rfl λ _ _ g n=>aw rfl ty9 n.1,trivial⟩ W2 λb1 q p=>?_;have hgq:=G.then p.grow;have Dq:=D.grow p.grow;have z8q:=z8.grow p.grow;have l0:=p.ke 0 rfl i0;have l1:=p.ke 1 rfl I;have l6:=p.ke 6 rfl P;have l22:=p.ke 22 rfl F;have l23:=p.ke 23 rfl i23;have l24:=p.ke 24 rfl i24;have j65:b1.get 65= .map (some M):=(show Is (.map (some M)) (b1.get 65) q from p.ou 3 65 rfl);have j67:IsV x.Cap (b1.get 67) q:=p.ou 5 67 rfl;have j8:b1.get 8=aL b8:=(p.old 8 rfl).trans i8;refine kz (i:=6) rfl rfl rfl rfl Ex Tryz.underlying142 j65 (di.1 j67) Dq.ml λq2 hch hsz hm=>?_;have hns:∀c,M=c->¬q.sh c:=λc e=>e▸Dq.ml.own;have hle:=hch.le hns;rw[show b1.eval (.tmp 8)=aL b8 from j8]at hm;have D2:=Dq.lay hgT z8q hn8 hch hm;have wl:Wr noF k0 (Eq M):=λc e=> .inr (e▸W M (.inl Bg));refine af (k:=q2) (w2 _ _ ⟨T++[(x.Cap,b8,x)],⟨hgq.step hch wl,p.size.trans E,p.defers.trans H⟩,ai.pers hle l0,ai.pers hle l1,l6,ai.pers hle l22,ai.pers hle l23,ai.pers hle l24,?_,λc R=>?_⟩)
    · have e:({(⟨n,s1.1,[],0,[]⟩:fk)with L:=dA s1.1 x.Cap x}:fk)=⟨n,s1.1++[(x.Cap,x)],[],0,[]⟩:=by rw[tW x hgL]
      rw[<-e];exact D2
    · rcases QL R with R|rfl;.exact W c R
      .exact lo8
   clear i0 I P i8 F i23 i24 D z8 G E H i61 W;rintro a k⟨T',⟨G,E,H⟩,i0,I,P,F,i23,i24,D,W⟩;refine cut (λu z=>Bs noF k0 70 u z/\IsV n (u.get 0) z/\IsV l (u.get 1) z/\Is (aL b) (u.get 6) z/\IsV l (u.get 22) z/\IsL l (u.get 23) z/\IsV i2 (u.get 24) z/\ck ⟨n,s1.1++[(x.Cap,x)],[],0,[]⟩ b M U (.slice none 0 0) T' z) ?_ hQ ?_;·intro Q2 W2 w2;refine gS 2 (⟨some (IsV i2),[(24,none)]⟩::_::[]) E (by kernel_rfl) ⟨ob1 rfl λ _ _ h n=>dF rfl (up i24 h n.1) (cI rfl) hi2,cm 0 rfl rfl,trivial⟩ W2 λb1 q p=>?_;exact af (k:=q) (w2 _ _ ⟨Bs.post ⟨G,E,H⟩ p,p.ke 0 rfl i0,p.ke 1 rfl I,p.ke 6 rfl P,p.ke 22 rfl F,p.ke 23 rfl i23,p.ou 1 24 rfl,D.grow p.grow⟩)
   clear i0 I P F i23 i24 D G E H;rintro a k⟨⟨G,E,H⟩,i0,I,P,F,i23,i24,D⟩;exact hgo _ _ _ (ae O).symm ⟨T',⟨G,E,H⟩,i0,I,P,F,i23,i24,D,W⟩
  ·rw[if_neg (by rw[R];decide)]at O;refine wp_exit ?_;exact hex _ _ _ _ (ae O).symm ⟨rfl,T,⟨G,E,H⟩,P,D,W⟩
 ·rintro r1 a k rfl hR;dsimp only at O;obtain rfl:=ae O;exact hR
 ·rintro _ _ _ rfl _;simp at O
 clear hf1;rintro _ s2 a k rfl⟨rfl,T,⟨G,E,H⟩,P,D,W⟩;dsimp only at O;obtain rfl:=ae O;refine aF 3 (_::_::⟨some (IsI 0),[]⟩::[]) rfl ⟨G,E,H⟩ (by kernel_rfl) ⟨mu rfl P,cp 0 rfl rfl,aI rfl rfl,trivial⟩ [⟨4,Is (aL b)⟩,⟨5,IsI 0⟩,DX ⟨n,s2.1,[],0,[]⟩ b M U (.slice none 0 0) T] (λb q p=>⟨p.ou 1 4 rfl,p.ou 2 5 rfl,D.grow p.grow,trivial⟩) ?_;rintro a k⟨⟨G,E,H⟩,i4,i5,D,_⟩;replace D:ck ⟨n,s2.1,[],0,[]⟩ b M U (.slice none 0 0) T k:=D;refine wp_ret ?_;exact AE rfl H G (show gj _ _ _ (.tmp 4) (uI k0 (some _))from⟨_,(show a.get 4=aL b from i4)▸D.r,W⟩) i5
structure DC where
 counter:Int
 L:List bn
 out:List mK
 sent:Int
 taken:List (qT×Bool)deriving Inhabited,DecidableEq
def lA:List bn->ByteArray->Option bn|[],_=>none|x::l,e=>if x.Cap=e then some x else lA l e
def sJ(l:List bn)(e:ByteArray)(y:bn):List bn:=l.map λx=>if x.Cap=e then y else x
def Sor(l:List bn):Prop:=l.Pairwise λa b=>bLt a.Cap b.Cap=true
theorem Kq{l:List bn}(h:Sor l):(l.map (·.Cap)).Nodup:=by unfold List.Nodup;rw[List.pairwise_map];refine List.Pairwise.imp (λ {a b}h e=>?_) h;rw[e,Bd]at h;cases h
theorem pc:∀{l:List bn}{f:ByteArray}{x:bn},lA l f=some x->x∈l/\x.Cap=f
 |y::l,f,x,h=>by
  simp[lA]at h;split at h;.rename_i e;obtain rfl:=ae h;exact⟨by simp,e⟩
  .exact⟨bu _ (pc h).1,(pc h).2⟩
theorem Cr:∀{l:List bn}{f:ByteArray},lA l f=none->∀x∈l,¬x.Cap=f
 |y::l,f,h,x,g=>by
  simp[lA]at h;split at h;.cases h
  · rename_i e;rcases bF.1 g with rfl|g;.exact e
    .exact Cr h x g
theorem NH:∀{l:List bn}{x:bn},(l.map (·.Cap)).Nodup->x∈l->lA l x.Cap=some x
 |y::l,x,f,h=>by
  simp[dz]at f;simp[lA];split;.grind
  · rename_i e;rcases bF.1 h with rfl|h;.exact absurd rfl e
    .exact NH f.2 h
theorem Cc{l:List (ByteArray×bn)}{f:ByteArray}{x:bn}(g:(l.map (·.1)).Nodup):bV l f=some x↔(f,x)∈l:=by induction l with|nil=>simp[bV];|cons p l m=>simp[bV];grind
structure Inv(c:DC):Prop where
 so:Sor c.L
 len:c.L.length<=30cn:0<=c.counter/\c.counter<=7le:∀x∈c.L,x.Counter=c.counter/\0<=x.Used/\x.Used<=x.Held/\x.Held<=1099511627776ou:∀p∈c.out,p.From=c.counter/\1<=p.Number/\p.Number<=c.sent/\1<=p.N/\p.N<=1099511627776/\0<=p.To/\p.To<=7/\¬p.To=c.counter
 os:c.out.Pairwise λa b=>a.Number<b.Number
 ol:(c.out.length:Int)<=c.sent
 se:0<=c.sent/\c.sent<=1000000
structure Can(d:fk)(c:DC):Prop where
 n:d.counter=c.counter
 o:d.out=c.out
 s:d.sent=c.sent
 t:d.taken=c.taken
 p:(d.L.map (·.2)).Perm c.L
 k:∀p∈d.L,p.1=p.2.Cap
 i:Inv c
theorem Can.wK{d:fk}{c:DC}(h:Can d c):d.L.map (·.1)=(d.L.map (·.2)).map (·.Cap):=by rw[jT];exact uD λp e=>h.k p e
theorem Can.nk{d:fk}{c:DC}(h:Can d c):(d.L.map (·.1)).Nodup:=by rw[h.wK];exact(h.p.map (·.Cap)).nodup_iff.2 (Kq h.i.so)
theorem Can.get{d:fk}{c:DC}(h:Can d c)(f:ByteArray):bV d.L f=lA c.L f:=by cases j:lA c.L f with|some x=>have⟨h1,g⟩:=pc j;have⟨p,m,e⟩:=aS.1 (h.p.mem_iff.2 h1);rw[Cc h.nk];have:=h.k p m;grind;|none=>cases hk:bV d.L f with|none=>rfl;|some x=>have h1:=(Cc h.nk).1 hk;exact absurd (h.k _ h1).symm (Cr j x (h.p.mem_iff.1 (aS.2 ⟨_,h1,rfl⟩)))
theorem OB{l:List (ByteArray×bn)}{f:ByteArray}{y x:bn}(j:(l.map (·.1)).Nodup)(h:bV l f=some x):dA l f y=l.map λp=>if p.1=f then(f,y)else p:=by induction l with|nil=>simp[bV]at h;|cons p l q=>
 simp only[dz,iK,aS,not_exists,not_and]at j;simp[bV]at h;simp[dA];split at h;.rename_i e;subst e;rw[if_pos rfl,if_pos rfl];congr 1;refine(uD λp u=>?_).symm▸(List.map_id l).symm;rw[if_neg (λe=>j.1 p u e)];rfl
 grind
theorem Lw{l:List bn}{f:ByteArray}{x y:bn}(h:x∈sJ l f y):(x=y/\∃z∈l,z.Cap=f)∨(x∈l/\¬x.Cap=f):=by unfold sJ at h;grind
theorem MA{l:List bn}{f:ByteArray}{y:bn}(h:Sor l)(g:y.Cap=f):Sor (sJ l f y):=by unfold Sor sJ;rw[List.pairwise_map];refine List.Pairwise.imp (λ {a b}h=>?_) h;grind
theorem ML{l:List bn}{e:ByteArray}{y:bn}:(sJ l e y).length=l.length:=by simp[sJ]
theorem Can.set{d:fk}{c:DC}(h:Can d c){f:ByteArray}{x y:bn}(j:lA c.L f=some x)(m:y.Cap=f):(∀p∈dA d.L f y,p.1=p.2.Cap)/\((dA d.L f y).map (·.2)).Perm (sJ c.L f y):=by
 have hk:bV d.L f=some x:=by rw[h.get];exact j
 rw[OB h.nk hk];constructor
 · intro p g;have⟨q,u,e⟩:=aS.1 g;subst e;split;.exact m.symm
   .exact h.k q u
 · rw[jT];have:(d.L.map ((λp:ByteArray×bn=>p.2)∘λp=>if p.1=f then(f,y)else p))=(d.L.map (·.2)).map λx=>if x.Cap=f then y else x:=by rw[jT];refine uD λp g=>?_;simp;rw[<-h.k p g];split<;>rfl
   rw[this];exact h.p.map _
theorem Inv.set{c:DC}(h:Inv c){e:ByteArray}{x y:bn}(u:lA c.L e=some x)(g:y.Cap=e)(j:y.Counter=c.counter)(m:0<=y.Used)(h1:y.Used<=y.Held)(q:y.Held<=1099511627776):Inv {c with L:=sJ c.L e y}:=⟨MA h.so g,by rw[ML];exact h.len,h.cn,λz f=>by
 rcases Lw f with⟨rfl,_⟩|⟨f,_⟩;.exact⟨j,m,h1,q⟩
 .exact h.le z f,h.ou,h.os,h.ol,h.se⟩
def ND{e:Type}(y:Option e)(n:Int):Int:=if 1<=n/\n<=1099511627776 then(if y.isNone then 4 else 0)else 1
def tD(c:DC)(e:ByteArray):Int:=match lA c.L e with|some x=>x.Held-x.Used|none=>0
def wV(c:DC)(e:ByteArray)(n:Int):DC×Int:=if 1<=n/\n<=1099511627776 then match lA c.L e with|none=>(c,4)|some x=>if x.Held-x.Used<n then(c,26)else({c with L:=sJ c.L e {x with Used:=x.Used+n}},0)else(c,1)
def PB(c:DC)(e:ByteArray)(f n:Int):Option (DC×mK×Int):=if(0<=f/\f<=7)/\¬f=c.counter then if 1<=n/\n<=1099511627776 then match lA c.L e with|none=>some (c,zP,4)|some x=>if x.Held-x.Used<n then some (c,zP,26)else if c.sent<1000000 then some ({c with L:=sJ c.L e {x with Held:=x.Held-n},sent:=c.sent+1,out:=c.out++[⟨e,c.counter,f,c.sent+1,n⟩]},⟨e,c.counter,f,c.sent+1,n⟩,0)else none else some (c,zP,1)else some (c,zP,1)
def tL(n:Int)(l:List bn)(i:Nat):Bool:=match l[i]?with|some x=>x.Counter==n&&(decide (0<=x.Held)&&decide (x.Held<=1099511627776))&&(decide (0<=x.Used)&&decide (x.Used<=x.Held))&&(i==0||match l[i-1]?with|some y=>bLt y.Cap x.Cap|none=>false)|none=>false
def nR(n:Int)(l:List bn):Option DC×Int:=if(0<=n/\n<=7)/\l.length<=30/\(List.range l.length).all (tL n l)=true then(some ⟨n,l,[],0,[]⟩,0)else(none,1)
theorem vR{a b:Int}(h:-9223372036854775808<=a-b/\a-b<=9223372036854775807):fh a b=some (a-b):=if_pos h
theorem DZ{a b:Int}(h:-9223372036854775808<=a+b/\a+b<=9223372036854775807):bg a b=some (a+b):=if_pos h
section
variable{d:fk}{c:DC}
theorem LX(h:Can d c)(e:ByteArray):we d e=some (tD c e):=by unfold we tD;rw[h.get];cases f:lA c.L e with|none=>rfl;|some x=>have⟨m,_⟩:=pc f;have⟨_,g,h1,j⟩:=h.i.le x m;exact vR (by omega)
theorem B0(h:Can d c)(e:ByteArray)(n:Int):jM (bV d.L e) n=ND (lA c.L e) n:=by unfold jM ND;rw[h.get];grind
theorem OX(h:Can d c)(e:ByteArray)(n:Int):∃m,za d e n=some (m,(wV c e n).2)/\Can m (wV c e n).1:=by
 unfold za wV;rw[B0 h,h.get];unfold ND;by_cases q:1<=n/\n<=1099511627776;.simp[if_pos q];cases j:lA c.L e with|none=>exact⟨d,rfl,h⟩;|some x=>
  have⟨u,f⟩:=pc j;have⟨w,G,h1,z⟩:=h.i.le x u;simp;rw[vR (by omega),qb];by_cases g:x.Held-x.Used<n;.rw[if_pos g,if_pos g];exact⟨d,rfl,h⟩
  .rw[if_neg g,if_neg g,DZ (by omega)];have⟨E,F⟩:=h.set (y:={x with Used:=x.Used+n}) j f;exact⟨_,rfl,⟨h.n,h.o,h.s,h.t,F,E,h.i.set j f w (by show(0:Int)<=x.Used+n;omega) (by show x.Used+n<=x.Held;omega) z⟩⟩
 .simp only[if_neg q];exact⟨d,rfl,h⟩
theorem SH(h:Can d c){j:ByteArray}{m n:Int}{r:DC×mK×Int}(e:PB c j m n=some r):∃E,Fj d j m n=some (E,r.2)/\Can E r.1:=by
 unfold PB at e;unfold Fj;rw[B0 h,h.get,h.n,h.s,h.o];unfold ND;by_cases f:(0<=m/\m<=7)/\¬m=c.counter
 · rw[if_pos f]at e;rw[if_neg (by simp[f])];by_cases w:1<=n/\n<=1099511627776;·simp only[if_pos w]at e⊢;cases u:lA c.L j with|none=>grind|some x=>
  rw[u]at e;dsimp only at e;obtain⟨H,g⟩:=pc u;obtain⟨I,J,h1,R⟩:=h.i.le x H;simp only[Option.isNone_some,mW,if_false,bne_self_eq_false];rw[vR (by omega),qb];by_cases F:x.Held-x.Used<n;·rw[if_pos F]at e⊢;grind
  · rw[if_neg F]at e⊢;by_cases G:c.sent<1000000
    · rw[if_pos G]at e;obtain rfl:=ae e;have se:=h.i.se;have ol:=h.i.ol;rw[vR (by omega),qb,DZ (by omega),qb];unfold eE;rw[if_pos (by simp;omega),qb];obtain⟨M,O⟩:=h.set (y:={x with Held:=x.Held-n}) u g;have z:=h.i.set (y:={x with Held:=x.Held-n}) u g I J (by show x.Used<=x.Held-n;omega) (by show x.Held-n<=1099511627776;omega);refine⟨_,rfl,⟨rfl,rfl,rfl,h.t,O,M,⟨z.so,z.len,z.cn,z.le,λp q=>?_,?_,?_,?_⟩⟩⟩
      · dsimp only at q⊢;rcases dK.1 q with q|q;·obtain⟨g1,g2,g3,g4⟩:=h.i.ou p q;exact⟨g1,g2,by omega,g4⟩
        ·obtain rfl:=eZ.1 q;exact⟨rfl,by show(1:Int)<=c.sent+1;omega,by show c.sent+1<=c.sent+1;omega,w.1,w.2,f.1.1,f.1.2,f.2⟩
      ·dsimp only;refine List.pairwise_append.2 ⟨h.i.os,List.pairwise_singleton _ _,λa P b Q=>?_⟩;obtain rfl:=eZ.1 Q;have:=(h.i.ou a P).2.2.1;show a.Number<c.sent+1;omega
      ·show _<=c.sent+1;simp;omega
      ·show 0<=c.sent+1/\c.sent+1<=1000000;omega
    .rw[if_neg G]at e;cases e
   ·simp only[if_neg w]at e⊢;obtain rfl:=ae e;exact⟨d,rfl,h⟩
 ·rw[if_neg f]at e;obtain rfl:=ae e;rw[if_pos (by
 simp only[not_and,Decidable.not_not]at f;by_cases h1:0<=m/\m<=7;.simp[f h1]
 ·simp only[bU,cH,ua,decide_eq_false_iff_not];left;omega)];exact⟨d,rfl,h⟩
end
section
variable{g:mK->Bool}{xs:List mK}
theorem Fa{e:Type}{l:List e}{i:Nat}{x:e}(h:l[i]?=some x):aR l (i:Int)=some x:=by unfold aR;simpa using h
theorem Lr{n m:Nat}(h:n<=m)(e:m<=1000000):bg (n:Int) 1=some ((n:Int)+1):=DZ (by omega)
end
theorem BP{n:Int}{l:List bn}{i:Nat}{x:bn}(q:l[i]?=some x)(h:tL n l i=true):x.Counter=n/\0<=x.Held/\x.Held<=1099511627776/\0<=x.Used/\x.Used<=x.Held/\(0<i->∃y,l[i-1]?=some y/\bLt y.Cap x.Cap=true):=by unfold tL at h;grind
theorem Ed{n:Int}{l:List bn}{m:Nat}(h:∀j<m,tL n l j=true):∀j<m,∀i<j,∀x y,l[i]?=some x->l[j]?=some y->bLt x.Cap y.Cap=true:=by intro j;induction j with|zero=>intro _ i hi;omega;|succ j E=>
 intro F i hi x y f G;have⟨_,_,_,_,_,h1⟩:=BP G (h (j+1) F);have⟨z,q,e⟩:=h1 (by omega);simp[Nat.add_sub_cancel]at q;rcases Nat.lt_succ_iff_lt_or_eq.1 hi with hi|rfl;.exact JM (E (by omega) i hi x z f q) e
 .rw[q]at f;obtain rfl:=ae f;exact e
theorem QU{n:Int}{l:List bn}{i:Nat}{x:bn}(e:l[i]?=some x)(w:l.length<=30):uu n l (i:Int) x=some (!(tL n l i)):=by
 have hi:i<l.length:=(jN.1 e).1;unfold uu tL gE;rw[e];dsimp;have e1:(if decide (0<i)=true then(fh i 1).bind λm=>(aR l m).bind λu=>some (!(Op.bytesLess u.Cap.toList x.Cap.toList))else some false)=some (!(i==0||match l[i-1]?with|some y=>bLt y.Cap x.Cap|none=>false)):=by
  by_cases f:i=0;.subst f;rfl
  .rw[if_pos (decide_eq_true (by omega)),vR (by omega),qb];have j:l[i-1]?=some l[i-1]:=cL (by omega);rw[show(i:Int)-1=(i-1:Nat)by omega,Fa j,j];simp[f,bLt]
 grind
theorem GA{l:List bn}{f:ByteArray}(h:∀x∈l,¬x.Cap=f):bV (l.map λx=>(x.Cap,x)) f=none:=by induction l with|nil=>rfl;|cons x l m=>simp[bV];grind
theorem La(n:Int)(l:List bn):(∃d c,sQ n l=some (some d,0)/\nR n l=(some c,0)/\Can d c)∨(sQ n l=some (none,1)/\nR n l=(none,1)):=by
  unfold sQ nR;by_cases z:(0<=n/\n<=7)/\l.length<=30;rotate_left;·right;grind
  obtain⟨z,G⟩:=z;rw[if_neg (by simp only[bU,cH,ua,decide_eq_false_iff_not,decide_eq_true_eq];omega)];obtain⟨f,h1,Q,u⟩:=cC (body:=nA n l) (λi(s:List _×Int)=>s.2=(i:Int)/\s.1=(l.take i).map (λx=>(x.Cap,x))/\∀j<i,tL n l j=true) l.length (λf=>(f= .ex 0 _/\∀j<l.length,tL n l j=true)∨(f= .ret _/\∃j<l.length,tL n l j=false)) (λi s hi⟨e1,E,H⟩=>by obtain⟨s,O⟩:=s;dsimp only at e1 E;subst e1 E;have w:l[i]?=some l[i]:=cL hi;unfold nA;dsimp only;rw[if_pos (decide_eq_true (by omega)),Fa w,qb,QU w G,qb];cases M:tL n l i with|false=>exact .inr ⟨_,rfl,trivial, .inr ⟨rfl,i,hi,M⟩⟩;|true=>
 have F:∀j<i+1,tL n l j=true:=λj q=>by grind
 rw[if_neg (by decide),GA (λy P e=>by obtain⟨j,q,rfl⟩:=bR P;simp only[dT]at q;rw[List.getElem_take]at e;have:=Ed F i (by omega) j (by omega) _ _ (cL (by omega)) w;rw[e,Bd]at this;cases this),if_pos (show(none:Option bn).isNone=true from rfl),Lr (m:=30) (by omega) (by omega),qb];refine .inl ⟨_,rfl,by dsimp only;omega,?_,F⟩;dsimp only;rw[List.take_add_one,w,hY];rfl) (λs⟨e1,E,H⟩=>by obtain⟨s,O⟩:=s;dsimp only at e1 E;subst e1 E;refine⟨.ex 0 (l.map (λx=>(x.Cap,x)),(l.length:Int)),?_,trivial, .inl ⟨rfl,H⟩⟩;unfold nA;dsimp only;rw[if_neg (by simp),cJ]) ([],0) ⟨rfl,rfl,λj q=>by omega⟩ (l.length+1) (by omega);rw[h1,qb];rcases u with⟨rfl,u⟩|⟨rfl,j,q,u⟩
  · left;rw[if_pos ⟨z,G,br.2 λj q=>u j (eN.1 q)⟩];refine⟨_,_,rfl,rfl,⟨rfl,rfl,rfl,rfl,by simp[jT,Function.comp_def],λp I=>?_,⟨?_,G,z,λx w=>?_,λp I=>by simp at I,List.Pairwise.nil,by simp,by simp⟩⟩⟩;.obtain⟨x,_,rfl⟩:=aS.1 I;rfl
    ·show Sor l;unfold Sor;rw[fe];intro i j hi q J;exact Ed u j q i J _ _ (cL hi) (cL q)
    ·obtain⟨j,q,rfl⟩:=bR (show x∈l from w);obtain⟨g1,g2,g3,g4,g5,_⟩:=BP (cL q) (u j q);exact⟨g1,g4,g5,g3⟩
  ·right;rw[if_neg (λh=>by have:=br.1 h.2.2 j (eN.2 q);rw[u]at this;cases this)];exact⟨rfl,rfl⟩
def uV(c:DC):FP->Pred:=λF v k=>∃d,wR d F v k/\Can d c
instance{c:DC}:Rsc (uV c)where keep:=λ ⟨d,h,e⟩g f m=>⟨d,Rsc.keep h g f m,e⟩;handed:=λ ⟨d,h,e⟩g f=>⟨d,Rsc.handed h g f,e⟩;lt:=λ ⟨d,h,_⟩c j=>Rsc.lt h c j;nsh:=λ ⟨d,h,_⟩c j=>Rsc.nsh h c j
def wM:Option DC->FP->Pred|none=>λF v _=>v= .pointer none/\F=noF|some c=>uV c
theorem xH(x:Option DC):Rsc (wM x):=match x with|none=>⟨λh _ _ _=>h,λh _ _=>h,λh c e=>by rw[h.2]at e;exact e.elim,λh c e=>by rw[h.2]at e;exact e.elim⟩|some c=>inferInstanceAs (Rsc (uV c))
theorem Bm{b e:Nat}(h:aL b=aL e):b=e:=by unfold aL at h;simpa using h
theorem J2{d G:fk}{b w x j m:Nat}{h y:Value}{T f:List LT}{k:K}(D:ck d b w x h T k)(z:ck G b j m y f k):DF b w x h T=DF b j m y f:=by
 have e:=Gb.Box.zz D.box z.box;unfold xK at e;simp only[rk,Value.int.injEq,true_and,Value.map.injEq,aV,and_true]at e;obtain⟨_,rfl,rfl,_,rfl⟩:=e;obtain⟨R,H,h1,I,_⟩:=D.ml.is;obtain⟨J,E,g,u,_⟩:=z.ml.is;rw[h1]at g;injection g with g;injection g with e1 M;subst e1 M;have O:=I.symm.trans u;have F:=congrArg (List.map (λp:Value×Value=>p.2)) O;simp only[jT]at F;have P:T.map (λt=>t.2.1)=f.map (λt=>t.2.1):=by
  have:∀{T f:List LT},T.map (λt=>aL t.2.1)=f.map (λt=>aL t.2.1)->T.map (λt=>t.2.1)=f.map (λt=>t.2.1):=by intro T;induction T with
 |nil=>intro f h;cases f with|nil=>rfl;|cons _ _=>simp at h
 |cons t T Q=>intro f h;cases f with|nil=>simp at h;|cons U f=>simp only[dz,rk]at h⊢;exact⟨Bm h.1,Q h.2⟩
  exact this F
 unfold DF dbl;rw[P]
theorem Kr{d f:fk}{F G:FP}{v:Value}{k:K}(h:wR d F v k)(g:wR f G v k):F=G:=by obtain⟨b,w,x,y,T,rfl,D,rfl⟩:=h;obtain⟨z,j,m,q,E,e,u,rfl⟩:=g;obtain rfl:=Bm e;exact J2 D u
theorem BO(x y:Option DC)(F G:FP)(v:Value)(k:K)(h:wM x F v k)(f:wM y G v k):F=G:=by cases x with
 |none=>obtain⟨rfl,rfl⟩:=h;cases y with|none=>exact f.2.symm;|some c=>obtain⟨d,⟨b,_,_,_,_,e,_⟩,_⟩:=f;unfold aL at e;simp at e
 |some c=>obtain⟨d,h,_⟩:=h;cases y with|none=>obtain⟨rfl,_⟩:=f;obtain⟨b,_,_,_,_,e,_⟩:=h;unfold aL at e;simp at e;|some g=>obtain⟨j,f,_⟩:=f;exact Kr h f
theorem Hg(x:Option DC)(F:FP)(v:Value)(k:K)(b:Nat)(h:wM x F v k)(e:v= .pointer (some ⟨b,0,none⟩)∨obF v b):F b:=by cases x with|none=>obtain⟨rfl,_⟩:=h;simp[obF,ob]at e;|some c=>
 obtain⟨d,⟨f,g,j,m,T,rfl,D,rfl⟩,_⟩:=h;rcases e with e|e;·unfold aL at e;simp only[Value.pointer.injEq,aV,Addr.mk.injEq,and_true]at e;subst e;exact .inl MS
 .simp[obF,ob,aL]at e
theorem Kw(x:Option DC)(F:FP)(v:Value)(k:K)(b:Bool)(h:wM x F v k)(e:some x.isNone=some b):∃p,v= .pointer p/\p.isNone=b:=by obtain rfl:=ae e;cases x with|none=>obtain⟨rfl,_⟩:=h;exact⟨none,rfl,rfl⟩;|some c=>obtain⟨d,⟨f,_,_,_,_,rfl,_⟩,_⟩:=h;exact⟨some ⟨f,0,none⟩,rfl,rfl⟩
section
variable {k0:K}{c:DC}{F:FP}{v0 v1 v2 v3:Value}{cap:ByteArray}{n to:Int}
theorem OR(h:uV c F v0 k0)(f:IsV cap v1 k0)(i2:IsV n v2 k0):Calls Tryz.prog 48 #[v0,v1,v2] k0.w (bY F k0 λu k=>(∃G,uV (wV c cap n).1 G v0 k/\Wr F k0 G)/\IsV (wV c cap n).2 u k):=by obtain⟨d,⟨b,z,E,H,T,rfl,D,rfl⟩,g⟩:=h;obtain⟨j,m,e⟩:=OX g cap n;exact kZ (Ia D f i2 m) (λ _=>ia) λv I _ ⟨⟨G,q,x⟩,y⟩=>⟨⟨G,⟨j,q,e⟩,x⟩,y⟩
theorem Gt(h:uV c F v0 k0)(e:IsV cap v1 k0):Calls Tryz.prog 26 #[v0,v1] k0.w (Ret k0 (IsV (tD c cap))):=by obtain⟨d,⟨b,g,j,m,T,rfl,D,rfl⟩,f⟩:=h;exact EL D e (LX f cap)
theorem M0{l:List bn}(i0:IsV n v0 k0)(j:IsV l v1 k0):Calls Tryz.prog 28 #[v0,v1] k0.w (bY noF k0 (eO (λu k=>∃G,wM (nR n l).1 G u k/\Lo k0 G) (IsV (nR n l).2))):=by
 rcases La n l with⟨d,c,h1,h,m⟩|⟨h1,h⟩;·rw[h];refine kZ (yD i0 j h1) (λ _=>ia) λv q _ f=>?_;obtain⟨u,w,e,⟨G,x,y⟩,g⟩:=f;exact⟨u,w,e,⟨G,⟨d,x,m⟩,y⟩,g⟩
 ·rw[h];refine kZ (yD i0 j h1) (λ _=>ia) λv q _ f=>?_;obtain⟨u,w,e,z,g⟩:=f;exact⟨u,w,e,⟨noF,⟨z,rfl⟩,λb E=>E.elim⟩,g⟩
end
structure CC where
 num:Int
 dist:List Int
 dc:DC
 reg:List au deriving Inhabited
def qf(c:CC)(e f g:Value):List Value:=[.int .i64 c.num,e,f,g]
def CFP(b:Nat)(e:Value)(F:FP):FP:=λi=>i=b∨F i∨obF e i
structure CnO (c:CC)(b:Nat)(dv pv rv:Value)(F:FP)(k:K):Prop where
 box:Gb.Box b (⟨qf c dv pv rv⟩:dR 4) k
 od:IsV c.dist dv k
 dk:uV c.dc F pv k
 rg:an 0 54 c.reg rv k
 n1:¬F b
 n2:¬obF rv b
 ap:aB F (obF rv)
section
variable {c:CC}{b:Nat}{dv pv rv:Value}{F:FP}{k k':K}{G:FP}
theorem CnO.keep(h:CnO c b dv pv rv F k)(g:Chg G k k')(f:aB (CFP b rv F) G)(e:∀i,G i->¬k.sh i):CnO c b dv pv rv F k':=⟨h.box.keep g (λj=>f b (.inl rfl) j) e,ai.pers (g.le e) h.od,Rsc.keep h.dk g (λi hi=>f i (.inr (.inl hi))) e,h.rg.keep g (λi hi=>f i (.inr (.inr hi))) e,h.n1,h.n2,h.ap⟩
theorem CnO.handed(h:CnO c b dv pv rv F k)(g:Gb.Handed k k' G)(e:aB (CFP b rv F) G):CnO c b dv pv rv F k':=⟨h.box.handed g (λf=>e b (.inl rfl) f),ai.pers g.le h.od,Rsc.handed h.dk g (λi hi=>e i (.inr (.inl hi))),h.rg.handed g (λi hi=>e i (.inr (.inr hi))),h.n1,h.n2,h.ap⟩
theorem CnO.lt(h:CnO c b dv pv rv F k):∀i,CFP b rv F i->i<k.w.heap.size/\¬k.sh i:=λi hi=>by
 rcases hi with rfl|hi|hi;.exact⟨h.box.lt,h.box.own⟩
 .exact⟨Rsc.lt h.dk i hi,Rsc.nsh h.dk i hi⟩
 .exact⟨h.rg.ltF i hi,h.rg.fF i hi⟩
theorem CnO.grow(h:CnO c b dv pv rv F k)(g:bD k k'):CnO c b dv pv rv F k':=h.keep (Chg.of (F:=noF) g) (λ _ _ f=>f) (λ _ f=>f.elim)
end
def CnS(c:CC):FP->Pred:=λG v k=>∃b dv pv rv F,v=aL b/\CnO c b dv pv rv F k/\G=CFP b rv F
instance{c:CC}:Rsc (CnS c)where keep:=λ ⟨b,dv,pv,rv,F,e,h,f⟩g j m=>⟨b,dv,pv,rv,F,e,h.keep g (f▸j) m,f⟩;handed:=λ ⟨b,dv,pv,rv,F,e,h,f⟩g j=>⟨b,dv,pv,rv,F,e,h.handed g (f▸j),f⟩;lt:=λ ⟨b,dv,pv,rv,F,e,h,f⟩i hi=>(h.lt i (f▸hi)).1;nsh:=λ ⟨b,dv,pv,rv,F,e,h,f⟩i hi=>(h.lt i (f▸hi)).2
def CnN:Option CC->FP->Pred|none=>λF v _=>v= .pointer none/\F=noF|some c=>CnS c
theorem NX(x:Option CC):Rsc (CnN x):=match x with|none=>⟨λh _ _ _=>h,λh _ _=>h,λh c e=>by rw[h.2]at e;exact e.elim,λh c e=>by rw[h.2]at e;exact e.elim⟩|some c=>inferInstanceAs (Rsc (CnS c))
theorem O9(x y:Option CC)(F G:FP)(v:Value)(k:K)(h:CnN x F v k)(f:CnN y G v k):F=G:=by cases x with
 |none=>obtain⟨rfl,rfl⟩:=h;cases y with|none=>exact f.2.symm;|some c=>obtain⟨b,_,_,_,_,e,_⟩:=f;unfold aL at e;simp at e
 |some c=>obtain⟨b,dv,pv,rv,j,rfl,D,rfl⟩:=h;cases y with|none=>obtain⟨e,_⟩:=f;unfold aL at e;simp at e;|some m=>obtain⟨E,q,u,w,z,e,g,rfl⟩:=f;obtain rfl:=Bm e;have e:=Gb.Box.zz D.box g.box;unfold qf at e;simp only[rk,and_true]at e;obtain⟨_,_,rfl,rfl⟩:=e;rw[BO (some c.dc) (some m.dc) j z pv k D.dk g.dk]
theorem NC(x:Option CC)(F:FP)(v:Value)(k:K)(b:Nat)(h:CnN x F v k)(e:v= .pointer (some ⟨b,0,none⟩)∨obF v b):F b:=by cases x with|none=>obtain⟨rfl,_⟩:=h;simp[obF,ob]at e;|some c=>
 obtain⟨f,dv,pv,rv,g,rfl,D,rfl⟩:=h;rcases e with e|e;·unfold aL at e;simp only[Value.pointer.injEq,aV,Addr.mk.injEq,and_true]at e;subst e;exact .inl rfl
 .simp[obF,ob,aL]at e
theorem Ou(x:Option CC)(F:FP)(v:Value)(k:K)(b:Bool)(h:CnN x F v k)(e:some x.isNone=some b):∃p,v= .pointer p/\p.isNone=b:=by obtain rfl:=ae e;cases x with|none=>obtain⟨rfl,_⟩:=h;exact⟨none,rfl,rfl⟩;|some c=>obtain⟨b,_,_,_,_,rfl,_⟩:=h;exact⟨some ⟨b,0,none⟩,rfl,rfl⟩
end Go.Proofs.YtlckpjpbladknaaGreat
namespace Go.Gb
section
variable{V:Type}[DecidableEq V]{e:V}
def build(e:V)(z:List Int)(A:Int->V):Nat->ic V|0=>[]|i+1=>uU e (build e z A i) (z.getD i 0) (z.getD (i+1) 0) (A (z.getD i 0))
omit [DecidableEq V]in theorem CG:∀{l:ic V},Canon e l↔(∀i(h:i<l.length),l[i].1<l[i].2.1/\l[i].2.2≠e)/\∀i(h:i+1<l.length),l[i].2.1<l[i+1].1∨(l[i].2.1=l[i+1].1/\l[i].2.2≠l[i+1].2.2)
 |[]=>⟨λ_=>⟨λi h=>absurd h (fB i),λi h=>absurd h (fB _)⟩,λ_=>trivial⟩|[(a,b,v)]=>⟨λh=>⟨λi hi=>by
 have:i=0:=by simp at hi;omega
 subst this;exact⟨h.1,h.2.1⟩,λi hi=>absurd hi (by simp)⟩,λh=>⟨(h.1 0 (by simp)).1,(h.1 0 (by simp)).2,trivial,trivial⟩⟩|(a,b,v)::(c,d,w)::t=>by
  have g:=CG (l:=(c,d,w)::t);constructor
  · intro h;obtain⟨h1,f⟩:=g.1 h.2.2.2;refine⟨λi hi=>?_,λi hi=>?_⟩;.cases i with|zero=>exact⟨h.1,h.2.1⟩;|succ i=>exact h1 i (by simpa using hi)
    .cases i with|zero=>exact h.2.2.1;|succ i=>exact f i (by simpa using hi)
  · rintro⟨h1,f⟩;refine⟨(h1 0 (by simp)).1,(h1 0 (by simp)).2,f 0 (by simp),g.2 ⟨λi hi=>?_,λi hi=>?_⟩⟩;.exact h1 (i+1) (by simpa using hi)
    .exact f (i+1) (by simpa using hi)
end
theorem G4{ρ:Type}{body:Int->Option (aY Int ρ)}{k:Nat}(N:Nat)(p:Nat->Prop)(r:Nat->ρ)(E:∀i,i<N->(∀j,j<i->¬p j)->(p i/\body (i:Int)=some (.ret (r i)))∨(¬p i/\body (i:Int)=some (.go ((i+1:Nat):Int))))(F:body (N:Int)=some (.ex k (N:Int))){fuel:Nat}(g:N<fuel):(∃i,i<N/\p i/\(∀j,j<i->¬p j)/\az body fuel 0=some (.ret (r i)))∨((∀i,i<N->¬p i)/\az body fuel 0=some (.ex k (N:Int))):=by
  have y:∀m i,i+m=N->(∀j,j<i->¬p j)->∀fuel,m<fuel->(∃j,j<N/\p j/\(∀q,q<j->¬p q)/\az body fuel i=some (.ret (r j)))∨((∀j,j<N->¬p j)/\az body fuel i=some (.ex k N)):=by intro m;induction m with
 |zero=>
 intro i hi f fuel g;obtain rfl:i=N:=by omega
 obtain⟨fuel,rfl⟩:∃m,fuel=m+1:=⟨fuel-1,by omega⟩;refine .inr ⟨f,?_⟩;simp[az,F]|succ m G=>
   intro i hi f fuel g;obtain⟨fuel,rfl⟩:∃m,fuel=m+1:=⟨fuel-1,by omega⟩;rcases E i (by omega) f with⟨h1,u⟩|⟨h1,u⟩;.refine .inl ⟨i,by omega,h1,f,?_⟩;simp[az,u]
   .simp[az,u];exact G (i+1) (by omega) (λj x=>by
 rcases bw j i with h|h;.exact f j h
 · obtain rfl:j=i:=by omega
   exact h1) fuel (by omega)
  exact y N 0 (by omega) (λj x=>absurd x (fB j)) fuel g
section
variable{P:Program}{o:Oper}{a0:Act}{k0:K}{R S:Pred}{es:List Ent}{α:Type}[Enc α]{nd nd2:List (Nat×Option Nat)}
theorem AO{es:List Ent}{a:Act}{k:K}{t j:Nat}{l:List (Nat×Option Nat)}(e:nth es j=some ⟨some R,nd⟩)(h:kT es a0 a k ((t,some j)::l)):R (a.get t) k:=by have h1:=h.1;rw[e]at h1;exact h1
theorem e0{t j:Nat}[aZ R](h:(o.guard,o.op)=(none, .extract (.tmp t) 0))(e:nth es j=some ⟨some (eO R S),nd⟩):Ob P es a0 k0 o ⟨some R,[(t,some j)]⟩:=ob1 (Prod.mk.inj h).1 λ_ _ _ n=>rj (Prod.mk.inj h).2 (AO e n)
theorem e1{t j:Nat}[aZ S](h:(o.guard,o.op)=(none, .extract (.tmp t) 1))(e:nth es j=some ⟨some (eO R S),nd⟩):Ob P es a0 k0 o ⟨some S,[(t,some j)]⟩:=ob1 (Prod.mk.inj h).1 λ_ _ _ n=>qt (Prod.mk.inj h).2 (AO e n)
theorem ld{t j:Nat}{e:TypeId}{y:α}(h:(o.guard,o.op)=(none, .load e (.tmp t)))(f:Ty P e α)(g:nth es j=some ⟨some (db y),nd⟩):Ob P es a0 k0 o ⟨some (IsV y),[(t,some j)]⟩:=ob1 (Prod.mk.inj h).1 λ_ _ _ n=>aw (Prod.mk.inj h).2 f (AO g n)
end
theorem KU{m:Int}{g:Nat}{k:K}(h:ax m (.pointer (some ⟨g,0,none⟩)) k):k.w.cell? ⟨g,0,none⟩=some (.int .i64 m):=by
 obtain⟨a,e,_,f,j,_,q,t,y,u,z,x⟩:=h;obtain rfl:a=⟨g,0,none⟩:=by injection e with e;injection e with e;exact e.symm
 obtain rfl:f=[.int .i64 m]:=j;have:=x 0 (by simp);unfold World.cell?;rw[u];simpa using this
theorem E4{m:Int}{g:Nat}{W:World}(h:W.cell? ⟨g,0,none⟩=some (.int .i64 m)):ax m (.pointer (some ⟨g,0,none⟩)) (kOf W):=by
 obtain⟨j,e,t,q,f,u⟩:=DL h;refine⟨_,rfl,(bJ.1 f).1,[.int .i64 m],rfl,j,e,t,q,f,?_,?_⟩;.have w:0<e.size:=(bJ.1 u).1;simpa using(by omega)
 grind
section
variable{P:Program}{o:Oper}{a:Act}{k k' k0:K}{α β γ:Type}[Enc α][Enc β][Enc γ]{F G:FP}{v:Value}{b:Nat}{all hs:List (iA α)}{x:α}{R:Pred}
theorem vF{A:Array Oper}{i d:Nat}{g:List Nat}{Q:Exit->Act->World->Prop}{f:FuncId}{x:Operand}{as_:List Operand}{U:Array TypeId}{first capt:Array Value}(O:nth A.toList i=some o)(I:o.guard=none)(J:o.op= .call {callee:= .value x,args:=as_.toArray,argTypes:=U})(V:o.dst=some d)(y:d<a.tmps.size)(W:a.eval x= .func (.func f) first capt)(hc:∀args w,(callFunc f args).run P w= .ok (.enter f args) w)(_hQ:LetsOut Q)(j:Calls P f (first++(as_.map a.eval).toArray++capt) k.w (bY F k R))(h:∀(z:Act)(k':K),z.tmps.size=a.tmps.size->z.defers=a.defers->(∀t,t≠d->z.get t=a.get t)->Chg F k k'->R (z.get d) k'->wpOps P A Q g z k'.w):wpOps P A Q (i::g) a k.w:=by
 rw[wpOps_cons];rw[aM]at O;unfold wpOp;simp[O,Region.wanted,I];refine .inl ?_;unfold Oper.wp;have hr:(execOp a.eval o).run P k.w= .ok (.enter f (first++(as_.map a.eval).toArray++capt)) k.w:=by simp[execOp,J,resolve,invoke,Deferred.ofValue,W,hc]
 rw[hr];refine Calls.mono j λe w' M=>?_;cases e with|returned v=>
 obtain⟨k',rfl,hg,hv⟩:=M;simp[V];have E:(a.put (some d) v).get d=v:=by rw[dD _ _ _ _ y];simp
 refine h _ k' (fw _ _ _) (eA _ _ _) ?_ hg (by rw[E];exact hv);intro t ht;rw[dD _ _ _ _ y,if_neg (Ne.symm ht)]|panicked c=>exact M.elim;|outgrown=>exact M.elim
def Bf(α:Type)[Enc α](B:Nat):Pred:=λv k=>∃b,v= .pointer (some ⟨b,0,none⟩)/\B<=b/\Box b ([]:List α) k/\vJ b 0 fj k
theorem yl{t:TypeId}(f:Nat)(e:f<=k.w.heap.size)(g:o.op= .alloc t)(z:∀w,(zeroValue t).run P w= .ok fj w):aX P o a k (Bf α f):=by have h:Box k.w.heap.size ([]:List α) (k.alloc (.cells #[fj] t)):=wh ⟨fj,rfl, .inl ⟨rfl,rfl⟩⟩;refine eJ (k':=k.alloc (.cells #[fj] t)) ?_ (K.er k _) ⟨_,rfl,e,h,h.lt,#[fj],t,(0,0),heap_alloc_new k.w _,rfl⟩;simp[execOp,g];simp[Instr.alloc,z];rfl
end
instance{e:IntKind}:Rg (IK e):=⟨λx=>e.min<=x.n/\x.n<=e.max,λ_=>0⟩
end Go.Gb
namespace Go.Proofs.YtlckpjpbladknaaGreat
open Go.Gb
set_option maxRecDepth 100000
structure Expr where
 Op:Int
 N:Int
 S:ByteArray
 Key:ByteArray
 Args:Opq deriving DecidableEq,Inhabited
instance:Enc Expr:=Enc.ofMap λx=>(x.Op,x.N,x.S,x.Key,x.Args)
structure Def where
 Name:ByteArray
 Body:Expr deriving DecidableEq,Inhabited
instance:Enc Def:=Enc.ofMap λx=>(x.Name,x.Body)
structure Table where
 Name:ByteArray
 Rows:(List Entry)Else:Int deriving DecidableEq,Inhabited
instance:Enc Table:=Enc.ofMap λx=>(x.Name,x.Rows,x.Else)
structure fc where
 X:Int
 Y:Int deriving DecidableEq,Inhabited
instance:Enc fc:=Enc.ofMap λx=>(x.X,x.Y)
structure C7 where
 Name:ByteArray
 Overlay:Bool
 Corners:(List fc)deriving DecidableEq,Inhabited
instance:Enc C7:=Enc.ofMap λx=>(x.Name,x.Overlay,x.Corners)
structure qQ where
 Side:Int
 Base:Int
 Num:Int
 Den:Int deriving DecidableEq,Inhabited
instance:Enc qQ:=Enc.ofMap λx=>(x.Side,x.Base,x.Num,x.Den)
structure DE where
 Name:ByteArray
 Zones:(List ByteArray)Except:(List ByteArray)From:Int
 Until:Int
 Grace:Int
 Vary:Bool
 Kind:Int
 Test:Expr
 qQ:qQ
 Uses:Int
 Other:Int
 N:Int deriving DecidableEq,Inhabited
instance:Enc DE:=Enc.ofMap λx=>(x.Name,x.Zones,x.Except,x.From,x.Until,x.Grace,x.Vary,x.Kind,x.Test,x.qQ,x.Uses,x.Other,x.N)
structure Cap where
 Name:ByteArray
 Load:Int
 cV:Int
 Corners:(List fc)deriving DecidableEq,Inhabited
instance:Enc Cap:=Enc.ofMap λx=>(x.Name,x.Load,x.cV,x.Corners)
structure bo where
 X:Int
 Y:Int
 Z:Int deriving DecidableEq,Inhabited
instance:Enc bo:=Enc.ofMap λx=>(x.X,x.Y,x.Z)
structure View where
 Name:ByteArray
 Eye:bo
 Least:Int
 Targets:(List bo)deriving DecidableEq,Inhabited
instance:Enc View:=Enc.ofMap λx=>(x.Name,x.Eye,x.Least,x.Targets)
structure aK where Defs:(List Def)Tables:(List Table)Zones:(List C7)Rules:(List DE)Caps:(List Cap)Views:(List View)Sun:(List bo)Hours:Int deriving DecidableEq,Inhabited
instance:Enc aK:=Enc.ofMap λx=>(x.Defs,x.Tables,x.Zones,x.Rules,x.Caps,x.Views,x.Sun,x.Hours)
structure Lot where
 Id:Int
 Owner:Int
 Area:(List aC)From:(List Int)deriving DecidableEq,Inhabited
instance:Enc Lot:=Enc.ofMap λx=>(x.Id,x.Owner,x.Area,x.From)
structure lT where
 Lot:Int
 Area:(List aC)Top:Int deriving DecidableEq,Inhabited
instance:Enc lT:=Enc.ofMap λx=>(x.Lot,x.Area,x.Top)
structure lp where
 Lot:Int
 At:bo deriving DecidableEq,Inhabited
instance:Enc lp:=Enc.ofMap λx=>(x.Lot,x.At)
structure cw where
 Lot:Int
 aD:aD deriving DecidableEq,Inhabited
instance:Enc cw:=Enc.ofMap λx=>(x.Lot,x.aD)
structure aT where
 aK:aK
 Land:(List Lot)Easements:(List lT)Windows:(List lp)Built:(List cw)Base:(List Entry)deriving DecidableEq,Inhabited
instance:Enc aT:=Enc.ofMap λx=>(x.aK,x.Land,x.Easements,x.Windows,x.Built,x.Base)
structure bX where
 a:fc
 b:fc deriving DecidableEq,Inhabited
instance:Enc bX:=Enc.ofMap λx=>(x.a,x.b)
structure fZ where
 Cap:ByteArray
 Base:Int
 Tops:(List Int)deriving DecidableEq,Inhabited
instance:Enc fZ:=Enc.ofMap λx=>(x.Cap,x.Base,x.Tops)
structure cg where
 Z0:Int
 Z1:Int
 Area:(List aC)deriving DecidableEq,Inhabited
instance:Enc cg:=Enc.ofMap λx=>(x.Z0,x.Z1,x.Area)
structure ah where
 from_:Int
 to_:Int deriving DecidableEq,Inhabited
instance:Enc ah:=Enc.ofMap λx=>(x.from_,x.to_)
structure aH where
 x0:Int
 x1:Int
 column:(List ah)deriving DecidableEq,Inhabited
instance:Enc aH:=Enc.ofMap λx=>(x.x0,x.x1,x.column)
structure bZ where
 n:Int
 d:Int
 open_:Bool deriving DecidableEq,Inhabited
instance:Enc bZ:=Enc.ofMap λx=>(x.n,x.d,x.open_)
structure bj where
 lo:bZ
 hi:bZ
 top:Bool
 none_:Bool deriving DecidableEq,Inhabited
instance:Enc bj:=Enc.ofMap λx=>(x.lo,x.hi,x.top,x.none_)
structure cV where
 Kind:Int
 Name:ByteArray
 N:Int deriving DecidableEq,Inhabited
instance:Enc cV:=Enc.ofMap λx=>(x.Kind,x.Name,x.N)
theorem I2:Ty Tryz.prog 135 Entry:=⟨⟨_,Tryz.underlying135,rfl⟩,by kernel_rfl⟩
theorem RU:Zero Tryz.prog 135 ((⟨(⟨#[]⟩:ByteArray),0⟩:Entry):Entry):=⟨_,Tryz.zeroValue135,λ _=>⟨_,rfl,⟨rfl,rfl,rfl⟩⟩⟩
theorem Ny:(Tryz.prog.info? 135).map (·.size)=some (Enc.sz Entry):=by kernel_rfl
theorem zg:cu Tryz.prog 135 0 0:=⟨_,_,0,Tryz.underlying135,rfl,rfl,by kernel_rfl⟩
theorem rT(y:Entry)(ad:Addr)(k:K)(h:At y ad k):At y.Name (ad.add 0) k:=have h0:At (y.Name,y.N) ad k:=h
 At.fst (At.zero h0)
theorem Ni:cu Tryz.prog 90 0 0:=⟨_,_,0,Tryz.underlying90,rfl,rfl,by kernel_rfl⟩
theorem Gw(y:Cap)(ad:Addr)(k:K)(h:At y ad k):At y.Name (ad.add 0) k:=have h0:At (y.Name,y.Load,y.cV,y.Corners) ad k:=h
 At.fst (At.zero h0)
theorem Dy:cu Tryz.prog 135 1 1:=⟨_,_,0,Tryz.underlying135,rfl,rfl,by kernel_rfl⟩
theorem vf(y:Entry)(ad:Addr)(k:K)(h:At y ad k):At y.N (ad.add 1) k:=have h0:At (y.Name,y.N) ad k:=h
 At.jx (At.zero h0)
theorem eo3:dX Tryz.prog 3 Int:=⟨_,_,rfl,rfl,rfl,rfl,by decide,by decide⟩
theorem yy:dX Tryz.prog 126 aC:=⟨_,_,rfl,rfl,rfl,rfl,by decide,by decide⟩
theorem NM:Ty Tryz.prog 35 (List Entry):=⟨⟨_,Tryz.underlying35,rfl⟩,by kernel_rfl⟩
theorem BS:Ty Tryz.prog 130 aD:=⟨⟨_,Tryz.underlying130,rfl⟩,by kernel_rfl⟩
theorem U3:Ty Tryz.prog 30 aK:=⟨⟨_,Tryz.underlying30,rfl⟩,by kernel_rfl⟩
theorem Df:cu Tryz.prog 37 5 12:=⟨_,_,0,Tryz.underlying37,rfl,rfl,by kernel_rfl⟩
theorem JR(y:aT)(ad:Addr)(k:K)(h:At y ad k):At y.Base (ad.add 12) k:=have h0:At (y.aK,y.Land,y.Easements,y.Windows,y.Built,y.Base) ad k:=h
 At.jx (At.jx (At.jx (At.jx (At.jx (At.zero h0)))))
theorem Mp:Ty Tryz.prog 90 Cap:=⟨⟨_,Tryz.underlying90,rfl⟩,by kernel_rfl⟩
theorem Dw:cu Tryz.prog 37 4 11:=⟨_,_,0,Tryz.underlying37,rfl,rfl,by kernel_rfl⟩
theorem Kk(y:aT)(ad:Addr)(k:K)(h:At y ad k):At y.Built (ad.add 11) k:=have h0:At (y.aK,y.Land,y.Easements,y.Windows,y.Built,y.Base) ad k:=h
 At.fst (At.jx (At.jx (At.jx (At.jx (At.zero h0)))))
theorem Vt:Ty Tryz.prog 34 (List cw):=⟨⟨_,Tryz.underlying34,rfl⟩,by kernel_rfl⟩
theorem MM:cu Tryz.prog 37 0 0:=⟨_,_,7,Tryz.underlying37,rfl,rfl,by kernel_rfl⟩
theorem Cm(y:aT)(ad:Addr)(k:K)(h:At y ad k):At y.aK (ad.add 0) k:=have h0:At (y.aK,y.Land,y.Easements,y.Windows,y.Built,y.Base) ad k:=h
 At.fst (At.zero h0)
theorem GW:cu Tryz.prog 42 1 1:=⟨_,_,0,Tryz.underlying42,rfl,rfl,by kernel_rfl⟩
theorem rV(y:ay)(ad:Addr)(k:K)(h:At y ad k):At y.Phases (ad.add 1) k:=have h0:At (y.Lot,y.Phases) ad k:=h
 At.jx (At.zero h0)
theorem P7:Ty Tryz.prog 40 (List Phase):=⟨⟨_,Tryz.underlying40,rfl⟩,by kernel_rfl⟩
theorem Ss:dX Tryz.prog 130 aD:=⟨_,_,rfl,rfl,rfl,rfl,by decide,by decide⟩
theorem Mf:dX Tryz.prog 135 Entry:=⟨_,_,rfl,rfl,rfl,rfl,by decide,by decide⟩
theorem Pv:Ty Tryz.prog 139 Phase:=⟨⟨_,Tryz.underlying139,rfl⟩,by kernel_rfl⟩
theorem z139:Zero Tryz.prog 139 ((⟨[],[]⟩:Phase):Phase):=⟨_,Tryz.zeroValue139,λ _=>⟨_,rfl,⟨rfl,⟨_,rfl, .inl ⟨rfl,rfl⟩⟩,⟨_,rfl, .inl ⟨rfl,rfl⟩⟩⟩⟩⟩
theorem QO:(Tryz.prog.info? 139).map (·.size)=some (Enc.sz Phase):=by kernel_rfl
theorem OE:cu Tryz.prog 139 0 0:=⟨_,_,0,Tryz.underlying139,rfl,rfl,by kernel_rfl⟩
theorem Hc(y:Phase)(ad:Addr)(k:K)(h:At y ad k):At y.Volumes (ad.add 0) k:=have h0:At (y.Volumes,y.ba) ad k:=h
 At.fst (At.zero h0)
theorem SO:Ty Tryz.prog 137 (List aD):=⟨⟨_,Tryz.underlying137,rfl⟩,by kernel_rfl⟩
theorem CY:cu Tryz.prog 139 1 1:=⟨_,_,0,Tryz.underlying139,rfl,rfl,by kernel_rfl⟩
theorem vu(y:Phase)(ad:Addr)(k:K)(h:At y ad k):At y.ba (ad.add 1) k:=have h0:At (y.Volumes,y.ba) ad k:=h
 At.jx (At.zero h0)
theorem zt:Ty Tryz.prog 44 aq:=⟨⟨_,Tryz.underlying44,rfl⟩,by kernel_rfl⟩
theorem z130:Zero Tryz.prog 130 ((⟨(⟨(⟨0,0,0,0⟩:aC),0,0⟩:Box),0,0,false⟩:aD):aD):=⟨_,Tryz.zeroValue130,λ _=>⟨_,rfl,⟨rfl,⟨rfl,⟨rfl,rfl,⟨rfl,rfl,⟨rfl,rfl,rfl⟩⟩⟩,⟨rfl,rfl,rfl⟩⟩,⟨rfl,rfl,⟨rfl,rfl,rfl⟩⟩⟩⟩⟩
theorem H7:(Tryz.prog.info? 130).map (·.size)=some (Enc.sz aD):=by kernel_rfl
theorem z92:Zero Tryz.prog 92 ((⟨(⟨#[]⟩:ByteArray),0,[]⟩:fZ):fZ):=⟨_,Tryz.zeroValue92,λ _=>⟨_,rfl,⟨rfl,rfl,⟨rfl,rfl,⟨_,rfl, .inl ⟨rfl,rfl⟩⟩⟩⟩⟩⟩
theorem H2:Ty Tryz.prog 37 aT:=⟨⟨_,Tryz.underlying37,rfl⟩,by kernel_rfl⟩
def dh:iA fZ:=⟨0+2,Int,inferInstance,3,λx=>x.Tops,λx y=>{x with Tops:=y}⟩
theorem Ie{k:K}{v0 v1:Value}{x0:ByteArray}{x1:Int}(h0:IsV x0 v0 k)(h1:IsV x1 v1 k):∃v,(∀w,(Instr.build 92 #[(0,v0),(1,v1)]).run Tryz.prog w= .ok v w)/\H6 [dh.off] (⟨x0,x1,[]⟩:fZ) v k:=by obtain⟨l0,e0,r0,n0⟩:=eH h0;obtain⟨u0_0,rfl⟩:=H8 n0;obtain⟨l1,e1,r1,n1⟩:=eH h1;obtain⟨u1_0,rfl⟩:=H8 n1;refine⟨.agg #[u0_0,u1_0, .slice none 0 0],λw=>?_,[u0_0,u1_0, .slice none 0 0],rfl,rfl,⟨rfl,r0,⟨rfl,r1,⟨_,rfl, .inl ⟨rfl,rfl⟩⟩⟩⟩,λ _ h=>by cases h with|head=>rfl|tail _ h=>exact nomatch h⟩;simp[Instr.build,Instr.fill,mh,e0,e1]
theorem Ph:(Tryz.prog.info? 92).map (·.size)=some (Enc.sz fZ):=by kernel_rfl
theorem CA:Upd (α:=fZ) (β:=(List Int)) (0+2) (λx y=>{x with Tops:=y}):=λk cs cy x y hx hy=>(Upd.snd (Upd.snd Upd.self)) k cs cy (x.Cap,x.Base,x.Tops) y hx hy
theorem O1:Mq [dh]:=⟨CA,trivial⟩
theorem z44:Zero Tryz.prog 44 ((⟨0,0,(⟨0,[]⟩:ay),0,0,false⟩:aq):aq):=⟨_,Tryz.zeroValue44,λ _=>⟨_,rfl,⟨rfl,rfl,⟨rfl,rfl,⟨rfl,⟨rfl,rfl,⟨_,rfl, .inl ⟨rfl,rfl⟩⟩⟩,⟨rfl,rfl,⟨rfl,rfl,rfl⟩⟩⟩⟩⟩⟩⟩
theorem S0:(Tryz.prog.info? 44).map (·.size)=some (Enc.sz aq):=by kernel_rfl
theorem Lt:cu Tryz.prog 92 2 2:=⟨_,_,0,Tryz.underlying92,rfl,rfl,by kernel_rfl⟩
theorem Pd:(Tryz.prog.info? 38).map (·.size)=some (Enc.sz (List Int)):=by kernel_rfl
theorem NI(x:fZ):wH x [dh]:=⟨CA,rfl,(λ _ h=>nomatch h),trivial⟩
theorem S4:Ty Tryz.prog 92 fZ:=⟨⟨_,Tryz.underlying92,rfl⟩,by kernel_rfl⟩
theorem Mh:dX Tryz.prog 132 cw:=⟨_,_,rfl,rfl,rfl,rfl,by decide,by decide⟩
theorem z37:Zero Tryz.prog 37 ((⟨(⟨[],[],[],[],[],[],[],0⟩:aK),[],[],[],[],[]⟩:aT):aT):=⟨_,Tryz.zeroValue37,λ _=>⟨_,rfl,⟨rfl,⟨rfl,⟨_,rfl, .inl ⟨rfl,rfl⟩⟩,⟨rfl,⟨_,rfl, .inl ⟨rfl,rfl⟩⟩,⟨rfl,⟨_,rfl, .inl ⟨rfl,rfl⟩⟩,⟨rfl,⟨_,rfl, .inl ⟨rfl,rfl⟩⟩,⟨rfl,⟨_,rfl, .inl ⟨rfl,rfl⟩⟩,⟨rfl,⟨_,rfl, .inl ⟨rfl,rfl⟩⟩,⟨rfl,⟨_,rfl, .inl ⟨rfl,rfl⟩⟩,rfl⟩⟩⟩⟩⟩⟩⟩,⟨rfl,⟨_,rfl, .inl ⟨rfl,rfl⟩⟩,⟨rfl,⟨_,rfl, .inl ⟨rfl,rfl⟩⟩,⟨rfl,⟨_,rfl, .inl ⟨rfl,rfl⟩⟩,⟨rfl,⟨_,rfl, .inl ⟨rfl,rfl⟩⟩,⟨_,rfl, .inl ⟨rfl,rfl⟩⟩⟩⟩⟩⟩⟩⟩⟩
def bN:iA aT:=⟨0+11,cw,inferInstance,132,λx=>x.Built,λx y=>{x with Built:=y}⟩
def bM:iA aT:=⟨0+12,Entry,inferInstance,135,λx=>x.Base,λx y=>{x with Base:=y}⟩
theorem CK:Upd (α:=aT) (β:=(List cw)) (0+11) (λx y=>{x with Built:=y}):=λk cs cy x y hx hy=>(Upd.snd (Upd.snd (Upd.snd (Upd.snd (Upd.fst Upd.self))))) k cs cy (x.aK,x.Land,x.Easements,x.Windows,x.Built,x.Base) y hx hy
theorem Cw:Upd (α:=aT) (β:=(List Entry)) (0+12) (λx y=>{x with Base:=y}):=λk cs cy x y hx hy=>(Upd.snd (Upd.snd (Upd.snd (Upd.snd (Upd.snd Upd.self))))) k cs cy (x.aK,x.Land,x.Easements,x.Windows,x.Built,x.Base) y hx hy
theorem DR:Mq [bN,bM]:=⟨CK,Cw,trivial⟩
theorem LS:(Tryz.prog.info? 34).map (·.size)=some (Enc.sz (List cw)):=by kernel_rfl
theorem Nd:(Tryz.prog.info? 35).map (·.size)=some (Enc.sz (List Entry)):=by kernel_rfl
theorem HI{k:K}{v0 v1:Value}{x0:Int}{x1:aD}(h0:IsV x0 v0 k)(h1:IsV x1 v1 k):∃v,(∀w,(Instr.build 132 #[(0,v0),(1,v1)]).run Tryz.prog w= .ok v w)/\IsV (⟨x0,x1⟩:cw) v k:=by obtain⟨l0,e0,r0,n0⟩:=eH h0;obtain⟨u0_0,rfl⟩:=H8 n0;obtain⟨l1,e1,r1,n1⟩:=eH h1;obtain⟨u1_0,u1_1,u1_2,u1_3,u1_4,u1_5,u1_6,u1_7,u1_8,rfl⟩:=P5 n1;refine⟨.agg #[u0_0,u1_0,u1_1,u1_2,u1_3,u1_4,u1_5,u1_6,u1_7,u1_8],λw=>?_,[u0_0,u1_0,u1_1,u1_2,u1_3,u1_4,u1_5,u1_6,u1_7,u1_8],rfl,⟨rfl,r0,r1⟩⟩;simp[Instr.build,Instr.fill,mh,e0,e1]
theorem HD{k:K}{v0 v1:Value}{x0:ByteArray}{x1:Int}(h0:IsV x0 v0 k)(h1:IsV x1 v1 k):∃v,(∀w,(Instr.build 135 #[(0,v0),(1,v1)]).run Tryz.prog w= .ok v w)/\IsV (⟨x0,x1⟩:Entry) v k:=by obtain⟨l0,e0,r0,n0⟩:=eH h0;obtain⟨u0_0,rfl⟩:=H8 n0;obtain⟨l1,e1,r1,n1⟩:=eH h1;obtain⟨u1_0,rfl⟩:=H8 n1;refine⟨.agg #[u0_0,u1_0],λw=>?_,[u0_0,u1_0],rfl,⟨rfl,r0,r1⟩⟩;simp[Instr.build,Instr.fill,mh,e0,e1]
theorem DO(x:aT):wH x [bN,bM]:=⟨CK,rfl,(λ _ h=>by cases h with|head=>decide|tail _ h=>exact nomatch h),⟨Cw,rfl,(λ _ h=>nomatch h),trivial⟩⟩
theorem SX:(Tryz.prog.info? 37).map (·.size)=some (Enc.sz aT):=by kernel_rfl
theorem LD:cu Tryz.prog 42 0 0:=⟨_,_,0,Tryz.underlying42,rfl,rfl,by kernel_rfl⟩
theorem wk(y:ay)(ad:Addr)(k:K)(h:At y ad k):At y.Lot (ad.add 0) k:=have h0:At (y.Lot,y.Phases) ad k:=h
 At.fst (At.zero h0)
theorem PR:Ty Tryz.prog 69 (List aC):=⟨⟨_,Tryz.underlying69,rfl⟩,by kernel_rfl⟩
theorem PM:dX Tryz.prog 308 ah:=⟨_,_,rfl,rfl,rfl,rfl,by decide,by decide⟩
theorem Pw:zr Tryz.prog 308 ah:=by
 refine⟨by kernel_rfl,λk x y u v hx hy=>?_⟩;obtain⟨csx,ex,rx⟩:=hx;have fx:csx=[.int .i64 x.from_, .int .i64 x.to_]:=by have hl:=Enc.len rx;obtain⟨u0,u1,rfl⟩:=N8 hl;obtain⟨_,qx0,qx1⟩:=rx;have qx0:u0= .int .i64 x.from_:=hd1 (show[u0]=[.int .i64 x.from_]from qx0);have qx1:u1= .int .i64 x.to_:=hd1 (show[u1]=[.int .i64 x.to_]from qx1);rw[qx0,qx1]
 obtain⟨csy,ey,ry⟩:=hy;have fy:csy=[.int .i64 y.from_, .int .i64 y.to_]:=by have hl:=Enc.len ry;obtain⟨u0,u1,rfl⟩:=N8 hl;obtain⟨_,qy0,qy1⟩:=ry;have qy0:u0= .int .i64 y.from_:=hd1 (show[u0]=[.int .i64 y.from_]from qy0);have qy1:u1= .int .i64 y.to_:=hd1 (show[u1]=[.int .i64 y.to_]from qy1);rw[qy0,qy1]
 subst fx;subst fy;subst ex;subst ey;refine⟨⟨_,rfl⟩,⟨_,rfl⟩,λw=>?_⟩;show(Op.equalIn (9998+1+1) 308 (.agg #[.int .i64 x.from_, .int .i64 x.to_]) (.agg #[.int .i64 y.from_, .int .i64 y.to_])).run Tryz.prog w=_;rw[run_equalIn_struct w _ 308 _ _ (by kernel_rfl) Tryz.stoodInHeld308];generalize 9998=d;simp[Program.fieldsOf,Op.eqFields,part,uX,<-beq_toListBytes,eS Tryz.underlying3,run_equalIn_int w d 3 .i64 .i64 _ _ Tryz.underlying3];obtain⟨a0,a1⟩:=x;obtain⟨b0,b1⟩:=y;simp only[ah.mk.injEq];by_cases h0:a0=b0;rotate_left;.simp[h0]
 subst h0;by_cases h1:a1=b1;rotate_left;.simp[h1]
 subst h1;simp
theorem RO:Ty Tryz.prog 287 (List ah):=⟨⟨_,Tryz.underlying287,rfl⟩,by kernel_rfl⟩
theorem Ps:zr Tryz.prog 126 aC:=by
 refine⟨by kernel_rfl,λk x y u v hx hy=>?_⟩;obtain⟨csx,ex,rx⟩:=hx;have fx:csx=[.int .i64 x.X0, .int .i64 x.Y0, .int .i64 x.X1, .int .i64 x.Y1]:=by have hl:=Enc.len rx;obtain⟨u0,u1,u2,u3,rfl⟩:=SB hl;obtain⟨_,qx0,⟨_,qx1,⟨_,qx2,qx3⟩⟩⟩:=rx;have qx0:u0= .int .i64 x.X0:=hd1 (show[u0]=[.int .i64 x.X0]from qx0);have qx1:u1= .int .i64 x.Y0:=hd1 (show[u1]=[.int .i64 x.Y0]from qx1);have qx2:u2= .int .i64 x.X1:=hd1 (show[u2]=[.int .i64 x.X1]from qx2);have qx3:u3= .int .i64 x.Y1:=hd1 (show[u3]=[.int .i64 x.Y1]from qx3);rw[qx0,qx1,qx2,qx3]
 obtain⟨csy,ey,ry⟩:=hy;have fy:csy=[.int .i64 y.X0, .int .i64 y.Y0, .int .i64 y.X1, .int .i64 y.Y1]:=by have hl:=Enc.len ry;obtain⟨u0,u1,u2,u3,rfl⟩:=SB hl;obtain⟨_,qy0,⟨_,qy1,⟨_,qy2,qy3⟩⟩⟩:=ry;have qy0:u0= .int .i64 y.X0:=hd1 (show[u0]=[.int .i64 y.X0]from qy0);have qy1:u1= .int .i64 y.Y0:=hd1 (show[u1]=[.int .i64 y.Y0]from qy1);have qy2:u2= .int .i64 y.X1:=hd1 (show[u2]=[.int .i64 y.X1]from qy2);have qy3:u3= .int .i64 y.Y1:=hd1 (show[u3]=[.int .i64 y.Y1]from qy3);rw[qy0,qy1,qy2,qy3]
 subst fx;subst fy;subst ex;subst ey;refine⟨⟨_,rfl⟩,⟨_,rfl⟩,λw=>?_⟩;show(Op.equalIn (9998+1+1) 126 (.agg #[.int .i64 x.X0, .int .i64 x.Y0, .int .i64 x.X1, .int .i64 x.Y1]) (.agg #[.int .i64 y.X0, .int .i64 y.Y0, .int .i64 y.X1, .int .i64 y.Y1])).run Tryz.prog w=_;rw[run_equalIn_struct w _ 126 _ _ (by kernel_rfl) Tryz.stoodInHeld126];generalize 9998=d;simp[Program.fieldsOf,Op.eqFields,part,uX,<-beq_toListBytes,eS Tryz.underlying3,run_equalIn_int w d 3 .i64 .i64 _ _ Tryz.underlying3];obtain⟨a0,a1,a2,a3⟩:=x;obtain⟨b0,b1,b2,b3⟩:=y;simp only[aC.mk.injEq];by_cases h0:a0=b0;rotate_left;.simp[h0]
 subst h0;by_cases h1:a1=b1;rotate_left;.simp[h1]
 subst h1;by_cases h2:a2=b2;rotate_left;.simp[h2]
 subst h2;by_cases h3:a3=b3;rotate_left;.simp[h3]
 subst h3;simp
theorem Se:zr Tryz.prog 61 bo:=by
 refine⟨by kernel_rfl,λk x y u v hx hy=>?_⟩;obtain⟨csx,ex,rx⟩:=hx;have fx:csx=[.int .i64 x.X, .int .i64 x.Y, .int .i64 x.Z]:=by have hl:=Enc.len rx;obtain⟨u0,u1,u2,rfl⟩:=PQ hl;obtain⟨_,qx0,⟨_,qx1,qx2⟩⟩:=rx;have qx0:u0= .int .i64 x.X:=hd1 (show[u0]=[.int .i64 x.X]from qx0);have qx1:u1= .int .i64 x.Y:=hd1 (show[u1]=[.int .i64 x.Y]from qx1);have qx2:u2= .int .i64 x.Z:=hd1 (show[u2]=[.int .i64 x.Z]from qx2);rw[qx0,qx1,qx2]
 obtain⟨csy,ey,ry⟩:=hy;have fy:csy=[.int .i64 y.X, .int .i64 y.Y, .int .i64 y.Z]:=by have hl:=Enc.len ry;obtain⟨u0,u1,u2,rfl⟩:=PQ hl;obtain⟨_,qy0,⟨_,qy1,qy2⟩⟩:=ry;have qy0:u0= .int .i64 y.X:=hd1 (show[u0]=[.int .i64 y.X]from qy0);have qy1:u1= .int .i64 y.Y:=hd1 (show[u1]=[.int .i64 y.Y]from qy1);have qy2:u2= .int .i64 y.Z:=hd1 (show[u2]=[.int .i64 y.Z]from qy2);rw[qy0,qy1,qy2]
 subst fx;subst fy;subst ex;subst ey;refine⟨⟨_,rfl⟩,⟨_,rfl⟩,λw=>?_⟩;show(Op.equalIn (9998+1+1) 61 (.agg #[.int .i64 x.X, .int .i64 x.Y, .int .i64 x.Z]) (.agg #[.int .i64 y.X, .int .i64 y.Y, .int .i64 y.Z])).run Tryz.prog w=_;rw[run_equalIn_struct w _ 61 _ _ (by kernel_rfl) Tryz.stoodInHeld61];generalize 9998=d;simp[Program.fieldsOf,Op.eqFields,part,uX,<-beq_toListBytes,eS Tryz.underlying3,run_equalIn_int w d 3 .i64 .i64 _ _ Tryz.underlying3];obtain⟨a0,a1,a2⟩:=x;obtain⟨b0,b1,b2⟩:=y;simp only[bo.mk.injEq];by_cases h0:a0=b0;rotate_left;.simp[h0]
 subst h0;by_cases h1:a1=b1;rotate_left;.simp[h1]
 subst h1;by_cases h2:a2=b2;rotate_left;.simp[h2]
 subst h2;simp
theorem TF:Ty Tryz.prog 42 ay:=⟨⟨_,Tryz.underlying42,rfl⟩,by kernel_rfl⟩
theorem SD:tG Tryz.prog 9 (qM.kv (κ:=ByteArray)):=MI Tryz.underlying9
theorem z4:Zero Tryz.prog 4 (false:Bool):=⟨_,Tryz.zeroValue4,λ _=>⟨_,rfl,rfl⟩⟩
theorem Po:zr Tryz.prog 130 aD:=by
 refine⟨by kernel_rfl,λk x y u v hx hy=>?_⟩;obtain⟨csx,ex,rx⟩:=hx;have fx:csx=[.int .i64 x.Box.Base.X0, .int .i64 x.Box.Base.Y0, .int .i64 x.Box.Base.X1, .int .i64 x.Box.Base.Y1, .int .i64 x.Box.Z0, .int .i64 x.Box.Z1, .int .i64 x.Use, .int .i64 x.Units, .bool x.Extra]:=by have hl:=Enc.len rx;obtain⟨u0,u1,u2,u3,u4,u5,u6,u7,u8,rfl⟩:=P5 hl;obtain⟨_,⟨_,⟨_,qx0,⟨_,qx1,⟨_,qx2,qx3⟩⟩⟩,⟨_,qx4,qx5⟩⟩,⟨_,qx6,⟨_,qx7,qx8⟩⟩⟩:=rx;have qx0:u0= .int .i64 x.Box.Base.X0:=hd1 (show[u0]=[.int .i64 x.Box.Base.X0]from qx0);have qx1:u1= .int .i64 x.Box.Base.Y0:=hd1 (show[u1]=[.int .i64 x.Box.Base.Y0]from qx1);have qx2:u2= .int .i64 x.Box.Base.X1:=hd1 (show[u2]=[.int .i64 x.Box.Base.X1]from qx2);have qx3:u3= .int .i64 x.Box.Base.Y1:=hd1 (show[u3]=[.int .i64 x.Box.Base.Y1]from qx3);have qx4:u4= .int .i64 x.Box.Z0:=hd1 (show[u4]=[.int .i64 x.Box.Z0]from qx4);have qx5:u5= .int .i64 x.Box.Z1:=hd1 (show[u5]=[.int .i64 x.Box.Z1]from qx5);have qx6:u6= .int .i64 x.Use:=hd1 (show[u6]=[.int .i64 x.Use]from qx6);have qx7:u7= .int .i64 x.Units:=hd1 (show[u7]=[.int .i64 x.Units]from qx7);have qx8:u8= .bool x.Extra:=hd1 (show[u8]=[.bool x.Extra]from qx8);rw[qx0,qx1,qx2,qx3,qx4,qx5,qx6,qx7,qx8]
 obtain⟨csy,ey,ry⟩:=hy;have fy:csy=[.int .i64 y.Box.Base.X0, .int .i64 y.Box.Base.Y0, .int .i64 y.Box.Base.X1, .int .i64 y.Box.Base.Y1, .int .i64 y.Box.Z0, .int .i64 y.Box.Z1, .int .i64 y.Use, .int .i64 y.Units, .bool y.Extra]:=by have hl:=Enc.len ry;obtain⟨u0,u1,u2,u3,u4,u5,u6,u7,u8,rfl⟩:=P5 hl;obtain⟨_,⟨_,⟨_,qy0,⟨_,qy1,⟨_,qy2,qy3⟩⟩⟩,⟨_,qy4,qy5⟩⟩,⟨_,qy6,⟨_,qy7,qy8⟩⟩⟩:=ry;have qy0:u0= .int .i64 y.Box.Base.X0:=hd1 (show[u0]=[.int .i64 y.Box.Base.X0]from qy0);have qy1:u1= .int .i64 y.Box.Base.Y0:=hd1 (show[u1]=[.int .i64 y.Box.Base.Y0]from qy1);have qy2:u2= .int .i64 y.Box.Base.X1:=hd1 (show[u2]=[.int .i64 y.Box.Base.X1]from qy2);have qy3:u3= .int .i64 y.Box.Base.Y1:=hd1 (show[u3]=[.int .i64 y.Box.Base.Y1]from qy3);have qy4:u4= .int .i64 y.Box.Z0:=hd1 (show[u4]=[.int .i64 y.Box.Z0]from qy4);have qy5:u5= .int .i64 y.Box.Z1:=hd1 (show[u5]=[.int .i64 y.Box.Z1]from qy5);have qy6:u6= .int .i64 y.Use:=hd1 (show[u6]=[.int .i64 y.Use]from qy6);have qy7:u7= .int .i64 y.Units:=hd1 (show[u7]=[.int .i64 y.Units]from qy7);have qy8:u8= .bool y.Extra:=hd1 (show[u8]=[.bool y.Extra]from qy8);rw[qy0,qy1,qy2,qy3,qy4,qy5,qy6,qy7,qy8]
 subst fx;subst fy;subst ex;subst ey;refine⟨⟨_,rfl⟩,⟨_,rfl⟩,λw=>?_⟩;show(Op.equalIn (9996+1+1+1+1) 130 (.agg #[.int .i64 x.Box.Base.X0, .int .i64 x.Box.Base.Y0, .int .i64 x.Box.Base.X1, .int .i64 x.Box.Base.Y1, .int .i64 x.Box.Z0, .int .i64 x.Box.Z1, .int .i64 x.Use, .int .i64 x.Units, .bool x.Extra]) (.agg #[.int .i64 y.Box.Base.X0, .int .i64 y.Box.Base.Y0, .int .i64 y.Box.Base.X1, .int .i64 y.Box.Base.Y1, .int .i64 y.Box.Z0, .int .i64 y.Box.Z1, .int .i64 y.Use, .int .i64 y.Units, .bool y.Extra])).run Tryz.prog w=_;rw[run_equalIn_struct w _ 130 _ _ (by kernel_rfl) Tryz.stoodInHeld130];generalize 9996=d;simp[Program.fieldsOf,Op.eqFields,part,uX,<-beq_toListBytes,eS Tryz.underlying3,run_equalIn_int w d 3 .i64 .i64 _ _ Tryz.underlying3,run_equalIn_int w (d+1) 3 .i64 .i64 _ _ Tryz.underlying3,run_equalIn_int w (d+2) 3 .i64 .i64 _ _ Tryz.underlying3,eS Tryz.underlying4,run_equalIn_bool w d 4 _ _ Tryz.underlying4,run_equalIn_bool w (d+1) 4 _ _ Tryz.underlying4,run_equalIn_bool w (d+2) 4 _ _ Tryz.underlying4,eS Tryz.underlying126,run_equalIn_struct w _ 126 _ _ (by kernel_rfl) Tryz.stoodInHeld126,eS Tryz.underlying128,run_equalIn_struct w _ 128 _ _ (by kernel_rfl) Tryz.stoodInHeld128];obtain⟨⟨⟨a0,a1,a2,a3⟩,a4,a5⟩,a6,a7,a8⟩:=x;obtain⟨⟨⟨b0,b1,b2,b3⟩,b4,b5⟩,b6,b7,b8⟩:=y;simp only[aD.mk.injEq,Box.mk.injEq,aC.mk.injEq];by_cases h0:a0=b0;rotate_left;.simp[h0]
 subst h0;by_cases h1:a1=b1;rotate_left;.simp[h1]
 subst h1;by_cases h2:a2=b2;rotate_left;.simp[h2]
 subst h2;by_cases h3:a3=b3;rotate_left;.simp[h3]
 subst h3;by_cases h4:a4=b4;rotate_left;.simp[h4]
 subst h4;by_cases h5:a5=b5;rotate_left;.simp[h5]
 subst h5;by_cases h6:a6=b6;rotate_left;.simp[h6]
 subst h6;by_cases h7:a7=b7;rotate_left;.simp[h7]
 subst h7;by_cases h8:a8=b8;rotate_left;.simp[h8]
 subst h8;simp
theorem PC:zr Tryz.prog 135 Entry:=by
 refine⟨by kernel_rfl,λk x y u v hx hy=>?_⟩;obtain⟨csx,ex,rx⟩:=hx;have fx:csx=[.string x.Name, .int .i64 x.N]:=by have hl:=Enc.len rx;obtain⟨u0,u1,rfl⟩:=N8 hl;obtain⟨_,qx0,qx1⟩:=rx;have qx0:u0= .string x.Name:=hd1 (show[u0]=[.string x.Name]from qx0);have qx1:u1= .int .i64 x.N:=hd1 (show[u1]=[.int .i64 x.N]from qx1);rw[qx0,qx1]
 obtain⟨csy,ey,ry⟩:=hy;have fy:csy=[.string y.Name, .int .i64 y.N]:=by have hl:=Enc.len ry;obtain⟨u0,u1,rfl⟩:=N8 hl;obtain⟨_,qy0,qy1⟩:=ry;have qy0:u0= .string y.Name:=hd1 (show[u0]=[.string y.Name]from qy0);have qy1:u1= .int .i64 y.N:=hd1 (show[u1]=[.int .i64 y.N]from qy1);rw[qy0,qy1]
 subst fx;subst fy;subst ex;subst ey;refine⟨⟨_,rfl⟩,⟨_,rfl⟩,λw=>?_⟩;show(Op.equalIn (9998+1+1) 135 (.agg #[.string x.Name, .int .i64 x.N]) (.agg #[.string y.Name, .int .i64 y.N])).run Tryz.prog w=_;rw[run_equalIn_struct w _ 135 _ _ (by kernel_rfl) Tryz.stoodInHeld135];generalize 9998=d;simp[Program.fieldsOf,Op.eqFields,part,uX,<-beq_toListBytes,eS Tryz.underlying3,run_equalIn_int w d 3 .i64 .i64 _ _ Tryz.underlying3,eS Tryz.underlying9,run_equalIn_string w d 9 _ _ Tryz.underlying9];obtain⟨a0,a1⟩:=x;obtain⟨b0,b1⟩:=y;simp only[Entry.mk.injEq];by_cases h0:a0=b0;rotate_left;.simp[h0,Ij]
 subst h0;by_cases h1:a1=b1;rotate_left;.simp[h1,Ij]
 subst h1;simp[Ij]
theorem JE:dX Tryz.prog 44 aq:=⟨_,_,rfl,rfl,rfl,rfl,by decide,by decide⟩
def yX:iA aT:=⟨0+10,lp,inferInstance,63,λx=>x.Windows,λx y=>{x with Windows:=y}⟩
theorem Rb:dX Tryz.prog 69 (List aC):=⟨_,_,rfl,rfl,rfl,rfl,by decide,by decide⟩
theorem Bl:(Tryz.prog.info? 126).map (·.size)=some (Enc.sz aC):=by kernel_rfl
theorem qF:Ty Tryz.prog 126 aC:=⟨⟨_,Tryz.underlying126,rfl⟩,by kernel_rfl⟩
theorem R6:Zero Tryz.prog 126 ((⟨0,0,0,0⟩:aC):aC):=⟨_,Tryz.zeroValue126,λ _=>⟨_,rfl,⟨rfl,rfl,⟨rfl,rfl,⟨rfl,rfl,rfl⟩⟩⟩⟩⟩
set_option maxHeartbeats 4000000 in
set_option synthInstance.maxHeartbeats 1000000 in
set_option synthInstance.maxSize 4000 in
noncomputable def tb : Tb where
  P := Tryz.prog
  S := λ n => match n with
    | 0 => bX
    | 1 => fc
    | 2 => aC
    | 3 => Phase
    | 4 => aD
    | 5 => Box
    | 6 => Entry
    | 7 => aT
    | 8 => aK
    | 9 => Def
    | 10 => Expr
    | 11 => Table
    | 12 => C7
    | 13 => DE
    | 14 => qQ
    | 15 => Cap
    | 16 => View
    | 17 => bo
    | 18 => Lot
    | 19 => lT
    | 20 => lp
    | 21 => cw
    | 22 => cg
    | 23 => ah
    | 24 => aH
    | 25 => bj
    | 26 => bZ
    | 27 => cV
    | 28 => au
    | 29 => aq
    | 30 => ay
    | 31 => bT
    | 32 => bn
    | 33 => (ByteArray × ByteArray × ByteArray × ByteArray × ByteArray × ByteArray)
    | 34 => fZ
    | _ + 35 => Unit
  fs := λ n => match n with
    | 0 => [.st 1, .st 1]
    | 1 => [.int, .int]
    | 2 => [.int, .int, .int, .int]
    | 3 => [.list (.st 4), .list (.st 6)]
    | 4 => [.st 5, .int, .int, .bool]
    | 5 => [.st 2, .int, .int]
    | 6 => [.str, .int]
    | 7 => [.st 8, .list (.st 18), .list (.st 19), .list (.st 20), .list (.st 21), .list (.st 6)]
    | 8 => [.list (.st 9), .list (.st 11), .list (.st 12), .list (.st 13), .list (.st 15), .list (.st 16), .list (.st 17), .int]
    | 9 => [.str, .st 10]
    | 10 => [.int, .int, .str, .str, .op]
    | 11 => [.str, .list (.st 6), .int]
    | 12 => [.str, .bool, .list (.st 1)]
    | 13 => [.str, .list .str, .list .str, .int, .int, .int, .bool, .int, .st 10, .st 14, .int, .int, .int]
    | 14 => [.int, .int, .int, .int]
    | 15 => [.str, .int, .int, .list (.st 1)]
    | 16 => [.str, .st 17, .int, .list (.st 17)]
    | 17 => [.int, .int, .int]
    | 18 => [.int, .int, .list (.st 2), .list .int]
    | 19 => [.int, .list (.st 2), .int]
    | 20 => [.int, .st 17]
    | 21 => [.int, .st 4]
    | 22 => [.int, .int, .list (.st 2)]
    | 23 => [.int, .int]
    | 24 => [.int, .int, .list (.st 23)]
    | 25 => [.st 26, .st 26, .bool, .bool]
    | 26 => [.int, .int, .bool]
    | 27 => [.int, .str, .int]
    | 28 => [.int, .int, .st 29]
    | 29 => [.int, .int, .st 30, .int, .int, .bool]
    | 30 => [.int, .list (.st 3)]
    | 31 => [.int, .list .int, .pv, .list (.st 28)]
    | 32 => [.str, .int, .int, .int]
    | 33 => [.str, .str, .str, .str, .str, .str]
    | 34 => [.str, .int, .list .int]
    | _ + 35 => []
  to := λ n => match n with
    | 0 => λ x => (x.a, x.b)
    | 1 => λ x => (x.X, x.Y)
    | 2 => λ x => (x.X0, x.Y0, x.X1, x.Y1)
    | 3 => λ x => (x.Volumes, x.ba)
    | 4 => λ x => (x.Box, x.Use, x.Units, x.Extra)
    | 5 => λ x => (x.Base, x.Z0, x.Z1)
    | 6 => λ x => (x.Name, x.N)
    | 7 => λ x => (x.aK, x.Land, x.Easements, x.Windows, x.Built, x.Base)
    | 8 => λ x => (x.Defs, x.Tables, x.Zones, x.Rules, x.Caps, x.Views, x.Sun, x.Hours)
    | 9 => λ x => (x.Name, x.Body)
    | 10 => λ x => (x.Op, x.N, x.S, x.Key, x.Args)
    | 11 => λ x => (x.Name, x.Rows, x.Else)
    | 12 => λ x => (x.Name, x.Overlay, x.Corners)
    | 13 => λ x => (x.Name, x.Zones, x.Except, x.From, x.Until, x.Grace, x.Vary, x.Kind, x.Test, x.qQ, x.Uses, x.Other, x.N)
    | 14 => λ x => (x.Side, x.Base, x.Num, x.Den)
    | 15 => λ x => (x.Name, x.Load, x.cV, x.Corners)
    | 16 => λ x => (x.Name, x.Eye, x.Least, x.Targets)
    | 17 => λ x => (x.X, x.Y, x.Z)
    | 18 => λ x => (x.Id, x.Owner, x.Area, x.From)
    | 19 => λ x => (x.Lot, x.Area, x.Top)
    | 20 => λ x => (x.Lot, x.At)
    | 21 => λ x => (x.Lot, x.aD)
    | 22 => λ x => (x.Z0, x.Z1, x.Area)
    | 23 => λ x => (x.from_, x.to_)
    | 24 => λ x => (x.x0, x.x1, x.column)
    | 25 => λ x => (x.lo, x.hi, x.top, x.none_)
    | 26 => λ x => (x.n, x.d, x.open_)
    | 27 => λ x => (x.Kind, x.Name, x.N)
    | 28 => λ x => (x.Counter, x.Number, x.aq)
    | 29 => λ x => (x.Id, x.Holder, x.ay, x.Used, x.Until, x.Over)
    | 30 => λ x => (x.Lot, x.Phases)
    | 31 => λ x => (x.number, x.district, x.desk, x.register)
    | 32 => λ x => (x.Cap, x.Counter, x.Held, x.Used)
    | 33 => λ x => x
    | 34 => λ x => (x.Cap, x.Base, x.Tops)
    | _ + 35 => λ _ => ()
  of := λ n => match n with
    | 0 => λ x => ⟨x.1, x.2⟩
    | 1 => λ x => ⟨x.1, x.2⟩
    | 2 => λ x => ⟨x.1, x.2.1, x.2.2.1, x.2.2.2⟩
    | 3 => λ x => ⟨x.1, x.2⟩
    | 4 => λ x => ⟨x.1, x.2.1, x.2.2.1, x.2.2.2⟩
    | 5 => λ x => ⟨x.1, x.2.1, x.2.2⟩
    | 6 => λ x => ⟨x.1, x.2⟩
    | 7 => λ x => ⟨x.1, x.2.1, x.2.2.1, x.2.2.2.1, x.2.2.2.2.1, x.2.2.2.2.2⟩
    | 8 => λ x => ⟨x.1, x.2.1, x.2.2.1, x.2.2.2.1, x.2.2.2.2.1, x.2.2.2.2.2.1, x.2.2.2.2.2.2.1, x.2.2.2.2.2.2.2⟩
    | 9 => λ x => ⟨x.1, x.2⟩
    | 10 => λ x => ⟨x.1, x.2.1, x.2.2.1, x.2.2.2.1, x.2.2.2.2⟩
    | 11 => λ x => ⟨x.1, x.2.1, x.2.2⟩
    | 12 => λ x => ⟨x.1, x.2.1, x.2.2⟩
    | 13 => λ x => ⟨x.1, x.2.1, x.2.2.1, x.2.2.2.1, x.2.2.2.2.1, x.2.2.2.2.2.1, x.2.2.2.2.2.2.1, x.2.2.2.2.2.2.2.1, x.2.2.2.2.2.2.2.2.1, x.2.2.2.2.2.2.2.2.2.1, x.2.2.2.2.2.2.2.2.2.2.1, x.2.2.2.2.2.2.2.2.2.2.2.1, x.2.2.2.2.2.2.2.2.2.2.2.2⟩
    | 14 => λ x => ⟨x.1, x.2.1, x.2.2.1, x.2.2.2⟩
    | 15 => λ x => ⟨x.1, x.2.1, x.2.2.1, x.2.2.2⟩
    | 16 => λ x => ⟨x.1, x.2.1, x.2.2.1, x.2.2.2⟩
    | 17 => λ x => ⟨x.1, x.2.1, x.2.2⟩
    | 18 => λ x => ⟨x.1, x.2.1, x.2.2.1, x.2.2.2⟩
    | 19 => λ x => ⟨x.1, x.2.1, x.2.2⟩
    | 20 => λ x => ⟨x.1, x.2⟩
    | 21 => λ x => ⟨x.1, x.2⟩
    | 22 => λ x => ⟨x.1, x.2.1, x.2.2⟩
    | 23 => λ x => ⟨x.1, x.2⟩
    | 24 => λ x => ⟨x.1, x.2.1, x.2.2⟩
    | 25 => λ x => ⟨x.1, x.2.1, x.2.2.1, x.2.2.2⟩
    | 26 => λ x => ⟨x.1, x.2.1, x.2.2⟩
    | 27 => λ x => ⟨x.1, x.2.1, x.2.2⟩
    | 28 => λ x => ⟨x.1, x.2.1, x.2.2⟩
    | 29 => λ x => ⟨x.1, x.2.1, x.2.2.1, x.2.2.2.1, x.2.2.2.2.1, x.2.2.2.2.2⟩
    | 30 => λ x => ⟨x.1, x.2⟩
    | 31 => λ x => ⟨x.1, x.2.1, x.2.2.1, x.2.2.2⟩
    | 32 => λ x => ⟨x.1, x.2.1, x.2.2.1, x.2.2.2⟩
    | 33 => λ x => x
    | 34 => λ x => ⟨x.1, x.2.1, x.2.2⟩
    | _ + 35 => λ _ => ()
  zero := λ n => match n with
    | 0 => (default : bX)
    | 1 => (default : fc)
    | 2 => (default : aC)
    | 3 => (default : Phase)
    | 4 => (default : aD)
    | 5 => (default : Box)
    | 6 => (default : Entry)
    | 7 => (default : aT)
    | 8 => (default : aK)
    | 9 => (default : Def)
    | 10 => (default : Expr)
    | 11 => (default : Table)
    | 12 => (default : C7)
    | 13 => (default : DE)
    | 14 => (default : qQ)
    | 15 => (default : Cap)
    | 16 => (default : View)
    | 17 => (default : bo)
    | 18 => (default : Lot)
    | 19 => (default : lT)
    | 20 => (default : lp)
    | 21 => (default : cw)
    | 22 => (default : cg)
    | 23 => (default : ah)
    | 24 => (default : aH)
    | 25 => (default : bj)
    | 26 => (default : bZ)
    | 27 => (default : cV)
    | 28 => (default : au)
    | 29 => (default : aq)
    | 30 => (default : ay)
    | 31 => (default : bT)
    | 32 => (default : bn)
    | 33 => (default : (ByteArray × ByteArray × ByteArray × ByteArray × ByteArray × ByteArray))
    | 34 => (default : fZ)
    | _ + 35 => ()
  deq := λ n => match n with
    | 0 => (inferInstance : DecidableEq bX)
    | 1 => (inferInstance : DecidableEq fc)
    | 2 => (inferInstance : DecidableEq aC)
    | 3 => (inferInstance : DecidableEq Phase)
    | 4 => (inferInstance : DecidableEq aD)
    | 5 => (inferInstance : DecidableEq Box)
    | 6 => (inferInstance : DecidableEq Entry)
    | 7 => (inferInstance : DecidableEq aT)
    | 8 => (inferInstance : DecidableEq aK)
    | 9 => (inferInstance : DecidableEq Def)
    | 10 => (inferInstance : DecidableEq Expr)
    | 11 => (inferInstance : DecidableEq Table)
    | 12 => (inferInstance : DecidableEq C7)
    | 13 => (inferInstance : DecidableEq DE)
    | 14 => (inferInstance : DecidableEq qQ)
    | 15 => (inferInstance : DecidableEq Cap)
    | 16 => (inferInstance : DecidableEq View)
    | 17 => (inferInstance : DecidableEq bo)
    | 18 => (inferInstance : DecidableEq Lot)
    | 19 => (inferInstance : DecidableEq lT)
    | 20 => (inferInstance : DecidableEq lp)
    | 21 => (inferInstance : DecidableEq cw)
    | 22 => (inferInstance : DecidableEq cg)
    | 23 => (inferInstance : DecidableEq ah)
    | 24 => (inferInstance : DecidableEq aH)
    | 25 => (inferInstance : DecidableEq bj)
    | 26 => (inferInstance : DecidableEq bZ)
    | 27 => (inferInstance : DecidableEq cV)
    | 28 => (inferInstance : DecidableEq au)
    | 29 => (inferInstance : DecidableEq aq)
    | 30 => (inferInstance : DecidableEq ay)
    | 31 => (inferInstance : DecidableEq bT)
    | 32 => (inferInstance : DecidableEq bn)
    | 33 => (inferInstance : DecidableEq (ByteArray × ByteArray × ByteArray × ByteArray × ByteArray × ByteArray))
    | 34 => (inferInstance : DecidableEq fZ)
    | _ + 35 => (inferInstance : DecidableEq Unit)
  enc := λ n => match n with
    | 0 => (inferInstance : Enc bX)
    | 1 => (inferInstance : Enc fc)
    | 2 => (inferInstance : Enc aC)
    | 3 => (inferInstance : Enc Phase)
    | 4 => (inferInstance : Enc aD)
    | 5 => (inferInstance : Enc Box)
    | 6 => (inferInstance : Enc Entry)
    | 7 => (inferInstance : Enc aT)
    | 8 => (inferInstance : Enc aK)
    | 9 => (inferInstance : Enc Def)
    | 10 => (inferInstance : Enc Expr)
    | 11 => (inferInstance : Enc Table)
    | 12 => (inferInstance : Enc C7)
    | 13 => (inferInstance : Enc DE)
    | 14 => (inferInstance : Enc qQ)
    | 15 => (inferInstance : Enc Cap)
    | 16 => (inferInstance : Enc View)
    | 17 => (inferInstance : Enc bo)
    | 18 => (inferInstance : Enc Lot)
    | 19 => (inferInstance : Enc lT)
    | 20 => (inferInstance : Enc lp)
    | 21 => (inferInstance : Enc cw)
    | 22 => (inferInstance : Enc cg)
    | 23 => (inferInstance : Enc ah)
    | 24 => (inferInstance : Enc aH)
    | 25 => (inferInstance : Enc bj)
    | 26 => (inferInstance : Enc bZ)
    | 27 => (inferInstance : Enc cV)
    | 28 => (inferInstance : Enc au)
    | 29 => (inferInstance : Enc aq)
    | 30 => (inferInstance : Enc ay)
    | 31 => (inferInstance : Enc bT)
    | 32 => (inferInstance : Enc bn)
    | 33 => (inferInstance : Enc (ByteArray × ByteArray × ByteArray × ByteArray × ByteArray × ByteArray))
    | 34 => (inferInstance : Enc fZ)
    | _ + 35 => Enc.ofMap (σ := Unit) (β := Unit) λ x => x
  to_of := λ n => match n with
    | 0 => λ _ => rfl
    | 1 => λ _ => rfl
    | 2 => λ _ => rfl
    | 3 => λ _ => rfl
    | 4 => λ _ => rfl
    | 5 => λ _ => rfl
    | 6 => λ _ => rfl
    | 7 => λ _ => rfl
    | 8 => λ _ => rfl
    | 9 => λ _ => rfl
    | 10 => λ _ => rfl
    | 11 => λ _ => rfl
    | 12 => λ _ => rfl
    | 13 => λ _ => rfl
    | 14 => λ _ => rfl
    | 15 => λ _ => rfl
    | 16 => λ _ => rfl
    | 17 => λ _ => rfl
    | 18 => λ _ => rfl
    | 19 => λ _ => rfl
    | 20 => λ _ => rfl
    | 21 => λ _ => rfl
    | 22 => λ _ => rfl
    | 23 => λ _ => rfl
    | 24 => λ _ => rfl
    | 25 => λ _ => rfl
    | 26 => λ _ => rfl
    | 27 => λ _ => rfl
    | 28 => λ _ => rfl
    | 29 => λ _ => rfl
    | 30 => λ _ => rfl
    | 31 => λ _ => rfl
    | 32 => λ _ => rfl
    | 33 => λ _ => rfl
    | 34 => λ _ => rfl
    | _ + 35 => λ _ => rfl
  zero_eq := λ n => match n with
    | 0 => rfl
    | 1 => rfl
    | 2 => rfl
    | 3 => rfl
    | 4 => rfl
    | 5 => rfl
    | 6 => rfl
    | 7 => rfl
    | 8 => rfl
    | 9 => rfl
    | 10 => rfl
    | 11 => rfl
    | 12 => rfl
    | 13 => rfl
    | 14 => rfl
    | 15 => rfl
    | 16 => rfl
    | 17 => rfl
    | 18 => rfl
    | 19 => rfl
    | 20 => rfl
    | 21 => rfl
    | 22 => rfl
    | 23 => rfl
    | 24 => rfl
    | 25 => rfl
    | 26 => rfl
    | 27 => rfl
    | 28 => rfl
    | 29 => rfl
    | 30 => rfl
    | 31 => rfl
    | 32 => rfl
    | 33 => rfl
    | 34 => rfl
    | _ + 35 => rfl
  enc_eq := λ n => match n with
    | 0 => rfl
    | 1 => rfl
    | 2 => rfl
    | 3 => rfl
    | 4 => rfl
    | 5 => rfl
    | 6 => rfl
    | 7 => rfl
    | 8 => rfl
    | 9 => rfl
    | 10 => rfl
    | 11 => rfl
    | 12 => rfl
    | 13 => rfl
    | 14 => rfl
    | 15 => rfl
    | 16 => rfl
    | 17 => rfl
    | 18 => rfl
    | 19 => rfl
    | 20 => rfl
    | 21 => rfl
    | 22 => rfl
    | 23 => rfl
    | 24 => rfl
    | 25 => rfl
    | 26 => rfl
    | 27 => rfl
    | 28 => rfl
    | 29 => rfl
    | 30 => rfl
    | 31 => rfl
    | 32 => rfl
    | 33 => rfl
    | 34 => rfl
    | _ + 35 => rfl
  RD := λ n => match n with | 0 => Option CC | 1 => Option DC | 2 => aT | _ + 3 => Unit
  RP := λ n => match n with | 0 => CnN | 1 => wM | 2 => λ x F v k => ∃ b, cP b [yX] [yX] x F v k | _ + 3 => λ _ _ _ _ => False
  RPok := λ n => match n with | 0 => NX | 1 => xH | 2 => λ x => Rsc.ex λ b => inferInstanceAs (Rsc (cP b [yX] [yX] x)) | _ + 3 => λ _ => ⟨λ h => h.elim, λ h => h.elim, λ h => h.elim, λ h => h.elim⟩
  RPone := λ n => match n with | 0 => O9 | 1 => BO | 2 => λ x y F G v k h h' => h.elim λ _ h => h'.elim λ _ h' => h.one h' | _ + 3 => λ _ _ _ _ _ _ h => h.elim
  RN := λ n => match n with | 0 => λ x => some x.isNone | 1 => λ x => some x.isNone | 2 => λ _ => none | _ + 3 => λ _ => none
  RNok := λ n => match n with | 0 => Ou | 1 => Kw | 2 => (λ _ _ _ _ _ _ h => by cases h) | _ + 3 => λ _ _ _ _ _ h => h.elim
  RZ := λ n => match n with | 0 => none | 1 => none | 2 => default | _ + 3 => ()
  RProot := λ n => match n with | 0 => λ x F v k b h hv _ => NC x F v k b h hv | 1 => λ x F v k b h hv _ => Hg x F v k b h hv | 2 => λ x F v k b h hv _ => h.elim λ _ h => h.root hv | _ + 3 => λ _ _ _ _ _ h => h.elim
  RL := λ n => match n with | 0 => λ _ => none | 1 => λ _ => none | 2 => λ _ => none | _ + 3 => λ _ => none
  RLok := λ n => match n with | 0 => (λ _ _ _ _ _ _ _ h => by cases h) | 1 => (λ _ _ _ _ _ _ _ h => by cases h) | 2 => (λ _ _ _ _ _ _ _ h => by cases h) | _ + 3 => (λ _ _ _ _ _ _ _ h => by cases h)
def tid:TypeId->Option Tp:=Tl [(87, .st 32),(9, .str),(3, .int),(30, .st 8),(37, .st 7),(42, .st 30),(44, .st 29),(54, .st 28),(61, .st 17),(63, .st 20),(65, .st 27),(69, .list (.st 2)),(71, .st 18),(90, .st 15),(92, .st 34),(99, .st 16),(101, .st 11),(126, .st 2),(128, .st 5),(130, .st 4),(132, .st 21),(135, .st 6),(139, .st 3),(165, .list (.st 22)),(196, .st 1),(216, .st 22),(219, .st 26),(221, .st 25),(267, .st 0),(287, .list (.st 23)),(289, .st 24),(299, .st 33),(308, .st 23)]
def eqs:List (TypeId×Nat):=[(308,23),(126,2),(61,17),(130,4),(135,6)]
theorem Nr:vY Tryz.prog tb eqs:=⟨Pw,Ps,Se,Po,PC,trivial⟩
def mk(f:FuncId)(dom cod:List Tp)(run:HL tb.S dom->Option (HL tb.S cod))(ks:List (Fk tb Tryz.prog))(own:List Nat)(fn:Func)(h:Hn tb)(hf:Tryz.prog.funcs[f]?=some fn)(hc:∀args w,(callFunc f args).run Tryz.prog w= .ok (.enter f args) w)(hb:fn.body=some (body fn))(hl:Nat.ble dom.length fn.ntmps=true)(he:∀x,evF ⟨Tryz.prog,tid,eqs,kD ks,[],false,own,fn.results.toList,fn.ntmps,yT,λc=>c∈mb (body fn),[]⟩ (body fn) h dom cod x=run x):Fk tb Tryz.prog:=⟨f,⟨dom,cod,run⟩,SJ ks own fn h Nr om rfl hf hc hb hl he⟩
def mkc(f:FuncId)(dom cod:List Tp)(run:HL tb.S dom->Option (HL tb.S cod))(ks:List (Fk tb Tryz.prog))(rks:List (FkR tb Tryz.prog))(own:List Nat)(fn:Func)(h:Hn tb)(hf:Tryz.prog.funcs[f]?=some fn)(hc:∀args w,(callFunc f args).run Tryz.prog w= .ok (.enter f args) w)(hb:fn.body=some (body fn))(hl:Nat.ble dom.length fn.ntmps=true)(he:∀x,evF ⟨Tryz.prog,tid,eqs,kD ks,jX rks,false,own,fn.results.toList,fn.ntmps,yT,λc=>c∈mb (body fn),[]⟩ (body fn) h dom cod x=run x):Fk tb Tryz.prog:=⟨f,⟨dom,cod,run⟩,My ks rks [] false own fn yT (zi rfl) h Nr om rfl hf hc hb hl he⟩
def mkR(f:FuncId)(d:FnR tb)(pr:d.tu.D tb×d.ro.D tb×HL tb.S d.cod->d.ρ)(hpr:∀r,d.inj (pr r)=r)(ks:List (Fk tb Tryz.prog))(rks:List (FkR tb Tryz.prog))(wr:Bool)(own:List Nat)(fn:Func)(h:Hn tb)(sl:Nat)(hf:Tryz.prog.funcs[f]?=some fn)(hc:∀args w,(callFunc f args).run Tryz.prog w= .ok (.enter f args) w)(hb:fn.body=some (body fn))(hl:Nat.ble d.pm.length fn.ntmps=true)(hs:Qs d sl (body fn)=true)(he:∀x y z,QF ⟨Tryz.prog,tid,eqs,kD ks,jX rks,wr,own,fn.results.toList,fn.ntmps,yT,λc=>c∈mb (body fn),[]⟩ (body fn) h d pr hpr sl x y z=d.run x y z):FkR tb Tryz.prog:=⟨f,d,SV pr hpr ks rks [] wr own fn yT (zi rfl) h sl Nr om rfl hf hc hb hl hs he⟩
def mkO(f:FuncId)(dom cod:List Tp)(run:HL tb.S dom->Option (HL tb.S cod))(hc:∀args w,(callFunc f args).run Tryz.prog w= .ok (.enter f args) w)(ok:∀(k0:K)(vs:List Value)(x:HL tb.S dom)(r:HL tb.S cod),GOk tb k0->HIs dom x vs k0->run x=some r->Calls Tryz.prog f vs.toArray k0.w (Ret k0 λu k=>(oy cod r).is ⟨#[],[]⟩ u k)):Fk tb Tryz.prog:=⟨f,⟨dom,cod,run⟩,hc,ok⟩
def glv:Nat->Option (Σ t:Tp,t.den tb.S):=λg=>match g with|_=>none
theorem gl0:(∀g,tb.gl g=none)/\tb.gi=none:=⟨λ _=>rfl,rfl⟩
def giv:Option Nat:=some 0
noncomputable def tbg:Tb:=tb.zF glv giv
theorem Nq:vY Tryz.prog tbg eqs:=⟨Pw,Ps,Se,Po,PC,trivial⟩
def mkg(f:FuncId)(dom cod:List Tp)(run:HL tbg.S dom->Option (HL tbg.S cod))(ks:List (Fk tbg Tryz.prog))(own:List Nat)(fn:Func)(h:Hn tbg)(hf:Tryz.prog.funcs[f]?=some fn)(hc:∀args w,(callFunc f args).run Tryz.prog w= .ok (.enter f args) w)(hb:fn.body=some (body fn))(hl:Nat.ble dom.length fn.ntmps=true)(he:∀x,evF ⟨Tryz.prog,tid,eqs,kD ks,[],false,own,fn.results.toList,fn.ntmps,yT,λc=>c∈mb (body fn),[]⟩ (body fn) h dom cod x=run x):Fk tbg Tryz.prog:=⟨f,⟨dom,cod,run⟩,SJ ks own fn h (T:=tbg) Nq om rfl hf hc hb hl he⟩
def U2(f:FuncId)(dom cod:List Tp)(run:HL tbg.S dom->Option (HL tbg.S cod))(hc:∀args w,(callFunc f args).run Tryz.prog w= .ok (.enter f args) w)(ok:∀(k0:K)(vs:List Value)(x:HL tbg.S dom)(r:HL tbg.S cod),GOk tbg k0->HIs dom x vs k0->run x=some r->Calls Tryz.prog f vs.toArray k0.w (Ret k0 λu k=>(oy cod r).is ⟨#[],[]⟩ u k)):Fk tbg Tryz.prog:=⟨f,⟨dom,cod,run⟩,hc,ok⟩
end Go.Proofs.YtlckpjpbladknaaGreat
