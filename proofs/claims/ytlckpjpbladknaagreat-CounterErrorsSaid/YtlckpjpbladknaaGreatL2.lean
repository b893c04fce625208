/- part 2 of the proof -/
import Derived.Test.YtlckpjpbladknaaGreatL1
set_option linter.unusedVariables false
set_option linter.unusedSimpArgs false
set_option linter.unusedSectionVars false
noncomputable section
namespace Go.Gb
class Fy(R:FP->Pred):Prop where
 keep:∀{F G:FP}{v:Value}{k k':K},R F v k->Chg G k k'->aB F G->(∀b,G b->¬k.sh b)->R F v k'
 lt:∀{F:FP}{v:Value}{k:K},R F v k->∀b,F b->b<k.w.heap.size/\¬k.sh b
instance{R:FP->Pred}[Rsc R]:Fy R:=⟨λh c f g=>Rsc.keep h c f g,λh b e=>⟨Rsc.lt h b e,Rsc.nsh h b e⟩⟩
theorem AW{R:Pred}(h:∀{v:Value}{k f:K}{G:FP},R v k->Chg G k f->(∀b,G b->¬k.sh b)->R v f):Fy (kB R):=⟨λ⟨e,r⟩c _ j=>⟨e,h r c j⟩,λ⟨e,_⟩b g=>by rw[e]at g;exact g.elim⟩
structure ShL where
 vs:Nat
 need:List (Nat×Option Nat)cons:List Nat
def nS.sh(e:nS):ShL:=⟨e.vs,e.need,e.cons⟩
def ObX(P:Program)(f:List nS)(a0:Act)(g:K)(F:FP)(o:Oper)(e:nS):Prop:=Fy e.R/\∀a k G,a.tmps.size=a0.tmps.size->Chg F g k->qj f a0 a k e.need->xe f a k e.cons G->Eh P o a k G e.R e.vs
def Iw(n N:Nat)(f:List Oper)(g:List ShL)(m:List Nat)(i:Nat)(o:Oper)(e:ShL):Bool:=o.guard.isNone&&(match o.dst with|some d=>decide (d<n)&&Nat.beq e.vs d&&allI (λx ex=>Nat.beq x i||!(Nat.beq ex.vs d)||dW m x i) 0 g&&allI (λx u=>Nat.beq x i||u.dst !=some d) 0 f|none=>e.cons.length==1&&e.cons.all (λj=>(match nth g j with|some q=>Nat.beq q.vs e.vs|none=>false)))&&(aU o).all (λj=>decide (j<i))&&e.need.all (λx=>match x.2 with|some j=>(Nat.beq j N||(aU o).contains j)&&(match nth g j with|some q=>Nat.beq q.vs x.1|none=>false)&&allI (λh ex=>Nat.beq h i||!(ex.cons.contains j)||dW m h i) 0 g|none=>allI (λj w=>w.dst !=some x.1||Nat.beq j i||dW m j i) 0 f)&&e.cons.all (λj=>(Nat.beq j N||dW m i j)&&allI (λh ex=>Nat.beq h i||!(ex.cons.contains j)) 0 g)
def oM(n N:Nat)(f:List Oper)(g:List ShL)(m:List Nat):Nat->List Oper->List ShL->Bool|i,o::h,e::j=>Iw n N f g m i o e&&oM n N f g m (i+1) h j|_,[],[e]=>e.cons.isEmpty|_,_,_=>false
theorem vI{n N:Nat}{g:List Oper}{m:List ShL}{w:List Nat}:∀{f:List Oper}{q:List ShL}{i:Nat},oM n N g m w i f q=true->∀j o,nth f j=some o->∃e,nth q j=some e/\Iw n N g m w (i+j) o e=true|[],_,_,_,j,o,h=>by simp[nth]at h;|o::f,e::q,i,h,0,x,u=>by simp[oM]at h;simp[nth]at u;subst u;exact⟨e,rfl,h.1⟩;|o::f,e::q,i,h,j+1,x,u=>by simp[oM]at h;obtain⟨y,h1,z⟩:=vI h.2 j x (by simpa[nth]using u);exact⟨y,by simpa[nth]using h1,by rw[show i+(j+1)=i+1+j by omega];exact z⟩
theorem Dd{e g:Type}(f:e->g):∀(l:List e)(i:Nat),nth (l.map f) i=(nth l i).map f|[],_=>rfl|_::_,0=>rfl|_::l,i+1=>Dd f l i
structure LU(ops:List Oper)(es:List nS)(a0:Act)(k0:K)(F0:FP)(D:Nat->Prop)(Fs:Nat->FP)(a:Act)(k:K):Prop where
 chg:Chg F0 k0 k
 size:a.tmps.size=a0.tmps.size
 defers:a.defers=a0.defers
 vals:∀i e,D i->¬Mb es D i->nth es i=some e->e.R (Fs i) (a.get e.vs) k
 apart:∀i j,i≠j->aB (Fs i) (Fs j)own:∀i b,Fs i b->(F0 b∨k0.w.heap.size<=b)/\b<k.w.heap.size/\¬k.sh b
 rest:∀t,(∀i o,D i->nth ops i=some o->o.dst≠some t)->a.get t=a0.get t
 closed:∀j o,nth ops j=some o->D j->∀e∈aU o,D e
 mem:∀i,D i->i<ops.length∨i=ops.length
 first:D ops.length
section
variable{P:Program}{a0:Act}{k0:K}{F0:FP}{es:List nS}{A:Array Oper}{n:Nat}
theorem Me{D:Nat->Prop}{Fs:Nat->FP}{a:Act}{k:K}{i:Nat}{o:Oper}{Q:Exit->Act->World->Prop}{C:Act->World->Prop}(hn:a0.tmps.size=n)(hchk:oM n A.size A.toList (es.map nS.sh) (eB A.toList []) 0 A.toList (es.map nS.sh)=true)(hst:∀i o e,nth A.toList i=some o->nth es i=some e->ObX P es a0 k0 F0 o e)(hall:∀e,nth es A.size=some e->Fy e.R)(f:LU A.toList es a0 k0 F0 D Fs a k)(hi:nth A.toList i=some o)(M:∀j∈aU o,D j)(I:¬D i)(hQ:LetsOut Q)(hC:∀Fs' a' k',LU A.toList es a0 k0 F0 (λj=>D j∨j=i) Fs' a' k'->C a' k'.w):wpOp P A Q i C a k.w:=by
 obtain⟨e0,he0,hc⟩:=vI hchk i o hi;rw[Dd]at he0;obtain⟨e,he,rfl⟩:∃e,nth es i=some e/\e.sh=e0:=by simp_all
 rw[bS]at hc;obtain⟨hR,hob⟩:=hst i o e hi he;have hsh:∀j O,nth es j=some O->nth (es.map nS.sh) j=some O.sh:=λj O h=>by rw[Dd,h];rfl
 simp only[Iw,aG,Option.isNone_iff_eq_none]at hc;obtain⟨⟨⟨⟨hgd,u⟩,hedge⟩,T⟩,hcons⟩:=hc;have U:∀{x j:Nat},D x->dW (eB A.toList []) x j=true->D j:=λ{x j}J h=>cf (L:=A.toList) (D:=D) f.closed (λo' E=>f.closed x o' E J) h;have hbiti:∀{j:Nat},dW (eB A.toList []) i j=true->D j:=λ{j}h=>cf (L:=A.toList) (D:=D) f.closed (λo' E=>by rw[hi,aV]at E;subst E;exact M) h;have hsz:a.tmps.size=n:=f.size.trans hn;have hAi:A[i]?=some o:=by rw[<-aM];exact hi
 have hDN:D A.size:=by have:=f.first;simpa using this
 have hcj:∀j∈e.cons,D j/\¬Mb es D j:=λj m=>by
  have h:=br.1 hcons j m;simp only[aG,bU]at h;refine⟨h.1.elim (λh=>by rw[bd h];exact hDN) hbiti,λ⟨x,ex,J,g,hm⟩=>?_⟩;have:=bc h.2 x ex.sh (hsh x ex g);simp only[bS,bU,Nat.beq_eq,cH,List.contains_eq_mem,decide_eq_false_iff_not]at this;rcases this with V|V;.exact I (V▸J)
  .exact V hm
 have hlen:∀{W:List Oper}{l:List ShL}{i:Nat},oM n A.size A.toList (es.map nS.sh) (eB A.toList []) i W l=true->l.length=W.length+1:=by intro W;induction W with
 |nil=>intro l i h;match l,h with|[e],_=>rfl;|[],h=>simp[oM]at h;|_::_::_,h=>simp[oM]at h
 |cons o W ih=>intro l i h;cases l with|nil=>simp[oM]at h;|cons e l=>simp only[oM,aG]at h;simp[ih h.2]
 have hesl:es.length=A.toList.length+1:=by simpa using hlen hchk
 have hes:∀j,D j->∃O,nth es j=some O:=λj m=>by have hl:=f.mem j m;exact⟨_,by rw[fu];exact cL (by omega)⟩
 let G:FP:=λb=>∃j∈e.cons,Fs j b;have hG:∀b,G b->(F0 b∨k0.w.heap.size<=b)/\b<k.w.heap.size/\¬k.sh b:=λb⟨j,_,M⟩=>f.own j b M;have htk:xe es a k e.cons G:=BQ e.cons λj m=>by obtain⟨hD,hU⟩:=hcj j m;obtain⟨O,hej⟩:=hes j hD;exact⟨O,hej,f.vals j O hD hU hej⟩
 have hkn:qj es a0 a k e.need:=xV (Fs:=Fs) e.need (λt j htj O hej=>by
 have h:=br.1 T _ htj;simp only[aG,bU,jU,hsh j O hej]at h;obtain⟨⟨h1,H⟩,h3⟩:=h;have hD:D j:=h1.elim (λh=>by rw[bd h];exact hDN) (M j);obtain rfl:O.vs=t:=by simpa[nS.sh]using H
 refine f.vals j O hD (λ⟨x,ex,J,g,hm⟩=>?_) hej;have:=bc h3 x ex.sh (hsh x ex g);simp only[bS,bU,Nat.beq_eq,cH,List.contains_eq_mem,decide_eq_false_iff_not]at this;rcases this with(V|V)|V;.exact I (V▸J)
 .exact V hm
 .exact I (U J V)) (λt ht=>by
 have h:=br.1 T _ ht;simp only at h;refine f.rest t λj oj hDj hoj hdj=>?_;have m:=bc h j oj hoj;simp only[bS,bU,bne_iff_ne,Nat.beq_eq]at m;rcases m with(h|h)|h;.exact h hdj
 .exact I (h▸hDj)
 .exact I (U hDj h));unfold wpOp;rw[hAi];simp only[];have hw:Region.wanted o (yielded A a.tmps)=true:=by simp[Region.wanted,hgd]
 rw[if_pos hw];refine .inl (hob a k G f.size f.chg hkn htk C Q hQ λv k' F hch hF hv=>?_);have hns:∀b,G b->¬k.sh b:=λb M=>(hG b M).2.2;have hgrow:Chg F0 k0 k':=f.chg.step hch λb M=>(hG b M).1;have hFl:∀b,F b->(F0 b∨k0.w.heap.size<=b)/\b<k'.w.heap.size/\¬k'.sh b:=λb M=>by have H:=hR.lt hv b M;exact⟨(hF b M).elim (λh=>(hG b h).1) (λh=> .inr (bC f.chg.size h)),H.1,H.2⟩
 have hget:∀x ex,nth es x=some ex->D x->x≠i->(a.put o.dst v).get ex.vs=a.get ex.vs:=λx ex g J q=>by cases hod:o.dst with|none=>rfl;|some d=>
  rw[hod]at u;simp only[aG,decide_eq_true_eq]at u;obtain⟨⟨⟨hdn,_⟩,hvs⟩,_⟩:=u;rw[dD _ _ _ _ (by rw[hsz];exact hdn)];have:=bc hvs x ex.sh (hsh x ex g);simp only[bS,bU,Nat.beq_eq,cH,Nat.beq_eq_true_eq]at this;rw[if_neg];intro hd;rcases this with(h|h)|h;.exact q h
  .rw[show ex.sh.vs=d from hd.symm]at h;simp at h
  .exact I (U J h)
 refine hC (λx=>if x=i then F else if x∈e.cons then noF else Fs x) _ _ ⟨hgrow,by rw[fw];exact f.size,by rw[eA];exact f.defers,?_,?_,?_,?_,?_,?_, .inl f.first⟩
 · intro x ex J hU g;by_cases q:x=i;·subst q;rw[he,aV]at g;subst g;rw[if_pos rfl];exact hv
   · have hDx:=J.resolve_right q;have hxc:x∉e.cons:=λh=>hU ⟨i,e, .inr rfl,he,h⟩;rw[if_neg q,if_neg hxc,hget x ex g hDx q];have hUx:¬Mb es D x:=λ⟨y,ey,hy,hey,hm⟩=>hU ⟨y,ey, .inl hy,hey,hm⟩;have hRx:Fy ex.R:=by
      rcases f.mem x hDx with hl|hl;·obtain⟨ox,hox⟩:∃ox,nth A.toList x=some ox:=⟨_,by rw[fu];exact cL hl⟩;exact(hst x ox ex hox g).1
      ·refine hall ex ?_;rw[hl]at g;simpa using g
     exact hRx.keep (f.vals x ex hDx hUx g) hch (λb h⟨j,m,V⟩=>f.apart x j (λe'=>hxc (e'▸m)) b h V) hns
 · intro x y hxy b h1 H;have key:∀z,z≠i->F b->(if z∈e.cons then noF else Fs z) b->False:=λz hz hf hz'=>by
    by_cases hzc:z∈e.cons;.rw[if_pos hzc]at hz';exact hz'
    · rw[if_neg hzc]at hz';rcases hF b hf with⟨j,m,hj'⟩|h;.exact f.apart z j (λe'=>hzc (e'▸m)) b hz' hj'
      .have:=(f.own z b hz').2.1;omega
   by_cases q:x=i;·have hyi:y≠i:=λe=>hxy (q.trans e.symm);rw[if_pos q]at h1;rw[if_neg hyi]at H;exact key y hyi h1 H
   · rw[if_neg q]at h1;by_cases hyi:y=i;·rw[if_pos hyi]at H;exact key x q H h1
     · rw[if_neg hyi]at H;split at h1;.exact h1
       · split at H;.exact H
         .exact f.apart x y hxy b h1 H
 · intro x b h;split at h;.exact hFl b h
   · split at h;.exact h.elim
     · rename_i hxc;obtain⟨h1,H,h3⟩:=f.own x b h;refine⟨h1,gz H hch.size,λhs=>?_⟩;rcases hch.new b H hs with hs|⟨j,m,hj'⟩;.exact h3 hs
       .exact f.apart x j (λe'=>hxc (e'▸m)) b h hj'
 ·intro t ht;have h1:a.get t=a0.get t:=f.rest t λj o' m=>ht j o' (.inl m);cases hod:o.dst with|none=>exact h1;|some d=>rw[hod]at u;simp only[aG,decide_eq_true_eq]at u;rw[dD _ _ _ _ (by rw[hsz];exact u.1.1.1),if_neg λe'=>ht i o (.inr rfl) hi (by rw[hod,e'])];exact h1
 · intro j o' E m x J;rcases m with m|rfl;.exact .inl (f.closed j o' E m x J)
   .rw[hi,aV]at E;subst E;exact .inl (M x J)
 · intro j m;rcases m with m|rfl;.exact f.mem j m
   .exact .inl (qh hi)
theorem Tt{Q:Exit->Act->World->Prop}(hn:a0.tmps.size=n)(I:oM n A.size A.toList (es.map nS.sh) (eB A.toList []) 0 A.toList (es.map nS.sh)=true)(hst:∀i o e,nth A.toList i=some o->nth es i=some e->ObX P es a0 k0 F0 o e)(q:∀e,nth es A.size=some e->Fy e.R)(hQ:LetsOut Q)(J:∀F a k,LU A.toList es a0 k0 F0 (λj=>j<A.size∨j=A.size) F a k->Q .normal a k.w):∀(u:Nat)(f:Array Bool)(F:Nat->FP)(a:Act)(k:K),f.size=A.size->u=(f.toList.filter (.=false)).length->LU A.toList es a0 k0 F0 (λj=>f.getD j false=true∨j=A.size) F a k->wpAny P .any A Q u f a k.w:=by
 have hout:∀(f:Array Bool),f.size=A.size->∀j,f.getD j false=true->j<A.size:=λf g j E=>by grind
 have x:∀(f:Array Bool)(F:Nat->FP)(a:Act)(k:K),f.size=A.size->(∀j,j<A.size->f.getD j false=true)->LU A.toList es a0 k0 F0 (λj=>f.getD j false=true∨j=A.size) F a k->Q .normal a k.w:=by intro f F a k g G m;refine J F a k ?_;have:(λj=>f.getD j false=true∨j=A.size)=(λj=>j<A.size∨j=A.size):=funext λj=>propext ⟨λh=>h.imp (hout f g j) id,λh=>h.imp (G j) id⟩;rw[this]at m;exact m
 have T:∀(f:Array Bool),f.size=A.size->∀j,j<A.size->f.getD j true=f.getD j false:=by grind
 have M:∀j o,nth A.toList j=some o->∀e∈aU o,e<j:=by intro j o ho e he;obtain⟨ej,_,hc⟩:=vI I j o ho;simp only[Iw,aG,bS]at hc;simpa using br.1 hc.1.1.2 e he
 have H:∀(f:Array Bool),f.size=A.size->(∃j,j<A.size/\f.getD j false=false)->Region.ready .any A f≠[]:=by
   intro f g⟨j,E⟩;have hex:∃j,j<A.size/\f.getD j false=false/\∀i,i<j->f.getD i false=true:=by induction j using Nat.strongRecOn with|_ j ihj=>
  by_cases q:∀i,i<j->f.getD i false=true;.exact⟨j,E.1,E.2,q⟩
  · obtain⟨i,hi⟩:=Classical.not_forall.1 q;obtain⟨hij,hib⟩:i<j/\¬f.getD i false=true:=⟨Classical.byContradiction λh=>hi λh'=>absurd h' h,λh=>hi λ _=>h⟩;exact ihj i hij ⟨by omega,by simpa using hib⟩
   obtain⟨j,O,U,hlow⟩:=hex;intro z;have hjr:j∈Region.ready .any A f:=by
    simp only[Region.ready,bq,eN,aG,cH];refine⟨O,by rw[T f g j O];exact U,?_⟩;have hA:A[j]?=some A[j]:=by simp[O]
    rw[hA];simp only[eg,eY,fb];intro y hy;cases V:Region.binds .any y with|false=>rfl;|true=>
    simp only[gu,fJ];have ho:nth A.toList j=some A[j]:=by rw[aM];exact hA
    exact hlow _ (M j _ ho y.on (by simp only[aU,aS,bq,dI];exact⟨y,⟨hy,V⟩,rfl⟩))
   rw[z]at hjr;simp at hjr
 intro u;induction u with|zero=>
 intro f F a k g hf m;have G:∀j,j<A.size->f.getD j false=true:=by
  intro j E;have hz:=jJ hf.symm;have:f[j]'(by omega)∉f.toList.filter (.=false):=by rw[hz];simp
  simp only[bq,dI,Array.getElem_mem,true_and,decide_eq_true_eq,Bool.not_eq_false]at this;simp[ch,dV (show j<f.size by omega),this]
 refine⟨?_,x f F a k g G m⟩;unfold Region.ready;rw[List.filter_eq_nil_iff];intro j E;rw[eN]at E;simp only[aG,cH,not_and];intro h;rw[T f g j E,G j E]at h;simp at h;|succ u ih=>
 intro f F a k g hf m;refine⟨λz=>?_,λi hi=>?_⟩;·refine x f F a k g (λj E=>?_) m;cases U:f.getD j false with|true=>rfl;|false=>exact absurd z (H f g ⟨j,E,U⟩)
 · simp only[Region.ready,bq,eN,aG,cH]at hi;obtain⟨hiA,W,hi2⟩:=hi;rw[T f g i hiA]at W;have hA:A[i]?=some A[i]:=by simp[hiA]
   have ho:nth A.toList i=some A[i]:=by rw[aM];exact hA
   have hb:∀e∈aU A[i],f.getD e false=true∨e=A.size:=by intro e he;rw[hA]at hi2;simp only[eg,eY,fb]at hi2;simp only[aU,aS,bq,dI]at he;obtain⟨y,⟨hy,V⟩,rfl⟩:=he;have:=hi2 y hy;exact .inl (by simpa only[V,gu,fJ]using this)
   have hil:i<f.size:=by omega
   have hcnt:=count_set hil W;rw[<-hf]at hcnt;refine Me hn I hst q m ho hb (by simp[W];omega) hQ λFs' a' k' hinv'=>?_;refine ih _ Fs' a' k' (by simp[g]) (by omega) ?_;have he:(λj=>(f.setIfInBounds i true).getD j false=true∨j=A.size)=(λj=>(f.getD j false=true∨j=A.size)∨j=i):=by
    funext j;refine propext ?_;by_cases hji:j=i;.subst hji;simp[ch,show j<f.size by omega]
    .rw[getD_set_ne _ (λe=>hji e.symm)];simp[hji]
   rw[he];exact hinv'
structure R8(A:Array Oper)(es:List nS)(a0:Act)(k0:K)(F0:FP)(Fs:Nat->FP)(a:Act)(k:K):Prop where
 chg:Chg F0 k0 k
 size:a.tmps.size=a0.tmps.size
 defers:a.defers=a0.defers
 out:∀i e,nth es i=some e->es.all (λx=>!(x.cons.contains i))=true->e.R (Fs i) (a.get e.vs) k
 apart:∀i j,i≠j->aB (Fs i) (Fs j)own:∀i b,Fs i b->(F0 b∨k0.w.heap.size<=b)/\b<k.w.heap.size/\¬k.sh b
 old:∀t,A.toList.all (λo=>o.dst !=some t)=true->a.get t=a0.get t
theorem K0{id:Nat}{Q:Exit->Act->World->Prop}(es:List nS)(hm:P.follows .mixedOrders=true)(hn:a0.tmps.size=n)(u:oM n A.size A.toList (es.map nS.sh) (eB A.toList []) 0 A.toList (es.map nS.sh)=true)(U:∀i o e,nth A.toList i=some o->nth es i=some e->ObX P es a0 k0 F0 o e)(hQ:LetsOut Q)(e0:nS)(G:nth es A.size=some e0)(z:Fy e0.R)(h0:e0.R F0 (a0.get e0.vs) k0)(E:∀V a k,R8 A es a0 k0 F0 V a k->Q .normal a k.w):(Code.region id A true).wp P Q a0 k0.w:=by
  refine wp_region_any hm ?_;let kd:Gb.K:=⟨{k0.w with drawn:=k0.w.drawn+1},k0.sh,k0.lt⟩;have H:bD k0 kd:=⟨rfl,rfl,rfl,aN _,λ _ _=>rfl,λ _ h=>h,λ _ _ h=>h,gP _⟩;have hF:∀j,(Array.replicate A.size false).getD j false=true->False:=by intro j m;simp[ch,qN]at m;split at m<;>simp at m
  have I:∀e,nth es A.size=some e->Fy e.R:=λe y=>by rw[G,aV]at y;subst y;exact z
  have J:∀{q:List Oper}{l:List ShL}{i:Nat},oM n A.size A.toList (es.map nS.sh) (eB A.toList []) i q l=true->l.length=q.length+1:=by intro q;induction q with
 |nil=>intro l i h;match l,h with|[e],_=>rfl
 |cons o q ih=>intro l i h;cases l with|nil=>simp[oM]at h;|cons e l=>simp only[oM,aG]at h;simp[ih h.2]
  have hesl:es.length=A.size+1:=by simpa using J u
  refine Tt hn u U I hQ (λV a k g=>E V a k ⟨g.chg,g.size,g.defers,λi e y hu=>g.vals i e (by have:=qh y;omega) (λ ⟨x,ex,hx,M,hm⟩=>?_) y,g.apart,g.own,λt ht=>g.rest t λi o _ O e=>?_⟩) A.size _ (λj=>if j=A.size then F0 else noF) a0 kd (by simp) (by simp) ⟨Chg.of H,rfl,rfl,λi e hi _ y=>?_,λi j hij b h1 T=>?_,λi b h=>?_,λ _ _=>rfl,λj o O m=>?_,λi hi=>?_,by simp⟩;·have:=br.1 hu ex (by rw[fu]at M;exact iF M);grind
  ·have:=br.1 ht o (by rw[fu]at O;exact iF O);simp only[bne_iff_ne]at this;exact this e
  · rcases hi with hi|rfl;.exact(hF i hi).elim
    ·rw[if_pos rfl];rw[G,aV]at y;subst y;exact z.keep h0 (Chg.of (F:=noF) H) (λ _ _ f=>f) (λ _ f=>f.elim)
  · by_cases hi:i=A.size
    · by_cases m:j=A.size;.exact hij (hi.trans m.symm)
      .rw[if_neg m]at T;exact T
    .rw[if_neg hi]at h1;exact h1
  · split at h;·obtain⟨h1,T⟩:=z.lt h0 b h;exact⟨.inl h,h1,T⟩
    .exact h.elim
  · rcases m with m|m;.exact(hF j m).elim
    .have:=qh O;simp at this;omega
  grind
end
variable{T:Tb}{R:Type}
abbrev OpL:=List (Nat×Oper)
def tH(g:Option (Nat×Bool)):OpL->OpL×OpL|[]=>([],[])|x::l=>if x.2.guard=g then([],x::l)else((x::(tH g l).1),(tH g l).2)
def Sw(o:Oper):Bool:=match o.op with
 | .move _| .assign _| .load _ _| .fieldAddr _ _ _| .nilCheck _| .pick _ _ _| .extract _ _| .unOp .not _ _| .convert _ _ _| .build _ _| .buildSlice _ _ _=>true| .binOp .lss _ _ _ _| .binOp .leq _ _ _ _| .binOp .gtr _ _ _ _| .binOp .geq _ _ _ _| .binOp .eql _ _ _ _| .binOp .neq _ _ _ _| .binOp .and _ _ _ _=>true| .call c=>match c.callee with| .builtin .len| .builtin .max| .builtin .min=>true|_=>false
 |_=>false
def aO:AV T->Bool| .own _ _ _ _=>true| .box _ _ _=>true| .rs _ _ _=>true| .tr _ _ _ _=>true|_=>false
def BZ(C:Cx T)(f:FuncId)(e:Option Nat):Option (FnR T):=match BK C.rdeps f with|some q=>bif(dep C.deps f).isSome&&(match e with|some d=>!(C.own.contains d)|none=>true)then none else some q|none=>none
def FK(C:Cx T)(e:Env T)(o:Oper):Bool:=match o.dst with|none=>true|some d=>aO (lk e d)||match o.op with
 | .store _ _ _=>true| .alloc _=>true| .makeSlice _ _ _=>true| .box _ _=>C.own.contains d| .assign x=>C.own.contains d&&(match x with| .tmp t=>(match lk e t with| .al _=>true|a=>aO a)|_=>false)| .buildSlice _ _ _=>C.own.contains d| .call c=>match c.callee with| .builtin .append=>C.own.contains d||(match c.args.toList with|x::_=>aO (res e (opv e x))|_=>false)| .value (.func f)=>(BZ C f (some d)).isSome| .value (.tmp s)=>(match lk e s with| .mv _ _=>true|_=>false)|_=>false
 | .extract x 0=>(match mvv e x with| .al _=>true|_=>false)|_=>false
def IP(e:List Oper)(j:Nat):Option Nat:=(nth e j).bind (·.dst)
def lastIdx(t:Nat):List Oper->Nat->Option Nat->Option Nat|[],_,r=>r|o::l,i,r=>lastIdx t l (i+1) (bif (match o.dst with|some d=>Nat.beq d t|none=>false)then some i else r)
def HH(t:Nat)(l:List Oper)(j:Nat):Bool:=match lastIdx t l 0 none with|some e=>Nat.beq e j|none=>false
def tmpsOf(o:Oper):List Nat:=o.op.operands.toList.filterMap λ| .tmp t=>some t|_=>none
def mc(e:List Oper)(o:Oper):List (Nat×Option Nat):=(tmpsOf o).map λt=>(t,lastIdx t e 0 none)
def oe(e:List Oper):List Oper->List (List (Nat×Option Nat))|[]=>[]|o::l=>mc e o::oe (e++[o]) l
def BJ(e:List Oper):List Ent:=(oe [] e).map λnd=>⟨none,nd⟩
def ixs:Nat->List Oper->OpL|_,[]=>[]|i,o::l=>(i,o)::ixs (i+1) l
def PE(e:Env T)(c j:Nat)(w:Bool)(g:OpL):Bool:=g.all λx=>(match x.2.guard with|some (f,h)=>(Nat.beq f j&&h==w)||g.any λy=>Nat.beq y.1 f|none=>false)&&match x.2.dst with|some d=>!(aO (lk e d))&&!(Nat.beq d c)|none=>false
def gn:OpL->Env T->Env T|[],e=>e|(_,o)::l,e=>match o.dst with|some d=>(d, .top)::gn l e|none=>gn l e
def LP(e w m:Bool)(run h:Option Bool)(k:Bool->Option R):Option R:=bif e then match run,h with|some b,some true=>bif w then none else k (m||b)|some b,some false=>bif w then k (m&&b)else none|_,_=>none else match w with|true=>(if m then run else h).bind k|false=>(if m then h else run).bind k
inductive Hd where|no|old(s:Nat)|new(s:Nat)(t:Tp)
inductive Hv where|adr(off:Nat)|box(t:Tp)
def yO(C:Cx T)(h:Hd)(o:Oper):Option Hv:=match h,o.op with
 | .old s, .fieldAddr st (.tmp g) f=>bif Nat.beq s g then(match sT C.P st f with|some off=>some (.adr off)|none=>none)else none| .new s t, .alloc y=>match o.dst with|some d=>bif Nat.beq s d&&og C.P T y t then some (.box t)else none|none=>none
 |_,_=>none
def ev1(C:Cx T)(q:Hd)(h:List Oper):Nat->(R:Type)->Option (Nat×Bool)->OpL->Env T->(OpL->Env T->Option R)->Option R|0,_,_,_,_,_=>none|_+1,_,_,[],e,k=>k [] e|f+1,R,g,(i,o)::l,e,k=>if o.guard=g then match yO C q o,o.dst with|some _,some d=>bif aO (lk e d)then none else ev1 C q h f R g l ((d, .top)::e) k|_,_=>bif FK C e o then(match g with|none=>k ((i,o)::l) e|some _=>none)else match o.dst with|some d=>qP C e o λa=>ev1 C q h f R g l ((d,a)::e) k|none=>none else match o.guard with|none=>none|some (j,w)=>bif g.isNone&&(tH g ((i,o)::l)).1.any (λx=>FK C e x.2)then k ((i,o)::l) e else match tH g ((i,o)::l)with
 |(z,(_,p)::E)=>match p.op,p.dst,IP h j with
  | .pick (.tmp c) x y,some d,some F=>match asB (lk e c)with|some m=>bif Nat.beq F c&&HH c (h.take i) j&&PE e c j w z&&!(aO (lk e d))then LP (z.all λx=>Sw x.2) w m (ev1 C q h f Bool (some (j,w)) z e λ_ G=>asB (opv G (if w then x else y))) (asB (opv (gn z e) (if w then y else x))) λb=>ev1 C q h f R g E ((d, .v .bool b)::gn z e) k else none|none=>none
  |_,_,_=>none
 |_=>none
def kl(s:Nat):AV T->AV T| .ab f t x u L=>bif Nat.beq f s then .top else .ab f t x u L| .ao f e t h i x u L=>bif Nat.beq f s then .top else .ao f e t h i x u L|a=>a
def klA(s:Nat):AV T->AV T| .al e=>bif Nat.beq e s then .top else .al e| .mv f e=>bif Nat.beq e s then .top else .mv f e|a=>kl s a
def tt(f:AV T->AV T):Env T->(Env T->Option R)->Option R|[],k=>k []|(t,a)::e,k=>tt f e λg=>k ((t,f a)::g)
def AV.bW:AV T->Nat->Bool| .al s,t=>Nat.beq s t| .ab s _ _ _ _,t=>Nat.beq s t| .ao s _ _ _ _ _ _ _,t=>Nat.beq s t| .mv _ s,t=>Nat.beq s t|_,_=>false
def put(e:Env T)(d:Nat)(a:AV T)(k:Env T->Option R):Option R:=bif a.bW d then none else bif aO (lk e d)then tt (klA d) e λg=>k ((d,a)::g)else k ((d,a)::e)
def rH(e:Env T):Operand->Option Nat
 | .tmp t=>match lk e t with| .al s=>some s| .own _ _ _ _=>some t| .box _ _ _=>some t| .rs _ _ _=>some t| .tr _ _ _ _=>some t|_=>none
 |_=>none
def jW:(f:Rk)->AV T->Option (f.D T)
 | .n,_=>some ()| .o el t, .own false e u g=>bif Nat.beq el e then cast? (.list u) (.list t) g else none| .o _ _, .e0=>some []| .b t, .box false u x=>cast? u t x| .c m, .rs false q x=>match wL q m with|some h=>some (h.down▸x)|none=>none
 |_,_=>none
def Oi(e:Operand->AV T):(p:Pm)->Operand->(l:List Pm)->Option (HL T.S (eR l))->Option (HL T.S (eR (p::l)))
 | .v t,x,_,r=>match asT t (e x),r with|some y,some f=>some (I0 y f)|_,_=>none
 | .tu,_,_,r=>r| .tk,_,_,r=>r| .fn g,x,_,r=>match x with| .func h=>bif Nat.beq g h then r else none|_=>none
def IE(e:Operand->AV T):(l:List Pm)->List Operand->Option (HL T.S (eR l))|[],[]=>some ()|p::l,x::f=>Oi e p x l (IE e l f)|[],_::_=>none|_::_,[]=>none
def rG(tk:Bool):List Pm->List Operand->Option Operand| .v _::l,_::e=>rG tk l e| .tu::l,x::e=>bif tk then rG tk l e else some x| .tk::l,x::e=>bif tk then some x else rG tk l e| .fn _::l,_::e=>rG tk l e|_,_=>none
def GD(e:Env T)(f:Rk)(x:Option Operand):Option (Option Nat×f.D T):=match f,x with
 | .n,none=>some (none,())| .n,some _=>none| .c m,none=>match NK m e e with
  |some s=>match jW (.c m) (lk e s)with|some y=>bif aO (lk e s)then some (some s,y)else none|none=>none
  |none=>none
 |f,some x=>match rH e x with
  |some s=>match jW f (lk e s)with|some y=>bif aO (lk e s)then some (some s,y)else none|none=>none
  |none=>none
 |_,none=>none
def neO:Option Nat->Option Nat->Bool|some a,some b=>!(Nat.beq a b)|_,_=>true
def klO(f:Nat->AV T->AV T):Option Nat->AV T->AV T|some s,a=>f s a|none,a=>a
def BH(s:Option Nat)(a:AV T)(e:Env T):Env T:=match s with|some s=>(s,a)::e|none=>e
def noP(tk:Bool):List Pm->Bool|[]=>true| .v _::l=>noP tk l| .tu::l=>tk&&noP tk l| .tk::l=>!tk&&noP tk l| .fn _::l=>noP tk l
def sD:List Pm->Bool|[]=>true| .v _::l=>sD l| .tu::l=>noP false l&&sD l| .tk::l=>noP true l&&sD l| .fn _::l=>sD l
def Cf(C:Cx T)(e:Env T)(d:FnR T)(g:List Operand)(f:Option Nat)(k:Env T->Option R):Option R:=match IE (By C e) d.pm g,GD e d.tu (rG false d.pm g),GD e d.tk (rG true d.pm g)with|some x,some (h,y),some (j,z)=>bif sD d.pm&&neO h j&&neO f h&&neO f j&&(match f with|some _=>true|none=>isN d.ro&&d.cod.isEmpty)then(d.run x y z).bind λq=>tt (λa=>klO kl h (klO klA j (klO klA f a))) e λu=>k (BH f (sX d.ro d.cod (d.inj q).2.1 (d.inj q).2.2) (BH h (d.tu.av (d.inj q).1) (BH j .top u)))else none|_,_,_=>none
def P2(e:Env T)(x:Operand)(k:Env T->Option R):Option R:=match x with
 | .tmp t=>match lk e t with
  | .own false _ u g=>tt (klA t) e λf=>k ((t, .v (.list u) g)::f)| .box false u x=>tt (klA t) e λf=>k ((t, .ref u x)::f)| .al s=>match lk e s with| .own false _ u g=>tt (klA s) e λf=>bif aO (lk f t)then none else k ((t, .v (.list u) g)::(s, .v (.list u) g)::f)| .box false u x=>tt (klA s) e λf=>bif aO (lk f t)then none else k ((t, .ref u x)::(s, .ref u x)::f)|_=>k e
  |_=>k e
 |_=>k e
def frz(e:Env T):List Operand->(Env T->Option R)->Option R|[],k=>k e|x::l,k=>P2 e x λf=>frz f l k
def ze:List Pm->List Operand->List Operand| .v _::l,x::e=>x::ze l e|_::l,_::e=>ze l e|_,_=>[]
def Dr(C:Cx T)(e:Env T)(o:Oper):List Operand:=match o.op with
 | .build _ g=>g.toList.map (·.2)| .buildSlice _ _ g=>g.toList.map (·.2)| .box _ x=>[x]| .slice _ x _ _ _=>[x]| .store _ _ y=>[y]| .call c=>match c.callee with
  | .value (.func f)=>match BZ C f o.dst with|some d=>ze d.pm c.args.toList|none=>c.args.toList
  | .value (.tmp s)=>match lk e s with
   | .mv f _=>match BK C.rdeps f with|some d=>ze d.pm.tail c.args.toList|none=>[]
   |_=>c.args.toList
  | .value _=>c.args.toList|_=>[]
 |_=>[]
def uH:Operand->Operand->Bool| .tmp a, .tmp b=>Nat.beq a b|_,_=>false
def Sh(e:Env T)(x:Operand)(d:Nat)(l:List (Σ t,T.D t))(E:Env T):Env T:=match x with
 | .tmp t=>match lk e t with| .al _=>bif Nat.beq t d then E else(t, .tq l)::E|_=>E
 |_=>E
def yd(C:Cx T)(e:Env T)(o:Oper)(k:Env T->Option R):Option R:=match o.op,o.dst with
 | .store h p y,none=>match p with
  | .tmp J=>match(match lk e J with
   | .al s=>match lk e s with| .box _ t x=>AV.ab s t x t (gY.id t)|_=> .top
   | .box _ t x=>AV.ab J t x t (gY.id t)|a=>a)with
   | .ab s t x u L=>match lk e s with
    | .box false _ _=>match asT u (opv e y)with|some z=>bif tyB C.P T h u then tt (kl s) e λj=>k ((s, .box false t (L.set x z))::j)else none|none=>none
    |_=>none
   | .ao s el t E i x u L=>match lk e s with
    | .own false _ _ _=>match asT u (opv e y)with|some z=>bif tyB C.P T h u then tt (kl s) e λj=>k ((s, .own false el t (E.set i (L.set x z)))::j)else none|none=>none
    |_=>none
   |_=>none
  |_=>none
 | .alloc h,some d=>match C.tid h with|some t=>bif og C.P T h t then put e d (.box false t (T.yN t)) k else none|none=>none
 | .box h x,some d=>match opv e x with| .v t y=>bif tyB C.P T h t then put e d (.box false t y) k else none|_=>none
 | .assign x,some d=>match rH e x with
  |some s=>match lk e s with| .own false el t E=>tt (klA s) e λj=>put ((s, .top)::j) d (.own false el t E) λF=>bif aO (lk F s)then none else k ((s, .al d)::F)| .rs false m z=>bif Nat.beq s d then none else tt (λa=>klA s (klA d a)) e λj=>k ((d, .rs false m z)::(s, .top)::j)|_=>none
  |none=>qP C e o λa=>put e d a k
 | .extract x i,some d=>match i,rH e x with
  |0,some s=>match lk e s with| .tr false M w l=>bif Nat.beq s d||isN M then none else tt (λa=>klA s (klA d a)) e λj=>k (Sh e x d l ((d,M.av w)::(s, .tq l)::j))|_=>qP C e o λa=>put e d a k
  |_,_=>qP C e o λa=>put e d a k
 | .buildSlice h m U,some d=>match m with|0=>qP C e o λa=>put e d a k|_=>match Db C e h m U with|some ⟨t,(el,E)⟩=>put e d (.own false el t E) k|none=>none
 | .makeSlice h O V,some d=>match asI (opv e O),BE C.P h with
  |some n,some el=>match C.tid el with|some t=>bif uH O V&&elB C.P T el t&&og C.P T el t then(B4 n (T.yN t)).bind λr=>put e d (.own false el t r) k else none|none=>none
  |_,_=>none
 | .call c,some d=>match c.callee with
  | .builtin .append=>match c.args.toList,c.argTypes.toList with
   |[x,y],[h,G]=>bif Nat.beq h G then match BE C.P h,asL e (opv e y)with|some el,some ⟨t,Q⟩=>bif elB C.P T el t then(match rH e x with
 |some s=>match lk e s with
  | .own false H W E=>match cast? (.list W) (.list t) E with|some E=>bif Nat.beq el H then(eE E Q).bind λr=>tt (klA s) e λj=>put ((s, .top)::j) d (.own false el t r) k else none|none=>none
  |_=>none
 |none=>match res e (opv e x)with| .e0=>(eE [] Q).bind λr=>put e d (.own false el t r) k|_=>none)else none|_,_=>none else none|_,_=>none
  | .value (.func f)=>match BZ C f (some d)with|some q=>Cf C e q c.args.toList (some d) k|none=>qP C e o λa=>put e d a k
  | .value (.tmp s)=>match lk e s with
   | .mv f I=>match BK C.rdeps f with|some q=>Cf C e q (.tmp I::c.args.toList) (some d) k|none=>none
   |_=>qP C e o λa=>put e d a k
  |_=>qP C e o λa=>put e d a k
 | .call c,none=>match c.callee with
  | .value (.func f)=>match BZ C f none with|some q=>Cf C e q c.args.toList none k|none=>none
  | .value (.tmp s)=>match lk e s with
   | .mv f I=>match BK C.rdeps f with|some q=>Cf C e q (.tmp I::c.args.toList) none k|none=>none
   |_=>none
  |_=>none
 |_,some d=>qP C e o λa=>put e d a k|_,none=>none
def BL(e:Env T)(o:Oper)(k:Env T->Option R):Option R:=match o.dst with|some d=>put e d (.tup []) k|none=>k e
def ev2(C:Cx T)(g:List Oper):OpL->Env T->(Env T->Option R)->Option R|[],e,k=>k e|(_,o)::l,e,k=>match o.guard,(match o.dst with|some d=>Nat.blt d C.n|none=>true)with
 |none,true=>frz e (Dr C e o) λh=>yd C h o λf=>ev2 C g l f k|some (j,w),true=>match IP g j with
  |some c=>match asB (lk e c)with
   |some m=>match w with|true=>if m then frz ((c, .v .bool true)::e) (Dr C ((c, .v .bool true)::e) o) λh=>yd C h o λf=>ev2 C g l f k else BL ((c, .v .bool false)::e) o λf=>ev2 C g l f k|false=>if m then BL ((c, .v .bool true)::e) o λf=>ev2 C g l f k else frz ((c, .v .bool false)::e) (Dr C ((c, .v .bool false)::e) o) λh=>yd C h o λf=>ev2 C g l f k
   |none=>match lk e c with| .tup []=>BL e o λf=>ev2 C g l f k|_=>none
  |none=>none
 |_,_=>none
def oN(C:Cx T):List Oper->Env T->(Env T->Option R)->Option R|[],e,k=>k e|o::l,e,k=>match o.op,o.dst with
 | .alloc _,some d=>bif C.own.contains d then oN C l e k else match lk e d with| .box false t x=>tt (klA d) e λg=>oN C l ((d, .ref t x)::g) k|_=>oN C l e k
 |_,_=>oN C l e k
def C4:List Oper->Nat->Option (Nat×Oper)|[],_=>none|o::l,i=>match o.op with| .store _ _ _=>some (i,o)|_=>C4 l (i+1)
def Lc(e:List Oper):Bool:=match C4 e 0 with|some (m,_)=>!(allI (λj _=>Nat.blt j m||(List.range j).all λi=>dW (eB e []) j i) 0 e)|none=>false
def tg(s:Nat)(e:List Oper):Bool:=e.all λo=>match o.dst with|some d=>!(Nat.beq d s)|none=>true
def qi(m:Nat)(e:List Oper):Operand->Bool
 | .tmp t=>match lastIdx t (e.take m) 0 none with|some j=>dW (eB e []) m j|none=>tg t e
 | .const _=>true|_=>false
def tQ(e:List Oper)(m f:Nat):Nat:=match lastIdx f (e.take m) 0 none with
 |some j=>match nth e j with
  |some o=>match o.op with| .fieldAddr _ (.tmp s) _=>s|_=>f
  |none=>f
 |none=>f
def Su(P:Program)(st f:Nat):(t:Tp)->Option (Σ u,gY T t u)
 | .st n=>match sT P st f,EC (T:=T) n f with|some off,some ⟨w,L⟩=>bif Nat.beq L.off off then some ⟨w,L⟩else none|_,_=>none
 |_=>none
def Lm(C:Cx T)(e:List Oper)(m s h:Nat)(t:Tp):Option (Σ u,gY T t u):=bif Nat.beq h s then(bif tg h e then some ⟨t,gY.id t⟩else none)else match lastIdx h (e.take m) 0 none with
 |some j=>match nth e j with
  |some o=>match o.op,o.guard with| .fieldAddr st (.tmp q) f,none=>bif Nat.beq s q&&dW (eB e []) m j then Su C.P st f t else none|_,_=>none
  |none=>none
 |none=>none
def evX(C:Cx T)(f:List Oper)(e:Env T)(k:Env T->Option R):Option R:=match C4 f 0 with
 |some (m,o)=>match o.op,o.dst,o.guard with
  | .store q (.tmp g) y,none,none=>match lk e (tQ f m g)with
   | .box false t x0=>match Lm C f m (tQ f m g) g t with
    |some ⟨u,L⟩=>bif !(tg (tQ f m g) f)then none else tt (klA (tQ f m g)) e λe0=>ev1 C (.old (tQ f m g)) f (f.length+1) R none (ixs 0 f) ((tQ f m g, .top)::e0) λl e1=>match l with|[]=>none|_::w=>bif Nat.beq (f.length-l.length) m&&lD C.n m f (BJ (f.take m))&&Oe m f&&qi m f y&&tyB C.P T q u then match asT u (opv e1 y)with|some z=>ev2 C f w ((tQ f m g, .box false t (L.set x0 z))::e1) λj=>oN C f j k|none=>none else none
    |none=>none
   |_=>none
  |_,_,_=>none
 |none=>none
def DP(s j:Nat)(e:List Oper):Bool:=allI (λi o=>Nat.beq i j||(match o.dst with|some d=>!(Nat.beq d s)|none=>true)) 0 e
def L6:AV T->Bool| .top=>true|_=>false
def Ih(m:Nat)(e:List Oper):List Nat:=(List.range m).filter λl=>!(dW (eB e []) m l)&&zJ e.toArray l
def evN(C:Cx T)(f:List Oper)(e:Env T)(k:Env T->Option R):Option R:=match C4 f 0 with
 |some (m,o)=>match o.op,o.dst,o.guard with
  | .store w (.tmp g) y,none,none=>match lastIdx g (f.take m) 0 none with
   |some j=>match nth f j with
    |some u=>match u.op,u.guard with
     | .alloc h,none=>match C.tid h with
      |some t=>ev1 C (.new g t) f (f.length+1) R none (ixs 0 f) e λl e1=>match l with|[]=>none|_::x=>bif Nat.beq (f.length-l.length) m&&lD C.n m f (BJ (f.take m))&&N1 m (Ih m f) f&&Af m (Ih m f) f.toArray&&dW (eB f []) m j&&DP g j f&&qi m f y&&tyB C.P T w t&&og C.P T h t&&L6 (lk e1 g)&&!(aO (lk e g))then match asT t (opv e1 y)with|some z=>ev2 C f x ((g, .box false t z)::e1) λq=>oN C f q k|none=>none else none
      |none=>none
     |_,_=>none
    |none=>none
   |none=>none
  |_,_,_=>none
 |none=>none
def Jj(e:List Oper):Bool:=match C4 e 0 with
 |some (m,o)=>match o.op with
  | .store _ (.tmp f) _=>match lastIdx f (e.take m) 0 none with
   |some j=>match nth e j with
    |some g=>match g.op with| .alloc _=>true|_=>false
    |none=>false
   |none=>false
  |_=>false
 |none=>false
def PK(e:List Oper):Bool:=match C4 e 0 with
 |some (m,o)=>match o.op with
  | .store _ (.tmp f) _=>match lastIdx f (e.take m) 0 none with|some j=>!((List.range j).all λi=>dW (eB e []) j i)|none=>false
  |_=>false
 |none=>false
def unl:AV T->Bool| .own false _ _ _=>true| .box false _ _=>true| .rs false _ _=>true| .tr false _ _ _=>true|_=>false
def NG(P:Program)(T:Tb)(y:TypeId)(t:Tp):Bool:=match P.info? y with
 |some i=>match i.zero with|some (.agg z)=>(T.e t).agg&&Nat.beq z.size (szT T t)&&z.toList.all λv=>v.oneCell'|_=>false
 |none=>false
def Eo(C:Cx T)(e:Env T)(f os:Oper):Option (Nat×Σ t,T.D t):=match f.op,f.dst,f.guard,os.op,os.dst,os.guard with| .alloc g,some d,none, .store h (.tmp m) y,none,none=>bif Nat.beq m d&&Nat.blt d C.n&&!(uH (.tmp d) y)then(match C.tid g with|some t=>bif !(og C.P T g t)&&NG C.P T g t&&tyB C.P T h t then(match asT t (opv e y)with|some z=>some (d,⟨t,z⟩)|none=>none)else none|none=>none)else none|_,_,_,_,_,_=>none
def evT(C:Cx T)(f:List Oper)(l:OpL)(e:Env T)(k:Env T->Option R):Option R:=match l with
 |[(_,h),(_,os)]=>match Eo C e h os with|some (d,⟨t,z⟩)=>put e d (.box false t z) k|none=>ev2 C f l e λg=>oN C f g k
 |l=>ev2 C f l e λg=>oN C f g k
def evR(C:Cx T)(ops:List Oper)(draw:Bool)(e:Env T)(k:Env T->Option R):Option R:=bif draw&&(Lc ops||(Jj ops&&PK ops))then(bif Jj ops then evN C ops e k else evX C ops e k)else ev1 C .no ops (ops.length+1) R none (ixs 0 ops) e λl e'=>bif (bif draw then chk else lD) C.n (ops.length-l.length) ops (BJ (ops.take (ops.length-l.length)))then evT C ops l e' k else none
inductive Kd where|v(t:Tp)|o(e:TypeId)(t:Tp)|b(t:Tp)|c(m:Nat)
@[reducible]def Kd.D(T:Tb):Kd->Type| .v t=>T.D t| .o _ t=>List (T.D t)| .b t=>T.D t| .c m=>T.RD m
abbrev Sp:=List (Nat×Kd)
@[reducible]def SpD(T:Tb):Sp->Type|[]=>Unit|[a]=>a.2.D T|a::b::l=>a.2.D T×SpD T (b::l)
def Kd.yN:(e:Kd)->e.D T| .v t=>T.yN t| .o _ _=>[]| .b t=>T.yN t| .c m=>T.RZ m
def pF(e:Env T)(s:Nat):(g:Kd)->Option (g.D T)
 | .v t=>asT t (nrm (lk e s))| .o el t=>match lk e s with| .own false f u j=>bif Nat.beq el f then cast? (.list u) (.list t) j else none| .e0=>some []|_=>none
 | .b t=>match lk e s with| .box false u x=>cast? u t x|_=>none
 | .c m=>match lk e s with
 | .rs false w x=>match wL w m with|some h=>some (h.down▸x)|none=>none
 |_=>none
def take(f:List Nat)(e:Env T):(h:Sp)->Option (SpD T h)|[]=>some ()|[a]=>bif f.contains a.1 then some a.2.yN else pF e a.1 a.2|a::b::l=>match(bif f.contains a.1 then some a.2.yN else pF e a.1 a.2),take f e (b::l)with|some x,some y=>some (x,y)|_,_=>none
def D9(e:List Nat):Sp->List Operand|[]=>[]|(s, .v _)::l=>bif e.contains s then D9 e l else .tmp s::D9 e l|_::l=>D9 e l
def pU(g:List Nat)(e:Env T)(f:Sp)(k:SpD T f->Option R):Option R:=frz e (D9 g f) λh=>match take g h f with|some s=>k s|none=>none
def avK:(f:Kd)->f.D T->AV T| .v t,x=>mkv t x| .o e t,x=> .own false e t x| .b t,x=> .box false t x| .c m,x=> .rs false m x
def eW(f:List Nat):(h:Sp)->SpD T h->Env T->Env T|[],_,e=>e|[a],x,e=>(a.1,bif f.contains a.1 then .top else avK a.2 x)::e|a::b::l,x,e=>(a.1,bif f.contains a.1 then .top else avK a.2 x.1)::eW f (b::l) x.2 e
def wrs:Code->List Nat| .region _ A _=>A.toList.filterMap (·.dst)| .seq a b=>wrs a++wrs b| .cond _ a b=>wrs a++wrs b| .block _ a=>wrs a| .loop a=>wrs a|_=>[]
def gy(g:Bool)(W:List Nat):AV T->AV T| .v t x=> .v t x| .fl t h=> .fl t h| .ref t x=> .ref t x| .e0=> .e0| .nil=> .nil| .own b e t h=> .own (g||b) e t h| .box b t x=> .box (g||b) t x| .rs b m x=> .rs (g||b) m x| .tq l=> .tq l| .tr b q x l=> .tr (g||b) q x l| .al s=>bif W.contains s then .top else .al s| .mv f s=>bif W.contains s then .top else .mv f s|_=> .top
def vP(lock:Bool)(W:List Nat)(Wd Wv:List Nat):Env T->(Env T->Option R)->Option R|[],k=>k []|(t,a)::e,k=>vP lock W Wd Wv e λe'=>k (bif W.contains t then e' else(t,bif Wd.contains t then a else gy lock (W++Wv) a)::e')
def lkA:AV T->AV T| .own _ el t e=> .own true el t e| .box _ t x=> .box true t x| .rs _ m x=> .rs true m x| .tr _ f x l=> .tr true f x l|a=>a
def A4(W:List Nat):Env T->(Env T->Option R)->Option R|[],k=>k []|(t,a)::e,k=>A4 W e λf=>k ((t,bif W.contains t then a else lkA a)::f)
abbrev Ls:=List Nat×List Nat
inductive Hn(T:Tb)where|n|h(i:Nat)|s(a b:Hn T)|f(l:List Nat)(a:Hn T)|j(fz:List Nat)(sp:Sp)(xs:Ls)(a:Hn T)|jf(fz:List Nat)(sp:Sp)(xs:Ls)(exs:List (Nat×Ls))(a:Hn T)|l(fz:List Nat)(sp:Sp)(exs:List (Nat×Ls))(fuel:Env T->Nat)(a:Hn T)
structure Kt(T:Tb)(ρ R:Type)where
 go:Env T->Option R
 ex:Nat->Env T->Option R
 rv:ρ->Option R
def CV:List (Nat×Ls)->Nat->Option Ls|[],_=>none|(i,x)::l,j=>bif Nat.beq i j then some x else CV l j
def exF{ρ:Type}(f:List (Nat×Ls))(g:Sp)(i:Nat)(e:Env T):Option (aY (SpD T g) ρ):=match CV f i with|some x=>pU x.2 e g λs=>some (.ex i s)|none=>none
def exK{ρ:Type}{f:Sp}(e:Env T)(K:Kt T ρ R):List (Nat×Ls)->Nat->SpD T f->Option R|[],_,_=>none|[(i,x)],_,s=>K.ex i (eW (x.1++x.2) f s e)|(i,x)::y::l,j,s=>if j=i then K.ex i (eW (x.1++x.2) f s e)else exK e K (y::l) j s
def HJ(C:Cx T)(e:Env T):(l:List Tp)->List ResultVar->Option (HL T.S l)
 |[],[]=>some ()|[a],[r]=>resH1 e a r|a::b::l,r::rs=>match resH1 e a r,HJ C e (b::l) rs with|some x,some y=>some (x,y)|_,_=>none
 |_,_=>none where resH1(e:Env T)(t:Tp):ResultVar->Option (T.D t)| .tmp s=>asT t (nrm (lk e s))| .cell s f=>match lk e s with| .box _ u x=>bif tyB C.P T f u then cast? u t x else none|_=>none
def spW(e:Sp):List Nat:=e.map (·.1)
def spV:Sp->List Nat|[]=>[]|(s, .v _)::l=>s::spV l|_::l=>spV l
structure Rv(T:Tb)where
 sl:Nat
 tu:Rk
 ro:Rk
 cod:List Tp
 ρ:Type
 pr:tu.D T×ro.D T×HL T.S cod->ρ
 inj:ρ->tu.D T×ro.D T×HL T.S cod
 hpr:∀r,inj (pr r)=r
abbrev Rv.D(T:Tb)(e:Rv T):Type:=e.ρ
def Jk(ro:Rk)(rs:List ResultVar):List ResultVar:=bif isN ro then rs else rs.tail
def ro1(e:Env T)(f:Rk):List ResultVar->Option (f.D T)| .tmp s::_=>jW f (lk e s)|_=>none
def roR(C:Cx T)(e:Env T):(f:Rk)->Option (f.D T)| .n=>some ()| .o el t=>ro1 e (.o el t) C.rs| .b t=>ro1 e (.b t) C.rs| .c m=>ro1 e (.c m) C.rs
def Dg(rs:List ResultVar)(sl:Nat):Bool:=match rs with| .tmp s::_=>Nat.beq s sl|_=>true
def NL(C:Cx T)(e:Env T)(f:Rv T):Option (f.D T):=bif !(isN f.tu)&&!(isN f.ro)&&Dg C.rs f.sl then none else match jW f.tu (lk e f.sl),roR C e f.ro,HJ C e f.cod (Jk f.ro C.rs)with|some y,some w,some r=>some (f.pr (y,w,r))|_,_,_=>none
def ev(C:Cx T)(cod:Rv T):Code->Hn T->(R:Type)->Env T->Kt T (cod.D T) R->Option R
 | .skip,_,_,e,K=>K.go e| .region id A d,h,R,e,K=>match h with| .f l _=>frz e (l.map .tmp) λe'=>evR C A.toList d e' K.go| .h i=>C.hk i (.region id A d) e R K.go|_=>evR C A.toList d e K.go
 | .seq a b,h,R,e,K=>match h with| .s x y=>ev C cod a x R e {K with go:=λe'=>ev C cod b y R e' K}|_=>ev C cod a .n R e {K with go:=λe'=>ev C cod b .n R e' K}
 | .cond c a b,h,R,e,K=>match h with
  | .j fz sp xs (.s x y)=>frz e (fz.map .tmp) λe0=>A4 (wrs a++wrs b++spW sp) e0 λe=>vP false (wrs a++wrs b) (spW sp) (spW sp) e0 λe1=>match asB (opv e c)with|some m=>(if m then ev C cod a x (SpD T sp) e ⟨λe'=>pU xs.2 e' sp some,λ _ _=>none,λ _=>none⟩else ev C cod b y (SpD T sp) e ⟨λe'=>pU xs.2 e' sp some,λ _ _=>none,λ _=>none⟩).bind λs=>K.go (eW (xs.1++xs.2) sp s e1)|none=>none
  | .jf fz sp xs exs (.s x y)=>frz e (fz.map .tmp) λe0=>A4 (wrs a++wrs b++spW sp) e0 λe=>vP false (wrs a++wrs b) (spW sp) (spW sp) e0 λe1=>match asB (opv e c)with
   |some m=>let K':Kt T (cod.D T) (aY (SpD T sp) (cod.D T)):=⟨λe'=>pU xs.2 e' sp λs=>some (.go s),exF exs sp,λr=>some (.ret r)⟩
 (if m then ev C cod a x _ e K' else ev C cod b y _ e K').bind λf=>match f with| .go s=>K.go (eW (xs.1++xs.2) sp s e1)| .ex i s=>exK e1 K exs i s| .ret r=>K.rv r
   |none=>none
  | .s x y=>match asB (opv e c)with|some m=>if m then ev C cod a x R e K else ev C cod b y R e K|none=>none
  |_=>match asB (opv e c)with|some m=>if m then ev C cod a .n R e K else ev C cod b .n R e K|none=>none
 | .block id a,h,R,e,K=>match h with
  | .j fz sp xs x=>frz e (fz.map .tmp) λe0=>A4 (wrs a++spW sp) e0 λe=>vP false (wrs a) (spW sp) (spW sp) e0 λe1=>(ev C cod a x (SpD T sp) e ⟨λe'=>pU xs.2 e' sp some,λi e'=>bif Nat.beq i id then pU xs.2 e' sp some else none,λ _=>none⟩).bind λs=>K.go (eW (xs.1++xs.2) sp s e1)| .jf fz sp xs exs x=>frz e (fz.map .tmp) λe0=>A4 (wrs a++spW sp) e0 λe=>vP false (wrs a) (spW sp) (spW sp) e0 λe1=>(ev C cod a x (aY (SpD T sp) (cod.D T)) e ⟨λe'=>pU xs.2 e' sp λs=>some (.go s),λi e'=>bif Nat.beq i id then pU xs.2 e' sp λs=>some (.go s)else exF exs sp i e',λr=>some (.ret r)⟩).bind λf=>match f with| .go s=>K.go (eW (xs.1++xs.2) sp s e1)| .ex i s=>exK e1 K exs i s| .ret r=>K.rv r
  | .h i=>C.hk i (.block id a) e R K.go|x=>ev C cod a x R e {K with ex:=λi e'=>bif Nat.beq i id then K.go e' else K.ex i e'}
 | .loop a,h,_,e,K=>match h with
  | .l fz sp exs fuel x=>frz e (fz.map .tmp) λe=>vP true (wrs a) (spW sp) (spV sp) e λei=>vP false (wrs a) (spW sp) (spW sp) e λe1=>match take [] e sp with
   |some s0=>(az (λs=>ev C cod a x (aY (SpD T sp) (cod.D T)) (eW [] sp s ei) ⟨λe'=>pU [] e' sp λs=>some (.go s),exF exs sp,λr=>some (.ret r)⟩) (fuel e) s0).bind λf=>match f with| .go _=>none| .ex i s=>exK e1 K exs i s| .ret r=>K.rv r
   |none=>none
  |_=>none
 | .exit i,_,_,e,K=>K.ex i e| .ret,_,_,e,K=>frz e ((Jk cod.ro C.rs).filterMap λ| .tmp s=>some (.tmp s)|_=>none) λe'=>match NL C e' cod with|some r=>K.rv r|none=>none
 |_,_,_,_,_=>none
def mb:Code->List Code| .region i A d=>[.region i A d]| .seq a b=>mb a++mb b| .cond _ a b=>mb a++mb b| .block i a=> .block i a::mb a| .loop a=>mb a|_=>[]
def yT:Nat->Code->Env T->(R:Type)->(Env T->Option R)->Option R:=λ_ _ _ _ _=>none
def zZ:(i:Nat)->(l:List Tp)->HL T.S l->Env T|_,[],_=>[]|i,[a],x=>[(i,mkv a x)]|i,a::b::l,x=>(i,mkv a x.1)::zZ (i+1) (b::l) x.2
def evF(C:Cx T)(c:Code)(h:Hn T)(m cod:List Tp)(x:HL T.S m):Option (HL T.S cod):=ev C ⟨0, .n, .n,cod,HL T.S cod,λr=>r.2.2,λr=>((),(),r),λ_=>rfl⟩ c h (HL T.S cod) (zZ 0 m x) ⟨λ_=>none,λ_ _=>none,some⟩
def pD:(i:Nat)->(l:List Pm)->HL T.S (eR l)->(tu tk:AV T)->Env T|_,[],_,_,_=>[]|i, .v t::l,x,y,z=>(i,mkv t (hdH x))::pD (i+1) l (tlH x) y z|i, .tu::l,x,y,z=>(i,y)::pD (i+1) l x y z|i, .tk::l,x,y,z=>(i,z)::pD (i+1) l x y z|i, .fn _::l,x,y,z=>pD (i+1) l x y z
def QF(C:Cx T)(c:Code)(h:Hn T)(d:FnR T)(pr:d.tu.D T×d.ro.D T×HL T.S d.cod->d.ρ)(hpr:∀r,d.inj (pr r)=r)(sl:Nat)(x:HL T.S (eR d.pm))(y:d.tu.D T)(z:d.tk.D T):Option d.ρ:=ev C ⟨sl,d.tu,d.ro,d.cod,d.ρ,pr,d.inj,hpr⟩ c h d.ρ (pD 0 d.pm x (d.tu.av y) (d.tk.av z)) ⟨λe=>NL C e ⟨sl,d.tu,d.ro,d.cod,d.ρ,pr,d.inj,hpr⟩,λ_ _=>none,some⟩
end Go.Gb
namespace Go.Gb
variable{T:Tb}{R:Type}
def gY.ok{t u:Tp}(L:gY T t u):Prop:=(∀(x:T.D t)(f:Addr)(k:K),At x f k->At (L.get x) (f.add L.off) k)/\Upd L.off L.set/\L.off+(T.e u).sz<=(T.e t).sz
def Fa2:List (Σ t,T.D t)->List Value->K->Prop|[],[],_=>True|p::l,v::e,k=>IsV p.2 v k/\Fa2 l e k|_,_,_=>False
theorem Fa2.le{k e:K}(h:Le k e):∀{l:List (Σ t,T.D t)}{f:List Value},Fa2 l f k->Fa2 l f e|[],[],_=>trivial|_::_,_::_,g=>⟨ai.pers h g.1,Fa2.le h g.2⟩
theorem Fa2.get{k:K}:∀{l:List (Σ t,T.D t)}{e:List Value}{i:Nat}{p:Σ t,T.D t},Fa2 l e k->l[i]?=some p->∃v,e[i]?=some v/\IsV p.2 v k|p::l,v::e,0,q,g,h=>by simp at h;subst h;exact⟨v,rfl,g.1⟩;|p::l,v::e,i+1,q,g,h=>by obtain⟨u,j,m⟩:=Fa2.get g.2 (by simpa using h);exact⟨u,by simpa using j,m⟩
def Rk.is:(f:Rk)->f.D T->Value->K->Prop| .n,_,_,_=>True| .o e _,g,v,k=>an 0 e g v k| .b _,x,v,k=>∃b,v= .pointer (some ⟨b,0,none⟩)/\Box b x k| .c m,x,v,k=>∃F,T.RP m x F v k
def Rk.fp(T:Tb):Rk->Value->K->FP| .n,_,_=>noF| .o _ _,v,_=>obF v| .b _,v,_=>λb=>v= .pointer (some ⟨b,0,none⟩)| .c m,v,k=>λb=>∃(y:T.RD m)(F:FP),T.RP m y F v k/\F b
theorem pN{m:Nat}{x:T.RD m}{F:FP}{v:Value}{k:K}(h:T.RP m x F v k):Rk.fp T (.c m) v k=F:=by funext b;refine propext ⟨λ⟨y,G,h1,e⟩=>?_,λh1=>⟨x,F,h,h1⟩⟩;rw[T.RPone m x y F G v k h h1];exact e
theorem Rk.lt{κ:Rk}{x:κ.D T}{v:Value}{k:K}(h:κ.is x v k):∀b,κ.fp T v k b->b<k.w.heap.size/\¬k.sh b:=by intro b f;cases κ with|n=>exact f.elim;|o e t=>exact⟨(an.lt h b f).2.1,(an.lt h b f).2.2⟩;|b t=>obtain⟨c,e,h⟩:=h;rw[f]at e;simp[Value.pointer.injEq]at e;subst e;exact⟨h.lt,h.own⟩;|c m=>obtain⟨F,h⟩:=h;rw[pN h]at f;have:=T.RPok m x;exact⟨Rsc.lt h b f,Rsc.nsh h b f⟩
theorem Rk.keep{κ:Rk}{x:κ.D T}{v:Value}{k g:K}{G:FP}(h:κ.is x v k)(c:Chg G k g)(j:∀b,G b->¬k.sh b)(f:aB (κ.fp T v k) G):κ.is x v g/\κ.fp T v g=κ.fp T v k:=by cases κ with|n=>exact⟨trivial,rfl⟩;|o e t=>exact⟨an.keep h c f j,rfl⟩;|b t=>obtain⟨b,e,h⟩:=h;exact⟨⟨b,e,h.keep c (f b e) j⟩,rfl⟩;|c m=>obtain⟨F,h⟩:=h;have hi:=T.RPok m x;rw[pN h]at f⊢;have q:=Rsc.keep h c f j;exact⟨⟨F,q⟩,pN q⟩
theorem Rk.handed{κ:Rk}{x:κ.D T}{v:Value}{k g:K}{G:FP}(h:κ.is x v k)(c:Handed k g G)(f:aB (κ.fp T v k) G):κ.is x v g/\κ.fp T v g=κ.fp T v k:=by cases κ with|n=>exact⟨trivial,rfl⟩;|o e t=>exact⟨an.handed h c f,rfl⟩;|b t=>obtain⟨b,e,h⟩:=h;exact⟨⟨b,e,h.handed c (f b e)⟩,rfl⟩;|c m=>obtain⟨F,h⟩:=h;have hi:=T.RPok m x;rw[pN h]at f⊢;have j:=Rsc.handed h c f;exact⟨⟨F,j⟩,pN j⟩
theorem Rk.grow{κ:Rk}{x:κ.D T}{v:Value}{k e:K}(h:κ.is x v k)(g:bD k e):κ.is x v e/\κ.fp T v e=κ.fp T v k:=Rk.keep h (Chg.of (F:=noF) g) (λ _ f=>f.elim) (λ _ _ f=>f.elim)
def UG:Value->Value| .tuple u=>u[0]?.getD undef|v=>v
def AV.is(a:Act):AV T->Value->K->Prop| .top,_,_=>True| .any,_,_=>True| .nil,y,_=>y= .pointer none| .v _ x,y,k=>IsV x y k| .e0,y,k=>iE y k| .tup l,y,k=>∃g:List Value,y= .tuple g.toArray/\Fa2 l g k| .ref _ x,y,k=>ax x y k| .fl _ h,y,k=>rz h y k| .own _ e _ h,y,k=>an 0 e h y k| .box _ _ x,y,k=>∃b,y= .pointer (some ⟨b,0,none⟩)/\Box b x k| .al s,y,_=>y=a.get s| .ab s _ x _ L,y,k=>L.ok/\∃b,a.get s= .pointer (some ⟨b,0,none⟩)/\y= .pointer (some ⟨b,L.off,none⟩)/\Box b x k| .ao s e t h i x _ L,y,k=>L.ok/\rB (a.get s) (i*(T.e t).sz+L.off) y k/\an 0 e h (a.get s) k/\h[i]?=some x| .rs _ m x,y,k=>(Rk.c m).is x y k| .tr _ j x l,y,k=>∃(u:Value)(g:List Value),y= .tuple (u::g).toArray/\j.is x u k/\Fa2 l g k| .tq l,y,k=>∃(u:Value)(g:List Value),y= .tuple (u::g).toArray/\Fa2 l g k| .mv f s,y,_=>y= .func (.func f) #[a.get s] #[]
theorem pJ{t:Tp}{x:T.D t}{v:Value}{k:K}:@IsV (T.D (.rf t)) (T.e (.rf t)) x v k↔@ax (T.D t) (T.e t) x v k:=RG (α:=T.D t)
theorem Ig{b:Tp}{g:T.D (.f0 b)}{v:Value}{k:K}:@IsV (T.D (.f0 b)) (T.e (.f0 b)) g v k↔@yF (T.D b) (T.e b) T.P g v k:=QB
theorem wm{a b:Tp}{g:T.D (.f1 a b)}{v:Value}{k:K}:@IsV (T.D (.f1 a b)) (T.e (.f1 a b)) g v k↔@po (T.D a) (T.D b) (T.e a) (T.e b) T.P g v k:=RI
theorem wS{a b c:Tp}{g:T.D (.f2 a b c)}{v:Value}{k:K}:@IsV (T.D (.f2 a b c)) (T.e (.f2 a b c)) g v k↔@u9 (T.D a) (T.D b) (T.D c) (T.e a) (T.e b) (T.e c) T.P g v k:=Rm
theorem iD{a:Act}{t:Tp}{x:T.D t}{v:Value}{k:K}:(mkv t x).is a v k↔IsV x v k:=by cases t with|rf t=>exact pJ.symm;|_=>exact ia
theorem ug{t:Tp}{x:T.D t}:aO (mkv t x)=false:=by cases t<;>rfl
theorem qS{t:Tp}{x:T.D t}{s:Nat}:(mkv t x).bW s=false:=by cases t<;>rfl
def AV.nc:AV T->Nat->Bool| .ab s _ _ _ _,t=>Nat.beq s t| .ao s _ _ _ _ _ _ _,t=>Nat.beq s t|_,_=>false
theorem AV.kI{av:AV T}{s:Nat}(h:av.nc s=true):av.bW s=true:=by cases av<;>first|exact h|simp[AV.nc]at h
def AV.fp:AV T->Value->K->FP| .own _ _ _ _,y,_=>obF y| .box _ _ _,y,_=>λb=>y= .pointer (some ⟨b,0,none⟩)| .rs _ m _,y,k=>Rk.fp T (.c m) y k| .tr _ e _ _,y,k=>Rk.fp T e (UG y) k|_,_,_=>noF
theorem AV.mono{a:Act}(av:AV T){v:Value}{k k':K}(g:bD k k')(h:av.is a v k):av.is a v k':=by cases av with|top=>trivial;|any=>trivial;|nil=>exact h;|v t x=>exact aZ.mono (R:=IsV x) g h;|fl t q=>exact aZ.mono (R:=rz q) g h;|e0=>exact h;|tup l=>obtain⟨j,e,h⟩:=h;exact⟨j,e,h.le g.le⟩;|ref t x=>exact aZ.mono (R:=ax x) g h;|own b e t q=>exact aZ.mono (R:=an 0 e q) g h;|box b t x=>obtain⟨b,e,h⟩:=h;exact⟨b,e,h.grow g⟩;|al s=>exact h;|ab s t x u L=>obtain⟨G,b,e1,H,h⟩:=h;exact⟨G,b,e1,H,h.grow g⟩;|ao s e t q i x u L=>exact⟨h.1,h.2.1,aZ.mono g h.2.2.1,h.2.2.2⟩;|rs b m x=>exact(Rk.grow (κ:= .c m) h g).1;|tr U κ x l=>obtain⟨u,j,e,h1,w⟩:=h;exact⟨u,j,e,(Rk.grow h1 g).1,w.le g.le⟩;|tq l=>obtain⟨u,j,e,w⟩:=h;exact⟨u,j,e,w.le g.le⟩;|mv f s=>exact h
instance{a:Act}{av:AV T}:aZ (av.is a):=⟨λg h=>av.mono g h⟩
theorem AV.congr{a j:Act}(av:AV T){v:Value}{k:K}(e:∀s,av.bW s=true->j.get s=a.get s)(h:av.is a v k):av.is j v k:=by cases av with|al s=>exact(h).trans (e s (de s)).symm;|ab s t x u L=>obtain⟨g,b,e1,r⟩:=h;exact⟨g,b,(e s (de s)).trans e1,r⟩;|ao s el t E i x u L=>have e:=e s (de s);obtain⟨g,h1,m,q⟩:=h;exact⟨g,by rw[e];exact h1,by rw[e];exact m,q⟩;|mv f s=>have e:=e s (de s);show v=_;rw[e];exact h;|_=>exact h
theorem AV.lt{a:Act}(av:AV T){v:Value}{k:K}(h:av.is a v k):∀b,av.fp v k b->b<k.w.heap.size/\¬k.sh b:=by intro b f;cases av with|own l e t g=>exact⟨(an.lt h b f).2.1,(an.lt h b f).2.2⟩;|box l t x=>obtain⟨c,e,h⟩:=h;rw[f]at e;simp[Value.pointer.injEq]at e;subst e;exact⟨h.lt,h.own⟩;|rs l m x=>exact Rk.lt (κ:= .c m) h b f;|tr q κ x l=>obtain⟨u,y,rfl,h1,z⟩:=h;exact Rk.lt h1 b f;|_=>exact f.elim
theorem dC{av:AV T}(h:aO av=false)(v:Value)(k:K)(b:Nat):¬av.fp v k b:=by intro f;cases av with|own l e t g=>simp[aO]at h;|box l t x=>simp[aO]at h;|rs l m x=>simp[aO]at h;|tr q u x l=>simp[aO]at h;|_=>exact f.elim
theorem rR{av:AV T}(h:unl av=true):aO av=true:=by cases av with|own l e t f=>rfl;|box l t x=>rfl;|rs l m x=>rfl;|tr j q x l=>rfl;|_=>simp[unl]at h
def HB:AV T->Bool| .own _ _ _ _=>true| .box _ _ _=>true|_=>false
theorem AV.keep{a:Act}(av:AV T){v:Value}{k E:K}{G:FP}(c:Chg G k E)(j:∀b,G b->¬k.sh b)(w:aB (av.fp v k) G)(F:∀s,av.nc s=true->∀u:AV T,HB u=true->u.is a (a.get s) k->aB (u.fp (a.get s) k) G)(h:av.is a v k):av.is a v E:=by have g:=c.le j;cases av with|top=>trivial;|any=>trivial;|nil=>exact h;|v t x=>exact ai.pers (R:=IsV x) g h;|fl t y=>exact ai.pers (R:=rz y) g h;|e0=>exact h;|tup l=>obtain⟨q,e,h⟩:=h;exact⟨q,e,h.le g⟩;|ref t x=>exact ai.pers (R:=ax x) g h;|own b e t y=>exact an.keep h c w j;|box b t x=>obtain⟨b,e,h⟩:=h;exact⟨b,e,h.keep c (w b e) j⟩;|al s=>exact h;|ab s t x u L=>obtain⟨O,b,e1,P,h⟩:=h;exact⟨O,b,e1,P,h.keep c (F s (de s) (.box false t x) rfl ⟨b,e1,h⟩ b e1) j⟩;|ao s e t y i x u L=>exact⟨h.1,h.2.1,an.keep h.2.2.1 c (F s (de s) (.own false e t y) rfl h.2.2.1) j,h.2.2.2⟩;|rs b m x=>exact(Rk.keep (κ:= .c m) h c j w).1;|tr lf κ x l=>obtain⟨u,q,rfl,h1,z⟩:=h;exact⟨u,q,rfl,(Rk.keep h1 c j w).1,z.le g⟩;|tq l=>obtain⟨u,q,e,z⟩:=h;exact⟨u,q,e,z.le g⟩;|mv f s=>exact h
theorem AV.oF{a:Act}(av:AV T){v:Value}{k e:K}{G:FP}(c:Chg G k e)(f:∀b,G b->¬k.sh b)(g:aB (av.fp v k) G)(h:av.is a v k):av.fp v e=av.fp v k:=by cases av with|rs b m x=>exact(Rk.keep (κ:= .c m) h c f g).2;|tr w κ x l=>obtain⟨u,y,rfl,h1,z⟩:=h;exact(Rk.keep h1 c f g).2;|_=>rfl
theorem AV.ir{a:Act}(av:AV T){v:Value}{k e:K}(g:bD k e)(h:av.is a v k):av.fp v e=av.fp v k:=av.oF (Chg.of (F:=noF) g) (λ_ f=>f.elim) (λ_ _ f=>f.elim) h
theorem AV.handed{a:Act}(av:AV T){v:Value}{k z:K}{G:FP}(c:Handed k z G)(q:aB (av.fp v k) G)(E:∀s,av.nc s=true->∀u:AV T,HB u=true->u.is a (a.get s) k->aB (u.fp (a.get s) k) G)(h:av.is a v k):av.is a v z:=by have g:=c.le;cases av with|top=>trivial;|any=>trivial;|nil=>exact h;|v t x=>exact ai.pers (R:=IsV x) g h;|fl t w=>exact ai.pers (R:=rz w) g h;|e0=>exact h;|tup l=>obtain⟨j,e,h⟩:=h;exact⟨j,e,h.le g⟩;|ref t x=>exact ai.pers (R:=ax x) g h;|own b e t w=>exact an.handed h c q;|box b t x=>obtain⟨b,e,h⟩:=h;exact⟨b,e,h.handed c (q b e)⟩;|al s=>exact h;|ab s t x u L=>obtain⟨M,b,e1,O,h⟩:=h;exact⟨M,b,e1,O,h.handed c (E s (de s) (.box false t x) rfl ⟨b,e1,h⟩ b e1)⟩;|ao s e t w i x u L=>exact⟨h.1,h.2.1,an.handed h.2.2.1 c (E s (de s) (.own false e t w) rfl h.2.2.1),h.2.2.2⟩;|rs b m x=>exact(Rk.handed (κ:= .c m) h c q).1;|tr lf κ x l=>obtain⟨u,j,rfl,h1,y⟩:=h;exact⟨u,j,rfl,(Rk.handed h1 c q).1,y.le g⟩;|tq l=>obtain⟨u,j,e,y⟩:=h;exact⟨u,j,e,y.le g⟩;|mv f s=>exact h
theorem AV.Jn{a:Act}(av:AV T){v:Value}{k e:K}{G:FP}(c:Handed k e G)(f:aB (av.fp v k) G)(h:av.is a v k):av.fp v e=av.fp v k:=by cases av with|rs b m x=>exact(Rk.handed (κ:= .c m) h c f).2;|tr q κ x l=>obtain⟨u,w,rfl,h1,y⟩:=h;exact(Rk.handed h1 c f).2;|_=>rfl
theorem D6{s t:Nat}(h:s≠t):Nat.beq s t=false:=by cases e:Nat.beq s t with|true=>exact absurd (bd e) h;|false=>rfl
theorem uZ(d:Nat)(x:AV T):kl d x=x∨kl d x= .top:=by unfold kl;grind
theorem iI(d:Nat)(x:AV T):klA d x=x∨klA d x= .top:=by
 unfold klA;split;.cases Nat.beq _ d<;>simp
 .cases Nat.beq _ d<;>simp
 .exact uZ d _
theorem qu{d s:Nat}{x:AV T}(h:(klA d x).bW s=true):x.bW s=true/\s≠d:=by
 have m:∀j:Nat,Nat.beq j d=false->Nat.beq j s=true->s≠d:=λj h1 q e=>by rw[<-e,q]at h1;simp at h1
 cases x with
 |al j=>simp[klA]at h;cases g:Nat.beq j d with|true=>rw[g]at h;simp[AV.bW]at h;|false=>rw[g]at h;exact⟨h,m _ g h⟩
 |mv f j=>simp[klA]at h;cases g:Nat.beq j d with|true=>rw[g]at h;simp[AV.bW]at h;|false=>rw[g]at h;exact⟨h,m _ g h⟩
 |ab j t x u L=>simp[klA,kl]at h;cases g:Nat.beq j d with|true=>rw[g]at h;simp[AV.bW]at h;|false=>rw[g]at h;exact⟨h,m _ g h⟩
 |ao j e t F i x u L=>simp[klA,kl]at h;cases g:Nat.beq j d with|true=>rw[g]at h;simp[AV.bW]at h;|false=>rw[g]at h;exact⟨h,m _ g h⟩
 |_=>simp[klA,kl,AV.bW]at h
theorem II{d s:Nat}{x:AV T}(h:(kl d x).bW s=true):x.bW s=true:=by
 rcases uZ d x with e|e;.rwa[e]at h
 .rw[e]at h;simp[AV.bW]at h
theorem Et{d s:Nat}{x:AV T}(h:(kl d x).nc s=true):x.nc s=true/\s≠d:=by
 have j:∀f:Nat,Nat.beq f d=false->Nat.beq f s=true->s≠d:=λf h1 m e=>by rw[<-e,m]at h1;simp at h1
 cases x with
 |ab f t x u L=>simp[kl]at h;cases g:Nat.beq f d with|true=>rw[g]at h;simp[AV.nc]at h;|false=>rw[g]at h;exact⟨h,j _ g h⟩
 |ao f e t y i x u L=>simp[kl]at h;cases g:Nat.beq f d with|true=>rw[g]at h;simp[AV.nc]at h;|false=>rw[g]at h;exact⟨h,j _ g h⟩
 |_=>simp[kl,AV.nc]at h
theorem uL{d:Nat}{x:AV T}(h:aO x=true):klA d x=x:=by cases x<;>first|rfl|simp[aO]at h
theorem L1{d:Nat}{x:AV T}(h:aO x=true):kl d x=x:=by cases x<;>first|rfl|simp[aO]at h
theorem bB(s:Nat)(x:AV T)(e:Env T)(t:Nat):lk ((s,x)::e) t=if s=t then x else lk e t:=by simp only[lk];simp_all
def pB(f:AV T->AV T)(e:Env T):Env T:=e.map λp=>(p.1,f p.2)
theorem gN(f:AV T->AV T):∀(e:Env T)(k:Env T->Option R),tt f e k=k (pB f e)|[],_=>rfl|(t,a)::e,k=>by rw[tt,gN f e];rfl
theorem mN{f:AV T->AV T}(h:f .top= .top):∀(e:Env T)(t:Nat),lk (pB f e) t=f (lk e t)|[],t=>h.symm|(s,x)::e,t=>by show lk ((s,f x)::pB f e) t=_;rw[bB,bB,mN h e];split<;>rfl
def GOk(T:Tb)(k:K):Prop:=(∀g t x,T.gl g=some ⟨t,x⟩->ax (α:=T.D t) x (.pointer (some ⟨g,0,none⟩)) k)/\∀g,T.gi=some g->∃m:Int,ax m (.pointer (some ⟨g,0,none⟩)) k
theorem GOk.le{k f:K}(h:Le k f)(g:GOk T k):GOk T f:=⟨λi t x e=>ai.pers h (g.1 i t x e),λi e=>(g.2 i e).imp λ_ r=>ai.pers h r⟩
structure Hl(n:Nat)(F:FP)(k0:K)(W:List Nat)(a0:Act)(e:Env T)(a:Act)(k:K):Prop where
 g:Chg F k0 k
 s:a.tmps.size=n
 d:a.defers=[]old:∀t,t∉W->a.get t=a0.get t
 sl:∀t,(lk e t).is a (a.get t) k
 inv:∀t s,(lk e t).bW s=true->aO (lk e s)=true
 wr:∀t,unl (lk e t)=true->Wr F k0 ((lk e t).fp (a.get t) k)ap:∀t t',t≠t'->aB ((lk e t).fp (a.get t) k) ((lk e t').fp (a.get t') k)gl:GOk T k
section
variable{n:Nat}{F:FP}{k0:K}{W:List Nat}{a0:Act}{e:Env T}{a a':Act}{k k':K}
theorem Hl.lt(h:Hl n F k0 W a0 e a k)(t:Nat):∀b,(lk e t).fp (a.get t) k b->b<k.w.heap.size/\¬k.sh b:=(lk e t).lt (h.sl t)
theorem Hl.apm(h:Hl n F k0 W a0 e a k){s w:Nat}(E:aO (lk e s)=true)(G:s≠w){u:AV T}(P:HB u=true)(hi:u.is a (a.get s) k):aB (u.fp (a.get s) k) ((lk e w).fp (a.get w) k):=by
 have H:=h.ap s w G;have f:=h.sl s;have I:∀b,u.fp (a.get s) k b->(lk e s).fp (a.get s) k b:=by intro b g;have j:=(u.lt hi b g).2;generalize lk e s=x at E f;generalize a.get s=v at*;cases u with
 |own l e' t xs=>cases x with|own q J M O=>exact g;|box q M Q=>obtain⟨c,rfl,_⟩:=f;simp[AV.fp,obF,ob]at g;|rs q m z=>obtain⟨F,h1⟩:=f;show Rk.fp T (.c m) v k b;rw[pN h1];exact T.RProot _ _ _ _ _ _ h1 (.inr g) j;|tr V κ z q=>obtain⟨u,vs,rfl,_⟩:=f;simp[AV.fp,obF,ob]at g;|_=>simp[aO]at E
 |box l t y=>cases x with|own q J M O=>obtain⟨c,rfl,_⟩:=hi;rcases(f)with⟨e1,_⟩|⟨_,e1,_⟩|⟨_,_,_,_,_,e1,_⟩<;>simp at e1;|box q M Q=>exact g;|rs q m z=>obtain⟨F,h1⟩:=f;show Rk.fp T (.c m) v k b;rw[pN h1];exact T.RProot _ _ _ _ _ _ h1 (.inl g) j;|tr V κ z q=>obtain⟨u,vs,rfl,_⟩:=f;obtain⟨c,e,_⟩:=hi;simp at e;|_=>simp[aO]at E
 |_=>simp[HB]at P
 exactλb g=>H b (I b g)
theorem Hl.put(h:Hl n F k0 W a0 e a k){d:Nat}{av:AV T}(hd:d∈W)(I:bD k k')(hs:a'.tmps.size=a.tmps.size)(Q:a'.defers=a.defers)(J:∀t,t≠d->a'.get t=a.get t)(hv:av.is a' (a'.get d) k')(hm:∀s,av.bW s=true->aO (lk e s)=true)(hw:unl av=true->Wr F k0 (av.fp (a'.get d) k'))(ha:∀t,t≠d->aB (av.fp (a'.get d) k') ((lk e t).fp (a.get t) k)){r:R}{K:Env T->Option R}(hk:Gb.put e d av K=some r):∃E,K E=some r/\Hl n F k0 W a0 E a' k'/\lk E d=av/\∀t,t≠d->lk E t=lk e t∨lk E t= .top:=by
 have M:(av.bW d=false)->∀e1:Env T,(∀t,t≠d->lk e1 t=lk e t∨lk e1 t= .top)->(∀t s,t≠d->(lk e1 t).bW s=true->s≠d)->(∀s,aO (lk e s)=true->s≠d->lk e1 s=lk e s)->Hl n F k0 W a0 ((d,av)::e1) a' k'/\lk ((d,av)::e1) d=av/\∀t,t≠d->lk ((d,av)::e1) t=lk e t∨lk ((d,av)::e1) t= .top:=by
  intro w e1 h1 h2 h3;have q:∀t,t≠d->lk ((d,av)::e1) t=lk e1 t:=λt j=>by rw[bB,if_neg (Ne.symm j)]
  have u:lk ((d,av)::e1) d=av:=by rw[bB,if_pos rfl]
  refine⟨?_,u,λt j=>by rw[q t j];exact h1 t j⟩;refine⟨h.g.then I,hs.trans h.s,Q.trans h.d,λt j=>?_,λt=>?_,λt s m=>?_,λt G=>?_,λt O H=>?_,h.gl.le I.le⟩;.rw[J t (λe=>j (e▸hd))];exact h.old t j
  · by_cases j:t=d;.subst j;rw[u];exact hv
    · rw[q t j,J t j];rcases h1 t j with f|f;·rw[f];refine(lk e t).congr (λs U=>J s (h2 t s j (by rw[f];exact U))) ((lk e t).mono I (h.sl t))
      .rw[f];trivial
  · by_cases j:t=d;·subst j;rw[u]at m;grind
    · rw[q t j]at m;have h4:=h2 t s j m;rcases h1 t j with f|f;·rw[f]at m;have h5:=h.inv t s m;rw[q s h4,h3 s h5 h4];exact h5
      .rw[f]at m;simp[AV.bW]at m
  · by_cases j:t=d;.subst j;rw[u]at G⊢;exact hw G
    · rw[q t j]at G⊢;rw[J t j];rcases h1 t j with f|f;.rw[f]at G⊢;rw[AV.ir _ I (h.sl t)];exact h.wr t G
      .rw[f]at G;simp[unl]at G
  · have z:∀t,t≠d->∀b,(lk ((d,av)::e1) t).fp (a'.get t) k' b->(lk e t).fp (a.get t) k b:=by
     intro t j b x;rw[q t j,J t j]at x;rcases h1 t j with f|f;.rw[f,AV.ir _ I (h.sl t)]at x;exact x
     .rw[f]at x;exact x.elim
    by_cases j:t=d;·subst j;rw[u];exactλb x y=>ha O (Ne.symm H) b x (z O (Ne.symm H) b y)
    · by_cases P:O=d;·subst P;rw[u];exactλb x y=>ha t j b y (z t j b x)
      .exactλb x y=>h.ap t O H b (z t j b x) (z O P b y)
 unfold Gb.put at hk;cases w:av.bW d with|true=>rw[w]at hk;simp at hk;|false=>rw[w]at hk;simp only[cond_false]at hk;cases V:aO (lk e d)with
 |true=>
 rw[V]at hk;simp only[cond_true]at hk;rw[gN]at hk;have hl:∀t,lk (pB (klA d) e) t=klA d (lk e t):=λt=>mN rfl e t;refine⟨_,hk,M w _ (λt _=>?_) (λt s _ m=>?_) (λs hsr _=>?_)⟩;.rw[hl];exact iI d _
 ·rw[hl]at m;exact(qu m).2
 .rw[hl];exact uL hsr;|false=>rw[V]at hk;simp only[cond_false]at hk;refine⟨_,hk,M w e (λt _=> .inl rfl) (λt s _ m=>?_) (λs _ _=>rfl)⟩;intro E;subst E;have:=h.inv t s m;rw[V]at this;simp at this
end
end Go.Gb
namespace Go.Gb
variable{T:Tb}{R:Type}
theorem qe{P:Program}{t:TypeId}{u:Tp}(h:tyB P T t u=true):(P.info? t).map (·.size)=some (T.e u).sz:=by unfold tyB at h;grind
theorem vq{P:Program}{t:TypeId}{u:Tp}(h:tyB P T t u=true):Ty P t (T.D u):=by refine⟨?_,qe h⟩;unfold tyB at h;grind
theorem jl{P:Program}{t e:TypeId}(h:BE P t=some e):P.underlying t=some (.slice e):=by unfold BE at h;grind
theorem vE{P:Program}{e:TypeId}{u:Tp}(h:elB P T e u=true):dX P e (T.D u):=by unfold elB at h;cases hi:P.info? e with|none=>rw[hi]at h;simp at h;|some i=>rw[hi]at h;simp only[aG]at h;obtain⟨⟨⟨h1,g⟩,j⟩,m⟩:=h;cases f:i.zero with|none=>rw[f]at h1;simp at h1;|some z=>rw[f]at h1;exact⟨i,z,hi,f,by simpa[szT]using g,by simpa[szT]using h1,gz Nat.zero_lt_one (by simpa[szT]using mZ j),mZ m⟩
theorem CR{P:Program}{s f off:Nat}(h:sT P s f=some off):cu P s f off:=by
 unfold sT at h;split at h
 · rename_i e u;split at h
   · rename_i d g;split at h
     · rename_i i hi;split at h;.simp at h
       .rename_i m j;exact⟨e,d,m,u,g,ae h,by rw[hi];simp[j]⟩
     .simp at h
   .simp at h
 .simp at h
theorem Eg:∀{l:List Tp}{i:Nat}{u:Tp}{L:Pu T l u},AF l i=some ⟨u,L⟩->(∀(x:HL T.S l)(f:Addr)(k:K),At x f k->At (L.get x) (f.add L.off) k)/\Upd L.off L.set/\L.off+(T.e u).sz<=(T.h l).sz
 |[],_,_,_,h=>by simp[AF]at h;|[a],0,u,L,h=>by simp[AF]at h;obtain⟨rfl,h⟩:=h;subst h;exact⟨λx f k g=>At.zero g,Upd.self,qB (bS _)⟩;|a::b::l,0,u,L,h=>by simp[AF]at h;obtain⟨rfl,h⟩:=h;subst h;exact⟨λx f k g=>At.zero (At.fst g),Upd.fst Upd.self,by show 0+(T.e a).sz<=(T.e a).sz+(T.h (b::l)).sz;omega⟩;|a::b::l,i+1,u,L,h=>by
  simp[AF]at h;split at h;.rename_i j m q;obtain⟨h1,w,y⟩:=Eg q;simp[aV]at h;obtain⟨rfl,h⟩:=h;subst h;refine⟨λx f k g=>?_,Upd.snd w,by show(T.e a).sz+m.off+(T.e j).sz<=(T.e a).sz+(T.h (b::l)).sz;omega⟩;have:=h1 _ _ _ (At.snd g);rw[add_add]at this;exact this
  .simp at h
theorem Sd{n:Nat}{x:T.S n}{f:Addr}{k:K}:@At (T.D (.st n)) (T.e (.st n)) x f k↔At (T.to n x) f k:=by show@At (T.S n) (T.enc n) x f k↔_;rw[T.enc_eq n];exact ia
theorem xZ{n:Nat}{x:T.S n}{k:K}{f:List Value}:@Enc.rep (T.D (.st n)) (T.e (.st n)) k f x↔Enc.rep k f (T.to n x):=by show@Enc.rep (T.S n) (T.enc n) k f x↔_;rw[T.enc_eq n];exact ia
theorem Ll{n:Nat}:(T.e (.st n)).sz=(T.h (T.fs n)).sz:=by show(T.enc n).sz=_;rw[T.enc_eq n];rfl
theorem Hm{n:Nat}:(T.e (.st n)).agg=true:=by show(T.enc n).agg=_;rw[T.enc_eq n];rfl
theorem cast?_eq'{S:Nat->Type}{a b:Tp}{x:a.den S}{y:b.den S}(h:cast? a b x=some y):∃e:a=b,y=e▸x:=by unfold cast? at h;grind
theorem vp{k:K}{t:Tp}:∀{l:List Tp}{x:HL T.S l}{f:List (T.D t)}{cs:List Value},o0 t l x=some f->Enc.rep k cs x->∀j (g:j<f.length),Enc.rep k ((cs.drop (j*(T.e t).sz)).take (T.e t).sz) f[j]
 |[],x,f,cs,h,m,j,g=>by simp[o0]at h;subst h;simp at g;|[a],x,f,cs,h,m,j,g=>by
  simp[o0]at h;split at h
  · rename_i y q;obtain rfl:=ae h;obtain⟨rfl,rfl⟩:=cast?_eq' q;have E:j=0:=by simp at g;omega
    subst E;have u:Enc.rep k cs _:=m;have F:cs.length=(T.e a).sz:=Enc.len u;grind
  .simp at h|a::b::l,x,f,cs,h,m,j,g=>by
  simp[o0]at h;split at h;.rename_i y r q h1;obtain rfl:=ae h;obtain⟨rfl,rfl⟩:=cast?_eq' q;obtain⟨F,G,H⟩:=m;cases j with|zero=>rw[rp];exact G;|succ j=>have:=vp h1 H j (by simpa using g);rw[gQ]at this;rw[Nat.succ_mul,Nat.add_comm];exact this
  .simp at h
theorem HF{k:K}{t:Tp}{l:List Tp}{x:HL T.S l}{g:List (T.D t)}{m:List Value}(h:vm l x=some ⟨t,g⟩)(q:Enc.rep k m x):∀j(u:j<g.length),Enc.rep k ((m.drop (j*(T.e t).sz)).take (T.e t).sz) g[j]:=by
 unfold vm at h;split at h;.simp at h
 · split at h;.rename_i r f;simp[aV]at h;obtain⟨rfl,h⟩:=h;obtain rfl:=eq_of_heq h;exact vp f q
   .simp at h
 · split at h;.rename_i r f;simp[aV]at h;obtain⟨rfl,h⟩:=h;obtain rfl:=eq_of_heq h;exact vp f q
   .simp at h
theorem xb{k:K}{t:Tp}:∀{l:List Tp}{x:HL T.S l}{f:List (T.D t)}{m:Addr},o0 t l x=some f->At x m k->∀j(g:j<f.length),At f[j] (m.add (j*(T.e t).sz)) k
 |[],x,f,m,h,q,j,g=>by simp[o0]at h;subst h;simp at g;|[a],x,f,m,h,q,j,g=>by
  simp[o0]at h;split at h
  · rename_i y u;obtain rfl:=ae h;obtain⟨rfl,rfl⟩:=cast?_eq' u;have E:j=0:=by simp at g;omega
    subst E;rw[rp];exact At.zero q
  .simp at h|a::b::l,x,f,m,h,q,j,g=>by
  simp[o0]at h;split at h;.rename_i y r u h1;obtain rfl:=ae h;obtain⟨rfl,rfl⟩:=cast?_eq' u;cases j with|zero=>rw[rp];exact At.zero (At.fst q);|succ j=>have:=xb h1 (At.snd q) j (by simpa using g);rw[add_add]at this;grind
  .simp at h
theorem KQ{k:K}{t:Tp}{l:List Tp}{x:HL T.S l}{g:List (T.D t)}{m:Addr}(h:vm l x=some ⟨t,g⟩)(q:At x m k):∀j (u:j<g.length),At g[j] (m.add (j*(T.e t).sz)) k:=by
 unfold vm at h;split at h;.simp at h
 · split at h;.rename_i r f;simp[aV]at h;obtain⟨rfl,h⟩:=h;obtain rfl:=eq_of_heq h;exact xb f q
   .simp at h
 · split at h;.rename_i r f;simp[aV]at h;obtain⟨rfl,h⟩:=h;obtain rfl:=eq_of_heq h;exact xb f q
   .simp at h
theorem zD{n i:Nat}{u:Tp}{L:gY T (.st n) u}(h:EC n i=some ⟨u,L⟩):L.ok:=by
 unfold EC at h;split at h;.rename_i F G f;obtain⟨h1,g,j⟩:=Eg f;simp[aV]at h;obtain⟨rfl,h⟩:=h;subst h;refine⟨λx H k e=>h1 _ _ _ (Sd.1 e),λk m q x y e w=>?_,by rw[Ll];exact j⟩;obtain⟨z,E⟩:=g k m q _ y (xZ.1 e) w;refine⟨by rw[Ll];exact z,xZ.2 ?_⟩;rw[T.to_of];exact E
 .simp at h
theorem gY.IB{t:Tp}:(gY.id (T:=T) t).ok:=⟨λx e k h=>At.zero h,Upd.self,qB (bS _)⟩
theorem Upd.comp{α β m:Type}[Enc α][Enc β][Enc m]{o p:Nat}{g:α->β}{s:α->β->α}{r:β->m->β}(h:Upd o s)(q:∀(k:K)(f:List Value)(x:α),Enc.rep k f x->Enc.rep k ((f.drop o).take (Enc.sz β)) (g x))(E:Upd p r):Upd (α:=α) (β:=m) (o+p) (λx y=>s x (r (g x) y)):=by
 intro k f j x y u w;have q:=q k f x u;obtain⟨h1,z⟩:=E k _ j _ y q w;obtain⟨H,F⟩:=h k f _ x _ u z;have I:=Enc.len w;have l3:=Enc.len z;refine⟨by omega,?_⟩;have e:f.take (o+p)++j++f.drop (o+p+j.length)=f.take o++(((f.drop o).take (Enc.sz β)).take p++j++((f.drop o).take (Enc.sz β)).drop (p+j.length))++f.drop (o+(((f.drop o).take (Enc.sz β)).take p++j++((f.drop o).take (Enc.sz β)).drop (p+j.length)).length):=by
  rw[l3,lV,lR (by omega),rh];simp;rw[mU,gQ];have G:f.drop (o+Enc.sz β)=(f.drop (o+p+j.length)).drop (Enc.sz β-(p+j.length)):=by rw[gQ];congr 1;omega
  rw[G,show o+(p+j.length)=o+p+j.length by omega,gB]
 rw[e];exact F
theorem MX{m u:Type}[Enc m][Enc u]{o:Nat}{g:m->u}(J:∀(k:K)(e:List Value)(x:m),Enc.rep k e x->o+Enc.sz u<=Enc.sz m)(h:∀(x:m)(G:Addr)(k:K),At x G k->At (g x) (G.add o) k)(k:K)(e:List Value)(x:m)(M:Enc.rep k e x):Enc.rep k ((e.drop o).take (Enc.sz u)) (g x):=by
 let q:World:={k.w with heap:=k.w.heap.push (.cells e.toArray 0 (0,0))};have z:∀b,k.sh b->b<q.heap.size:=λb y=>by have:=k.lt b y;simp[q];omega
 let k':K:=⟨q,k.sh,z⟩;have E:Le k k':=⟨λb y=>by simp[k',q,Array.getElem?_push,Nat.ne_of_lt (k.lt b y)],λ _ h=>h⟩;have F:At x ⟨k.w.heap.size,0,none⟩ k':=⟨e,Enc.mono E M,rfl,e.toArray,0,(0,0),by simp[k',q],by simp,λj O=>by simp⟩;obtain⟨P,H,Q⟩:=h _ _ _ F;obtain⟨_,U,t,W,hh,I,O⟩:=Q;have l:=Enc.len H;have ea:(Addr.add ⟨k.w.heap.size,0,none⟩ o).block=k.w.heap.size/\(Addr.add ⟨k.w.heap.size,0,none⟩ o).off=o:=by unfold Addr.add;split<;>simp_all
 have V:P=(e.drop o).take (Enc.sz u):=by refine nN λj=>?_;grind
 rw[<-V];refine Enc.mono (k:=k') (k':=k) ⟨λb y=>?_,λ _ h=>h⟩ H;have:=k.lt b y;simp[k',q,Array.getElem?_push,Nat.ne_of_lt this]
theorem gY.Jd{t u w:Tp}{L:gY T t u}{M:gY T u w}(h:L.ok)(g:M.ok):(L.comp M).ok:=by have f:=h.2.2;have j:=g.2.2;refine⟨λx q k e=>?_,Upd.comp h.2.1 (λk m x e=>MX (λ _ _ _ _=>f) h.1 k m x e) g.2.1,by show L.off+M.off+_<=_;omega⟩;have:=g.1 _ _ _ (h.1 _ _ _ e);rw[add_add]at this;exact this
end Go.Gb
namespace Go.Gb
def Ho(s:ByteArray)(i:Int):Option (IK .u8):=if 0<=i then(s[i.toNat]?).map λb=>⟨b.toNat⟩else none
def Gc(s t:ByteArray):Option ByteArray:=if((s.size+t.size:Nat):Int)<=IntKind.i64.max then some (s++t)else none
theorem Ij(a b:ByteArray):(a==b)=decide (a=b):=by cases a with|mk x=>cases b with|mk y=>
 have h:((⟨x⟩:ByteArray)==⟨y⟩)=(x==y):=rfl;rw[h];by_cases e:x=y;.simp[e]
 .simp[e]
theorem P5{l:List Value}(h:l.length=9):∃a b c d e f g i j,l=[a,b,c,d,e,f,g,i,j]:=by match l,h with|[a,b,c,d,e,f,g,i,j],_=>exact⟨a,b,c,d,e,f,g,i,j,rfl⟩
section
variable{P:Program}{o:Oper}{a:Act}{k:K}{κ:IntKind}{p q:IK κ}{t u:TypeId}{x y:Operand}{s r:ByteArray}{i:Int}{z:IK .u8}
theorem DH{f:Array TypeId}(j:o.op= .call {callee:= .builtin .len,args:=#[x],argTypes:=f})(m:f[0]?=some t) (w:P.underlying t=some .string)(h:IsV s (a.eval x) k):aX P o a k (IsV (s.size:Int)):=by have h:=di.1 h;refine ak ?_ (ar.2 rfl);simp[execOp,j,resolve,invoke,builtin,h,Builtin.len_,m,run_underlying w,goInt]
theorem I7(g:o.op= .index t x y)(j:P.underlying t=some .string)(e:IsV s (a.eval x) k)(f:IsV i (a.eval y) k)(h:Ho s i=some z):aX P o a k (IsV z):=by
 have e:=di.1 e;have f:=ar.1 f;unfold Ho at h;split at h;.rename_i m;obtain⟨b,w,rfl⟩:=Option.map_eq_some_iff.1 h;refine ak ?_ (dq.2 rfl);simp[execOp,g,f,e];simp[Instr.index,asIntOf,run_underlying j,m,w]
 .cases h
theorem IH(g:o.op= .binOp .add t x y u)(e:IsV s (a.eval x) k)(f:IsV r (a.eval y) k){z:ByteArray}(h:Gc s r=some z):aX P o a k (IsV z):=by
 have e:=di.1 e;have f:=di.1 f;unfold Gc at h;split at h;.rename_i j;obtain rfl:=ae h;refine ak ?_ (di.2 rfl);simp[execOp,g,e,f];simp[eqGuard,binOp,Op.stringOp];simpa[IntKind.signed]using j
 .cases h
theorem Ik(f:o.op= .binOp .leq t x y u)(h:IsV p (a.eval x) k)(e:IsV q (a.eval y) k):aX P o a k (IsV (decide (p.n<=q.n))):=by have h:=dq.1 h;have e:=dq.1 e;refine ak ?_ (aE.2 rfl);simp[execOp,f,h,e];simp[eqGuard,binOp,Op.intCmp]
theorem OP(f:o.op= .binOp .gtr t x y u)(h:IsV p (a.eval x) k)(e:IsV q (a.eval y) k):aX P o a k (IsV (decide (q.n<p.n))):=by have h:=dq.1 h;have e:=dq.1 e;refine ak ?_ (aE.2 rfl);simp[execOp,f,h,e];simp[eqGuard,binOp,Op.intCmp]
theorem IS(f:o.op= .binOp .geq t x y u)(h:IsV p (a.eval x) k)(e:IsV q (a.eval y) k):aX P o a k (IsV (decide (q.n<=p.n))):=by have h:=dq.1 h;have e:=dq.1 e;refine ak ?_ (aE.2 rfl);simp[execOp,f,h,e];simp[eqGuard,binOp,Op.intCmp]
end
variable{T:Tb}{R:Type}
def Opk(e:Env T)(a0 a:Act)(k:K):Operand->Prop| .tmp t=>(lk e t).is a0 (a.get t) k/\(aO (lk e t)=true->a.get t=a0.get t)| .global _=>GOk T k|_=>True
structure Rd1(e:Env T)(o:Oper)(a0 a:Act)(k:K):Prop where
 op:∀x∈o.op.operands.toList,Opk e a0 a k x
 rs:∀s,aO (lk e s)=true->(lk e s).is a0 (a0.get s) k
 gl:GOk T k
theorem cast?_eq{S:Nat->Type}{a b:Tp}{x:a.den S}{y:b.den S}(h:cast? a b x=some y):∃e:a=b,y=e▸x:=by unfold cast? at h;grind
section
variable{e:Env T}{a0 a:Act}{k:K}{P:Program}{o:Oper}
theorem Dv{av:AV T}{v:Value}(h:av.is a0 v k):(nrm av).is a0 v k:=by cases av with|fl t x=>exact h.2;|_=>exact h
theorem Ek{av:AV T}{s:Nat}(h:(nrm av).bW s=true):av.bW s=true:=by cases av with|_=>exact h
theorem eU{x:Operand}(h:Opk e a0 a k x):(opv e x).is a0 (a.eval x) k:=by cases x with
 |tmp t=>exact Dv h.1;|const v=>
 unfold opv;split;all_goals try trivial
 all_goals rename_i q;try(injection q with q);all_goals try(subst q)
 .exact ar.2 rfl
 .exact dq.2 rfl
 .exact aE.2 rfl
 .exact di.2 rfl
 .exact ng (k:=k)|global g=>
 unfold opv;dsimp;split;.rename_i t x e1;exact h.1 g t x e1
 .trivial|func f=>trivial
theorem jL{x:Operand}(hi:∀t s,(lk e t).bW s=true->aO (lk e s)=true):∀s,(opv e x).bW s=true->aO (lk e s)=true:=by intro s h;cases x with
 |tmp t=>exact hi t s (Ek h);|const v=>unfold opv at h;split at h<;>first|(simp[AV.bW]at h;done)|skip;rename_i q;cases q
 |global g=>unfold opv at h;dsimp at h;split at h<;>simp[AV.bW]at h;|func f=>simp[opv,AV.bW]at h
theorem te{x:Operand}(h:Opk e a0 a k x):(mvv e x).is a0 (a.eval x) k:=by cases x with
 |tmp t=>
 unfold mvv;dsimp;split;.rename_i q;exact h.2 (by rw[q];rfl)
 .rename_i q;exact h.2 (by rw[q];rfl)
 .rename_i q;exact h.2 (by rw[q];rfl)
 .rename_i q;exact h.2 (by rw[q];rfl)
 .exact h.1|_=>exact eU h
theorem ti{x:Operand}(hi:∀t s,(lk e t).bW s=true->aO (lk e s)=true):∀s,(mvv e x).bW s=true->aO (lk e s)=true:=by intro s h;cases x with
 |tmp t=>
 unfold mvv at h;dsimp at h;split at h;.rename_i q;rw[<-bd h,q];rfl
 .rename_i q;rw[<-bd h,q];rfl
 .rename_i q;rw[<-bd h,q];rfl
 .rename_i q;rw[<-bd h,q];rfl
 .exact hi t s h|const v=>exact jL hi s h;|global g=>exact jL (x:= .global g) hi s h;|func f=>exact jL (x:= .func f) hi s h
theorem Az{x:Operand}:aO (mvv e x)=false:=by cases x with
 |tmp t=>
 unfold mvv;dsimp;split;.rfl
 .rfl
 .rfl
 .rfl
 .rename_i h1 z E F;generalize J:lk e t=y at*;cases y with|own l el t G=>exact absurd rfl (h1 l el t G);|box l t x=>exact absurd rfl (z l t x);|rs l m x=>exact absurd rfl (E l m x);|tr H I x l=>exact absurd rfl (F H I x l);|_=>rfl
 |const v=>unfold mvv opv;dsimp;split<;>first|rfl|(rename_i q;cases q)
 |global g=>unfold mvv opv;dsimp;split<;>rfl;|func f=>rfl
theorem iL{t:Tp}{av:AV T}{y:T.D t}{v:Value}(h:asT t av=some y)(f:av.is a v k):IsV y v k:=by
 unfold asT at h;split at h;.obtain⟨rfl,rfl⟩:=cast?_eq h;exact f
 · split at h;.obtain rfl:=ae h;exact iE.isV f
   .simp at h
 · split at h;.obtain⟨rfl,rfl⟩:=cast?_eq h;exact pJ.2 f
   .simp at h
 .simp at h
theorem dY{av:AV T}{n:Int}{v:Value}(h:asI av=some n)(f:av.is a v k):IsV n v k:=by
 unfold asI at h;split at h;.obtain rfl:=ae h;exact f
 .simp at h
theorem mm{av:AV T}{n:Bool}{v:Value}(h:asB av=some n)(f:av.is a v k):IsV n v k:=by
 unfold asB at h;split at h;.obtain rfl:=ae h;exact f
 .simp at h
theorem zG{av:AV T}{v:Value}(h:av.is a0 v k)(m:∀s,av.bW s=true->aO (lk e s)=true)(f:∀s,aO (lk e s)=true->(lk e s).is a0 (a0.get s) k):(res e av).is a0 v k:=by
 unfold res;split;.rename_i s;rw[h];exact f s (m s (de s))
 .exact h
theorem Dh{av:AV T}{t:Tp}{x:List (T.D t)}{v:Value}(g:asL e av=some ⟨t,x⟩)(h:av.is a0 v k)(m:∀s,av.bW s=true->aO (lk e s)=true)(j:∀s,aO (lk e s)=true->(lk e s).is a0 (a0.get s) k):dO x v k:=by
 have f:=zG h m j;unfold asL at g;split at g;.rename_i q;rw[q]at f;simp[aV]at g;obtain⟨rfl,g⟩:=g;obtain rfl:=eq_of_heq g;exact IsV.rd f
 .rename_i q;rw[q]at f;simp[aV]at g;obtain⟨rfl,g⟩:=g;obtain rfl:=eq_of_heq g;exact an.rd f
 .rename_i q;rw[q]at f;obtain⟨F,f⟩:=f;exact IsV.rd (T.RLok _ _ _ _ _ _ _ f g)
 .simp at g
theorem Gi{m q:Type}[Enc m][Enc q]{s f off:Nat}{x:Operand}{y:m}{z:q}(u:o.op= .fieldAddr s x f)(w:cu P s f off)(E:∀g k,At y g k->At z (g.add off) k)(h:ax y (a.eval x) k):aX P o a k (ax z):=by obtain⟨g,e,F,j⟩:=h;refine ak ?_ ⟨_,rfl,by rw[uJ];exact F,E _ _ j⟩;simp[execOp,u,e];simp[nq w]
def ba(P:Program)(e:Env T)(o:Oper)(av:AV T):Prop:=(∀s,av.bW s=true->aO (lk e s)=true)/\aO av=false/\∀a0 a k,Rd1 e o a0 a k->aX P o a k (av.is a0)
theorem ot{t:Tp}{x:T.D t}(h:∀a0 a k,Rd1 e o a0 a k->aX P o a k (IsV x)):ba P e o (mkv t x):=⟨λs h=>by rw[qS]at h;simp at h,ug,λa0 a k g=>cS (h a0 a k g) λv j _ f=>iD.2 f⟩
theorem bh{t:Tp}{x:T.D t}(h:∀a0 a k,Rd1 e o a0 a k->aX P o a k (IsV x)):ba P e o (.v t x):=⟨λs h=>by simp[AV.bW]at h,rfl,h⟩
theorem MJ{wr:Bool}{op:BinOp}{E w:TypeId}{x y:Operand}{n m:Int}{K:AV T->Option R}{r:R}(f:o.op= .binOp op E x y w)(F:opv e x= .v .int n)(G:opv e y= .v .int m)(h:M9 wr op n m K=some r):∃av,K av=some r/\ba P e o av:=by
 have j:∀a0 a k,Rd1 e o a0 a k->IsV n _ k:=λa0 a k g=>by have:=eU (g.op x (by rw[f];simp[Op.operands]));rw[F]at this;exact this
 have q:∀a0 a k,Rd1 e o a0 a k->IsV m _ k:=λa0 a k g=>by have:=eU (g.op y (by rw[f];simp[Op.operands]));rw[G]at this;exact this
 cases op<;>simp[M9]at h<;>first|(simp at h)|skip
 .cases wr with|false=>obtain⟨z,u,h⟩:=bind_some (h);exact⟨_,h,bh λa0 a k g=>dF f (j _ _ _ g) (q _ _ _ g) u⟩;|true=>obtain⟨z,u,h⟩:=bind_some (h);exact⟨_,h,bh λa0 a k g=>Je f (j _ _ _ g) (q _ _ _ g) u⟩
 .cases wr with|false=>obtain⟨z,u,h⟩:=bind_some (h);exact⟨_,h,bh λa0 a k g=>vg f (j _ _ _ g) (q _ _ _ g) u⟩;|true=>obtain⟨z,u,h⟩:=bind_some (h);exact⟨_,h,bh λa0 a k g=>NP f (j _ _ _ g) (q _ _ _ g) u⟩
 .obtain⟨z,u,h⟩:=bind_some h;exact⟨_,h,bh λa0 a k g=>QY f (j _ _ _ g) (q _ _ _ g) u⟩
 .obtain⟨z,u,h⟩:=bind_some h;exact⟨_,h,bh λa0 a k g=>P6 f (j _ _ _ g) (q _ _ _ g) u⟩
 .obtain⟨z,u,h⟩:=bind_some h;exact⟨_,h,bh λa0 a k g=>Qr f (j _ _ _ g) (q _ _ _ g) u⟩
 .exact⟨_,h,bh λa0 a k g=>Ro f (j _ _ _ g) (q _ _ _ g)⟩
 .exact⟨_,h,bh λa0 a k g=>R3 f (j _ _ _ g) (q _ _ _ g)⟩
 .exact⟨_,h,bh λa0 a k g=>N5 f (j _ _ _ g) (q _ _ _ g)⟩
 .exact⟨_,h,bh λa0 a k g=>Ap f (j _ _ _ g) (q _ _ _ g)⟩
 .exact⟨_,h,bh λa0 a k g=>DU f (j _ _ _ g) (q _ _ _ g)⟩
 .exact⟨_,h,bh λa0 a k g=>dm f (j _ _ _ g) (q _ _ _ g)⟩
 .exact⟨_,h,bh λa0 a k g=>DS f (j _ _ _ g) (q _ _ _ g)⟩
 .exact⟨_,h,bh λa0 a k g=>gJ f (j _ _ _ g) (q _ _ _ g)⟩
 .exact⟨_,h,bh λa0 a k g=>zW f (j _ _ _ g) (q _ _ _ g)⟩
theorem Mo{P:Program}{o:Oper}{a:Act}{k:K}{t u:TypeId}{x y:Operand}{b c:ByteArray}(g:o.op= .binOp .geq t x y u)(h:IsV b (a.eval x) k)(f:IsV c (a.eval y) k):aX P o a k (IsV (!(Op.bytesLess b.toList c.toList))):=by have h:=di.1 h;have f:=di.1 f;refine ak ?_ (aE.2 rfl);simp[execOp,g,h,f];simp[eqGuard,binOp,Op.stringOp]
theorem Ow{wr:Bool}{op:BinOp}{G H:TypeId}{x y:Operand}{E:Bool}{F:Nat->Bool}{K:AV T->Option R}{r:R}(f:o.op= .binOp op G x y H)(M:E=true->P.underlying G=some .bool)(U:∀n,F n=true->letI:=T.deq n;@zr P G (T.S n) (T.enc n) (T.deq n))(h:RJ wr op E F (opv e x) (opv e y) K=some r):∃av,K av=some r/\ba P e o av:=by
  unfold RJ at h;split at h;.rename_i w z;exact MJ f w z h
  · rename_i n m w z;have j:∀a0 a k,Rd1 e o a0 a k->IsV n _ k:=λa0 a k g=>by have:=eU (g.op x (by rw[f];simp[Op.operands]));rw[w]at this;exact this
    have u:∀a0 a k,Rd1 e o a0 a k->IsV m _ k:=λa0 a k g=>by have:=eU (g.op y (by rw[f];simp[Op.operands]));rw[z]at this;exact this
    cases E with|false=>simp at h;|true=>
   simp only[cond_true]at h;split at h;.exact⟨_,h,bh λa0 a k g=>Qb f (M rfl) (j _ _ _ g) (u _ _ _ g)⟩
   .exact⟨_,h,bh λa0 a k g=>Qh f (M rfl) (j _ _ _ g) (u _ _ _ g)⟩
   .simp at h
  · rename_i n m w z;have j:∀a0 a k,Rd1 e o a0 a k->IsV n _ k:=λa0 a k g=>by have:=eU (g.op x (by rw[f];simp[Op.operands]));rw[w]at this;exact this
    have u:∀a0 a k,Rd1 e o a0 a k->IsV m _ k:=λa0 a k g=>by have:=eU (g.op y (by rw[f];simp[Op.operands]));rw[z]at this;exact this
    split at h;.exact⟨_,h,bh λa0 a k g=>M3 f (j _ _ _ g) (u _ _ _ g)⟩
    .exact⟨_,h,bh λa0 a k g=>P4 f (j _ _ _ g) (u _ _ _ g)⟩
    .exact⟨_,h,bh λa0 a k g=>Mo f (j _ _ _ g) (u _ _ _ g)⟩
    .simp at h
  · rename_i n p m q w z;split at h
    · rename_i I _;obtain rfl:=I.down;have j:∀a0 a k,Rd1 e o a0 a k->@IsV (T.S m) (T.enc m) p (a.eval x) k:=λa0 a k g=>by have:=eU (g.op x (by rw[f];simp[Op.operands]));rw[w]at this;exact this
      have u:∀a0 a k,Rd1 e o a0 a k->@IsV (T.S m) (T.enc m) q (a.eval y) k:=λa0 a k g=>by have:=eU (g.op y (by rw[f];simp[Op.operands]));rw[z]at this;exact this
      cases J:F m with|false=>rw[J]at h;simp at h;|true=>
 rw[J]at h;simp only[cond_true]at h;have Q:=U m J;split at h;.exact⟨_,h,bh λa0 a k g=>@QZ P o a k (T.S m) (T.enc m) (T.deq m) _ _ _ _ _ _ f Q (j _ _ _ g) (u _ _ _ g)⟩
 .exact⟨_,h,bh λa0 a k g=>@Qm P o a k (T.S m) (T.enc m) (T.deq m) _ _ _ _ _ _ f Q (j _ _ _ g) (u _ _ _ g)⟩
 .simp at h
    .simp at h
  · rename_i W p V q w z;split at h
    · rename_i I _;obtain rfl:=I.down;have j:∀a0 a k,Rd1 e o a0 a k->IsV p (a.eval x) k:=λa0 a k g=>by have:=eU (g.op x (by rw[f];simp[Op.operands]));rw[w]at this;exact this
      have u:∀a0 a k,Rd1 e o a0 a k->IsV q (a.eval y) k:=λa0 a k g=>by have:=eU (g.op y (by rw[f];simp[Op.operands]));rw[z]at this;exact this
      split at h;.exact⟨_,h,bh λa0 a k g=>Of f (j _ _ _ g) (u _ _ _ g)⟩
      .exact⟨_,h,bh λa0 a k g=>OF f (j _ _ _ g) (u _ _ _ g)⟩
      .exact⟨_,h,bh λa0 a k g=>Om f (j _ _ _ g) (u _ _ _ g)⟩
      .exact⟨_,h,bh λa0 a k g=>Og f (j _ _ _ g) (u _ _ _ g)⟩
      .exact⟨_,h,bh λa0 a k g=>OP f (j _ _ _ g) (u _ _ _ g)⟩
      .simp at h
    .simp at h
  .simp at h
theorem IM{t s:TypeId}(h:P.underlying t=some (.pointer s))(p:Option Addr)(k:K):(Op.equal t (.pointer p) (.pointer none)).run P k.w= .ok p.isNone k.w:=by show(Op.equalIn (9999+1) t _ _).run P k.w=_;rw[Op.equalIn];cases p<;>simp[run_underlying h]
theorem Kz{t u s:TypeId}{x:Operand}{p:Option Addr}{b:Bool}(h:o.op= .binOp .eql t x (.const (.pointer none)) u)(f:P.underlying t=some (.pointer s))(g:a.eval x= .pointer p)(j:p.isNone=b):aX P o a k (IsV b):=by have ev:a.eval (.const _)= .pointer none:=rfl;refine ak ?_ (aE.2 rfl);simp[execOp,h,g,ev];have:=IM f p k;simp[eqGuard,binOp,this,j]
theorem KR{t u s:TypeId}{x:Operand}{p:Option Addr}{b:Bool}(h:o.op= .binOp .neq t x (.const (.pointer none)) u)(f:P.underlying t=some (.pointer s))(g:a.eval x= .pointer p)(j:p.isNone=b):aX P o a k (IsV (!b)):=by have ev:a.eval (.const _)= .pointer none:=rfl;refine ak ?_ (aE.2 rfl);simp[execOp,h,g,ev];have:=IM f p k;simp[eqGuard,binOp,this,j]
theorem NT{op:BinOp}{G u:TypeId}{x y:Operand}{b:Bool}(j:o.op= .binOp op G x y u)(hi:∀t s,(lk e t).bW s=true->aO (lk e s)=true)(h:Qc P G e op x y=some b):ba P e o (.v .bool b):=by
 unfold Qc at h;split at h
 · rename_i s U J H;split at h
   · rename_i M m z I;have O:aO (lk e s)=true:=by rw[I];rfl
     refine bh λa0 a k g=>?_;have h1:a.eval x=a0.get s:=by have:=te (g.op x (by rw[j];simp[Op.operands]));rw[J]at this;exact this
     have f:=g.rs s O;rw[I]at f;obtain⟨F,f⟩:=f;split at h;.rename_i Q q;obtain rfl:=ae h;obtain⟨p,w,E⟩:=T.RNok _ _ _ _ _ _ f q;exact Kz j H (h1.trans w) E
     .rename_i Q q;obtain rfl:=ae h;obtain⟨p,w,E⟩:=T.RNok _ _ _ _ _ _ f q;exact KR j H (h1.trans w) E
     .simp at h
   .simp at h
 .simp at h
theorem M8{av:AV T}{m:Int}{v:Value}(h:Ir av=some m)(g:av.is a v k):∃f,v= .int f m:=by
 unfold Ir at h;split at h;.obtain rfl:=ae h;exact⟨_,ar.1 g⟩
 .obtain rfl:=ae h;exact⟨_,dq.1 g⟩
 .simp at h
theorem KC{op:BinOp}{H w:TypeId}{x y:Operand}{m:Int}{K:AV T->Option R}{r:R}(f:o.op= .binOp op H x y w)(I:Ir (opv e y)=some m)(h:GR op (opv e x) m K=some r):∃av,K av=some r/\ba P e o av:=by
 have u:∀a0 a k,Rd1 e o a0 a k->∃E,a.eval y= .int E m:=λa0 a k g=>M8 I (eU (g.op y (by rw[f];simp[Op.operands])));unfold GR at h;split at h
 · rename_i n F;have q:∀a0 a k,Rd1 e o a0 a k->IsV n _ k:=λa0 a k g=>by have:=eU (g.op x (by rw[f];simp[Op.operands]));rw[F]at this;exact this
   split at h;.obtain⟨z,G,h⟩:=bind_some h;exact⟨_,h,bh λa0 a k g=>Qg f (q _ _ _ g) (u _ _ _ g) G⟩
   .obtain⟨z,G,h⟩:=bind_some h;exact⟨_,h,bh λa0 a k g=>Rw f (q _ _ _ g) (u _ _ _ g) G⟩
   .simp at h
 · rename_i J p F;have q:∀a0 a k,Rd1 e o a0 a k->IsV p _ k:=λa0 a k g=>by have:=eU (g.op x (by rw[f];simp[Op.operands]));rw[F]at this;exact this
   cases j:(decide (0<=m)&&Nat.ble m.toNat J.bits)with|false=>rw[j]at h;simp at h;|true=>
  rw[j]at h;simp only[aG,decide_eq_true_eq]at j;have h1:=mZ j.2;split at h;.exact⟨_,h,bh λa0 a k g=>LG f (q _ _ _ g) (u _ _ _ g) j.1 h1⟩
  .exact⟨_,h,bh λa0 a k g=>Md f (q _ _ _ g) (u _ _ _ g) j.1 h1⟩
  .simp at h
 .simp at h
end
end Go.Gb
namespace Go.Gb
variable{T:Tb}{R:Type}
section
variable{e:Env T}{a0 a:Act}{k:K}{P:Program}{o:Oper}
theorem AL{s f off b m:Nat}{x:Operand}(g:o.op= .fieldAddr s x f)(j:cu P s f off)(h:a.eval x= .pointer (some ⟨b,m,none⟩)):aX P o a k (λv _=>v= .pointer (some ⟨b,m+off,none⟩)):=by
 refine ak ?_ rfl;simp[execOp,g,h];have e:(Addr.add ⟨b,m,none⟩ off)=⟨b,m+off,none⟩:=by unfold Addr.add;split<;>simp_all
 simp[nq j,e]
theorem JS{s f:Nat}{x:Operand}{K:AV T->Option R}{r:R}(Q:o.op= .fieldAddr s x f)(hi:∀t s,(lk e t).bW s=true->aO (lk e s)=true)(h:G8 P s f (mvv e x) (lk e) K=some r):∃av,K av=some r/\ba P e o av:=by have U:∀a0 a k,Rd1 e o a0 a k->(mvv e x).is a0 (a.eval x) k:=λa0 a k g=>te (g.op x (by rw[Q];simp[Op.operands]));have im:=ti (x:=x) hi;generalize mvv e x=y at h U im;unfold G8 at h;cases E:sT P s f with|none=>rw[E]at h;simp at h;|some off=>rw[E]at h;have V:=CR E;dsimp at h;cases j:HA f off y (lk e)with|none=>rw[j]at h;simp at h;|some av=>
 rw[j]at h;refine⟨av,h,?_⟩;have ext:∀{u:Tp}{g:(w:Tp)->gY T u w->AV T},KJ f off u g=some av->∃w,∃L:gY T u w,L.ok/\L.off=off/\av=g w L:=by
  intro u g m;unfold KJ at m;split at m
  · split at m;·rename_i w L hl;cases hb:Nat.beq L.off off with|false=>rw[hb]at m;simp at m;|true=>rw[hb]at m;exact⟨w,L,zD hl,bd hb,(ae m).symm⟩
    .simp at m
  .simp at m
 unfold HA at j;split at j;.rename_i t z;obtain⟨w,L,G,q,rfl⟩:=ext j;exact⟨λs H=>by simp[AV.bW]at H,rfl,λa0 a k g=>Gi Q (by rw[<-q]at V;exact V) (λad k' hx=>G.1 _ _ _ hx) (U _ _ _ g)⟩
 · rename_i I;split at j;.rename_i lck t z heq;obtain⟨w,L,G,q,rfl⟩:=ext j;have F:aO (lk e I)=true:=im I (de I);refine⟨λs H=>by rw[<-bd H];exact F,rfl,λa0 a k g=>?_⟩;have h1:a.eval x=a0.get I:=U _ _ _ g;have J:=g.rs I F;rw[heq]at J;obtain⟨b,O,h4⟩:=J;refine cS (AL Q V (h1.trans O)) λv k' m W=>⟨G,b,O,by rw[W,q,bS],h4.grow m⟩
   .simp at j
 .rename_i I t z u M;obtain⟨w,L,G,q,rfl⟩:=ext j;refine⟨λs H=>im s H,rfl,λa0 a k g=>?_⟩;obtain⟨h0,b,h1,J,O⟩:=U _ _ _ g;exact cS (AL Q V J) λv k' m W=>⟨gY.Jd h0 G,b,h1,by rw[W,<-q];rfl,O.grow m⟩
 .rename_i I el t xs i z u M;obtain⟨w,L,G,q,rfl⟩:=ext j;refine⟨λs H=>im s H,rfl,λa0 a k g=>?_⟩;obtain⟨h0,h1,J,O⟩:=U _ _ _ g;refine cS (DJ Q V h1) λv k' m W=>⟨gY.Jd h0 G,?_,aZ.mono m J,O⟩;rw[show i*(T.e t).sz+(M.comp L).off=i*(T.e t).sz+M.off+off by show _+(M.off+L.off)=_;omega];exact W
 .simp at j
theorem Ru{s:Nat}{t u:Tp}{x:T.D t}{L:gY T t u}{v:Value}(h:(AV.ab s t x u L).is a v k):db (L.get x) v k:=by obtain⟨f,b,_,g,j⟩:=h;exact⟨_,g,by have:=f.1 _ _ _ j.at;simp[Addr.add]at this;split at this<;>simp_all⟩
theorem RE{s i:Nat}{el:TypeId}{t u:Tp}{F:List (T.D t)}{x:T.D t}{L:gY T t u}{v:Value}(h:(AV.ao s el t F i x u L).is a v k):db (L.get x) v k:=by
 obtain⟨G,h1,z,E⟩:=h;obtain⟨b,f,n,c,H,I⟩:=h1;rw[H]at z;rcases z with⟨g,_⟩|⟨_,g,rfl⟩|⟨b',off,J,M,O,g,_,Q,U,j,V,W,hsz,m,hr⟩;.simp at g
 .simp at E
 · simp[Value.slice.injEq]at g;obtain⟨⟨rfl,rfl,_⟩,rfl,rfl⟩:=g;have q:fg k.w ⟨b,f,none⟩ O:=by rw[<-m];refine gD U ?_;have:=eh (T.e t).sz j;omega
   have y:=q.elem hr E;have:=G.1 _ _ _ y;rw[add_add]at this;refine⟨_,I,?_⟩;have e:(Addr.add ⟨b,f,none⟩ (i*(T.e t).sz+L.off))=⟨b,f+(i*(T.e t).sz+L.off),none⟩:=by unfold Addr.add;split<;>simp_all
   rw[<-e];exact this
theorem K4{m:TypeId}{x:Operand}{av:AV T}(F:o.op= .load m x)(hi:∀t s,(lk e t).bW s=true->aO (lk e s)=true)(h:Lg P T m (mvv e x) (lk e)=some av):ba P e o av:=by
 have j:∀a0 a k,Rd1 e o a0 a k->(mvv e x).is a0 (a.eval x) k:=λa0 a k g=>te (g.op x (by rw[F];simp[Op.operands]));have G:=ti (x:=x) hi;generalize mvv e x=y at h j G;unfold Lg at h;have f:∀{u:Tp}{z:T.D u},(bif tyB P T m u then some (mkv u z)else none)=some av->(∀a0 a k,Rd1 e o a0 a k->db z (a.eval x) k)->ba P e o av:=by intro u z h J;cases w:tyB P T m u with|false=>rw[w]at h;simp at h;|true=>rw[w]at h;obtain rfl:=ae h;exact ot λa0 a k g=>aw F (vq w) (J _ _ _ g)
 split at h;.exact f h λa0 a k g=>(j _ _ _ g).ptr
 · rename_i q;split at h;.rename_i M t z E;refine f h λa0 a k g=>?_;have h1:a.eval x=a0.get q:=j _ _ _ g;have H:=g.rs q (G q (de q));rw[E]at H;obtain⟨b,O,Q⟩:=H;exact⟨_,h1.trans O,Q.at⟩
   .simp at h
 .exact f h λa0 a k g=>Ru (j _ _ _ g)
 .exact f h λa0 a k g=>RE (j _ _ _ g)
 .simp at h
theorem Ri{a b:Value}(h:vEq a b=true):a=b:=by
 unfold vEq at h;split at h;.simp[aG]at h;rw[h.1,h.2]
 .simp[beq_iff_eq]at h;rw[h]
 .simp_all
 .rfl
 .simp at h
theorem C3:∀{l m:List Value},Lf l m=true->l=m|[],[],_=>rfl|a::l,b::m,h=>by simp[Lf]at h;rw[Ri h.1,C3 h.2]
theorem Mc:∀(f:Nat)(t:Tp)(g:List Value),zc T f t=some g->∀k,Enc.rep k g (T.yN t)
 |0,_,_,h,_=>by simp[zc]at h;|_+1, .int,_,h,_=>(ae h).symm|_+1, .bool,_,h,_=>(ae h).symm|_+1, .str,_,h,_=>(ae h).symm|_+1, .ik F,_,h,_=>(ae h).symm|_+1, .list t,_,h,_=>⟨_,(ae h).symm, .inl ⟨rfl,rfl⟩⟩|_+1, .op,_,h,_=>⟨_,(ae h).symm,rfl⟩|f+1, .st n,g,h,k=>by
  refine xZ.2 ?_;show Enc.rep k g (T.to n (T.zero n));rw[T.zero_eq];have j:∀(l:List Tp)g,Iq (l.map (zc T f))=some g->Enc.rep k g (Nl T.zero l):=by intro l;induction l with|nil=>intro g h;exact(ae h).symm;|cons b l w=>
   intro g h;simp[Iq]at h;split at h;.rename_i x y z E;obtain rfl:=ae h;have h1:=Mc f b x z k;have q:=w y E;have u:=Enc.len h1;cases l with|nil=>have:y=[]:=q;subst this;rw[ni];exact h1;|cons c l=>
    refine⟨?_,?_,?_⟩;.rw[bp,u,Enc.len q]
    .rw[gZ u];exact h1
    .rw[qV u];exact q
   .simp at h
  exact j _ _ h
theorem wj{y:TypeId}{t:Tp}(h:og P T y t=true):∃i z g,P.info? y=some i/\i.zero=some z/\z.cells=g/\(∀w,(zeroValue y).run P w= .ok z w)/\(∀k,Enc.rep k g.toList (T.yN t))/\∀k,IsV (T.yN t) z k:=by
 unfold og at h;split at h
 · rename_i i hi;split at h
   · rename_i z g j m;have f:=Mc 9 t g m;have u:∀w,(zeroValue y).run P w= .ok z w:=λw=>by simp[zeroValue,typeInfo,hi,j]
     split at h;.rename_i c;simp[aG]at h;obtain⟨h1,q⟩:=h;obtain rfl:=C3 q;exact⟨i,_,_,hi,j,rfl,u,f,λk=>⟨c.toList,by rw[h1];simp[mkV],f k⟩⟩
     · rename_i x;simp[aG]at h;obtain⟨h1,q⟩:=h;obtain rfl:=C3 q;have E:z.cells=#[z]:=by cases z<;>first|rfl|exact absurd rfl (x _)
       exact⟨i,z,#[z],hi,j,E,u,f,λk=>⟨[z],by rw[h1];rfl,f k⟩⟩
   .simp at h
 .simp at h
end
end Go.Gb
namespace Go.Gb
variable{T:Tb}{R:Type}
theorem EY{P:Program}{w:World}{e j:Type}{f:e->Sem j}{g:e->j}:∀(l:List e),(∀x∈l,(f x).run P w= .ok (g x) w)->(l.mapM f).run P w= .ok (l.map g) w|[],_=>by simp;|x::l,h=>by have h1:=h x (by simp);have m:=EY l λy q=>h y (by simp[q]);simp[h1,m]
theorem Ce{P:Program}{w:World}{e j:Type}{f:e->Sem j}{g:e->j}(A:Array e)(h:∀x∈A.toList,(f x).run P w= .ok (g x) w):(A.mapM f).run P w= .ok (A.map g) w:=by rw[Array.mapM_eq_mapM_toList];have:=EY A.toList h;simp[this];apply Array.ext';simp
def HIs:(l:List Tp)->HL T.S l->List Value->K->Prop|[],_,[],_=>True|[_],x,[u],k=>IsV x u k|_::b::l,x,u::e,k=>IsV x.1 u k/\HIs (b::l) x.2 e k|_,_,_,_=>False
structure JN(P:Program)(f:FuncId)(d:FnE T):Prop where
 call:∀args w,(callFunc f args).run P w= .ok (.enter f args) w
 ok:∀(k0:K)(vs:List Value)(x:HL T.S d.dom)(r:HL T.S d.cod),GOk T k0->HIs d.dom x vs k0->d.run x=some r->Calls P f vs.toArray k0.w (Ret k0 λu k=>(oy d.cod r).is ⟨#[],[]⟩ u k)
def PIs:(l:List Pm)->HL T.S (eR l)->(u e:Value)->List Value->K->Prop|[],_,_,_,[],_=>True| .v t::l,x,u,e,v::f,k=>IsV (α:=T.D t) (hdH x) v k/\PIs l (tlH x) u e f k| .tu::l,x,u,e,v::f,k=>v=u/\PIs l x u e f k| .tk::l,x,u,e,v::f,k=>v=e/\PIs l x u e f k| .fn g::l,x,u,e,v::f,k=>v= .func (.func g) #[] #[]/\PIs l x u e f k|_,_,_,_,_,_=>False
structure Py(d:FnR T)(F:FP)(u1:Value)(r:d.tu.D T×d.ro.D T×HL T.S d.cod)(k0:K)(u:Value)(k:K):Prop where
 tu:d.tu.is r.1 u1 k
 res:(sX d.ro d.cod r.2.1 r.2.2).is ⟨#[],[]⟩ u k
 ap:aB (d.tu.fp T u1 k) ((sX d.ro d.cod r.2.1 r.2.2).fp u k)w1:∀b,d.tu.fp T u1 k b->F b∨k0.w.heap.size<=b
 w2:∀b,(sX d.ro d.cod r.2.1 r.2.2).fp u k b->F b∨k0.w.heap.size<=b
structure yB(P:Program)(f:FuncId)(d:FnR T):Prop where
 call:∀args w,(callFunc f args).run P w= .ok (.enter f args) w
 ok:∀(k0:K)(vs:List Value)(u1 u2:Value)(x:HL T.S (eR d.pm))(y:d.tu.D T)(z:d.tk.D T)(q:d.ρ),GOk T k0->PIs d.pm x u1 u2 vs k0->d.tu.is y u1 k0->d.tk.is z u2 k0->aB (d.tu.fp T u1 k0) (d.tk.fp T u2 k0)->d.run x y z=some q->Calls P f vs.toArray k0.w (bY (λb=>d.tu.fp T u1 k0 b∨d.tk.fp T u2 k0 b) k0 (Py d (λb=>d.tu.fp T u1 k0 b∨d.tk.fp T u2 k0 b) u1 (d.inj q) k0))
structure LC(P:Program)(f:FuncId)(d:FnQ T):Prop where
 call:∀args w,(callFunc f args).run P w= .ok (.enter f args) w
 ok:∀(k0:K)(u:Value)(vs:List Value)(z:T.RD d.m)(F:FP)(x:HL T.S d.dom)(r:HL T.S d.cod),GOk T k0->T.RP d.m z F u k0->HIs d.dom x vs k0->d.run z x=some r->Calls P f (bif d.amb then vs else u::vs).toArray k0.w (Ret k0 λv k=>(oy d.cod r).is ⟨#[],[]⟩ v k)
structure yL(C:Cx T):Prop where
 deps:∀f d,dep C.deps f=some d->JN C.P f d
 rdeps:∀f d,BK C.rdeps f=some d->yB C.P f d
 eqs:∀t n,C.eqs.contains (t,n)=true->@zr C.P t (T.S n) (T.enc n) (T.deq n)mix:C.P.follows .mixedOrders=true
 pe:C.P=T.P
 qdeps:∀f d,Ka C.qdeps f=some d->LC C.P f d
section
variable{e:Env T}{a0 a:Act}{k:K}{P:Program}{o:Oper}
theorem wc(j:Operand->AV T):∀{l:List Tp}{f:List Operand}{z:HL T.S l},args l (f.map j)=some z->(∀x∈f,(j x).is a0 (a.eval x) k)->HIs l z (f.map a.eval) k
 |[],[],_,_,_=>trivial|[b],[x],z,h,g=>iL h (g x (by simp))|b::c::l,x::f,z,h,g=>by
  simp[args]at h;split at h;.rename_i y E u m;obtain rfl:=ae h;exact⟨iL u (g x (by simp)),wc j m λw q=>g w (by simp[q])⟩
  .simp at h
theorem HIs.le{k g:K}(f:Le k g):∀{l:List Tp}{x:HL T.S l}{j:List Value},HIs l x j k->HIs l x j g|[],_,[],_=>trivial|[t],x,[_],h=>ai.pers f h|t::_::_,x,_::_,h=>⟨ai.pers f h.1,HIs.le f h.2⟩
theorem Lh{f:FuncId}{x:Array Value}{w:World}{k:K}{R S:Pred}(h:Calls P f x w (Ret k R))(hi:∀v m,R v m->S v m):Calls P f x w (Ret k S):=by refine Calls.mono h λe E q=>?_;cases e with|returned v=>obtain⟨m,h1,y,z⟩:=q;exact⟨m,h1,y,hi _ _ z⟩;|panicked c=>exact q.elim;|outgrown=>exact q.elim
theorem GN:∀{m cod:List Tp}{run:HL T.S m->Option (HL T.S cod)}{f:List (AV T)}{av:AV T},JD m cod run f=some av->(∀s,av.bW s=false)/\aO av=false:=by
 intro m cod run f av h;unfold JD at h;split at h
 · split at h
   · split at h;.obtain rfl:=ae h;exact⟨λ _=>rfl,rfl⟩
     .simp at h
   · split at h;.obtain rfl:=ae h;exact⟨λ _=>rfl,rfl⟩
     · split at h;.obtain rfl:=ae h;exact⟨λ _=>rfl,rfl⟩
       .simp at h
     .simp at h
   · split at h;.obtain rfl:=ae h;exact⟨λ _=>rfl,rfl⟩
     · split at h;.obtain rfl:=ae h;exact⟨λ _=>rfl,rfl⟩
       .simp at h
     .simp at h
   .simp at h
 .simp at h
theorem I5{f:FuncId}{d:FnE T}(hP:P=T.P)(j:JN P f d){J:List (AV T)}{us:List Value}{av:AV T}(h:JD d.dom d.cod d.run J=some av)(V:us.length=J.length)(M:∀(l:List Tp)(z:HL T.S l),args l J=some z->HIs l z us k)(H:GOk T k):(∀s,av.bW s=false)/\aO av=false/\av.is a0 (.func (.func f) #[] us.toArray) k:=by
 subst hP;obtain⟨dom,cod,run⟩:=d;dsimp only at h;have one:∀(b:Tp)(r:T.D b)(O:Array Value)(g:K),Calls T.P f O g.w (Ret g λu k=>(oy [b] r).is ⟨#[],[]⟩ u k)->Calls T.P f O g.w _:=λb r O g h=>Lh h λv k h=>iD.1 h;unfold JD at h;split at h
 · rename_i b run;split at h
   · split at h;·rename_i z I;obtain rfl:=ae h;refine⟨λ _=>rfl,rfl,Ig.2 ⟨f,#[],us.toArray,rfl,j.call,λg hk y m=>?_⟩⟩;have:=one b y _ g (j.ok g us z y (H.le hk) ((M _ _ I).le hk) m);simpa using this
     .simp at h
   · rename_i Q;split at h
     · rename_i a run;obtain rfl:=ae h;refine⟨λ _=>rfl,rfl,wm.2 ⟨f,#[],us.toArray,rfl,j.call,λg hk x q y E m=>?_⟩⟩;have U:us=[]:=by
        have:us.length=0:=by rw[V];simp at Q;omega
        exact oU.1 this
       subst U;have:=one b y _ g (j.ok g [q] x y (H.le hk) E m);simpa using this
     · rename_i a c l run;split at h;·rename_i z I;obtain rfl:=ae h;refine⟨λ _=>rfl,rfl,wm.2 ⟨f,#[],us.toArray,rfl,j.call,λg hk x q y E m=>?_⟩⟩;have:=one b y _ g (j.ok g (q::us) (x,z) y (H.le hk) ⟨E,(M _ _ I).le hk⟩ m);simpa using this
       .simp at h
     .simp at h
   · rename_i Q;split at h
     · rename_i a a' run;obtain rfl:=ae h;refine⟨λ _=>rfl,rfl,wS.2 ⟨f,#[],us.toArray,rfl,j.call,λg hk x q W F y E G m=>?_⟩⟩;have U:us=[]:=by
        have:us.length=0:=by rw[V];simp at Q;omega
        exact oU.1 this
       subst U;have:=one b y _ g (j.ok g [q,F] (x,W) y (H.le hk) ⟨E,G⟩ m);simpa using this
     · rename_i a a' c l run;split at h;·rename_i z I;obtain rfl:=ae h;refine⟨λ _=>rfl,rfl,wS.2 ⟨f,#[],us.toArray,rfl,j.call,λg hk x q W F y E G m=>?_⟩⟩;have:=one b y _ g (j.ok g (q::F::us) _ y (H.le hk) ⟨E,G,(M _ _ I).le hk⟩ m);simpa using this
       .simp at h
     .simp at h
   .simp at h
 .simp at h
theorem OI:∀{l:List Tp}{f:List Operand}{z:HL T.S l},args l (f.map (opv e))=some z->(∀x∈f,(opv e x).is a0 (a.eval x) k)->HIs l z (f.map a.eval) k:=wc (opv e)
theorem q7{l:List Tp}{x:HL T.S l}{s:Nat}:(oy l x).bW s=false:=by match l,x with|[],_=>rfl;|[_],_=>exact qS;|_::_::_,_=>rfl
theorem sY{l:List Tp}{x:HL T.S l}:aO (oy l x)=false:=by match l,x with|[],_=>rfl;|[_],_=>exact ug;|_::_::_,_=>rfl
theorem Hk{av:AV T}(h:∀s,av.bW s=false){a g:Act}{v:Value}{k:K}(j:av.is a v k):av.is g v k:=av.congr (λs f=>by rw[h]at f;simp at f) j
theorem BY{t:Tp}:∀{m:List (Nat×Operand)}{i:Nat}{q:List (T.D t)},sf t e i m=some q->(∀x∈m.map (·.2),(opv e x).is a0 (a.eval x) k)->yh a k i m q|[],_,_,h,_=>by obtain rfl:=ae h;trivial;|(j,x)::l,i,q,h,g=>by simp[sf]at h;cases u:Nat.beq i j with|false=>rw[u]at h;simp at h;|true=>
 rw[u]at h;split at h;.rename_i y F z w;obtain rfl:=ae h;exact⟨(bd u).symm,iL z (g x (by simp)),BY w λE f=>g E (by simp at f⊢;exact .inr f)⟩
 .simp at h
theorem FW{y j off sz:Nat}(h:Gs P y j=some (off,sz)):∃f d i,P.underlying y=some (.struct f)/\f[j]?=some d/\P.info? d.type=some i/\d.offset=off/\i.size=sz:=by unfold Gs at h;grind
theorem BX{ty n:Nat}{places:Nat->Option (Nat×Nat)}(q:∀j off sz,Gs P ty j=some (off,sz)->places j=some (off,sz)):∀{J:List (Nat×Operand)}{x z:T.S n}{f:List Value},Aj P ty n e J x=some z->(∀y∈J.map (·.2),(opv e y).is a0 (a.eval y) k)->@Enc.rep (T.D (.st n)) (T.e (.st n)) k f x->∃m,Instr.fill places f.toArray (J.map λp=>(p.1,a.eval p.2))=some m.toArray/\@Enc.rep (T.D (.st n)) (T.e (.st n)) k m z
  |[],x,z,f,h,_,H=>by obtain rfl:=ae h;exact⟨f,rfl,H⟩;|(j,y)::l,x,z,f,h,g,H=>by
    simp[Aj]at h;split at h
    · rename_i u L off sz W hp;split at h;.rename_i w hw;cases E:(Nat.beq off L.off&&Nat.beq sz _)with|false=>rw[E]at h;simp at h;|true=>
 rw[E]at h;rw[aG]at E;have h1:=bd E.1;have h2:=bd E.2;have M:=zD W;obtain⟨I,hcy,O,Q⟩:=eH (iL hw (g y (by simp)));obtain⟨hle,F⟩:=M.2.1 k f I x w H O;have V:=Enc.len H;obtain⟨m,hf,hr'⟩:=BX q h (λy' G=>g y' (by simp at G⊢;exact .inr G)) F;simp[dz,Instr.fill,q _ _ _ hp];have hsz:I.toArray.size=sz:=by rw[h2];simpa[szT]using Q
 have U:=ri I I off 0 (f.take off) (f.drop off) (by rw[dT];omega) rfl (by rw[eX];omega);simp_all
      .simp at h
    .simp at h
theorem run_build{G n:Nat}{M:List (Nat×Operand)}{z:T.S n}(hz:og P T G (.st n)=true)(h:xi P G=true)(hb:Aj P G n e M (T.zero n)=some z)(g:∀y∈M.map (·.2),(opv e y).is a0 (a.eval y) k):∃v,(∀w,(Instr.build G (M.map λp=>(p.1,a.eval p.2)).toArray).run P w= .ok v w)/\@IsV (T.D (.st n)) (T.e (.st n)) z v k:=by
  obtain⟨i,zv,cs,hi,hiz,hc,u,q,_⟩:=wj hz;unfold xi at h;split at h
  · rename_i x hu;rw[br]at h;let H:Field->Nat×Nat:=λf=>(f.offset,((P.info? f.type).map (·.size)).getD 0);have O:∀w,(x.mapM λf=>Prod.mk f.offset<$>sizeOf f.type).run P w= .ok (x.map H) w:=λw=>Ce x λf I=>by have:=h f I;cases m:P.info? f.type with|none=>rw[m]at this;simp at this;|some i'=>simp[run_sizeOf (show(P.info? f.type).map _=some i'.size by rw[m];rfl),H,m]
    obtain⟨E,I,Q⟩:=BX (places:=λj=>(x.map H)[j]?) (λj off sz hp=>by
 obtain⟨U,d,i',F,hd,V,h1,h2⟩:=FW hp;rw[hu]at F;obtain rfl:x=U:=by simpa using F
 simp[hd,H,V,h1,h2]) hb g (q k);refine⟨.agg E.toArray,λw=>?_,⟨E,by rw[Hm];rfl,Q⟩⟩;have W:zv.cells=cs.toList.toArray:=by rw[hc]
    simp[Instr.build,u,run_underlying hu,O,W];simp at I;rw[I];simp
  .simp at h
theorem sZ{ty:Nat}{places:Nat->Option (Nat×Nat)}{ov:Operand->AV T}(F:∀j p,plc P ty j=some p->places j=some p):∀{l:List Tp}{i off:Nat}{U:List (Nat×Operand)}{y:HL T.S l}{pre suf:List Value},qz P ty ov l i off U=some y->(∀x∈U.map (·.2),(ov x).is a0 (a.eval x) k)->pre.length=off->suf.length=(T.h l).sz->∃V:List Value,Instr.fill places (pre++suf).toArray (U.map λp=>(p.1,a.eval p.2))=some (pre++V).toArray/\Enc.rep k V y
  |[],i,off,[],y,pre,suf,_,_,_,E=>by obtain rfl:=oU.1 E;exact⟨[],rfl,rfl⟩|[b],i,off,[(j,x)],y,pre,suf,h,g,O,E=>by
    have E:suf.length=(T.e b).sz:=E;simp only[qz]at h;split at h;·rename_i o s G;cases q:(Nat.beq j i&&(Nat.beq o off&&Nat.beq s _))with|false=>rw[q]at h;simp at h;|true=>rw[q]at h;simp only[cond_true]at h;simp only[aG]at q;obtain rfl:=bd q.1;obtain rfl:=bd q.2.1;have H:=bd q.2.2;obtain⟨u,I,J,M⟩:=eH (iL h (g x (by simp)));have m:u.length=(T.e b).sz:=M;have w:s=(T.e b).sz:=H;have f:=ri u u o 0 pre suf (by rw[O];omega) rfl (by omega);refine⟨u,?_,J⟩;simp only[dz,mV,Instr.fill,F _ _ G];rw[I,if_neg (by simp[m,w,O,E])];rw[show suf.drop u.length=[]from ui (by omega)]at f;simp at f⊢;exact f
    .simp at h|b::c::l,i,off,(j,x)::U,y,pre,suf,h,g,O,E=>by
    have E:suf.length=(T.e b).sz+(T.h (c::l)).sz:=E;simp only[qz]at h;split at h;·rename_i o s G;cases q:(Nat.beq j i&&(Nat.beq o off&&Nat.beq s _))with|false=>rw[q]at h;simp at h;|true=>
 rw[q]at h;simp only[cond_true]at h;simp only[aG]at q;obtain rfl:=bd q.1;obtain rfl:=bd q.2.1;have H:=bd q.2.2;split at h
 · rename_i z r hz hr;obtain rfl:=ae h;obtain⟨u,I,J,M⟩:=eH (iL hz (g x (by simp)));have m:u.length=(T.e b).sz:=M;have w:s=(T.e b).sz:=H;have f:=ri u u o 0 pre suf (by rw[O];omega) rfl (by omega);obtain⟨V,h1,h2⟩:=sZ (pre:=pre++u) (suf:=suf.drop u.length) F hr (λx' Q=>g x' (by simp at Q⊢;exact .inr Q)) (by rw[bp,O,m];rfl) (by rw[eX];omega);refine⟨u++V,?_,?_⟩;·simp only[dz,Instr.fill,F _ _ G];rw[I,if_neg (by simp[m,w,O,E]<;>omega)];simp at f h1⊢;rw[f];exact h1
   ·have W:=Enc.len h2;exact⟨by rw[bp,m,W],by show Enc.rep k _ z;rw[<-m,uf];exact J,by show Enc.rep k _ r;rw[<-m,List.drop_left];exact h2⟩
 .simp at h
    .simp at h
theorem HW{ty n:Nat}{ps:List (Nat×Operand)}{ov:Operand->AV T}{y:HL T.S (T.fs n)}(O:Ji P T ty n=true)(q:I3 P ty=true)(hb:qz P ty ov (T.fs n) 0 0 ps=some y)(g:∀x∈ps.map (·.2),(ov x).is a0 (a.eval x) k):∃v,(∀w,(Instr.build ty (ps.map λp=>(p.1,a.eval p.2)).toArray).run P w= .ok v w)/\@IsV (T.D (.st n)) (T.e (.st n)) (T.of n y) v k:=by
  unfold Ji at O;split at O
  · rename_i i hi;split at O
    · rename_i z hiz;have hsz:=bd O;have H:∀w,(zeroValue ty).run P w= .ok (.agg z) w:=λw=>by simp[zeroValue,typeInfo,hi,hiz]
      have I:z.toList.length=(T.h (T.fs n)).sz:=by have:z.size=(T.e (.st n)).sz:=hsz;rw[Ll]at this;simpa using this
      have Q:∀{J:List Value},Enc.rep k J y->@IsV _ _ _ (.agg J.toArray) k:=λ{J}hr=>⟨J,by rw[Hm];rfl,xZ.2 (by rw[T.to_of];exact hr)⟩;unfold I3 at q;split at q
      · rename_i U M;unfold xi at q;rw[M]at q;dsimp only at q;rw[br]at q;let pl:Field->Nat×Nat:=λf=>(f.offset,((P.info? f.type).map (·.size)).getD 0);have hpl:∀w,(U.mapM λf=>Prod.mk f.offset<$>sizeOf f.type).run P w= .ok (U.map pl) w:=λw=>Ce U λf hf=>by have:=q f hf;cases u:P.info? f.type with|none=>rw[u]at this;simp at this;|some V=>simp[run_sizeOf (show(P.info? f.type).map _=some V.size by rw[u];rfl),pl,u]
        obtain⟨J,h1,W⟩:=sZ (P:=P) (ty:=ty) (a0:=a0) (a:=a) (k:=k) (places:=λj=>(U.map pl)[j]?) (pre:=[]) (suf:=z.toList) (λj p G=>by
 unfold plc at G;rw[M]at G;obtain⟨off,sz⟩:=p;obtain⟨fs',d,V,hu',hd,hi',h1,W⟩:=FW G;rw[M]at hu';obtain rfl:U=fs':=by simpa using hu'
 simp[hd,pl,hi',h1,W]) hb g rfl I;refine⟨.agg J.toArray,λw=>?_,Q W⟩;simp[Instr.build,H,run_underlying M,hpl,Value.cells];simp at h1;rw[h1];simp
      ·rename_i m el M;cases u:P.info? el with|none=>rw[u]at q;simp at q;|some V=>have hs:∀w,(sizeOf el).run P w= .ok V.size w:=λw=>run_sizeOf (P:=P) (show(P.info? el).map _=some V.size by rw[u];rfl);obtain⟨J,h1,W⟩:=sZ (P:=P) (ty:=ty) (a0:=a0) (a:=a) (k:=k) (places:=λj=>some _) (pre:=[]) (suf:=z.toList) (λj p G=>by unfold plc at G;rw[M]at G;dsimp only at G;rw[u]at G;exact G) hb g rfl I;refine⟨.agg J.toArray,λw=>?_,Q W⟩;simp[Instr.build,H,run_underlying M,hs,Value.cells];simp at h1;rw[h1];simp
      .simp at q
    .simp at O
  .simp at O
theorem MV{E m el n:Nat}{x y:Operand}{z:T.S n}{t:Tp}{g:List (T.D t)}{i:Int}{r:T.D t}(G:o.op= .indexAddr E x y)(H:P.underlying E=some (.array m el))(I:Ty P el (T.D t))(W:g.length=m)(j:vm (T.fs n) (T.to n z)=some ⟨t,g⟩)(J:@ax (T.D (.st n)) (T.e (.st n)) z (a.eval x) k)(q:IsV i (a.eval y) k)(h:aR g i=some r):aX P o a k (@ax (T.D t) (T.e t) r):=by
 obtain⟨M,e1,O,Q,f,U⟩:=J;have u:At _ M k:=⟨Q,xZ.1 f,U⟩;have q:=ar.1 q;obtain⟨h0,h1,F,h3⟩:=mg h;have V:g[i.toNat]=r:=by rw[cL F]at h1;exact ae h1
 refine ak ?_ ⟨_,rfl,by rw[uJ];exact O,V▸KQ j u _ F⟩;simp[execOp,G,q,e1];have w:(P.info? el).map _=some (T.e t).sz:=I.2;simp[Instr.indexAt,asIntOf,run_underlying H,run_sizeOf w,Instr.sureAddr];omega
end
end Go.Gb
namespace Go.Gb
variable {T:Tb}{R:Type}
section
variable {e:Env T}{o:Oper}{C:Cx T}
theorem Np{f:IntKind}{n:Int}{t u:TypeId}{x:Operand}{P:Program}(m:∀a0 a k,Rd1 e o a0 a k->aX P o a k (IsV (IK.mk (f.wrap n):IK f))):ba P e o (wrI (T:=T) f n):=by
 have y:∀a0 a k,Rd1 e o a0 a k->aX P o a k ((wrI (T:=T) f n).is a0):=by intro a0 a k g;refine cS (m a0 a k g) λv q _ j=>?_;have j:=dq.1 j;cases f<;>first|exact dq.2 j|exact ar.2 j
 refine⟨λs h=>?_,?_,y⟩;.cases f<;>simp[wrI,AV.bW]at h
 .cases f<;>rfl
theorem Dl{a:Act}{k:K}{P:Program}{x:Operand}{i:Nat}{g:Value}{f:List Value}{l:List (Σ t,T.D t)}{t:Tp}{y:T.D t}(h:o.op= .extract x (i+1))(e1:a.eval x= .tuple (g::f).toArray)(j:Fa2 l f k)(m:l[i]?=some ⟨t,y⟩):aX P o a k (IsV y):=by obtain⟨u,q,w⟩:=j.get m;refine ak (v:=u) ?_ w;simp only[execOp,h,e1];simp[Instr.extract,q]
theorem yZ(m:yL C){a0 a:Act}{k:K}{x:Operand}(h:(opv e x).is a0 (a.eval x) k)(G:GOk T k):(By C e x).is a0 (a.eval x) k:=by cases x with
 |func f=>
 unfold By;dsimp only;split
 · rename_i d q;split;·rename_i av j;exact(I5 (us:=[]) m.pe (m.deps f d q) j rfl (λl z g=>by match l,z,g with|[],_,_=>trivial;|[_],_,g=>simp[args]at g;|_::_::_,_,g=>simp[args]at g) G).2.2
   .trivial
 .trivial|_=>exact h
theorem QI{f:Type}{A:Array f}{x:f}(h:A.toList=[x]):A=#[x]:=by cases A;simp at h;rw[h]
theorem Hq{f:Type}{A:Array f}{x y:f}(h:A.toList=[x,y]):A=#[x,y]:=by cases A;simp at h;rw[h]
theorem RS{f:Type}{A:Array f}{x y z:f}(h:A.toList=[x,y,z]):A=#[x,y,z]:=by cases A;simp at h;rw[h]
theorem Cb{z n:Nat}{j:Array (Nat×Operand)}{t:Tp}{el:TypeId}{x:List (T.D t)}(h:Db C e z n j=some ⟨t,(el,x)⟩):C.P.underlying z=some (.slice el)/\dX C.P el (T.D t)/\n=x.length/\n*(T.e t).sz<=16777216/\∀a0 a k,(∀y∈j.toList.map (·.2),(opv e y).is a0 (a.eval y) k)->yh a k 0 j.toList x:=by
 unfold Db at h;split at h
 · rename_i m q;split at h
   · rename_i E H;split at h;·rename_i u w;cases f:(Nat.beq u.length n&&elB C.P T m E&&Nat.ble (n*szT T E) 16777216)with|false=>rw[f]at h;simp at h;|true=>rw[f]at h;simp only[cond_true,aV,Sigma.mk.injEq]at h;obtain⟨rfl,h⟩:=h;have h:=eq_of_heq h;simp only[Prod.mk.injEq]at h;obtain⟨rfl,rfl⟩:=h;simp only[aG]at f;obtain⟨⟨h1,F⟩,G⟩:=f;exact⟨jl q,vE F,(bd h1).symm,mZ G,λa0 a k g=>BY (a0:=a0) w g⟩
     .simp at h
   .simp at h
 .simp at h
theorem IG{m s:Nat}{z:T.RD m}{a0:Act}{k:K}(h:Mw e m (.al s)=some z)(g:∀s,aO (lk e s)=true->(lk e s).is a0 (a0.get s) k):∃F,T.RP m z F (a0.get s) k:=by
 unfold Mw at h;dsimp only at h;split at h
 · rename_i j u w f;split at h;·rename_i q _;obtain rfl:=q.down;obtain rfl:=ae h;have:=g s (by rw[f];rfl);rw[f]at this;exact this
   .simp at h
 .simp at h
theorem MP{j:Bool}{m:Nat}{f y:List Operand}{z:T.RD m}{a0 a:Act}{k:K}(hi:∀t s,(lk e t).bW s=true->aO (lk e s)=true)(g:Rd1 e o a0 a k)(H:∀x∈f,x∈o.op.operands.toList)(h:MT e j m f=some (z,y)):∃(u:Value)(F:FP),T.RP m z F u k/\f.map a.eval=(bif j then y.map a.eval else u::y.map a.eval)/\∀x∈y,x∈f:=by unfold MT at h;cases j with
 |true=>
 simp only[cond_true]at h;split at h
 · rename_i s P;split at h;·rename_i J q;simp only[aV,Prod.mk.injEq]at h;obtain⟨rfl,rfl⟩:=h;obtain⟨F,E⟩:=IG q g.rs;exact⟨_,F,E,rfl,λx w=>w⟩
   .simp at h
 .simp at h;|false=>
 simp only[cond_false]at h;split at h
 · rename_i x M;split at h;·rename_i J q;simp only[aV,Prod.mk.injEq]at h;obtain⟨rfl,rfl⟩:=h;have w:=g.op x (H x (by simp));have G:=te w;generalize O:mvv e x=av at q G;cases av with|al s=>obtain⟨F,E⟩:=IG q g.rs;refine⟨a0.get s,F,E,?_,λx w=>by simp[w]⟩;simp only[cond_false,dz,rk,and_true];exact G|_=>simp[Mw]at q
   .simp at h
 .simp at h
theorem Em(hC:yL C)(hi:∀t s,(lk e t).bW s=true->aO (lk e s)=true){K:AV T->Option R}{r:R}(h:qP C e o K=some r):∃av,K av=some r/\ba C.P e o av:=by
 have M:∀x,x∈o.op.operands.toList->∀a0 a k,Rd1 e o a0 a k->(opv e x).is a0 (a.eval x) k:=λx G a0 a k g=>eU (g.op x G);unfold qP at h;cases E:o.op<;>rw[E]at h M<;>first|exact nomatch (show(none:Option R)=some r from h)|skip
 case move x=>exact⟨_,h,ti hi,Az,λa0 a k g=>bE E (te (g.op x (by rw[E];simp[Op.operands])))⟩
 case pick c x y =>
   try dsimp only at h
   split at h
   rotate_left
   .simp at h
   rename_i m hm
   have hc := λ a0 a k g => mm hm (M c (by simp [Op.operands]) a0 a k g)
   cases m with
   | true =>
     simp only [if_true] at h
     split at h
     · rename_i b j
       exact ⟨_, h, bh λ a0 a k g => qY E (hc _ _ _ g) (λ _ => mm j (M x (by simp [Op.operands]) _ _ _ g)) (λ e => by simp at e)⟩
     .simp at h
   | false =>
     simp only [mW, if_false] at h
     split at h
     · rename_i b j
       exact ⟨_, h, bh λ a0 a k g => qY E (hc _ _ _ g) (λ e => by simp at e) (λ _ => mm j (M y (by simp [Op.operands]) _ _ _ g))⟩
     .simp at h
 case assign x=>exact⟨_,h,ti hi,Az,λa0 a k g=>aP E (te (g.op x (by rw[E];simp[Op.operands])))⟩
 case binOp op ty x y uty =>
   try dsimp only at h
   cases hsh : S9 op with
   | true =>
     rw [hsh] at h; simp only [cond_true] at h
     split at h
     .rename_i m hm; exact KC E hm h
     .simp at h
   | false =>
     rw [hsh] at h; simp only [cond_false] at h
     split at h
     · rename_i b j
       exact ⟨_, h, NT E hi j⟩
     refine Ow E (λ j => ?_) (λ n hn => hC.eqs _ _ hn) h
     split at j
     .assumption
     .simp at j
 case unOp op ty x =>
   cases op
   case neg =>
     dsimp only at h
     split at h
     · rename_i n hn
       obtain ⟨z, O, h⟩ := bind_some h
       exact ⟨_, h, bh λ a0 a k g => LO E (dY hn (M x (by simp [Op.operands]) _ _ _ g)) O⟩
     .simp at h
   case not =>
     dsimp only at h
     split at h
     · rename_i b j
       exact ⟨_, h, bh λ a0 a k g => iN E (mm j (M x (by simp [Op.operands]) _ _ _ g))⟩
     .simp at h
   all_goals exact nomatch (show (none : Option R) = some r from h)
 case convert s d x =>
   try dsimp only at h
   split at h
   · rename_i ds κ n Q hd G
     refine ⟨_, h, Np (t := s) (u := d) (x := x) λ a0 a k g => HZ E (by rw [Q]; rfl) hd ?_⟩
     have := M x (by simp [Op.operands]) _ _ _ g; rw [G] at this; exact this
   · rename_i ds κ κ' n Q hd G
     refine ⟨_, h, Np (t := s) (u := d) (x := x) λ a0 a k g => Ic E (by rw [Q]; rfl) hd ?_⟩
     have := M x (by simp [Op.operands]) _ _ _ g; rw [G] at this; exact this
   .simp at h
 case load ty x =>
   try dsimp only at h
   split at h
   .rename_i av hav; exact ⟨_, h, K4 E hi hav⟩
   .simp at h
 case fieldAddr s x f=>exact JS E hi h
 case indexAddr ty x y =>
  try dsimp only at h
  split at h
  .rename_i i el hI U;have hu:=jl U;split at h
   .rename_i s;have J:∀a0 a k,Rd1 e o a0 a k->(res e (nrm (lk e s))).is a0 (a.get s) k:=λa0 a k g=>zG (Dv (g.op (.tmp s) (by rw[E];simp[Op.operands])).1) (λs' h'=>hi s s' (Ek h')) g.rs;split at h;·rename_i t xs I;cases j:tyB C.P T el t with|false=>rw[j]at h;simp at h;|true=>rw[j]at h;simp only[cond_true]at h;obtain⟨z,O,h⟩:=bind_some h;refine⟨_,h,λs' hs'=>by simp[AV.bW]at hs',rfl,λa0 a k g=>yu E hu (vq j) ?_ (dY hI (M y (by simp[Op.operands]) _ _ _ g)) O⟩;have:=J _ _ _ g;rw[I]at this;exact this
    · rename_i lck e' t xs I
      cases j : (tyB C.P T el t && Nat.beq el e') with
      | false => rw [j] at h; simp at h
      | true =>
        rw [j] at h; simp only [cond_true] at h
        rw [aG] at j
        obtain ⟨j, he⟩ := j
        obtain rfl := bd he
        obtain ⟨z, O, h⟩ := bind_some h
        have hsl : aO (lk e (zo e s)) = true /\ ∀ a0 a k, Rd1 e o a0 a k -> a.get s = a0.get (zo e s) := by
          unfold zo
          cases V : lk e s with
          | al s' => exact ⟨hi s s' (by rw [V]; exact de s'), λ a0 a k g => by have := (g.op (.tmp s) (by rw [E]; simp [Op.operands])).1; rw [V] at this; exact this⟩
          | own _ _ _ _ => exact ⟨by dsimp only; rw [V]; rfl, λ a0 a k g => (g.op (.tmp s) (by rw [E]; simp [Op.operands])).2 (by rw [V]; rfl)⟩
          | _ => rw [V] at I; simp [nrm, res] at I
        generalize zo e s = s0 at h hsl
        refine ⟨_, h, λ s' hs' => by rw [<- bd hs']; exact hsl.1, rfl, λ a0 a k g => ?_⟩
        have h1 : an 0 el xs (a.get s) k := by have := J _ _ _ g; rw [I] at this; exact this
        have h2 := hsl.2 _ _ _ g
        rw [h2] at h1
        refine cS (Co (u := a0.get s0) (B := 0) E hu (vq j) ⟨h2, by rw [show a.eval (.tmp s) = a0.get s0 from h2]; exact h1⟩ (dY hI (M y (by simp [Op.operands]) _ _ _ g)) O) λ v k' hg hv => ⟨gY.IB, hv, aZ.mono (R := an 0 el xs) hg h1, (mg O).2.1⟩
    · rename_i lck m z' I;split at h;·rename_i t xs hRL;cases j:tyB C.P T el t with|false=>rw[j]at h;simp at h;|true=>rw[j]at h;simp only[cond_true]at h;obtain⟨z,O,h⟩:=bind_some h;refine⟨_,h,λs' hs'=>by simp[AV.bW]at hs',rfl,λa0 a k g=>yu E hu (vq j) ?_ (dY hI (M y (by simp[Op.operands]) _ _ _ g)) O⟩;have:=J _ _ _ g;rw[I]at this;obtain⟨F,this⟩:=this;exact T.RLok _ _ _ _ _ _ _ this hRL
      .simp at h
    .simp at h
   .simp at h
  · rename_i i hI U;split at h
    · rename_i m el n z hu G;split at h;·rename_i t xs hxs;cases j:(Nat.beq m xs.length&&tyB C.P T el t)with|false=>rw[j]at h;simp at h;|true=>rw[j]at h;simp only[cond_true]at h;rw[aG]at j;obtain⟨r1,hr,h⟩:=bind_some h;have hlen:=bd j.1;refine⟨_,h,λs' hs'=>by simp[AV.bW]at hs',rfl,λa0 a k g=>?_⟩;have h1:=M x (by simp[Op.operands]) _ _ _ g;rw[G]at h1;exact MV E hu (vq (T:=T) (u:=t) j.2) hlen.symm hxs h1 (dY hI (M y (by simp[Op.operands]) _ _ _ g)) hr
      .simp at h
    .simp at h
  .simp at h
 case index ty x y =>
   try dsimp only at h
   split at h
   · rename_i n z i m el G hi2 hu
     split at h
     · rename_i t xs hxs
       cases j : (Nat.beq m xs.length && tyB C.P T el t) with
       | false => rw [j] at h; simp at h
       | true =>
         rw [j] at h; simp only [cond_true] at h
         rw [aG] at j
         obtain ⟨r1, hr, h⟩ := bind_some h
         have hlen := bd j.1
         refine ⟨_, h, ot λ a0 a k g => ?_⟩
         have h1 := M x (by simp [Op.operands]) _ _ _ g; rw [G] at h1
         exact Ds E hu (vq (T := T) (u := t) j.2) hlen (Hm (T := T) (n := n)) (λ k cs hr => HF hxs (xZ.1 hr)) h1 (dY hi2 (M y (by simp [Op.operands]) _ _ _ g)) hr
     .simp at h
   .simp at h
 case extract x i =>
  try dsimp only at h
  split at h
  · rename_i l G;split at h;·rename_i t y V;refine⟨_,h,ot λa0 a k g=>?_⟩;have:=M x (by simp[Op.operands]) _ _ _ g;rw[G]at this;obtain⟨vs,e1,hf⟩:=this;obtain⟨u,hu,hv⟩:=hf.get V;refine ak (v:=u) ?_ hv;simp only[execOp,E,e1];simp[Instr.extract,hu]
    .simp at h
  · rename_i l G;split at h;.simp at h
    · rename_i i;split at h;·rename_i t y V;refine⟨_,h,ot λa0 a k g=>?_⟩;have:=M x (by simp[Op.operands]) _ _ _ g;rw[G]at this;obtain⟨u0,vs,e1,hf⟩:=this;exact Dl E e1 hf V
      .simp at h
  · rename_i lf κ w l G;split at h;.simp at h
    · rename_i i;split at h;·rename_i t y V;refine⟨_,h,ot λa0 a k g=>?_⟩;have:=M x (by simp[Op.operands]) _ _ _ g;rw[G]at this;obtain⟨u0,vs,e1,_,hf⟩:=this;exact Dl E e1 hf V
      .simp at h
  · rename_i s G;split at h
    · rename_i lf κ w l Q;split at h;.simp at h
      · rename_i i;split at h;·rename_i t y V;refine⟨_,h,ot λa0 a k g=>?_⟩;have h1:=M x (by simp[Op.operands]) _ _ _ g;rw[G]at h1;have h2:=g.rs s (by rw[Q];rfl);rw[Q]at h2;obtain⟨u0,vs,e1,_,hf⟩:=h2;exact Dl E ((show a.eval x=a0.get s from h1).trans e1) hf V
        .simp at h
    .simp at h
  .simp at h
 case box ty x =>
   try dsimp only at h
   split at h
   · rename_i t y G
     cases j : tyB C.P T ty t with
     | false => rw [j] at h; simp at h
     | true =>
       rw [j] at h; simp only [cond_true] at h
       refine ⟨_, h, λ s Q => by simp [AV.bW] at Q, rfl, λ a0 a k g => jA E ?_⟩
       have := M x (by simp [Op.operands]) _ _ _ g; rw [G] at this; exact this
   · rename_i t y G
     cases j : tyB C.P T ty (.rf t) with
     | false => rw [j] at h; simp at h
     | true =>
       rw [j] at h; simp only [cond_true] at h
       refine ⟨_, h, λ s Q => by simp [AV.bW] at Q, rfl, λ a0 a k g => jA (α := T.D (.rf t)) E ?_⟩
       have := M x (by simp [Op.operands]) _ _ _ g; rw [G] at this; exact pJ.2 this
   .simp at h
 case nilCheck x =>
   try dsimp only at h
   have ixm : ∀ a0 a k, Rd1 e o a0 a k -> (mvv e x).is a0 (a.eval x) k := λ a0 a k g => te (g.op x (by rw [E]; simp [Op.operands]))
   split at h
   · rename_i t y G
     refine ⟨_, h, λ s Q => by simp [AV.bW] at Q, rfl, λ a0 a k g => lQ E ?_⟩
     have := ixm _ _ _ g; rw [G] at this; exact this
   · rename_i s G
     split at h
     · rename_i lck t y Q
       have J : aO (lk e s) = true := by rw [Q]; rfl
       refine ⟨_, h, λ s' hs' => by rw [<- bd hs']; exact J, rfl, λ a0 a k g => ?_⟩
       have h1 := ixm _ _ _ g; rw [G] at h1
       have h2 := g.rs s J
       rw [Q] at h2
       obtain ⟨b, e1, _⟩ := h2
       refine bA E ⟨_, (show a.eval x = a0.get s from h1).trans e1⟩ ?_
       exact h1
     .simp at h
   .simp at h
 case makeFunc fn first wK =>
   cases fn with
   | func f =>
     try dsimp only at h
     split at h
     · rename_i y hfi
       split at h
       · rename_i s hca hy
         have hms := ti (x := y) hi
         rw [hy] at hms
         obtain rfl := QI hfi
         obtain rfl : wK = #[] := by cases wK; simp at hca; rw [hca]
         refine ⟨_, h, hms, rfl, λ a0 a k g => ?_⟩
         refine eK (fn := .func f) (first := [y]) (captured := []) E ?_
         have h1 := te (g.op y (by rw [E]; simp [Op.operands]))
         rw [hy] at h1
         show Value.func (.func f) [a.eval y].toArray [].toArray = _
         rw [show a.eval y = a0.get s from h1]
       .simp at h
     · rename_i hfi
       split at h
       · rename_i d hd
         split at h
         · rename_i av hav
           obtain ⟨h1, h2⟩ := GN hav
           refine ⟨_, h, λ s Q => by rw [h1] at Q; simp at Q, h2, λ a0 a k g => ?_⟩
           refine eK (fn := .func f) (first := []) (captured := wK.toList) (by rw [E]; simp [<- hfi]) ?_
           exact (I5 (us := wK.toList.map a.eval) hC.pe (hC.deps f d hd) hav (by simp) (λ l z O => OI O λ x G => M x (by simp [Op.operands]; exact .inr (by simpa using G)) _ _ _ g) g.gl).2.2
         .simp at h
       .simp at h
     .simp at h
   | _ => exact nomatch (show (none : Option R) = some r from h)
 case slice ty x lo hi' mx =>
  try dsimp only at h
  split at h;.simp at h
  .rename_i el U;have hu:=jl U;have ixx:=M x (by simp[Op.operands]);split at h
   · split at h;·rename_i t xs hlo V;cases j:tyB C.P T el t with|false=>rw[j]at h;simp at h;|true=>
   rw[j]at h;simp only[cond_true]at h;refine⟨_,h,λs Q=>by simp[AV.bW]at Q,rfl,λa0 a k g=>GS (α:=T.D t) (xs:=xs) E ?_ hu (qe j) (Dh V (ixx _ _ _ g) (jL hi) g.rs)⟩;split at hlo;.exact .inl rfl
   .exact .inr rfl
   .simp at hlo
     .simp at h
   · split at h;·rename_i t xs G;cases j:tyB C.P T el t with|false=>rw[j]at h;simp at h;|true=>
   rw[j]at h;simp only[cond_true]at h;have ix':∀a0 a k,Rd1 e o a0 a k->IsV xs (a.eval x) k:=λa0 a k g=>by have:=ixx _ _ _ g;rw[G]at this;exact this
   split at h
   · rename_i l h';split at h;·rename_i nl nh V hh;obtain⟨z,O,h⟩:=bind_some h;exact⟨_,h,bh λa0 a k g=>ok_slice E hu (qe j) (ix' _ _ _ g) (dY V (M l (by simp[Op.operands]) _ _ _ g)) (dY hh (M h' (by simp[Op.operands]) _ _ _ g)) O⟩
     .simp at h
   · rename_i l;split at h;·rename_i nl V;obtain⟨z,O,h⟩:=bind_some h;exact⟨_,h,bh λa0 a k g=>Ez E hu (qe j) (ix' _ _ _ g) (dY V (M l (by simp[Op.operands]) _ _ _ g)) O⟩
     .simp at h
   · rename_i h';split at h;·rename_i nh hh;obtain⟨z,O,h⟩:=bind_some h;exact⟨_,h,bh λa0 a k g=>ye E hu (qe j) (ix' _ _ _ g) (dY hh (M h' (by simp[Op.operands]) _ _ _ g)) O⟩
     .simp at h
   .simp at h
     .simp at h
   .simp at h
 case build ty ps =>
   try dsimp only at h
   split at h
   · rename_i n hn
     cases j : (og C.P T ty (.st n) && xi C.P ty) with
     | false =>
       rw [j] at h; simp only [cond_false] at h
       cases hb2 : (Ji C.P T ty n && I3 C.P ty) with
       | false => rw [hb2] at h; simp at h
       | true =>
         rw [hb2] at h; simp only [cond_true] at h
         rw [aG] at hb2
         split at h
         · rename_i z O
           refine ⟨_, h, bh λ a0 a k g => gw (ps := ps.toList) (by rw [E]) (HW hb2.1 hb2.2 O (a0 := a0) λ y hy => yZ hC (M y ?_ _ _ _ g) g.gl)⟩
           simpa [Op.operands] using hy
         .simp at h
     | true =>
       rw [j] at h; simp only [cond_true] at h
       rw [aG] at j
       split at h
       · rename_i z O
         refine ⟨_, h, bh λ a0 a k g => gw (ps := ps.toList) (by rw [E]) (run_build j.1 j.2 O (a0 := a0) λ y hy => M y ?_ _ _ _ g)⟩
         simpa [Op.operands] using hy
       .simp at h
   .simp at h
 case buildSlice ty n ps =>
   try dsimp only at h
   split at h
   · split at h
     · rename_i el hps U
       split at h
       · rename_i t ht
         cases j : elB C.P T el t with
         | false => rw [j] at h; simp at h
         | true =>
           rw [j] at h; simp only [cond_true] at h
           have : ps = #[] := by cases ps; simp at hps; rw [hps]
           subst this
           exact ⟨_, h, λ s Q => by simp [AV.bW] at Q, rfl, λ a0 a k g => oV (α := T.D t) E (jl U) (vE j)⟩
       .simp at h
     .simp at h
   · rename_i hn0
     split at h
     · rename_i t el xs j
       obtain ⟨h1, h2, h3, h4, h5⟩ := Cb j
       refine ⟨_, h, λ s Q => by simp [AV.bW] at Q, rfl, λ a0 a k g => zI (ps := ps.toList) (by rw [E]) h1 h2 h3 (tT λ e => hn0 e) h4 (h5 a0 a k λ y hy => M y ?_ _ _ _ g)⟩
       simpa [Op.operands] using hy
     .simp at h
 case call c =>
  try dsimp only at h
  obtain⟨cal,as_,ts⟩:=c;have H:∀x,x∈as_.toList->∀a0 a k,Rd1 e o a0 a k->(opv e x).is a0 (a.eval x) k:=λx G=>M x (by simp[Op.operands,Call.operands];exact .inr (by simpa using G));dsimp only at h;split at h
  .split at h
   · rename_i x ty G hty;obtain rfl:=QI G;split at h
     · rename_i el U;have J:∀a0 a k,Rd1 e o a0 a k->(res e (opv e x)).is a0 (a.eval x) k:=λa0 a k g=>zG (H x (by simp) _ _ _ g) (jL hi) g.rs;split at h;·rename_i t xs I;exact⟨_,h,bh λa0 a k g=>cO E hty (jl U) (IsV.rd (by have:=J _ _ _ g;rw[I]at this;exact this))⟩
       ·rename_i l el' t xs I;exact⟨_,h,bh λa0 a k g=>cO E hty (jl U) (an.rd (by have:=J _ _ _ g;rw[I]at this;exact this))⟩
       ·rename_i I;refine⟨_,h,bh λa0 a k g=>?_⟩;have h1:=J _ _ _ g;rw[I]at h1;exact cO (α:=Int) (xs:=[]) E hty (jl U) (IsV.rd (iE.isV h1))
       · rename_i lck m z' I;split at h;·rename_i t xs hRL;refine⟨_,h,bh λa0 a k g=>cO E hty (jl U) (IsV.rd (α:=T.D t) (xs:=xs) ?_)⟩;have:=J _ _ _ g;rw[I]at this;obtain⟨F,this⟩:=this;exact T.RLok _ _ _ _ _ _ _ this hRL
         .simp at h
       .simp at h
     .simp at h
   .simp at h
  .split at h
   · rename_i x y G;obtain rfl:=Hq G;split at h;·rename_i n m hn hm;exact⟨_,h,bh λa0 a k g=>On E (dY hn (H x (by simp) _ _ _ g)) (dY hm (H y (by simp) _ _ _ g))⟩
     .simp at h
   · rename_i x y z G;obtain rfl:=RS G;split at h;·rename_i n m p hn hm hp;exact⟨_,h,bh λa0 a k g=>N7 E (dY hn (H x (by simp) _ _ _ g)) (dY hm (H y (by simp) _ _ _ g)) (dY hp (H z (by simp) _ _ _ g))⟩
     .simp at h
   · rename_i x y z u w G;obtain rfl:=UM G;split at h;·rename_i n m p q t hn hm hp hq ht;exact⟨_,h,bh λa0 a k g=>OG E (dY hn (H x (by simp) _ _ _ g)) (dY hm (H y (by simp) _ _ _ g)) (dY hp (H z (by simp) _ _ _ g)) (dY hq (H u (by simp) _ _ _ g)) (dY ht (H w (by simp) _ _ _ g))⟩
     .simp at h
   .simp at h
  .split at h
   · rename_i x y G;obtain rfl:=Hq G;split at h;·rename_i n m hn hm;exact⟨_,h,bh λa0 a k g=>O0 E (dY hn (H x (by simp) _ _ _ g)) (dY hm (H y (by simp) _ _ _ g))⟩
     .simp at h
   · rename_i x y z G;obtain rfl:=RS G;split at h;·rename_i n m p hn hm hp;exact⟨_,h,bh λa0 a k g=>NN E (dY hn (H x (by simp) _ _ _ g)) (dY hm (H y (by simp) _ _ _ g)) (dY hp (H z (by simp) _ _ _ g))⟩
     .simp at h
   · rename_i x y z u G;obtain rfl:=UC G;split at h;·rename_i n m p q hn hm hp hq;exact⟨_,h,bh λa0 a k g=>Oa E (dY hn (H x (by simp) _ _ _ g)) (dY hm (H y (by simp) _ _ _ g)) (dY hp (H z (by simp) _ _ _ g)) (dY hq (H u (by simp) _ _ _ g))⟩
     .simp at h
   .simp at h
  .
    split at h
    · rename_i x y ty ty' G hty
      obtain rfl := Hq G
      obtain rfl := Hq hty
      split at h
      · rename_i el U
        split at h
        .
          rename_i t xs hF
          have hfull : ∀ a0 a k, Rd1 e o a0 a k -> rz xs (a.eval x) k := by
            intro a0 a k g
            unfold asF at hF
            split at hF
            · rename_i s
              split at hF
              · rename_i t' xs' V
                cases hF
                have := (g.op (.tmp s) (by rw [E]; simp [Op.operands, Call.operands])).1
                rw [V] at this; exact this
              .simp at hF
            .simp at hF
          split at h
          · rename_i u ys V
            split at h
            · rename_i ys' hcast
              cases j : (Nat.beq ty ty' && elB C.P T el t) with
              | false => rw [j] at h; simp at h
              | true =>
                rw [j] at h; simp only [cond_true] at h
                rw [aG] at j
                obtain rfl := bd j.1
                obtain ⟨z, O, h⟩ := bind_some h
                obtain ⟨e1, e2⟩ := cast?_eq hcast
                cases e1
                subst e2
                exact ⟨_, h, bh λ a0 a k g => GH E (jl U) (vE j.2) (hfull _ _ _ g) (Dh V (H y (by simp) _ _ _ g) (jL hi) g.rs) O⟩
            .simp at h
          .simp at h
        split at h
        · rename_i t ys J V
          cases j : (Nat.beq ty ty' && elB C.P T el t) with
          | false => rw [j] at h; simp at h
          | true =>
            rw [j] at h; simp only [cond_true] at h
            rw [aG] at j
            obtain rfl := bd j.1
            obtain ⟨z, O, h⟩ := bind_some h
            refine ⟨_, h, bh λ a0 a k g => EJ E (jl U) (vE j.2) ?_ (Dh V (H y (by simp) _ _ _ g) (jL hi) g.rs) O⟩
            have := zG (H x (by simp) _ _ _ g) (jL hi) g.rs
            rw [J] at this; exact this
        .simp at h
      .simp at h
    .simp at h
  .rename_i f;split at h
   · rename_i d hd;split at h;·rename_i z O;obtain⟨y,hy,h⟩:=bind_some h;have hf:=hC.deps f d hd;refine⟨_,h,λs Q=>by rw[q7]at Q;simp at Q,sY,λa0 a k g=>?_⟩;have:=hf.ok k (as_.toList.map a.eval) z y g.gl (wc (By C e) O λx G=>yZ hC (H x G _ _ _ g) g.gl) hy;refine cS (bQ (as_:=as_.toList) (by rw[E]) hf.call this) λv k' _ hv=>Hk (λs=>q7) hv
     .simp at h
   .split at h
    · rename_i d hd;split at h
      · rename_i z xs hq;split at h;·rename_i y hy;obtain⟨r1,hr,h⟩:=bind_some h;have hf:=hC.qdeps f d hd;refine⟨_,h,λs Q=>by rw[q7]at Q;simp at Q,sY,λa0 a k g=>?_⟩;obtain⟨u,F,hRP,hv,hsub⟩:=MP hi g (λx G=>by rw[E];simp[Op.operands,Call.operands];exact .inr (by simpa using G)) hq;have:=hf.ok k u (xs.map a.eval) z F y r1 g.gl hRP (wc (By C e) hy λx G=>yZ hC (H x (hsub x G) _ _ _ g) g.gl) hr;rw[<-hv]at this;refine cS (bQ (as_:=as_.toList) (by rw[E]) hf.call this) λv k' _ hv=>Hk (λs=>q7) hv
        .simp at h
      .simp at h
    .simp at h
  .rename_i s;have hpe:=hC.pe;have ixs:∀a0 a k,Rd1 e o a0 a k->(lk e s).is a0 (a.get s) k:=λa0 a k g=>(g.op (.tmp s) (by rw[E];simp[Op.operands,Call.operands])).1;split at h
   · rename_i b f I;split at h
     · rename_i G;obtain rfl:as_=#[]:=by cases as_;simp at G;rw[G]
       obtain⟨y,hy,h⟩:=bind_some h;refine⟨_,h,ot λa0 a k g=>?_⟩;have hf:=ixs _ _ _ g;rw[I]at hf;exact JF E (by rw[hpe];exact Ig.1 hf) hy
     .simp at h
   · rename_i b c f I;split at h
     · rename_i x G;obtain rfl:=QI G;split at h;·rename_i z O;obtain⟨y,hy,h⟩:=bind_some h;refine⟨_,h,ot λa0 a k g=>?_⟩;have hf:=ixs _ _ _ g;rw[I]at hf;exact Cv E (by rw[hpe];exact wm.1 hf) (iL O (H x (by simp) _ _ _ g)) hy
       .simp at h
     .simp at h
   · rename_i b b' c f I;split at h
     · rename_i x x' G;obtain rfl:=Hq G;split at h;·rename_i z z' O hz';obtain⟨y,hy,h⟩:=bind_some h;refine⟨_,h,ot λa0 a k g=>?_⟩;have hf:=ixs _ _ _ g;rw[I]at hf;exact Jr E (by rw[hpe];exact wS.1 hf) (iL O (H x (by simp) _ _ _ g)) (iL hz' (H x' (by simp) _ _ _ g)) hy
       .simp at h
     .simp at h
   .simp at h
  .simp at h
end
end Go.Gb
namespace Go.Gb
variable{T:Tb}{R:Type}
theorem lastIdx_none{t:Nat}:∀{l:List Oper}{i:Nat}{r:Option Nat},lastIdx t l i r=none->r=none/\∀o∈l,o.dst≠some t|[],_,_,h=>⟨h,by simp⟩|o::l,i,r,h=>by simp[lastIdx]at h;obtain⟨h1,j⟩:=lastIdx_none h;cases f:o.dst with|none=>rw[f]at h1;exact⟨h1,by simpa[f]using j⟩;|some d=>rw[f]at h1;cases g:Nat.beq d t with|true=>simp only[g]at h1;simp at h1;|false=>simp[g]at h1;refine⟨h1,?_⟩;simp;exact⟨by rw[f];intro e;rw[ae e]at g;simp at g,j⟩
theorem rZ{t:Nat}{o:Oper}:∀{l:List Oper}{i:Nat}{r:Option Nat},lastIdx t (l++[o]) i r=if o.dst=some t then some (i+l.length)else lastIdx t l i r
 |[],i,r=>by simp[lastIdx];cases h:o.dst with|none=>simp;|some d=>simp_all
 |x::l,i,r=>by simp[lastIdx,rZ];congr 2;omega
theorem fi{t:Nat}:∀{l:List Oper}{i:Nat}{r:Option Nat}{j:Nat},lastIdx t l i r=some j->r=some j∨∃o,i<=j/\nth l (j-i)=some o/\o.dst=some t
 |[],_,_,_,h=> .inl h|o::l,i,r,j,h=>by
  simp[lastIdx]at h;rcases fi h with h1|⟨g,h1,m,q⟩;.cases e:o.dst with|none=>rw[e]at h1;exact .inl h1;|some d=>rw[e]at h1;cases f:Nat.beq d t with|true=>simp[f]at h1;subst h1;exact .inr ⟨o,aN _,by simp[nth],by rw[e,bd f]⟩;|false=>simp[f]at h1;exact .inl h1
  .exact .inr ⟨g,by omega,by rw[show j-i=(j-(i+1))+1 by omega];exact m,q⟩
theorem uF{g:List Ent}{a0 a:Act}{k:K}:∀{f:List (Nat×Option Nat)},kT g a0 a k f->∀t s,(t,s)∈f->(match s with|some j=>(match nth g j with|some ⟨some R,_⟩=>R (a.get t) k|_=>True)|none=>a.get t=a0.get t)
 |[],_,_,_,h=>by simp at h;|(q,none)::l,h,t,s,m=>by
  rcases bF.1 m with e|m;.cases e;exact h.1
  .exact uF h.2 t s m|(q,some j)::l,h,t,s,m=>by
  rcases bF.1 m with e|m;.cases e;exact h.1
  .exact uF h.2 t s m
theorem ki{e:Type}:∀{l m:List e}{i:Nat}{x:e},nth l i=some x->nth (l++m) i=some x|_::_,_,0,_,h=>h|_::l,m,i+1,x,h=>ki (l:=l) h
theorem vw{e:Type}:∀{l:List e}{x:e}{m:List e},nth (l++x::m) l.length=some x|[],_,_=>rfl|_::l,x,m=>vw (l:=l)
theorem E3{o:Oper}{t:Nat}(h:Operand.tmp t∈o.op.operands.toList):t∈tmpsOf o:=List.mem_filterMap.2 ⟨_,h,rfl⟩
section
variable{C:Cx T}{n:Nat}{F:FP}{kk:K}{W:List Nat}{aa:Act}{e0:Env T}{a0:Act}{k0:K}
structure P1(e0:Env T)(a0:Act)(pre:List Oper)(es:List Ent)(e:Env T):Prop where
 len:es.length=pre.length
 slot:∀t,(match lastIdx t pre 0 none with|some j=>∃R nd,nth es j=some ⟨R,nd⟩/\(lk e t= .top∨∃R',R=some R'/\∀v k,R' v k->(lk e t).is a0 v k)|none=>lk e t=lk e0 t)res:∀t,aO (lk e t)=true->lastIdx t pre 0 none=none
 inv:∀t s,(lk e t).bW s=true->aO (lk e s)=true
theorem P1.rd1{f:List Oper}{w u:List Ent}{e:Env T}{o:Oper}{a:Act}{k:K}(p:P1 e0 a0 f w e)(h:Hl n F kk W aa e0 a0 k0)(hk:bD k0 k)(y:kT (w++u) a0 a k (mc f o)):Rd1 e o a0 a k:=by
 have rs:∀s,aO (lk e s)=true->(lk e s).is a0 (a0.get s) k:=λs z=>by have h1:=p.slot s;rw[p.res s z]at h1;rw[h1];exact(lk e0 s).mono hk (h.sl s)
 have gl:GOk T k:=h.gl.le hk.le;refine⟨λx E=>?_,rs,gl⟩;cases x with
 |tmp t=>have h1:=uF y t (lastIdx t f 0 none) (aS.2 ⟨t,E3 E,rfl⟩);have g:=p.slot t;cases q:lastIdx t f 0 none with
  |some j=>
 rw[q]at h1 g;dsimp at h1 g;obtain⟨R,nd,H,m⟩:=g;rw[ki H]at h1;refine⟨?_,λI=>by rw[p.res t I]at q;simp at q⟩;rcases m with m|⟨J,rfl,m⟩;.rw[m];trivial
 .exact m _ _ h1|none=>rw[q]at h1 g;refine⟨?_,λ _=>h1⟩;rw[g,h1];exact(lk e0 t).mono hk (h.sl t)
 |_=>trivial
theorem P1.push{f:List Oper}{q:List Ent}{e:Env T}{o:Oper}{d:Nat}{av:AV T}{R':Pred}{nd:List (Nat×Option Nat)}(p:P1 e0 a0 f q e)(u:o.dst=some d)(w:aO (lk e d)=false)(y:∀s,av.bW s=true->aO (lk e s)=true)(m:aO av=false)(z:∀v k,R' v k->av.is a0 v k):P1 e0 a0 (f++[o]) (q++[⟨some R',nd⟩]) ((d,av)::e):=by
 refine⟨by simp[p.len],λt=>?_,λt g=>?_,λt s h=>?_⟩
 · rw[rZ,u,bB];by_cases e1:d=t;.subst e1;rw[if_pos rfl,if_pos rfl,bS];exact⟨_,_,by rw[<-p.len];exact vw, .inr ⟨_,rfl,z⟩⟩
   · rw[if_neg (λe=>e1 (ae e)),if_neg e1];have:=p.slot t;split;.rename_i j E;rw[E]at this;obtain⟨R,nd,h1,G⟩:=this;exact⟨R,nd,ki h1,G⟩
     grind
 · rw[bB]at g;rw[rZ,u];by_cases e1:d=t;.rw[if_pos e1,m]at g;simp at g
   .rw[if_neg e1]at g;rw[if_neg (λe=>e1 (ae e))];exact p.res t g
 · rw[bB]at h;have x:aO (lk e s)=true:=by
    by_cases e1:d=t;.rw[if_pos e1]at h;exact y s h
    .rw[if_neg e1]at h;exact p.inv t s h
   rw[bB,if_neg (λe=>by rw[e,x]at w;simp at w)];exact x
theorem pV{e:Env T}:∀{gr:OpL}{t:Nat},(lk (gn gr e) t= .top/\∃x∈gr,x.2.dst=some t)∨(lk (gn gr e) t=lk e t/\∀x∈gr,x.2.dst≠some t)|[],t=> .inr ⟨rfl,by simp⟩|(i,o)::l,t=>by simp only[gn];cases g:o.dst with
 |none=>
 rcases pV with⟨h1,x,f,h⟩|⟨h1,h⟩;.exact .inl ⟨h1,x,by simp[f],h⟩
 .exact .inr ⟨h1,by simpa[g]using h⟩|some d=>
 rw[bB];by_cases e1:d=t;.simp_all
 · rw[if_neg e1];rcases pV with⟨h1,x,f,h⟩|⟨h1,h⟩;.exact .inl ⟨h1,x,by simp[f],h⟩
   grind
theorem lastIdx_skip{t:Nat}:∀{m:List Oper}{i:Nat}{r:Option Nat},(∀o∈m,o.dst≠some t)->lastIdx t m i r=r|[],_,_,_=>rfl|o::m,i,r,h=>by simp[lastIdx];rw[lastIdx_skip λj f=>h j (by simp[f])];have:=h o (by simp);cases q:o.dst with|none=>rfl;|some d=>rw[q]at this;have g:d≠t:=λe=>this (congrArg some e);simp[D6 g]
theorem sW{t:Nat}:∀{l m:List Oper}{i:Nat}{r:Option Nat},(∀o∈m,o.dst≠some t)->lastIdx t (l++m) i r=lastIdx t l i r|[],m,i,r,h=>lastIdx_skip h|x::l,m,i,r,h=>by simp;exact sW h
theorem P1.gn{h w:List Oper}{E f:List Ent}{e e':Env T}{gr:OpL}(p:P1 e0 a0 h E e)(hg:gr.map (·.2)=w)(q:P1 e0 a0 (h++w) (E++f) e'∨f.length=w.length)(U:∀x∈gr,∀d,x.2.dst=some d->aO (lk e d)=false):P1 e0 a0 (h++w) (E++f) (gn gr e):=by
  have y:f.length=w.length:=by
   rcases q with q|q;.have:=q.len;have:=p.len;simp at*;omega
   .exact q
  have H:∀t,(∃x∈gr,x.2.dst=some t)↔∃o∈w,o.dst=some t:=λt=>by grind
  refine⟨by simp[p.len,y],λt=>?_,λt I=>?_,λt s m=>?_⟩
  · rcases pV (e:=e) (gr:=gr) (t:=t)with⟨h1,z⟩|⟨h1,z⟩;·rw[h1];obtain⟨o,J,G⟩:=(H t).1 z;cases P:lastIdx t (h++w) 0 none with|none=>exact absurd G ((lastIdx_none P).2 o (by simp[J]));|some j=>
 rcases fi P with u|⟨o',_,u,_⟩;.simp at u
 · have Q:=qh u;have:j<(E++f).length:=by simp[p.len,y]at*;omega
   refine⟨((E++f)[j]).R,((E++f)[j]).need,?_, .inl rfl⟩;rw[fu,cL this]
    · rw[h1];have u:∀o∈w,o.dst≠some t:=λo J G=>by grind
      rw[sW u];have:=p.slot t;split;·rename_i j Q;rw[Q]at this;obtain⟨R,nd,V,h5⟩:=this;exact⟨R,nd,ki V,h5⟩
      grind
  · rcases pV (e:=e) (gr:=gr) (t:=t)with⟨h1,z⟩|⟨h1,z⟩;.rw[h1]at I;simp[aO]at I
    ·rw[h1]at I;rw[sW λo J G=>by obtain⟨x,M,O⟩:=(H t).2 ⟨o,J,G⟩;exact z x M O];exact p.res t I
  · have u:aO (lk e s)=true:=by
     rcases pV (e:=e) (gr:=gr) (t:=t)with⟨h1,z⟩|⟨h1,z⟩;.rw[h1]at m;simp[AV.bW]at m
     .rw[h1]at m;exact p.inv t s m
    rcases pV (e:=e) (gr:=gr) (t:=s)with⟨h1,x,M,G⟩|⟨h1,z⟩;.rw[U x M s G]at u;simp at u
    .rw[h1];exact u
theorem Gz{g:Option (Nat×Bool)}:∀{l e f:OpL},tH g l=(e,f)->l=e++f
 |[],e,f,h=>by simp only[tH,Prod.mk.injEq]at h;rw[<-h.1,<-h.2];rfl;|x::l,e,f,h=>by
  simp[tH]at h;split at h;.simp at h;simp[<-h.1,<-h.2]
  .obtain⟨rfl,rfl⟩:=h;have:=Gz (g:=g) (l:=l) rfl;simp;rw[<-this]
theorem Gp{g:Option (Nat×Bool)}:∀{l gr l':OpL}{x:Nat×Oper},tH g l=(gr,x::l')->x.2.guard=g
 |[],gr,l',x,h=>by simp[tH]at h;|y::l,gr,l',x,h=>by
  simp[tH]at h;split at h;.rename_i e;simp[Prod.mk.injEq]at h;rw[<-h.2.1];exact e
  .simp [Prod.mk.injEq]at h;exact Gp (l':=l') (by rw[<-h.2])
theorem Ck:∀{e:List Oper}{i:Nat}{a b:OpL},ixs i e=a++b->∃f g,e=f++g/\a=ixs i f/\b=ixs (i+f.length) g|e,i,[],b,h=>⟨[],e,rfl,rfl,by simpa using h.symm⟩|o::e,i,x::a,b,h=>by simp[ixs]at h;obtain⟨f,g,h1,j,m⟩:=Ck h.2;exact⟨o::f,g,by rw[h1];rfl,by simp[ixs,h.1,j],by rw[m,fD,show i+1+f.length=i+(f.length+1)by omega]⟩
theorem zh{l:List Oper}:∀{i:Nat},(ixs i l).map (·.2)=l:=by induction l with|nil=>intro i;rfl;|cons x l h=>intro i;simp[ixs,h]
theorem OA{l:List Oper}:∀{i j:Nat}{o:Oper},(j,o)∈ixs i l->i<=j/\nth l (j-i)=some o:=by induction l with|nil=>intro i j o h;simp[ixs]at h;|cons x l f=>
 intro i j o h;simp[ixs]at h;rcases h with⟨rfl,rfl⟩|h;.exact⟨aN _,by simp[nth]⟩
 .obtain⟨h1,g⟩:=f h;exact⟨by omega,by rw[show j-i=(j-(i+1))+1 by omega];exact g⟩
theorem BV{P:Program}{e:List Ent}{a0:Act}{k0:K}:∀{l m:List Oper}{a b:List Ent},a.length=l.length->Steps P e a0 k0 l a->Steps P e a0 k0 m b->Steps P e a0 k0 (l++m) (a++b)|[],m,[],b,_,_,h=>h|o::l,m,x::a,b,f,h,g=>⟨h.1,BV (by simpa using f) h.2 g⟩
theorem B7:∀{l m e:List Oper},oe e (l++m)=oe e l++oe (e++l) m|[],m,e=>by simp[oe];|x::l,m,e=>by simp[oe,B7]
theorem Ms{f w m:Bool}{run e:Option Bool}{K:Bool->Option R}{r:R}(h:LP f w m run e K=some r):∃b,K b=some r/\(m=w->run=some b)/\(m≠w->e=some b):=by unfold LP at h;cases f with
 |true=>cases run with|none=>simp at h;|some b=>cases e with|none=>simp at h;|some d=>cases d<;>cases w<;>simp at h<;>(refine⟨_,h,?_,?_⟩<;>cases m<;>simp)
 |false=>simp[cond_false]at h;split at h<;>(obtain⟨b,g,h⟩:=bind_some h;refine⟨b,h,?_,?_⟩<;>cases m<;>simp at g⊢<;>exact g)
end
end Go.Gb
namespace Go.Gb
variable{T:Tb}{R:Type}
section
variable{C:Cx T}{n:Nat}{F:FP}{kk:K}{W:List Nat}{aa:Act}{e0:Env T}{a0:Act}{k0:K}
theorem Gx{P:Program}{j f:List Ent}:∀{l:List Oper}{e:List (List (Nat×Option Nat))},e.length=l.length->(∀o∈l,iz (j++f) o false)->Steps P (j++f) a0 k0 l (e.map λnd=>⟨none,nd⟩)|[],[],_,_=>trivial|o::l,nd::e,m,h=>⟨h o (by simp),Gx (by simpa using m) λq g=>h q (by simp[g])⟩
theorem oL:∀{l e:List Oper},(oe e l).length=l.length|[],_=>rfl|_::l,e=>by simp[oe,oL]
theorem IX{e:Type}:∀{l m r:List e}{i:Nat},l.length<=i->i<l.length+m.length->nth (l++(m++r)) i=nth m (i-l.length)|[],m,r,i,_,h=>by simp;rw[fu,fu,ql (by simpa using h)];|x::l,m,r,i+1,h,f=>by simp only[qs,nth,fD];rw[IX (by simpa using h) (by simp at f;omega)];congr 1;omega
theorem nP{s:Nat}{e:List Oper}(h:tg s e=true):∀i o,nth e i=some o->o.dst≠some s:=by intro i o f g;rw[fu]at f;have:=br.1 h o (iF f);rw[g]at this;simp[de]at this
theorem yA{s:Nat}{e rest:List Oper}(h:tg s (e++rest)=true):lastIdx s e 0 none=none:=by cases f:lastIdx s e 0 none with|none=>rfl;|some j=>
 rcases fi f with h1|⟨o,_,h1,g⟩;.simp at h1
 .exact absurd g (nP h _ o (ki h1))
def Hu(T:Tb)(H B:Nat):Hv->Pred| .adr off=>cU H off| .box t=>zk (T.D t) B
instance{H B:Nat}:∀y:Hv,aZ (Hu T H B y)| .adr off=>inferInstanceAs (aZ (cU H off))| .box t=>inferInstanceAs (aZ (zk (T.D t) B))
theorem FQ{e:Hd}{o:Oper}{off:Nat}(h:yO C e o=some (.adr off)):∃s st f,e= .old s/\o.op= .fieldAddr st (.tmp s) f/\sT C.P st f=some off:=by
 unfold yO at h;split at h;.rename_i s st j f m;cases g:Nat.beq s j with|false=>rw[g]at h;simp at h;|true=>obtain rfl:=bd g;grind
 · split at h;.grind
   .simp at h
 .simp at h
theorem wa{e:Hd}{o:Oper}{t:Tp}(h:yO C e o=some (.box t)):∃s y,e= .new s t/\o.op= .alloc y/\o.dst=some s/\og C.P T y t=true:=by
 unfold yO at h;split at h;.grind
 · rename_i s f y g;split at h;.rename_i d m;cases j:(Nat.beq s d&&og C.P T y f)with|false=>rw[j]at h;simp at h;|true=>simp_all
   .simp at h
 .simp at h
def Plain(C:Cx T)(h:Hd)(e0:Env T)(a0:Act)(H B:Nat)(e:List Ent):Prop:=∀x∈e,∀R,x.R=some R->(∃av:AV T,R=av.is a0/\aO av=false/\∀s,av.bW s=true->aO (lk e0 s)=true)∨∃o y,yO C h o=some y/\R=Hu T H B y
def p8(C:Cx T)(h:Hd)(H B:Nat)(g:Option (Nat×Bool))(e:List Oper)(f:List Ent):Prop:=g=none->∀j o y,nth e j=some o->o.guard=none->yO C h o=some y->∃nd,nth f j=some ⟨some (Hu T H B y),nd⟩
theorem p8.cons{e:Hd}{H B:Nat}{g:Option (Nat×Bool)}{q:List Oper}{u:List Ent}{o:Oper}{x:Ent}(h:p8 C e H B g q u)(G:∀y,yO C e o=some y->o.guard=none->∃nd,x=⟨some (Hu T H B y),nd⟩):p8 C e H B g (o::q) (x::u):=by intro I j J y m f w;cases j with|zero=>simp[nth]at m;subst m;obtain⟨nd,h1⟩:=G y w f;exact⟨nd,by simp[nth,h1]⟩;|succ j=>exact h I j J y (by simpa[nth]using m) f w
theorem p8.skip{f:Hd}{H B:Nat}{g:Option (Nat×Bool)}:∀{j q:List Oper}{e u:List Ent},e.length=j.length->(∀o∈j,o.guard≠none)->p8 C f H B g q u->p8 C f H B g (j++q) (e++u)|[],_,[],_,_,_,h=>h|o::j,_,x::e,_,y,w,h=>p8.cons (p8.skip (by simpa using y) (λz m=>w z (by simp[m])) h) λ_ _ E=>absurd E (w o (by simp))
theorem P1.NF{f:List Oper}{j:List Ent}{e:Env T}(p:P1 e0 a0 f j e){s:Nat}(h:aO (lk e s)=true):aO (lk e0 s)=true:=by have h1:=p.res s h;have g:=p.slot s;rw[h1]at g;exact(g)▸h
theorem vH(hC:yL C){hid:Hd}{bH B:Nat}(J:List Oper)(hH:∀s,hid= .old s->a0.get s= .pointer (some ⟨bH,0,none⟩)/\tg s J=true):∀(f:Nat)(R:Type)(g:Option (Nat×Bool))(u rest rr:List Oper)(e:Env T)(K:OpL->Env T->Option R)(r:R)(es:List Ent),J=u++(rest++rr)->P1 e0 a0 u es e->(∀E o,o.guard=g->iz (es++E) o true)->ev1 C hid J f R g (ixs u.length rest) e K=some r->∃(cs G:List Oper)(z:List Ent)(e':Env T),rest=cs++G/\z.length=cs.length/\(g≠none->G=[])/\z.map (·.need)=oe u cs/\K (ixs (u++cs).length G) e'=some r/\P1 e0 a0 (u++cs) (es++z) e'/\(∀k0,Hl n F kk W aa e0 a0 k0->B<=k0.w.heap.size->∀E,Steps C.P (es++(z++E)) a0 k0 cs z)/\Plain C hid e0 a0 bH B z/\p8 C hid bH B g cs z
  |0,_,_,_,_,_,_,_,_,_,_,_,_,h=>by simp[ev1]at h;|f+1,R,g,u,[],rr,e,K,r,es,V,p,hg,h=>by simp only[ixs,ev1]at h;exact⟨[],[],[],e,rfl,rfl,λ_=>rfl,rfl,by simpa[ixs]using h,by simpa using p,λ_ _ _ _=>trivial,λx M=>by simp at M,λ_ j o off hj=>by simp[nth]at hj⟩|f+1,R,g,u,o::rest,rr,e,K,r,es,V,p,hg,h=>by
    simp only[ixs,ev1]at h;split at h
    · rename_i hgo;split at h;·rename_i y d hho hd;cases hrd:aO (lk e d)with|true=>rw[hrd]at h;simp at h;|false=>
     rw[hrd]at h;simp only[cond_false]at h;have O:=p.push (R':=Hu T bH B y) (nd:=mc u o) (av:= .top) hd hrd (λs hs=>by simp[AV.bW]at hs) rfl (λ _ _ _=>trivial);have hops':J=(u++[o])++(rest++rr):=by rw[V];simp
     obtain⟨cs,G,z,e',h1,U,h3,h4,h5,h6,h7,h8,h9⟩:=vH hC J hH f R g (u++[o]) rest rr _ K r _ hops' O (λE o' Q=>by have:=hg ([⟨some (Hu T bH B y),mc u o⟩]++E) o' Q;rwa[<-dM]at this) (by simpa using h);refine⟨o::cs,G,⟨some (Hu T bH B y),mc u o⟩::z,e',by rw[h1];rfl,by simp[U],h3,by simp[oe,h4],by simpa using h5,by simpa using h6,λk0 h0 hB E=>⟨?_,?_⟩,λx M R hR=>?_,h9.cons λy' ho _=>(by rw[hho]at ho;exact⟨_,by rw[ae ho]⟩)⟩;·refine⟨inferInstance, .inl ⟨λa k hk' hn'=>?_,hg _ o hgo⟩⟩;cases y with|adr off=>obtain⟨s,st,f',hs1,hop,hfo⟩:=FQ hho;obtain⟨hbs,hnd⟩:=hH s hs1;have hls:lastIdx s u 0 none=none:=yA (rest:=o::rest++rr) (by rw[V]at hnd;simpa using hnd);refine bI hop (CR hfo) ?_;have:=uF hn' s none (aS.2 ⟨s,E3 (by rw[hop];simp[Op.operands]),by rw[hls]⟩);exact(show a.get s=a0.get s from this).trans hbs|box t=>obtain⟨s,ty,hs1,hop,hd',hz⟩:=wa hho;obtain⟨_,zv,_,_,_,_,hrun,_,hv⟩:=wj hz;exact cS (cT B (bC hB hk'.size) hop ⟨zv,hrun,hv⟩) λv k' _ hb=>⟨_,hb⟩
     ·have:=h7 k0 h0 hB E;simpa using this
     · rcases bF.1 M with rfl|M;·obtain rfl:=ae hR;exact .inr ⟨o,y,hho,rfl⟩
       .exact h8 x M R hR
      ·rename_i hno;cases hm:FK C e o with
 |true=>
 rw[hm]at h;simp only[cond_true]at h;split at h;.exact⟨[],o::rest,[],e,rfl,rfl,λhn=>absurd rfl hn,rfl,by simpa[ixs]using h,by simpa using p,λ _ _ _ _=>trivial,λx M=>by simp at M,λ _ j o off hj=>by simp[nth]at hj⟩
 .simp at h|false=>
 rw[hm]at h;simp only[cond_false]at h;split at h
 · rename_i d hd;have hho:yO C hid o=none:=by cases hh:yO C hid o with|none=>rfl;|some y=>exact(hno y d hh hd).elim
   obtain⟨av,hk,hgv⟩:=Em hC p.inv h;have hrd:aO (lk e d)=false:=by unfold FK at hm;rw[hd]at hm;simp only[rn]at hm;exact hm.1
   have O:=p.push (R':=av.is a0) (nd:=mc u o) hd hrd hgv.1 hgv.2.1 (λ _ _ h=>h);have hops':J=(u++[o])++(rest++rr):=by rw[V];simp
   obtain⟨cs,G,z,e',h1,U,h3,h4,h5,h6,h7,h8,h9⟩:=vH hC J hH f R g (u++[o]) rest rr _ K r _ hops' O (λE o' Q=>by have:=hg ([⟨some (av.is a0),mc u o⟩]++E) o' Q;rwa[<-dM]at this) (by simpa using hk);refine⟨o::cs,G,⟨some (av.is a0),mc u o⟩::z,e',by rw[h1];rfl,by simp[U],h3,by simp[oe,h4],by simpa using h5,by simpa using h6,λk0 h0 hB E=>⟨?_,?_⟩,λx M R hR=>?_,h9.cons λoff ho _=>(by rw[hho]at ho;simp at ho)⟩;.refine⟨inferInstance, .inl ⟨λa k hk' hn'=>hgv.2.2 a0 a k (p.rd1 h0 hk' hn'),hg _ o hgo⟩⟩
   ·have:=h7 k0 h0 hB E;simpa using this
   · rcases bF.1 M with rfl|M;·obtain rfl:=ae hR;exact .inl ⟨av,rfl,hgv.2.1,λs hs=>p.NF (hgv.1 s hs)⟩
     .exact h8 x M R hR
 .simp at h
    · rename_i hgo;split at h;.simp at h
      ·rename_i j w hjw;cases hst:(g.isNone&&(tH g _).1.any (λx=>FK C e x.2))with|true=>
 rw[hst]at h;simp only[cond_true]at h;rw[aG]at hst;obtain rfl:g=none:=by simpa using hst.1
 exact⟨[],o::rest,[],e,rfl,rfl,λhn=>absurd rfl hn,rfl,by simpa[ixs]using h,by simpa using p,λ _ _ _ _=>trivial,λx M=>by simp at M,λ _ j o off hj=>by simp[nth]at hj⟩|false=>
        rw[hst]at h;simp only[cond_false]at h;clear hst;split at h
        · rename_i gr ip O l' hsp;split at h
          · rename_i c x y d tj hpo hpd hdj;split at h;·rename_i m hmm;cases hchk:(Nat.beq tj c&&HH c (J.take u.length) j&&PE e c j w gr&&!(aO (lk e d)))with|false=>rw[hchk]at h;simp at h;|true=>
                rw[hchk]at h;simp only[cond_true]at h;simp only[aG,cH]at hchk;obtain⟨⟨⟨hc1,hc2⟩,hc3⟩,hc4⟩:=hchk;obtain⟨b,hk,hrun,hoth⟩:=Ms h;have hl:=Gz hsp;have hl:ixs u.length (o::rest)=gr++(ip,O)::l':=hl;obtain⟨g1,g2,he1,he2,he3⟩:=Ck hl;obtain⟨q,I,rfl,rfl,rfl⟩:∃q I,g2=q::I/\O=q/\l'=ixs (u.length+g1.length+1) I:=by cases g2 with|nil=>simp[ixs]at he3;|cons q I=>simp only[ixs,rk,Prod.mk.injEq]at he3;exact⟨q,I,rfl,he3.1.2,he3.2⟩
                have htake:J.take u.length=u:=by rw[V,gZ];rfl
                rw[htake]at hc2;unfold HH at hc2;have hslot:=p.slot c;obtain⟨Rj,ndj,hej,hRj⟩:∃Rj nd,nth es j=some ⟨some Rj,nd⟩/\∀v k,Rj v k->v= .bool m:=by cases hli:lastIdx c u 0 none with|none=>rw[hli]at hc2;simp at hc2;|some j'=>
 rw[hli]at hc2 hslot;obtain rfl:=bd hc2;obtain⟨R1,nd,h1,U⟩:=hslot;rcases U with U|⟨R',rfl,U⟩;.rw[U]at hmm;simp[asB]at hmm
 .exact⟨R',nd,h1,λv k hv=>aE.1 (mm hmm (U v k hv))⟩
                have hjl:j<es.length:=by have:=qh hej;simpa using this
                have hgr:∀x∈gr,(∃d,x.2.dst=some d/\aO (lk e d)=false/\d≠c)/\∃j' w',x.2.guard=some (j',w')/\((j'=j/\w'=w)∨∃y∈gr,y.1=j'):=by
                 intro x M;have:=br.1 hc3 x M;rw[aG]at this;obtain⟨h1,U⟩:=this;constructor;.cases hxd:x.2.dst with|none=>rw[hxd]at U;simp at U;|some dx=>rw[hxd]at U;simp only[aG,cH]at U;exact⟨dx,rfl,U.1,λe=>by rw[e,de]at U;simp at U⟩
                 .cases hxg:x.2.guard with|none=>rw[hxg]at h1;simp at h1;|some jw=>
 obtain⟨j',w'⟩:=jw;rw[hxg]at h1;simp only[bU,aG,beq_iff_eq,jG]at h1;refine⟨j',w',rfl,?_⟩;rcases h1 with h1|⟨y,hy,h1⟩;.exact .inl ⟨bd h1.1,h1.2⟩
 .exact .inr ⟨y,hy,bd h1⟩
                have hcs:gr.map (·.2)=g1:=by rw[he2,zh]
                have hnr:∀x∈gr,∀d,x.2.dst=some d->aO (lk e d)=false:=λx M d hd=>by obtain⟨⟨d',h1,U,_⟩,_⟩:=hgr x M;rw[hd]at h1;obtain rfl:=ae h1;exact U
                have hg1:J=u++(g1++(O::I++rr)):=by rw[V,he1];simp
                obtain⟨z,q1,q2,q3,q4,q6,q5⟩:∃z:List Ent,z.length=g1.length/\z.map (·.need)=oe u g1/\(∀k0,Hl n F kk W aa e0 a0 k0->B<=k0.w.heap.size->∀E,Steps C.P (es++(z++E)) a0 k0 g1 z)/\P1 e0 a0 (u++g1) (es++z) (gn gr e)/\Plain C hid e0 a0 bH B z/\(m=w->∃e',P1 e0 a0 (u++g1) (es++z) e'/\asB (opv e' (if w then x else y))=some b):=by
                 by_cases hmw:m=w;·have hr:=hrun hmw;rw[he2]at hr;obtain⟨cs,G,z,e',h1,U,h3,h4,h5,h6,h7,h8,_⟩:=vH hC J hH f Bool (some (j,w)) u g1 (O::I++rr) e _ b es hg1 p (λE o' Q=>by unfold iz;rw[Q];dsimp only;rw[ki hej];intro v k hv;rw[hRj v k hv,hmw];rfl) hr;obtain rfl:=h3 (by simp);rw[ni]at h1;subst h1;exact⟨z,U,h4,h7,p.gn hcs (.inl h6) hnr,h8,λ _=>⟨e',h6,h5⟩⟩
                 · refine⟨(oe u g1).map λnd=>⟨none,nd⟩,by simp[oL],by simp[jT,Function.comp_def],λk0 h0 hB E=>?_,p.gn (e':=e) hcs (.inr (by simp[oL])) hnr,λx M R hR=>(by obtain⟨nd,_,rfl⟩:=aS.1 M;simp at hR),λh=>absurd h hmw⟩;refine Gx (by simp[oL]) λo' Q=>?_;rw[<-hcs]at Q;obtain⟨x',hx',rfl⟩:=aS.1 Q;obtain⟨_,j',w',hg',hor⟩:=hgr x' hx';unfold iz;rw[hg'];dsimp only;rcases hor with⟨rfl,rfl⟩|⟨y',hy',rfl⟩;·rw[ki hej];intro v k hv;rw[hRj v k hv];cases m<;>cases w'<;>simp_all
                   ·rw[he2]at hy';obtain⟨z1,z2⟩:=OA (i:=u.length) (show(y'.1,y'.2)∈ixs u.length g1 from hy');have hlt:=qh z2;rw[IX (by rw[p.len];exact z1) (by simp[oL,p.len];omega),p.len,fu,rm];rw[cL (by rw[oL];exact hlt)];rfl
                have hlk:lk (gn gr e) c=lk e c:=by
                 rcases pV (e:=e) (gr:=gr) (t:=c)with⟨_,x',hx',hd'⟩|⟨h1,_⟩;·obtain⟨⟨d',h1,_,U⟩,_⟩:=hgr x' hx';rw[hd']at h1;exact absurd (ae h1).symm U
                 .exact h1
                have hrd:aO (lk (gn gr e) d)=false:=by
                 rcases pV (e:=e) (gr:=gr) (t:=d)with⟨h1,_⟩|⟨h1,_⟩;.rw[h1];rfl
                 .rw[h1];exact hc4
                have p2:=q4.push (o:=O) (R':=(AV.v (T:=T) .bool b).is a0) (nd:=mc (u++g1) O) hpd hrd (av:= .v .bool b) (λs hs=>by simp[AV.bW]at hs) rfl (λ _ _ h=>h);have hgp:O.guard=g:=by have:=Gp hsp;exact this
                have hops2:J=((u++g1)++[O])++(I++rr):=by rw[V,he1];simp
                have hob:∀k0,Hl n F kk W aa e0 a0 k0->∀E,Ob C.P (es++(z++E)) a0 k0 O ⟨some ((AV.v (T:=T) .bool b).is a0),mc (u++g1) O⟩:=by
                 intro k0 h0 E;refine⟨inferInstance, .inl ⟨λa k hk' hn'=>?_,hg _ O hgp⟩⟩;rw[<-dM]at hn';have rd:=q4.rd1 h0 hk' hn';have hmc:c∈O.op.operands.toList.filterMap (λ| .tmp t=>some t|_=>none):=by rw[hpo];simp[Op.operands]
                 have hx1:x∈O.op.operands.toList:=by rw[hpo];simp[Op.operands]
                 have hy1:y∈O.op.operands.toList:=by rw[hpo];simp[Op.operands]
                 have hcv:IsV m (a.eval (.tmp c)) k:=by have:=(rd.op (.tmp c) (by rw[hpo];simp[Op.operands])).1;rw[hlk]at this;exact mm hmm this
                 refine qY (m:=m) (r:=b) hpo hcv (λhm1=>?_) (λhm1=>?_);.cases w with|true=>obtain⟨e',O,hb⟩:=q5 hm1;exact mm hb (eU ((O.rd1 h0 hk' hn').op x hx1))|false=>have hb:=hoth (by rw[hm1];simp);exact mm hb (eU (rd.op x hx1))
                 .cases w with|true=>have hb:=hoth (by rw[hm1];simp);exact mm hb (eU (rd.op y hy1))|false=>obtain⟨e',O,hb⟩:=q5 hm1;exact mm hb (eU ((O.rd1 h0 hk' hn').op y hy1))
                obtain⟨cs,G,es2,e',h1,U,h3,h4,h5,h6,h7,h8,h9⟩:=vH hC J hH f R g ((u++g1)++[O]) I rr _ K r _ hops2 p2 (λE o' Q=>by have:=hg (z++([⟨some ((AV.v (T:=T) .bool b).is a0),mc (u++g1) O⟩]++E)) o' Q;simpa using this) (by simpa[qn]using hk);refine⟨g1++O::cs,G,z++_::es2,e',by rw[he1,h1];simp,by simp[q1,U],h3,?_,by simpa using h5,by simpa using h6,λk0 h0 hB E=>?_,λx' M R hR=>?_,p8.skip q1 (λo' Q=>?_) (h9.cons λoff ho _=>?_)⟩;·rw[B7];simp[q2,oe,h4]
                · refine BV q1 ?_ ⟨?_,?_⟩;·have:=q3 k0 h0 hB (⟨some ((AV.v (T:=T) .bool b).is a0),mc (u++g1) O⟩::es2++E);simpa using this
                  ·have:=hob k0 h0 (⟨some ((AV.v (T:=T) .bool b).is a0),mc (u++g1) O⟩::es2++E);simpa using this
                  ·have:=h7 k0 h0 hB E;simpa using this
                · rcases dK.1 M with M|M;.exact q6 x' M R hR
                  · rcases bF.1 M with rfl|M;·obtain rfl:=ae hR;exact .inl ⟨.v .bool b,rfl,rfl,λs hs=>by simp[AV.bW]at hs⟩
                    .exact h8 x' M R hR
                ·rw[<-hcs]at Q;obtain⟨x',hx',rfl⟩:=aS.1 Q;obtain⟨_,j',w',hg',_⟩:=hgr x' hx';rw[hg'];simp
                .cases off with|adr off=>obtain⟨_,_,_,_,hop',_⟩:=FQ ho;rw[hpo]at hop';simp at hop'|box t=>obtain⟨_,_,_,hop',_⟩:=wa ho;rw[hpo]at hop';simp at hop'
            .simp at h
          .simp at h
        .simp at h
end
end Go.Gb
namespace Go.Gb
variable{T:Tb}{R:Type}
section
variable{C:Cx T}{n:Nat}{F:FP}{k0:K}{W:List Nat}{a0:Act}{e:Env T}{a a':Act}{k k':K}
theorem Hl.rd1(h:Hl n F k0 W a0 e a k)(o:Oper):Rd1 e o a a k:=by refine⟨λx _=>?_,λs _=>h.sl s,h.gl⟩;cases x with|tmp t=>exact⟨h.sl t,λ _=>rfl⟩;|global _=>exact h.gl;|_=>trivial
theorem Hl.Oz(h:Hl n F k0 W a0 e a k){s:Nat}{av:AV T}{G:FP}(hs:unl (lk e s)=true)(c:Chg G k k')(z:∀b,G b->(lk e s).fp (a.get s) k b)(hv:av.is a (a.get s) k')(hm:∀t,av.bW t=false)(hu:unl av=true)(hf:∀b,av.fp (a.get s) k' b->(lk e s).fp (a.get s) k b):Hl n F k0 W a0 ((s,av)::pB (kl s) e) a k':=by
 have J:∀b,G b->¬k.sh b:=λb f=>(h.lt s b (z b f)).2;have q:lk ((s,av)::pB (kl s) e) s=av:=by rw[bB,if_pos rfl]
 have w:∀t,t≠s->lk ((s,av)::pB (kl s) e) t=kl s (lk e t):=λt j=>by rw[bB,if_neg (Ne.symm j),mN rfl]
 have E:∀t,t≠s->(lk e t).fp _ k'=(lk e t).fp _ k:=λt j=>AV.oF _ c J (λb f m=>h.ap t s j b f (z b m)) (h.sl t);refine⟨h.g.step c (λb f=>h.wr s hs b (z b f)),h.s,h.d,h.old,λt=>?_,λt u x=>?_,λt j=>?_,λt t' M=>?_,h.gl.le (c.le J)⟩
 · by_cases j:t=s;.subst j;rw[q];exact hv
   · rw[w t j];have h1:(kl s (lk e t)).is a (a.get t) k:=by
      rcases uZ s (lk e t)with e1|e1;.rw[e1];exact h.sl t
      .rw[e1];trivial
     refine(kl s (lk e t)).keep c J (λb f m=>?_) (λu O u' P Q b f m=>?_) h1
     · rcases uZ s (lk e t)with e1|e1;.rw[e1]at f;exact h.ap t s j b f (z b m)
       .rw[e1]at f;exact f
     .have⟨U,V⟩:=Et O;exact h.apm (h.inv t u (AV.kI U)) V P Q b f (z b m)
 · have:aO (lk e u)=true:=by
    by_cases j:t=s;.subst j;rw[q,hm]at x;simp at x
    .rw[w t j]at x;exact h.inv t u (II x)
   by_cases H:u=s;.subst H;rw[q];exact rR hu
   .rw[w u H,L1 this];exact this
 · by_cases y:t=s;.subst y;rw[q];exactλb f=>h.wr t hs b (hf b f)
   · rw[w t y]at j⊢;rcases uZ s (lk e t)with e1|e1;.rw[e1]at j⊢;rw[E t y];exact h.wr t j
     .rw[e1]at j;simp[unl]at j
 · have I:∀t b,(lk ((s,av)::pB (kl s) e) t).fp (a.get t) k' b->(lk e t).fp (a.get t) k b:=by
    intro t b f;by_cases j:t=s;.subst j;rw[q]at f;exact hf b f
    · rw[w t j]at f;rcases uZ s (lk e t)with e1|e1;.rw[e1,E t j]at f;exact f
      .rw[e1]at f;exact f.elim
   exactλb f m=>h.ap t t' M b (I t b f) (I t' b m)
theorem Hl.swap(h:Hl n F k0 W a0 e a k){s:Nat}{av:AV T}{G:FP}(hg:Chg F k0 k')(q:∀(x:AV T)(v:Value),aB (x.fp v k) G->(∀u,x.nc u=true->∀y:AV T,HB y=true->y.is a (a.get u) k->aB (y.fp (a.get u) k) G)->x.is a v k->x.is a v k')(O:∀(x:AV T)(v:Value),aB (x.fp v k) G->x.is a v k->x.fp v k'=x.fp v k)(P:∀b,G b->(lk e s).fp (a.get s) k b)(hv:av.is a (a.get s) k')(hm:∀t,av.bW t=false)(hw:unl av=true->Wr F k0 (av.fp (a.get s) k'))(hf:∀b,av.fp (a.get s) k' b->(lk e s).fp (a.get s) k b):Hl n F k0 W a0 ((s,av)::pB (klA s) e) a k':=by
 have E:lk ((s,av)::pB (klA s) e) s=av:=by rw[bB,if_pos rfl]
 have z:∀t,t≠s->lk ((s,av)::pB (klA s) e) t=klA s (lk e t):=λt f=>by rw[bB,if_neg (Ne.symm f),mN rfl]
 have J:∀t,t≠s->(lk e t).fp _ k'=(lk e t).fp _ k:=λt f=>O _ _ (λb j w=>h.ap t s f b j (P b w)) (h.sl t);refine⟨hg,h.s,h.d,h.old,λt=>?_,λt u H=>?_,λt f=>?_,λt t' Q=>?_,⟨λg t x e1=>q (.ref t x) _ (λb j _=>j.elim) (λu U=>by simp[AV.nc]at U) (h.gl.1 g t x e1),λg e1=>(h.gl.2 g e1).imp λm r=>q (.ref .int m) _ (λb j _=>j.elim) (λu U=>by simp[AV.nc]at U) r⟩⟩
 · by_cases f:t=s;.subst f;rw[E];exact hv
   · rw[z t f];have h1:(klA s (lk e t)).is a (a.get t) k:=by
      rcases iI s (lk e t)with e1|e1;.rw[e1];exact h.sl t
      .rw[e1];trivial
     refine q _ _ (λb j w=>?_) (λu V u' hu2 hu3 b j w=>?_) h1
     · rcases iI s (lk e t)with e1|e1;.rw[e1]at j;exact h.ap t s f b j (P b w)
       .rw[e1]at j;exact j
     .have⟨hu4,hu5⟩:=qu (AV.kI V);exact h.apm (h.inv t u hu4) hu5 hu2 hu3 b j (P b w)
 · by_cases f:t=s;.subst f;rw[E,hm]at H;simp at H
   .rw[z t f]at H;have⟨h1,h2⟩:=qu H;have:=h.inv t u h1;rw[z u h2,uL this];exact this
 · by_cases I:t=s;.subst I;rw[E]at f⊢;exact hw f
   · rw[z t I]at f⊢;rcases iI s (lk e t)with e1|e1;.rw[e1]at f⊢;rw[J t I];exact h.wr t f
     .rw[e1]at f;simp[unl]at f
 · have M:∀t b,(lk ((s,av)::pB (klA s) e) t).fp (a.get t) k' b->(lk e t).fp (a.get t) k b:=by
    intro t b j;by_cases f:t=s;.subst f;rw[E]at j;exact hf b j
    · rw[z t f]at j;rcases iI s (lk e t)with e1|e1;.rw[e1,J t f]at j;exact j
      .rw[e1]at j;exact j.elim
   exactλb j w=>h.ap t t' Q b (M t b j) (M t' b w)
theorem Hl.QG(h:Hl n F k0 W a0 e a k){s:Nat}{G:FP}(q:unl (lk e s)=true)(c:Chg G k k')(j:∀b,G b->(lk e s).fp (a.get s) k b):Hl n F k0 W a0 ((s, .top)::pB (klA s) e) a k':=h.swap (h.g.step c λb f=>h.wr s q b (j b f)) (λx v h1 u m=>x.keep c (λb f=>(h.lt s b (j b f)).2) h1 u m) (λx v h1 m=>x.oF c (λb f=>(h.lt s b (j b f)).2) h1 m) j trivial (λ_=>rfl) (λw=>by simp[unl]at w) (λb f=>f.elim)
theorem Hl.hand(h:Hl n F k0 W a0 e a k){s:Nat}{G:FP}{av:AV T}(u:unl (lk e s)=true)(c:Handed k k' G)(q:∀b,G b->(lk e s).fp (a.get s) k b)(w:av.is a (a.get s) k')(y:∀t,av.bW t=false)(f:aO av=false):Hl n F k0 W a0 ((s,av)::pB (klA s) e) a k':=h.swap (h.g.hand c λb j=>h.wr s u b (q b j)) (λx v h1 z m=>x.handed c h1 z m) (λx v h1 m=>x.Jn c h1 m) q w y (λE=>by rw[rR E]at f;simp at f) (λb j=>absurd j (dC f _ _ b))
theorem Hl.set(h:Hl n F k0 W a0 e a k){s:Nat}{av:AV T}(I:aO (lk e s)=false)(J:av.is a (a.get s) k)(M:∀t,av.bW t=true->aO (lk e t)=true)(z:aO av=false):Hl n F k0 W a0 ((s,av)::e) a k:=by
 have m:lk ((s,av)::e) s=av:=by rw[bB,if_pos rfl]
 have j:∀t,t≠s->lk ((s,av)::e) t=lk e t:=λt f=>by rw[bB,if_neg (Ne.symm f)]
 have O:∀t,aO (lk e t)=true->t≠s:=λt f e=>by rw[e,I]at f;simp at f
 have w:∀t b,(lk ((s,av)::e) t).fp (a.get t) k b->(lk e t).fp (a.get t) k b:=by
  intro t b q;by_cases f:t=s;.subst f;rw[m]at q;exact absurd q (dC z _ _ b)
  .rw[j t f]at q;exact q
 refine⟨h.g,h.s,h.d,h.old,λt=>?_,λt u y=>?_,λt f=>?_,λt H E b q G=>h.ap t H E b (w t b q) (w H b G),h.gl⟩
 · by_cases f:t=s;.subst f;rw[m];exact J
   .rw[j t f];exact h.sl t
 · have:aO (lk e u)=true:=by
    by_cases f:t=s;.subst f;rw[m]at y;exact M u y
    .rw[j t f]at y;exact h.inv t u y
   rw[j u (O u this)];exact this
 · by_cases x:t=s;.subst x;rw[m]at f;rw[rR f]at z;simp at z
   .rw[j t x]at f⊢;exact h.wr t f
theorem Hl.zK(h:Hl n F k0 W a0 e a k){d:Nat}{av:AV T}(x:d∈W)(y:bD k k')(z:a'.tmps.size=a.tmps.size)(j:a'.defers=a.defers)(E:∀t,t≠d->a'.get t=a.get t)(G:av.is a' (a'.get d) k')(H:∀s,av.bW s=true->aO (lk e s)=true)(u:∀b,av.fp (a'.get d) k' b->k.w.heap.size<=b){r:R}{K:Env T->Option R}(hk:Gb.put e d av K=some r):∃f,K f=some r/\Hl n F k0 W a0 f a' k':=by have⟨f,h1,I,_⟩:=h.put x y z j E G H (λ _ b m=> .inr (bC h.g.size (u b m))) (λt _ b m q=>by have:=(h.lt t b q).1;have:=u b m;omega) hk;exact⟨f,h1,I⟩
theorem Hl.PG(h:Hl n F k0 W a0 e a k){E:Env T}{G:FP}(S:Nat->Prop)(c:Chg G k k')(hG:∀b,G b->∃s,S s/\unl (lk e s)=true/\(lk e s).fp (a.get s) k b)(hs:a'.tmps.size=a.tmps.size)(hd:a'.defers=a.defers)(ho:∀t,t∉W->a'.get t=a.get t)(O:∀t,¬S t->a'.get t=a.get t)(h1:∀s,S s->(lk E s).is a' (a'.get s) k')(h2:∀s,S s->∀t,(lk E s).bW t=false)(h3:∀s,S s->unl (lk E s)=true->∀b,(lk E s).fp (a'.get s) k' b->G b∨(∃u,S u/\unl (lk e u)=true/\(lk e u).fp (a.get u) k b)∨k.w.heap.size<=b)(Q:∀s,S s->∀b,(lk E s).fp (a'.get s) k' b->(∃u,S u/\(lk e u).fp (a.get u) k b)∨k.w.heap.size<=b)(h4:∀s u,S s->S u->s≠u->aB ((lk E s).fp (a'.get s) k') ((lk E u).fp (a'.get u) k'))(h5:∀t,¬S t->lk E t= .top∨(lk E t=lk e t/\∀s,(lk e t).bW s=true->S s->a'.get s=a.get s/\aO (lk E s)=true/\(lk e t).nc s=false))(h6:∀t,¬S t->aO (lk e t)=true->lk E t=lk e t):Hl n F k0 W a0 E a' k':=by
  have hn:∀b,G b->¬k.sh b:=λb m=>let⟨s,_,_,j⟩:=hG b m;(h.lt s b j).2;have U:∀t,¬S t->aB _ G:=λt f b m q=>by obtain⟨s,j,_,H⟩:=hG b q;exact h.ap t s (λe1=>f (e1▸j)) b m H
  have V:Wr F k0 G:=λb m=>let⟨s,_,j,H⟩:=hG b m;h.wr s j b H;have fpk:∀t,¬S t->(lk e t).fp _ k'=(lk e t).fp _ k:=λt f=>AV.oF _ c hn (U t f) (h.sl t);have J:∀t,¬S t->∀b,(lk E t).fp (a'.get t) k' b->(lk e t).fp _ k b:=λt f b m=>by
   rcases h5 t f with e1|⟨e1,_⟩;.rw[e1]at m;exact m.elim
   .rw[e1,O t f,fpk t f]at m;exact m
  refine⟨h.g.step c V,hs.trans h.s,hd.trans h.d,λt f=>(ho t f).trans (h.old t f),λt=>?_,λt s x=>?_,λt f b m=>?_,λt M hne b m q=>?_,h.gl.le (c.le hn)⟩
  · by_cases f:S t;.exact h1 t f
    · rcases h5 t f with e1|⟨e1,j⟩;.rw[e1];trivial
      ·rw[e1,O t f];have hk:(lk e t).is a _ k':=AV.keep _ c hn (U t f) (λu hu y hy hyi b m q=>by
 have hus:¬S u:=λz=>by have:=(j u (AV.kI hu) z).2.2;rw[hu]at this;simp at this
 obtain⟨s,H,_,P⟩:=hG b q;exact h.apm (h.inv t u (AV.kI hu)) (λe2=>hus (e2▸H)) hy hyi b m P) (h.sl t);exact AV.congr _ (λs hs'=>by
 by_cases z:S s;.exact(j s hs' z).1
 .exact O s z) hk
  · by_cases f:S t;.rw[h2 t f]at x;simp at x
    · rcases h5 t f with e1|⟨e1,j⟩;.rw[e1]at x;simp[AV.bW]at x
      · rw[e1]at x;by_cases z:S s;.exact(j s x z).2.1
        .rw[h6 s z (h.inv t s x)];exact h.inv t s x
  · by_cases z:S t
    · rcases h3 t z f b m with j|⟨u,_,H,P⟩|j;.exact V b j
      .exact h.wr u H b P
      .exact .inr (bC h.g.size j)
    · have j:=J t z b m;rcases h5 t z with e1|⟨e1,_⟩;.rw[e1]at f;simp[unl]at f
      .rw[e1]at f;exact h.wr t f b j
  · by_cases z:S t
    · by_cases I:S M;.exact h4 t M z I hne b m q
      · have j:=J M I b q;rcases Q t z b m with⟨u,H,P⟩|H;.exact h.ap u M (λe1=>I (e1▸H)) b P j
        .have:=(h.lt M b j).1;omega
    · have j:=J t z b m;by_cases I:S M
      · rcases Q M I b q with⟨u,H,P⟩|H;.exact h.ap u t (λe1=>z (e1▸H)) b P j
        .have:=(h.lt t b j).1;omega
      .exact h.ap t M hne b j (J M I b q)
theorem O7(h:Hl n F k0 W a0 e a k){x:Operand}{K:Env T->Option R}{r:R}(hk:P2 e x K=some r):∃U k',K U=some r/\k'.w=k.w/\Hl n F k0 W a0 U a k':=by
 have V:∀{s:Nat}{el:TypeId}{u:Tp} {m:List (T.D u)},lk e s= .own false el u m->∃k',k'.w=k.w/\Hl n F k0 W a0 ((s, .v (.list u) m)::pB (klA s) e) a k'/\IsV m (a.get s) k':=by intro s el u m f;have g:=h.sl s;rw[f]at g;obtain⟨k',G,H⟩:=an.eW (show an 0 el m _ k from g);exact⟨k',G.w,h.hand (by rw[f];rfl) G (by rw[f];exactλb I=>I) H (λ _=>rfl) rfl,H⟩
 have J:∀{s:Nat}{u:Tp}{x:T.D u},lk e s= .box false u x->∃k',k'.w=k.w/\Hl n F k0 W a0 ((s, .ref u x)::pB (klA s) e) a k'/\ax x (a.get s) k':=by intro s u x f;have g:=h.sl s;rw[f]at g;obtain⟨b,I,M⟩:=g;obtain⟨k',G,H⟩:=M.eW;exact⟨k',G.w,h.hand (by rw[f];rfl) G (by rw[f];intro b' O;rw[<-O];exact I) (by rw[I];exact H) (λ _=>rfl) rfl,by rw[I];exact H⟩
 unfold P2 at hk;split at hk
 · rename_i t;split at hk;·rename_i el u m f;rw[gN]at hk;obtain⟨k',h1,q,_⟩:=V f;exact⟨_,k',hk,h1,q⟩
   ·rename_i u x f;rw[gN]at hk;obtain⟨k',h1,q,_⟩:=J f;exact⟨_,k',hk,h1,q⟩
   · rename_i s f;split at hk;·rename_i el u m j;rw[gN]at hk;obtain⟨k',h1,q,P⟩:=V j;cases y:aO (lk _ t)with|true=>rw[y]at hk;simp at hk;|false=>
      rw[y]at hk;have z:a.get t=a.get s:=by have:=h.sl t;rw[f]at this;exact this
      have E:t≠s:=λe=>by rw[e,j]at f;simp at f
      refine⟨_,k',hk,h1,q.set ?_ (by rw[z];exact P) (λ _ Q=>by simp[AV.bW]at Q) rfl⟩;rw[bB,if_neg (Ne.symm E)];exact y
     ·rename_i u x j;rw[gN]at hk;obtain⟨k',h1,q,P⟩:=J j;cases y:aO (lk _ t)with|true=>rw[y]at hk;simp at hk;|false=>
      rw[y]at hk;have z:a.get t=a.get s:=by have:=h.sl t;rw[f]at this;exact this
      have E:t≠s:=λe=>by rw[e,j]at f;simp at f
      refine⟨_,k',hk,h1,q.set ?_ (by rw[z];exact P) (λ _ Q=>by simp[AV.bW]at Q) rfl⟩;rw[bB,if_neg (Ne.symm E)];exact y
     .exact⟨e,k,hk,rfl,h⟩
   .exact⟨e,k,hk,rfl,h⟩
 .exact⟨e,k,hk,rfl,h⟩
end
section
variable{C:Cx T}{n:Nat}{F:FP}{k0:K}{W:List Nat}{a0:Act}{a:Act}
theorem oS:∀{l:List Operand}{e:Env T}{k:K}{K:Env T->Option R}{r:R},Hl n F k0 W a0 e a k->frz e l K=some r->∃f k',K f=some r/\k'.w=k.w/\Hl n F k0 W a0 f a k'|[],e,k,_,_,h,hk=>⟨e,k,hk,rfl,h⟩|x::l,e,k,_,_,h,hk=>by have⟨e1,E,h1,g,j⟩:=O7 h (hk);have⟨m,q,u,y,z⟩:=oS j h1;exact⟨m,q,u,y.trans g,z⟩
theorem mn:∀{l:List Oper}{e:Env T}{k:K}{K:Env T->Option R}{r:R},Hl n F k0 W a0 e a k->oN C l e K=some r->∃q k',K q=some r/\k'.w=k.w/\Hl n F k0 W a0 q a k'
 |[],e,k,_,_,h,hk=>⟨e,k,hk,rfl,h⟩|o::l,e,k,K,r,h,hk=>by
  simp only[oN]at hk;split at hk;.rename_i d _ _;cases u:C.own.contains d with|true=>rw[u]at hk;exact mn h hk;|false=>
   rw[u]at hk;split at hk;.rename_i t x g;rw[gN]at hk;have f:=h.sl d;rw[g]at f;have⟨b,y,j⟩:=f;have⟨k',z,E⟩:=j.eW;have h1:=h.hand (av:= .ref t x) (by rw[g];rfl) z (by rw[g];intro O m;rw[<-m];exact y) (by rw[y];exact E) (λ _=>rfl) rfl;have⟨G,H,I,J,M⟩:=mn h1 hk;exact⟨G,H,I,J.trans z.w,M⟩
   .exact mn h hk
  .exact mn h hk
end
end Go.Gb
namespace Go.Gb
variable{T:Tb}{R:Type}
section
variable{C:Cx T}{n:Nat}{F:FP}{k0:K}{W:List Nat}{a0:Act}{e:Env T}{a a':Act}{k k':K}
theorem o8(h:Hl n F k0 W a0 e a k){x:Operand}{s:Nat}(f:rH e x=some s):a.eval x=a.get s:=by
 unfold rH at f;split at f
 · rename_i t;split at f;.rename_i j g;obtain rfl:=ae f;have:=h.sl t;rw[g]at this;exact this
   .obtain rfl:=ae f;rfl
   .obtain rfl:=ae f;rfl
   .obtain rfl:=ae f;rfl
   .obtain rfl:=ae f;rfl
   .simp at f
 .simp at f
theorem Rk.FL{f:Rk}{w:f.D T}{v:Value}(h:isN f=false):(f.av w).is a v k↔f.is w v k:=by cases f<;>first|exact ia|simp[isN]at h
theorem Rk.CI{f:Rk}{w:f.D T}{v:Value}(h:isN f=false):(f.av w).fp v k=f.fp T v k:=by cases f<;>first|rfl|simp[isN]at h
theorem Rk.wU{f:Rk}{w:f.D T}{t:Nat}:(f.av w).bW t=false:=by cases f<;>rfl
theorem Rk.QV{f:Rk}{w:f.D T}(h:isN f=false):unl (f.av w)=true:=by cases f<;>first|rfl|simp[isN]at h
theorem Rk.fpN{g:Rk}{v:Value}(h:isN g=true):∀b,¬g.fp T v k b:=by cases g<;>first|exactλ _ f=>f|simp[isN]at h
theorem Cu{ro:Rk}{cod:List Tp}{w:ro.D T}{r:HL T.S cod}{t:Nat}:(sX ro cod w r).bW t=false:=by unfold sX;cases isN ro with|true=>exact q7;|false=>
 split;.exact Rk.wU
 .rfl
theorem Ac{f:Rk}{av:AV T}{y:f.D T}{v:Value}(h:jW f av=some y)(g:av.is a v k)(z:aO av=true):f.is y v k/\(isN f=false->f.fp T v k=av.fp v k/\unl av=true):=by cases f with
 |n=>exact⟨trivial,λh=>by simp[isN]at h⟩;|o e t=>cases av with
  |own l E u G=>cases l with|true=>simp[jW]at h;|false=>simp[jW]at h;cases j:Nat.beq e E with|false=>rw[j]at h;simp at h;|true=>rw[j]at h;obtain rfl:=bd j;have⟨q,w⟩:=cast?_eq h;injection q with q;subst q;obtain rfl:y=G:=w;exact⟨g,λ _=>⟨rfl,rfl⟩⟩
  |e0=>simp[aO]at z;|_=>simp[jW]at h
 |b t=>cases av with
  |box l u x=>cases l with|true=>simp[jW]at h;|false=>obtain⟨rfl,w⟩:=cast?_eq h;obtain rfl:y=x:=w;exact⟨g,λ _=>⟨rfl,rfl⟩⟩
  |_=>simp[jW]at h
 |c m=>cases av with
 |rs l I x=>cases l with|true=>simp[jW]at h;|false=>
 simp[jW]at h;split at h;.rename_i H _;obtain rfl:=H.down;obtain rfl:=ae h;exact⟨g,λ _=>⟨rfl,rfl⟩⟩
 .simp at h
  |_=>simp[jW]at h
theorem ED{c:Bool}{x:Option R}{r:R}(h:(bif c then x else none)=some r):c=true/\x=some r:=by
 cases c;.simp at h
 .exact⟨rfl,h⟩
theorem JJ{f:Rk}(h:isN f=false){x:Operand}:GD e f (some x)=(match rH e x with|some s=>(match jW f (lk e s)with|some y=>bif aO (lk e s)then some (some s,y)else none|none=>none)|none=>none):=by cases f<;>first|rfl|simp[isN]at h
theorem Jl{f:Rk}(g:isN f=false){r:Option Nat×f.D T}(h:GD e f none=some r):∃s z,jW f (lk e s)=some z/\aO (lk e s)=true/\r=(some s,z):=by cases f with|c m=>simp[GD]at h;grind;|n=>simp[isN]at g;|o _ _=>simp[GD]at h;|b _=>simp[GD]at h
theorem Cz(h:Hl n F k0 W a0 e a k){g:Rk}{j:Option Operand}{s:Option Nat}{y:g.D T}(f:GD e g j=some (s,y)):∃u,g.is y u k/\(∀x,j=some x->a.eval x=u)/\((s=none/\isN g=true/\j=none)∨∃t,s=some t/\isN g=false/\u=a.get t/\unl (lk e t)=true/\g.fp T u k=(lk e t).fp (a.get t) k):=by cases m:isN g with
 |true=>cases g with
  |n=>cases j with|none=>have f:some _=some (s,y):=f;simp only[aV,Prod.mk.injEq]at f;exact⟨undef,trivial,λx H=>by simp at H, .inl ⟨f.1.symm,rfl,rfl⟩⟩;|some x=>exact nomatch(show(none:Option _)=some (s,y)from f)
  |_=>simp[isN]at m
 |false=>cases j with|none=>have⟨t,z,q,w,O⟩:=Jl m f;have⟨h1,G⟩:=Ac q (h.sl t) w;grind;|some x=>
 rw[JJ m]at f;split at f
 · rename_i t I;split at f;.rename_i z q;have⟨w,f⟩:=ED f;obtain⟨rfl,rfl⟩:=f;have⟨h1,G⟩:=Ac q (h.sl t) w;have⟨J,M⟩:=G m;refine⟨a.get t,h1,λP E=>?_, .inr ⟨t,rfl,rfl,rfl,M,J⟩⟩;obtain rfl:=ae E;exact o8 h I
   .simp at f
 .simp at f
theorem uc{tk:Bool}:∀{l:List Pm}{x:List Operand},noP tk l=true->rG tk l x=none
 |[],[],_=>rfl|[],_::_,_=>rfl| .v _::_,[],_=>rfl| .v _::l,_::x,h=>uc (l:=l) h| .tu::_,[],_=>rfl| .tu::l,_::x,h=>by cases tk with|false=>simp[noP]at h;|true=>exact uc (l:=l) (by simpa[noP]using h)
 | .tk::_,[],_=>rfl| .tk::l,_::x,h=>by cases tk with|true=>simp[noP]at h;|false=>exact uc (l:=l) (by simpa[noP]using h)
 | .fn _::_,[],_=>rfl| .fn _::l,_::x,h=>uc (l:=l) h
theorem Na{t:Tp}{l:List Tp}{x:T.D t}{y:HL T.S l}:hdH (S:=T.S) (I0 x y)=x:=by cases l<;>rfl
theorem Nx{t:Tp}{l:List Tp}{x:T.D t}{y:HL T.S l}:tlH (S:=T.S) (t:=t) (I0 x y)=y:=by cases l with|nil=>cases y;rfl;|cons _ _=>rfl
theorem Qz{f:Operand->AV T}{t:Tp}{x:Operand}{l:List Pm}{r:Option (HL T.S (eR l))}{z:HL T.S (eR (.v t::l))}(h:Oi f (.v t) x l r=some z):∃y j,asT t (f x)=some y/\r=some j/\z=I0 y j:=by have h:(match(generalizing:=false)asT t (f x),r with|some y,some j=>some _|_,_=>none)=some z:=h;grind
theorem P0{q:Operand->AV T}{g:Nat}{x:Operand}{l:List Pm}{r:Option (HL T.S (eR l))}{z:HL T.S (eR (.fn g::l))}(h:Oi q (.fn g) x l r=some z):x= .func g/\r=some z:=by cases x with
 |func m=>have f:(bif Nat.beq g m then r else none)=some z:=h;cases j:Nat.beq g m with|false=>rw[j]at f;exact nomatch f;|true=>rw[j]at f;exact⟨by rw[bd j],f⟩
 |_=>exact nomatch(show(none:Option _)=some z from h)
theorem LM(q:Operand->AV T){I J:Value}{b:Act}:∀(l:List Pm)(f:List Operand)(x:HL T.S (eR l)),IE q l f=some x->sD l=true->(∀y∈f,(q y).is b (a.eval y) k)->(∀y,rG false l f=some y->a.eval y=I)->(∀y,rG true l f=some y->a.eval y=J)->PIs l x I J (f.map a.eval) k:=by intro l;induction l with
 |nil=>intro f x h _ _ _ _;cases f with|nil=>exact trivial;|cons _ _=>exact nomatch(show(none:Option _)=some x from h)
 |cons p l E=>intro f z h u hi h1 G;cases f with|nil=>exact nomatch(show(none:Option _)=some z from h);|cons x f=>have j:∀y∈f,(q y).is b _ k:=λy m=>hi y (by simp[m]);have h:Oi q p x l _=some z:=h;generalize H:IE q l f=r at h;cases p with
 |v t=>
 obtain⟨y,M,m,rfl,rfl⟩:=Qz h;refine⟨?_,?_⟩;.rw[Na];exact iL m (hi x (by simp))
 .rw[Nx];exact E f M H u j h1 G|tu=>simp[sD]at u;exact⟨h1 x rfl,E f z (H.trans h) u.2 j (λy m=>by rw[uc u.1]at m;simp at m) G⟩;|tk=>simp[sD]at u;exact⟨G x rfl,E f z (H.trans h) u.2 j h1 (λy m=>by rw[uc u.1]at m;simp at m)⟩;|fn g=>obtain⟨rfl,rfl⟩:=P0 h;exact⟨rfl,E f z H u j h1 G⟩
theorem A9{f:FuncId}{g:Option Nat}{q:FnR T}(h:BZ C f g=some q):BK C.rdeps f=some q:=by unfold BZ at h;grind
theorem Dz{s:Option Nat}{x:AV T}{e:Env T}{t:Nat}:lk (BH s x e) t=if s=some t then x else lk e t:=by cases s with|none=>simp[BH];|some s=>simp[BH,bB]
theorem xq{s t:Option Nat}{u:Nat}(h:neO s t=true)(f:s=some u):t≠some u:=by rintro rfl;subst f;simp[neO]at h
theorem Dm{f:Nat->AV T->AV T}(h:∀d x,f d x=x∨f d x= .top)(s:Option Nat)(x:AV T):klO f s x=x∨klO f s x= .top:=by cases s with|none=>exact .inl rfl;|some s=>exact h s x
theorem uP{f:Nat->AV T->AV T}(h:∀d x,f d x=x∨f d x= .top)(s:Option Nat):klO f s (.top:AV T)= .top:=by rcases Dm h s _ with e|e<;>exact e
theorem CZ{f:Nat->AV T->AV T}(g:∀d x,aO x=true->f d x=x)(s:Option Nat){x:AV T}(h:aO x=true):klO f s x=x:=by cases s with|none=>rfl;|some s=>exact g s x h
theorem Fo{s:Option Nat}{x:AV T}{t:Nat}(h:(klO klA s x).bW t=true):x.bW t=true/\s≠some t:=by cases s with|none=>exact⟨h,by simp⟩;|some s=>have⟨h1,f⟩:=qu (show(klA s x).bW t=true from h);exact⟨h1,λe=>f (ae e).symm⟩
theorem KD{s:Option Nat}{x:AV T}{t:Nat}(h:(klO kl s x).bW t=true):x.bW t=true:=by cases s with|none=>exact h;|some s=>exact II h
theorem Ki{s:Option Nat}{x:AV T}{t:Nat}(h:(klO kl s x).nc t=true):s≠some t:=by cases s with|none=>simp;|some s=>exactλe=>(Et (h)).2 (ae e).symm
theorem GY{A:Array Oper}{i:Nat}{g:List Nat}{o:Oper}{Q:Exit->Act->World->Prop}{P:Program}{f:FuncId}{args:Array Value}{R:Pred}(H:nth A.toList i=some o)(E:o.guard=none)(I:(execOp a.eval o).run P k.w= .ok (.enter f args) k.w)(x:∀d,o.dst=some d->d<a.tmps.size)(j:Calls P f args k.w (bY F k R))(h:∀(a':Act)(k':K)(v:Value),a'.tmps.size=a.tmps.size->a'.defers=a.defers->(∀t,o.dst≠some t->a'.get t=a.get t)->(∀d,o.dst=some d->a'.get d=v)->Chg F k k'->R v k'->wpOps P A Q g a' k'.w):wpOps P A Q (i::g) a k.w:=by rw[wpOps_cons];rw[aM]at H;unfold wpOp;simp[H,Region.wanted,E];refine .inl ?_;unfold Oper.wp;rw[I];refine Calls.mono j λe U G=>?_;cases e with
 |returned v=>obtain⟨k',rfl,J,M⟩:=G;cases z:o.dst with|none=>have e1:a.put none v=a:=rfl;grind;|some d=>
 refine h _ k' v (fw _ _ _) (eA _ _ _) (λt O=>?_) (λV y=>?_) J M;.rw[dD _ _ _ _ (x d z),if_neg (λe=>O (by rw[z,e]))]
 .rw[z]at y;obtain rfl:=ae y;rw[dD _ _ _ _ (x d z)];simp
 |panicked c=>exact G.elim;|outgrown=>exact G.elim
theorem wE(hC:yL C)(h:Hl n F k0 W a0 e a k){A:Array Oper}{i:Nat}{rest:List Nat}{o:Oper}{Q:Exit->Act->World->Prop}{K:Env T->Option R}{r:R}(hA:nth A.toList i=some o)(hg:o.guard=none)(hn:∀d,o.dst=some d->d<n/\d∈W){f:FuncId}{d:FnR T}(hd:yB C.P f d){as_:List Operand}(hx:(execOp a.eval o).run C.P k.w= .ok (.enter f (as_.map a.eval).toArray) k.w)(hk:Cf C e d as_ o.dst K=some r)(hQ:∀e' a' k',K e'=some r->Hl n F k0 W a0 e' a' k'->wpOps C.P A Q rest a' k'.w):wpOps C.P A Q (i::rest) a k.w:=by
 have is1:∀x,(By C e x).is a (a.eval x) k:=λx=>yZ hC (eU (e:=e) (a0:=a) (by cases x with|tmp t=>exact⟨h.sl t,λ _=>rfl⟩;|global _=>exact h.gl;|_=>trivial)) h.gl;unfold Cf at hk;split at hk
 .rename_i x O y s2 z hx1 hl1 hl2;have⟨m,hk⟩:=ED hk;have⟨NF,hres,hk⟩:=bind_some hk;rw[gN]at hk;generalize hRes:d.inj NF=res at hk;simp only[aG]at m;have⟨⟨⟨⟨hu,hne12⟩,hned1⟩,hned2⟩,_⟩:=m;have⟨u1,hi1,ho1,hc1⟩:=Cz h hl1;have⟨u2,hi2,ho2,hc2⟩:=Cz h hl2;have fp1:∀b,d.tu.fp T u1 k b->∃t,O=some t/\unl (lk e t)=true/\(lk e t).fp (a.get t) k b:=λb m=>by
   rcases hc1 with⟨_,h1,_⟩|⟨t,h1,_,_,I,h4⟩;.exact(Rk.fpN h1 b m).elim
   .exact⟨t,h1,I,by rw[<-h4];exact m⟩
  have fp2:∀b,d.tk.fp T u2 k b->∃t,s2=some t/\unl (lk e t)=true/\(lk e t).fp (a.get t) k b:=λb m=>by
   rcases hc2 with⟨_,h1,_⟩|⟨t,h1,_,_,I,h4⟩;.exact(Rk.fpN h1 b m).elim
   .exact⟨t,h1,I,by rw[<-h4];exact m⟩
  have ap12:aB _ _:=λb h1 H=>by have⟨t,e1,_,I⟩:=fp1 b h1;have⟨t',e2,_,h4⟩:=fp2 b H;exact h.ap t t' (λe3=>xq hne12 e1 (e3▸e2)) b I h4
  refine GY hA hg hx (λdd hdd=>by rw[h.s];exact(hn dd hdd).1) (hd.ok k _ u1 u2 x y z NF h.gl (LM (By C e) _ _ _ hx1 hu (λy _=>is1 y) ho1 ho2) hi1 hi2 ap12 hres) λa' k' v hsz hdf U V hch q=>?_;rw[hRes]at q;have lkE:∀t,lk (BH o.dst _ (BH O (d.tu.av res.1) (BH s2 .top (pB (λa=>klO kl O (klO klA s2 (klO klA o.dst a))) e)))) t=if o.dst=some t then sX d.ro d.cod res.2.1 res.2.2 else if O=some t then d.tu.av res.1 else if s2=some t then .top else klO kl O _:=λt=>by rw[Dz,Dz,Dz,mN (by rw[uP iI,uP iI,uP uZ])]
  generalize BH o.dst _ _=E at hk lkE;have M:∀t,O=some t->a'.get t=a.get t:=λt g=>U t λe1=>xq hned1 e1 g;have keep2:∀t,s2=some t->a'.get t=a.get t:=λt g=>U t λe1=>xq hned2 e1 g;have lkd:∀t,o.dst=some t->lk E t=sX d.ro d.cod res.2.1 res.2.2:=λt g=>by rw[lkE,if_pos g]
  have lk1:∀t,O=some t->lk E t=d.tu.av res.1:=λt g=>by rw[lkE,if_neg (λe1=>xq hned1 e1 g),if_pos g]
  have lk2:∀t,s2=some t->lk E t= .top:=λt g=>by rw[lkE,if_neg (λe1=>xq hned2 e1 g),if_neg (λe1=>xq hne12 e1 g),if_pos g]
  have tu1:∀t,O=some t->isN d.tu=false/\u1=a.get t:=λt g=>by
   rcases hc1 with⟨h1,_⟩|⟨t',h1,H,I,_⟩;.rw[h1]at g;simp at g
   .rw[h1]at g;obtain rfl:=ae g;exact⟨H,I⟩
  have fpd:∀t,o.dst=some t->∀b,(lk E t).fp (a'.get t) k' b->(d.tu.fp T u1 k b∨d.tk.fp T u2 k b)∨k.w.heap.size<=b:=λt g b m=>by rw[lkd t g,V t g]at m;exact q.w2 b m
  have fpe1:∀t,O=some t->(lk E t).fp (a'.get t) k'=d.tu.fp T u1 k':=λt g=>by rw[lk1 t g,M t g,(tu1 t g).2,Rk.CI (tu1 t g).1]
  have fpS:∀t,(o.dst=some t∨O=some t∨s2=some t)->∀b,(lk E t).fp (a'.get t) k' b->(d.tu.fp T u1 k b∨d.tk.fp T u2 k b)∨k.w.heap.size<=b:=λt g b m=>by
   rcases g with g|g|g;.exact fpd t g b m
   .rw[fpe1 t g]at m;exact q.w1 b m
   .rw[lk2 t g]at m;exact m.elim
  refine hQ _ a' k' hk (h.PG (G:=λb=>d.tu.fp T u1 k b∨d.tk.fp T u2 k b) (λt=>o.dst=some t∨O=some t∨s2=some t) hch (λb m=>?_) hsz hdf (λt g=>U t λe1=>g (hn t e1).2) (λt g=>U t λe1=>g (.inl e1)) (λt g=>?_) (λt g u=>?_) (λt g _ b m=>?_) (λt g b m=>?_) (λt u g j hne b m J=>?_) (λt g=>?_) (λt g hr=>?_))
  · rcases m with m|m;.have⟨t,h1,H,I⟩:=fp1 b m;exact⟨t, .inr (.inl h1),H,I⟩
    .have⟨t,h1,H,I⟩:=fp2 b m;exact⟨t, .inr (.inr h1),H,I⟩
  · rcases g with g|g|g;.rw[lkd t g,V t g];exact Hk (λs=>Cu) q.res
    .rw[lk1 t g,M t g,<-(tu1 t g).2];exact(Rk.FL (tu1 t g).1).2 q.tu
    .rw[lk2 t g];trivial
  · rcases g with g|g|g;.rw[lkd t g];exact Cu
    .rw[lk1 t g];exact Rk.wU
    .rw[lk2 t g];rfl
  · rcases fpS t g b m with h1|h1;.exact .inl h1
    .exact .inr (.inr h1)
  · rcases fpS t g b m with h1|h1
    · rcases h1 with h1|h1;.have⟨t',H,_,I⟩:=fp1 b h1;exact .inl ⟨t', .inr (.inl H),I⟩
      .have⟨t',H,_,I⟩:=fp2 b h1;exact .inl ⟨t', .inr (.inr H),I⟩
    .exact .inr h1
  · rcases g with g|g|g
    · rcases j with j|j|j;.exact hne (ae (g.symm.trans j))
      ·rw[lkd t g,V t g]at m;rw[fpe1 u j]at J;exact q.ap b J m
      .rw[lk2 u j]at J;exact J
    · rcases j with j|j|j;·rw[lkd u j,V u j]at J;rw[fpe1 t g]at m;exact q.ap b m J
      .exact hne (ae (g.symm.trans j))
      .rw[lk2 u j]at J;exact J
    .rw[lk2 t g]at m;exact m
  · have e1:lk E t=klO kl O (klO klA s2 (klO klA o.dst (lk e t))):=by rw[lkE,if_neg (λe1=>g (.inl e1)),if_neg (λe1=>g (.inr (.inl e1))),if_neg (λe1=>g (.inr (.inr e1)))]
    have key:∀u,(lk E t).bW u=true->(o.dst≠some u/\s2≠some u):=λu j=>by rw[e1]at j;have⟨h1,H⟩:=Fo (KD j);exact⟨(Fo h1).2,H⟩
    have key2:∀u,(lk E t).nc u=true->O≠some u:=λu j=>by rw[e1]at j;exact Ki j
    have hor:lk E t=lk e t∨lk E t= .top:=by
     rw[e1];rcases Dm iI o.dst (lk e t)with h1|h1
     · rw[h1];rcases Dm iI s2 (lk e t)with H|H;.rw[H];exact Dm uZ O (lk e t)
       .rw[H,uP uZ];exact .inr rfl
     .rw[h1,uP iI,uP uZ];exact .inr rfl
    rcases hor with h1|h1
    · refine .inr ⟨h1,λu j hS=>?_⟩;have⟨H,I⟩:=key u (by rw[h1];exact j);rcases hS with hS|hS|hS;.exact(H hS).elim
      · refine⟨M u hS,?_,?_⟩;.rw[lk1 u hS];exact rR (Rk.QV (tu1 u hS).1)
        .cases h4:(lk e t).nc u with|false=>rfl;|true=>exact absurd hS (key2 u (by rw[h1];exact h4))
      .exact(I hS).elim
    .exact .inl h1
  .rw[lkE,if_neg (λe1=>g (.inl e1)),if_neg (λe1=>g (.inr (.inl e1))),if_neg (λe1=>g (.inr (.inr e1))),CZ (λ _ _=>uL) _ hr,CZ (λ _ _=>uL) _ hr,CZ (λ _ _=>L1) _ hr]
 .simp at hk
theorem Hl.Mi(h:Hl n F k0 W a0 e a k){s d:Nat}{x y:AV T}(M:s≠d)(O:d∈W)(hu:unl (lk e s)=true)(P:a'.tmps.size=a.tmps.size)(Q:a'.defers=a.defers)(w:∀t,t≠d->a'.get t=a.get t)(hv:x.is a' (a'.get d) k')(hm:∀t,x.bW t=false)(hf:∀b,x.fp (a'.get d) k' b->(lk e s).fp (a.get s) k b)(hy:y.is a' (a'.get s) k')(U:∀t,y.bW t=false)(E:aO y=false)(V:bD k k'):Hl n F k0 W a0 ((d,x)::(s,y)::pB (λz=>klA s (klA d z)) e) a' k':=by
 have J:∀t,t≠d->t≠s->lk ((d,x)::(s,y)::pB (λz=>klA s (klA d z)) e) t=klA s _:=λt h1 h2=>by rw[bB,if_neg (Ne.symm h1),bB,if_neg (Ne.symm h2),mN rfl]
 have H:lk ((d,x)::(s,y)::pB (λz=>klA s (klA d z)) e) d=x:=by rw[bB,if_pos rfl]
 have q:lk ((d,x)::(s,y)::pB (λz=>klA s (klA d z)) e) s=y:=by rw[bB,if_neg (Ne.symm M),bB,if_pos rfl]
 have hS:∀t,(t=d∨t=s)->∀b,(lk _ t).fp (a'.get t) k' b->(lk e s).fp _ k b:=λt g b j=>by
  rcases g with rfl|rfl;.rw[H]at j;exact hf b j
  .rw[q]at j;exact absurd j (dC E _ _ b)
 refine h.PG (G:=noF) _ (Chg.of V) (λ _ f=>f.elim) P Q (λt g=>w t λe1=>g (e1▸O)) (λt g=>w t λe1=>g (.inl e1)) (λt g=>?_) (λt g u=>?_) (λt g _ b j=> .inr (.inl ⟨s, .inr rfl,hu,hS t g b j⟩)) (λt g b j=> .inl ⟨s, .inr rfl,hS t g b j⟩) (λt u g m hne=>?_) (λt g=>?_) (λt g hr=>?_)
 · rcases g with rfl|rfl;.rw[H];exact hv
   .rw[q];exact hy
 · rcases g with rfl|rfl;.rw[H];exact hm u
   .rw[q];exact U u
 · rcases g with rfl|rfl
   · rcases m with rfl|rfl;.exact absurd rfl hne
     .intro b _ j;rw[q]at j;exact dC E _ _ b j
   .intro b j;rw[q]at j;exact(dC E _ _ b j).elim
 · rw[J t (λe1=>g (.inl e1)) (λe1=>g (.inr e1))];rcases iI d (lk e t)with e1|e1
   · rw[e1];rcases iI s (lk e t)with I|I
     · refine .inr ⟨I,λu m hSu=>?_⟩;rcases hSu with rfl|rfl;.rw[<-e1]at m;exact absurd rfl (qu m).2
       .rw[<-I]at m;exact absurd rfl (qu m).2
     .exact .inl I
   .rw[e1];exact .inl (by rcases iI s (.top:AV T)with I|I<;>exact I)
 .rw[J t (λe1=>g (.inl e1)) (λe1=>g (.inr e1)),uL hr,uL hr]
theorem Hl.Vg{n:Nat}{F:FP}{k0:K}{W:List Nat}{a0:Act}{e:Env T}{a:Act}{k:K}(h:Hl n F k0 W a0 e a k){c:Nat}{av:AV T}(x:aO (lk e c)=false)(y:aO av=false)(H:∀s,av.bW s=false)(I:av.is a (a.get c) k):Hl n F k0 W a0 ((c,av)::e) a k:=by
 have f:∀t,lk _ t=if c=t then av else lk e t:=λt=>bB _ _ _ _;have m:∀t,aO (lk _ t)=aO (lk e t):=λt=>by
  rw[f];split;.rename_i h1;subst h1;rw[x,y]
  .rfl
 have q:∀t b,(lk _ t).fp _ k b->(lk e t).fp (a.get t) k b:=λt b j=>by
  rw[f]at j;split at j;.exact absurd j (dC y _ _ b)
  .exact j
 refine⟨h.g,h.s,h.d,h.old,λt=>?_,λt s u=>?_,λt w=>?_,λt G z b j E=>h.ap t G z b (q t b j) (q G b E),h.gl⟩
 · rw[f];split;.rename_i h1;subst h1;exact I
   .exact h.sl t
 · rw[f]at u;split at u;.rw[H]at u;simp at u
   .rw[m];exact h.inv t s u
 · rw[f]at w⊢;split at w;.have:=rR w;rw[y]at this;simp at this
   .rename_i h1;rw[if_neg h1];exact h.wr t w
theorem Gv(hC:yL C)(h:Hl n F k0 W a0 e a k){A:Array Oper}{i:Nat}{rest:List Nat}{o:Oper}{Q:Exit->Act->World->Prop}{K:Env T->Option R}{r:R}(hA:nth A.toList i=some o)(hg:o.guard=none)
    (hn:∀d,o.dst=some d->d<n/\d∈W)(hk:yd C e o K=some r)
    (hQ:∀e' a' k',K e'=some r->Hl n F k0 W a0 e' a' k'->wpOps C.P A Q rest a' k'.w):wpOps C.P A Q (i::rest) a k.w:=by
 have is1:∀x,(opv e x).is a (a.eval x) k:=λx=>eU (e:=e) (a0:=a) (by cases x with|tmp t=>exact⟨h.sl t,λ _=>rfl⟩;|global _=>exact h.gl;|_=>trivial);have pure1:∀d,o.dst=some d->∀{K1:AV T->Option R},qP C e o K1=some r->∃av,K1 av=some r/\(∀s,av.bW s=true->aO (lk e s)=true)/\aO av=false/\aX C.P o a k (av.is a):=by intro d O K1 h1;have⟨av,V,h3,h4,h5⟩:=Em hC h.inv h1;exact⟨av,V,h3,h4,h5 a a k (h.rd1 o)⟩
 have M:∀d,o.dst=some d->(qP C e o λx=>put e d x K)=some r->wpOps C.P A Q (i::rest) a k.w:=by
  intro d O h1;have⟨av,V,h3,h4,h5⟩:=pure1 d O h1;have⟨hdn,hdW⟩:=hn d O;refine bO hA hg O (by rw[h.s];exact hdn) trivial h5 λa' k' hs hdf I hgr hv=>?_;have hv':av.is a' (a'.get d) k':=av.congr (λs hs'=>I s (λe=>by
 have:av.bW d=false:=by cases hmd:av.bW d with|false=>rfl;|true=>unfold Gb.put at V;rw[hmd]at V;simp at V
 rw[e,this]at hs';simp at hs')) hv;have⟨e',h6,h7⟩:=h.zK hdW hgr hs hdf I hv' h3 (λb j=>absurd j (dC h4 _ _ b)) V;exact hQ e' a' k' h6 h7
 have fresh:∀d,o.dst=some d->∀{av:AV T},put e d av K=some r->(∀t,av.bW t=false)->aX C.P o a k (λv k'=>(∀a1:Act,av.is a1 v k')/\∀b,av.fp v k' b->k.w.heap.size<=b)->wpOps C.P A Q (i::rest) a k.w:=by intro d O av V h3 h5;have⟨hdn,hdW⟩:=hn d O;refine bO hA hg O (by rw[h.s];exact hdn) trivial h5 λa' k' hs hdf I hgr hv=>?_;have⟨e',h6,h7⟩:=h.zK hdW hgr hs hdf I (hv.1 a') (λs hs=>by rw[h3]at hs;simp at hs) hv.2 V;exact hQ e' a' k' h6 h7
 unfold yd at hk;split at hk
 .
   rename_i ty p y J O
   split at hk
   · rename_i pt
     have hsel:∀av:AV T,(match lk e pt with | .al s=>(match lk e s with | .box _ t x=>AV.ab s t x t (gY.id t) |_=> .top) | .box _ t x=>AV.ab pt t x t (gY.id t) |a=>a)=av->av.is a (a.get pt) k:=by
       intro av hav
       have hsl:=h.sl pt
       split at hav
       · rename_i s hl
         rw [hl]at hsl
         split at hav
         · rename_i lck t x hl'
           have hsl':=h.sl s
           rw [hl']at hsl'
           have⟨b,j,hbx⟩:=hsl'
           rw [<-hav]
           exact⟨gY.IB,b,j,(show a.get pt=a.get s from hsl).trans j,hbx⟩
         .rw [<-hav];trivial
       · rename_i lck t x hl
         rw [hl]at hsl
         have⟨b,j,hbx⟩:=hsl
         rw [<-hav]
         exact⟨gY.IB,b,j,j,hbx⟩
       .rw [<-hav];exact hsl
     split at hk
     · rename_i s t x u L hav
       have hp:=hsel _ hav
       split at hk
       · rename_i t' x' hl
         split at hk
         · rename_i z hz
           cases j:tyB C.P T ty u with
           |false=>rw [j]at hk;simp at hk
           |true=>
             rw [j]at hk;simp only [cond_true]at hk
             rw [gN]at hk
             have⟨hL,b,h1,V,h3⟩:=hp
             have hfp:∀b',Eq b b'->(lk e s).fp (a.get s) k b':=by rw [hl];intro b' E;rw [<-E];exact h1
             refine bf hA hg J O (qe j) hL.2.1 V h3 (iL hz (is1 y)) λ k' hc hbx=>?_
             refine hQ _ a k' hk (h.Oz (av:= .box false t (L.set x z)) (by rw [hl];rfl) hc hfp ⟨b,h1,hbx⟩ (λ _=>rfl) rfl λ b' E=>?_)
             rw [hl];exact E
         .simp at hk
       .simp at hk
     · rename_i s el t xs i' x u L hav
       have hp:=hsel _ hav
       split at hk
       · rename_i el' t' xs' hl
         split at hk
         · rename_i z hz
           cases j:tyB C.P T ty u with
           |false=>rw [j]at hk;simp at hk
           |true=>
             rw [j]at hk;simp only [cond_true]at hk
             rw [gN]at hk
             have⟨hL,h1,V,h3⟩:=hp
             have hfp:∀b', obF (a.get s) b'->(lk e s).fp (a.get s) k b':=by rw [hl];intro b' E;exact E
             refine yz (u:=a.get s) (xs := xs) (x :=x) hA hg J O (qe j) hL.2.1 h1 V h3 (iL hz (is1 y)) λ k' hc hown=>?_
             refine hQ _ a k' hk (h.Oz (av:= .own false el t _) (by rw [hl];rfl) hc hfp hown (λ _=>rfl) rfl λ b' E=>?_)
             rw [hl];exact E
         .simp at hk
       .simp at hk
     .simp at hk
   .simp at hk
 . rename_i ty d J O;split at hk;·rename_i t ht;cases hz:og C.P T ty t with|false=>rw[hz]at hk;simp at hk;|true=>rw[hz]at hk;simp only[cond_true]at hk;have⟨_,zv,_,_,_,_,hrun,_,hv⟩:=wj hz;refine fresh d O hk (λ _=>rfl) (cS (cT k.w.heap.size (aN _) J ⟨zv,hrun,hv⟩) λv k' _ j=>?_);obtain⟨b,rfl,h1,V⟩:=j;exact⟨λ _=>⟨b,rfl,V⟩,λb' E=>by simp only[AV.fp,Value.pointer.injEq,aV,Addr.mk.injEq,and_true]at E;omega⟩
   .simp at hk
 . rename_i ty x d J O;split at hk;·rename_i t y hx;cases hz:tyB C.P T ty t with|false=>rw[hz]at hk;simp at hk;|true=>rw[hz]at hk;simp only[cond_true]at hk;have hxv:=is1 x;rw[hx]at hxv;refine fresh d O hk (λ _=>rfl) (cS (D5 k.w.heap.size (aN _) J (show IsV y (a.eval x) k from hxv)) λv k' _ j=>?_);obtain⟨b,rfl,h1,V⟩:=j;exact⟨λ _=>⟨b,rfl,V⟩,λb' E=>by simp only[AV.fp,Value.pointer.injEq,aV,Addr.mk.injEq,and_true]at E;omega⟩
   .simp at hk
 .
   rename_i x d J O
   split at hk
   · rename_i s hs
     split at hk
     · rename_i el t xs hl
       rw [gN]at hk
       have⟨hdn,hdW⟩:=hn d O
       refine da hA hg (.inl J) O (by rw [h.s];exact hdn) λ a' hsz hdf hnew I=>?_
       have hsl:=h.sl s
       rw [hl]at hsl
       have h1:=h.QG (k':=k) (G :=noF) (s :=s) (by rw [hl];rfl) (Chg.refl _ k) (λ b j=>j.elim)
       have hv:a'.get d=a.get s:=hnew.trans (o8 h hs)
       have hfp:∀b, obF (a.get s) b->(lk e s).fp (a.get s) k b:=by rw [hl];exact λ b j=>j
       have⟨e',V,h3,h4,h5⟩:= h1.put (av := .own false el t xs) hdW (bD.refl k) hsz hdf I (by rw [hv];exact hsl) (λ s' hs'=>by simp [AV.bW]at hs') (λ _=>by
           rw [hv];exact λ b j=> h.wr s (by rw [hl];rfl) b (hfp b j)) (λ t' ht' b j E=>by
           rw [hv]at j
           rw [bB]at E
           by_cases e1:s=t'
           .rw [if_pos e1]at E;exact E
           · rw [if_neg e1, mN rfl]at E
             rcases iI s (lk e t')with e2 |e2
             .rw [e2]at E;exact h.ap s t' e1 b (hfp b j) E
             .rw [e2]at E;exact E) hk
       by_cases U:s=d
       .
         subst U
         have hn':aO (lk e' s)=true:=by rw [h4];rfl
         exact absurd V (by
           intro V
           cases j:aO (lk e' s)with
           |false=>rw [hn']at j;simp at j
           |true=>rw [j]at V;simp at V)
       · have hns: aO (lk e' s)=false:=by
           rcases h5 s U with e1 |e1
           .rw [e1,bB,if_pos rfl];rfl
           .rw [e1];rfl
         rw [hns]at V
         simp only [cond_false]at V
         refine hQ _ a' k V (h3.set (av:= .al d) hns ?_ (λ t' ht'=>by rw [<-bd ht', h4]; rfl) rfl)
         exact(I s U).trans hv.symm
     · rename_i m z hl
       cases U:Nat.beq s d with
       |true=>rw [U]at hk;simp at hk
       |false=>
       rw [U]at hk;simp only [cond_false]at hk
       rw [gN]at hk
       have U:s≠d:=λ e=>by rw [e,de]at U;simp at U
       have⟨hdn,hdW⟩:=hn d O
       refine da hA hg (.inl J) O (by rw [h.s];exact hdn) λ a' hsz hdf hnew I=>?_
       have hv:a'.get d=a.get s:=hnew.trans (o8 h hs)
       exact hQ _ a' k hk (h.Mi (x:= .rs false m z) (y := .top) U hdW (by rw [hl]; rfl) hsz hdf I (by rw [hv]; have:=h.sl s;rw [hl]at this;exact this) (λ _ => rfl) (λ b j=>by rw [hv]at j;rw [hl];exact j) trivial (λ _=> rfl) rfl (bD.refl k))
     .simp at hk
   .exact M d O hk
 .
   rename_i x ix d J O
   split at hk
   · rename_i s hs
     split at hk
     · rename_i κ w l hl
       cases U:(Nat.beq s d ||isN κ)with
       |true=>rw [U]at hk;simp at hk
       |false=>
       rw [U]at hk;simp only [cond_false]at hk
       simp only [rn]at U
       rw [gN]at hk
       have hsd':s≠d:=λ e=>by rw [e,de]at U;simp at U
       have⟨hdn,hdW⟩:=hn d O
       have hsl:=h.sl s
       rw [hl]at hsl
       have⟨u0,vs,e1,h1,V⟩:=hsl
       have hx:a.eval x= .tuple (u0 ::vs).toArray:=(o8 h hs).trans e1
       refine bO hA hg O (by rw [h.s];exact hdn) trivial (ak (v :=u0) (R :=λ v _=>v =u0) (by simp only [execOp,J,hx];simp [Instr.extract]) rfl) λ a' k' hsz hdf I hgr hv=>?_
       have hv:a'.get d=u0:=hv
       have hg1:=Rk.grow h1 hgr
       have H:= h.Mi (x :=κ.av w) (y := .tq l) hsd' hdW (by rw [hl];rfl) hsz hdf I ((Rk.FL U.2).2 (by rw [hv];exact hg1.1)) (λ _ =>Rk.wU) (λ b j=>by
         rw [hv,Rk.CI U.2,hg1.2]at j
         rw [hl,e1];exact j) ⟨u0, vs,(I s hsd').trans e1,V.le hgr.le⟩ (λ _=>rfl) rfl hgr
       refine hQ _ a' k' hk ?_
       unfold Sh
       split
       · rename_i t
         split
         · rename_i s' hlt
           cases htd:Nat.beq t d with
           |true=>exact H
           |false=>
             have htd':t≠d:=λ e=>by rw [e,de]at htd;simp at htd
             have hts:t≠s:=λ e=>by rw [e,hl]at hlt;simp at hlt
             refine H.Vg ?_ rfl (λ _=>rfl) ⟨u0, vs,(I t htd').trans hx,V.le hgr.le⟩
             rw [bB,if_neg (Ne.symm htd'),bB,if_neg (Ne.symm hts),mN rfl,hlt]
             simp only [klA]
             cases Nat.beq s' d
             · simp only [cond_false]
               cases Nat.beq s' s<;>rfl
             .rfl
         .exact H
       .exact H
     .exact M d O hk
   .exact M d O hk
 .rename_i ty m ps d J O;split at hk;.exact M d O hk
  · rename_i hm0;split at hk;·rename_i t el xs j;have⟨h1,V,h3,h4,h5⟩:=Cb j;refine fresh d O hk (λ _=>rfl) (cS (pf (ps:=ps.toList) (B:=k.w.heap.size) (by rw[J]) h1 V (aN _) h3 (tT λe=>hm0 e) h4 (h5 a a k λy _=>is1 y)) λv k' _ j=>⟨λ _=>j.weaken (cr _),λb E=>(j.lt b E).1⟩)
    .simp at hk
 . rename_i ty lx cx d J O;split at hk
   · rename_i n el hn hel;split at hk;·rename_i t ht;cases j:(uH lx cx&&elB C.P T el t&&og C.P T el t)with|false=>rw[j]at hk;simp at hk;|true=>
      rw[j]at hk;simp only[cond_true]at hk;simp only[aG]at j;have⟨⟨h1,V⟩,h3⟩:=j;have⟨r,hr,hk⟩:=bind_some hk;have⟨i,z,cs,hi,hz,hcs,_,hrep,_⟩:=wj h3;have hev:a.eval cx=a.eval lx:=by cases lx<;>cases cx<;>simp only[uH]at h1<;>first|(rw[bd h1])|simp at h1
      have hlv:a.eval lx= .int .i64 n:=ar.1 (dY hn (is1 lx));refine fresh d O hk (λ _=>rfl) (cS (Br (B:=k.w.heap.size) J (jl hel) (vE V) hi hz (by rw[hcs];exact hrep k) (aN _) hlv (hev.trans hlv) hr) λv k' _ j=>⟨λ _=>j.weaken (cr _),λb E=>(j.lt b E).1⟩)
     .simp at hk
   .simp at hk
 .
   rename_i c d J O
   have⟨cal,as_,ts⟩:=c
   dsimp only at hk
   split at hk
   · split at hk
     · rename_i x y ty ty' hx hty
       obtain rfl:=Hq hx
       obtain rfl:=Hq hty
       cases j:Nat.beq ty ty' with
       |false=>rw [j]at hk;simp at hk
       |true=>
         rw [j]at hk;simp only [cond_true]at hk
         obtain rfl:=bd j
         split at hk
         · rename_i el t ys hel hl
           have hy:=Dh hl (is1 y) (jL h.inv) (λ s _=>h.sl s)
           cases j:elB C.P T el t with
           |false=>rw [j]at hk;simp at hk
           |true=>
             rw [j]at hk;simp only [cond_true]at hk
             split at hk
             · rename_i s hs
               split at hk
               · rename_i el' t' xs hls
                 split at hk
                 · rename_i xs' hxs
                   have⟨he,hxe⟩:=cast?_eq hxs
                   injection he with he
                   subst he
                   obtain rfl:xs'=xs:=hxe
                   cases hb2:Nat.beq el el' with
                   |false=>rw [hb2]at hk;simp at hk
                   |true=>
                     rw [hb2]at hk;simp only [cond_true]at hk
                     obtain rfl:=bd hb2
                     have⟨z,hz,hk⟩:=bind_some hk
                     rw [gN]at hk
                     have⟨hdn,hdW⟩:=hn d O
                     have hsl:=h.sl s
                     rw [hls]at hsl
                     have hev:=o8 h hs
                     have hfp:∀b, obF (a.get s) b->(lk e s).fp (a.get s) k b:=by rw [hls];exact λ b j=>j
                     refine ff hA hg J O (by rw [h.s];exact hdn) (jl hel) (vE j) (by rw [hev];exact hsl) hy hz λ a' k' hsz hdf I hc hown hob=>?_
                     rw [hev]at hc hob
                     have h1:=h.QG (s:=s) (by rw [hls];rfl) hc hfp
                     have⟨e',V,h3,_⟩:=h1.put (av:= .own false el t' z) hdW (bD.refl k') hsz hdf I hown (λ s' hs'=>by simp [AV.bW]at hs') (λ _ b j=>by
                         rcases hob b j with j |j
                         .exact h.wr s (by rw [hls]; rfl) b (hfp b j)
                         .exact .inr (bC h.g.size j)) (λ t2 ht2 b j E=>by
                         rw [bB]at E
                         by_cases e1:s=t2
                         .rw [if_pos e1]at E;exact E
                         · rw [if_neg e1, mN rfl]at E
                           rcases iI s (lk e t2)with e2 |e2
                           · rw [e2,AV.oF _ hc (λ b j=>(h.lt s b (hfp b j)).2) (λ b j E=>h.ap s t2 e1 b (hfp b E) j) (h.sl t2)]at E
                             rcases hob b j with j |j
                             .exact h.ap s t2 e1 b (hfp b j) E
                             .have:=(h.lt t2 b E).1;omega
                           .rw [e2]at E;exact E) hk
                     exact hQ e' a' k' V h3
                 .simp at hk
               .simp at hk
             · split at hk
               · rename_i hres
                 have⟨z,hz,hk⟩:=bind_some hk
                 have hx0:=zG (is1 x) (jL h.inv) (λ s _=>h.sl s)
                 rw [hres]at hx0
                 exact fresh d O hk (λ _=> rfl) (cS (vC (B:= k.w.heap.size) J (jl hel) (vE j) (aN _) hx0 hy hz) λ v k' _ j=>⟨λ _ =>j.weaken (cr _),λ b E=>(j.lt b E).1⟩)
               .simp at hk
         .simp at hk
     .simp at hk
   · rename_i f
     split at hk
     · rename_i q hq
       have hf:=hC.rdeps f q (A9 hq)
       exact wE (as_:= as_.toList) hC h hA hg hn hf (by simp [execOp,J,resolve,invoke,Deferred.ofValue,Act.eval,hf.call];apply Array.ext';simp) (by rw [O];exact hk) hQ
     .exact M d O hk
   · rename_i s
     split at hk
     · rename_i f s' hl
       split at hk
       · rename_i q hq
         have hf:=hC.rdeps f q hq
         have hs:=h.sl s
         rw [hl]at hs
         exact wE (as_:= .tmp s'::as_.toList) hC h hA hg hn hf (by
           have e1:a.eval (.tmp s)= .func (.func f) #[a.get s'] #[]:=hs
           have e2:a.eval (.tmp s')=a.get s':=rfl
           simp [execOp,J,resolve,invoke,Deferred.ofValue,e1,e2, hf.call]) (by rw [O];exact hk) hQ
       .simp at hk
     .exact M d O hk
   .exact M d O hk
 . rename_i c J O;have⟨cal,as_,ts⟩:=c;dsimp only at hk;split at hk
   · rename_i f;split at hk;·rename_i q hq;have hf:=hC.rdeps f q (A9 hq);exact wE (as_:=as_.toList) hC h hA hg hn hf (by simp[execOp,J,resolve,invoke,Deferred.ofValue,Act.eval,hf.call];apply Array.ext';simp) (by rw[O];exact hk) hQ
     .simp at hk
   · rename_i s;split at hk
     · rename_i f s' hl;split at hk;·rename_i q hq;have hf:=hC.rdeps f q hq;have hs:=h.sl s;rw[hl]at hs;exact wE (as_:= .tmp s'::as_.toList) hC h hA hg hn hf (by have e1:a.eval (.tmp s)= .func (.func f) #[a.get s'] #[]:=hs;have e2:a.eval (.tmp s')=a.get s':=rfl;simp[execOp,J,resolve,invoke,Deferred.ofValue,e1,e2,hf.call]) (by rw[O];exact hk) hQ
       .simp at hk
     .simp at hk
   .simp at hk
 .exact M _ (by assumption) hk
 .simp at hk
end
end Go.Gb
namespace Go.Gb
variable {T:Tb}{R:Type}
section
variable {C:Cx T}{F:FP}{k0:K}{W:List Nat}{a0:Act}{A:Array Oper}{Q:Exit->Act->World->Prop}
theorem Hl.lit{n:Nat}{e:Env T}{a:Act}{k:K}(h:Hl n F k0 W a0 e a k){c:Nat}{m:Bool}(z:asB (lk e c)=some m):Hl n F k0 W a0 ((c, .v .bool m)::e) a k:=by
 have E:aO (lk e c)=false:=by generalize lk e c=av at z;cases av with|v t x=>rfl;|_=>simp[asB]at z
 have f:∀t,lk ((c,AV.v (T:=T) .bool m)::e) t=if c=t then .v .bool m else lk e t:=λt=>bB _ _ _ _;have q:∀t,aO (lk ((c,AV.v (T:=T) .bool m)::e) t)=aO (lk e t):=λt=>by
  rw[f];split;.rename_i h1;subst h1;rw[E];rfl
  .rfl
 have u:∀t b,(lk ((c,AV.v (T:=T) .bool m)::e) t).fp (a.get t) k b->(lk e t).fp (a.get t) k b:=λt b j=>by
  rw[f]at j;split at j;.exact j.elim
  .exact j
 refine⟨h.g,h.s,h.d,h.old,λt=>?_,λt s w=>?_,λt y=>?_,λt I G b j H=>h.ap t I G b (u t b j) (u I b H),h.gl⟩
 · rw[f];split;.rename_i h1;subst h1;exact mm z (h.sl c)
   .exact h.sl t
 · rw[f]at w;split at w;.simp[AV.bW]at w
   .rw[q];exact h.inv t s w
 · rw[f]at y⊢;split at y;.simp[unl]at y
   .rename_i h1;rw[if_neg h1];exact h.wr t y
theorem xU{A:Array Oper}{i:Nat}{o:Oper}(h:i<A.size)(j:Nat):(A.setIfInBounds i o)[j]?=if i=j then some o else A[j]?:=by rw[Array.getElem?_setIfInBounds];split<;>simp_all
theorem ta{f:Array Oper}(g:∀j:Nat,(A[j]?).bind (λo:Oper=>o.dst)=(f[j]?).bind (λo:Oper=>o.dst)):∀{e:List Nat}{a:Act}{w:World},(∀j∈e,A[j]?=f[j]?)->wpOps C.P A Q e a w->wpOps C.P f Q e a w
 |[],_,_,_,h=>h|i::e,a,w,q,h=>by
  have y:∀m,yielded A m=yielded f m:=λm=>by funext j;unfold yielded;rw[g]
  rw[wpOps_cons]at h⊢;have u:wpOp C.P A Q i (wpOps C.P f Q e) a w:=wpOp_mono (λa w h=>ta g (λj x=>q j (by simp[x])) h) h;unfold wpOp at u⊢;rw[<-q i (by simp),<-y];exact u
theorem DQ{i:Nat}{f:List Nat}{o:Oper}{a:Act}{w:World}(u:nth A.toList i=some o)(x:i∉f)(y:Region.wanted o (yielded A a.tmps)=true)(h:wpOps C.P (A.setIfInBounds i {o with guard:=none}) Q (i::f) a w):wpOps C.P A Q (i::f) a w:=by
 have g:A[i]?=some o:=by rw[<-aM];exact u
 have m:i<A.size:=(bJ.1 g).1;have z:∀j:Nat,((A.setIfInBounds i {o with guard:=none})[j]?).bind (λo:Oper=>o.dst)=(A[j]?).bind (λo:Oper=>o.dst):=λj=>by
  rw[xU m];split;.rename_i e;subst e;rw[g];rfl
  .rfl
 rw[wpOps_cons]at h⊢;have q:=wpOp_mono (K':=wpOps C.P A Q f) (λa w h=>ta z (λj E=>by rw[xU m,if_neg (λe1:i=j=>x (e1▸E))]) h) h;unfold wpOp at q⊢;rw[g];rw[xU m,if_pos rfl]at q;dsimp only at q⊢;rw[if_pos y];rw[if_pos (by rfl)]at q;exact q
theorem Jh{o:Oper}{i:Nat}{f:List Nat}{e:Env T}{a:Act}{k:K}{K:Env T->Option R}{r:R}(h:Hl C.n F k0 W a0 e a k)(E:nth A.toList i=some o)(G:Region.wanted o (yielded A a.tmps)=false)(H:∀d,o.dst=some d->d<C.n/\d∈W)(hk:BL e o K=some r)(y:∀j a' z,K j=some r->Hl C.n F k0 W a0 j a' z->wpOps C.P A Q f a' z.w):wpOps C.P A Q (i::f) a k.w:=by
 have q:A[i]?=some o:=by rw[<-aM];exact E
 rw[wpOps_cons];unfold wpOp;rw[q];dsimp only;rw[if_neg (by rw[G];simp)];unfold BL at hk;cases u:o.dst with|none=>rw[u]at hk;exact y e a k hk h|some d=>rw[u]at hk;obtain⟨g,x⟩:=H d u;obtain⟨j,h1,I,_,_⟩:=h.put (d:=d) (av:= .tup []) (a':=a.put (some d) undef) x (bD.refl k) (fw _ _ _) (eA _ _ _) (λt J=>by rw[dD _ _ _ _ (by rw[h.s];exact g),if_neg (Ne.symm J)]) ⟨[],by rw[dD _ _ _ _ (by rw[h.s];exact g),if_pos rfl];rfl,trivial⟩ (λs M=>by simp[AV.bW]at M) (λO=>by simp[unl]at O) (λt _ b U=>U.elim) hk;exact y j _ k h1 I
theorem KM{a:Act}{c:Nat}{m:Bool}(h:a.get c= .bool m):(match(some c).bind (a.tmps[.]?)with|some (.bool b)=>some b|_=>none)=some m:=by
 have h1:a.tmps[c]?=some (.bool m):=by unfold Act.get at h;rw[ch]at h;cases e:a.tmps[c]?with|none=>rw[e]at h;simp[undef]at h;|some v=>rw[e]at h;simp at h;rw[h]
 simp[h1]
theorem LA{a:Act}{c:Nat}(h:a.get c= .tuple #[]):(match(some c).bind (a.tmps[.]?)with|some (.bool b)=>some b|_=>none)=none:=by unfold Act.get at h;rw[ch]at h;cases e:a.tmps[c]?with|none=>simp[e];|some v=>rw[e]at h;simp at h;simp[e,h]
theorem E2{e:Env T}{o:Oper}{K:Env T->Option R}:yd C e {o with guard:=none} K=yd C e o K:=rfl
theorem D7(hC:yL C):∀{l pre:List Oper}{e:Env T}{a:Act}{k:K}{K:Env T->Option R}{r:R},A.toList=pre++l->(∀o∈l,∀d,o.dst=some d->d∈W)->Hl C.n F k0 W a0 e a k->ev2 C A.toList (ixs pre.length l) e K=some r->(∀g u x,K g=some r->Hl C.n F k0 W a0 g u x->Q .normal u x.w)->wpOps C.P A Q (List.range' pre.length l.length) a k.w
  |[],pre,e,a,k,K,r,hA,hW,h,hk,hQ=>by simp only[ixs,ev2]at hk;exact hQ e a k hk h|o::l,pre,e,a,k,K,r,hA,hW,h,hk,hQ=>by
    simp only[ixs,ev2]at hk;have q:nth A.toList pre.length=some o:=by rw[hA];exact vw
    have U:pre.length∉List.range' (pre.length+1) l.length:=λV=>by have:=(List.mem_range'_1.1 V).1;omega
    have y:∀g u x,ev2 C A.toList (ixs (pre.length+1) l) g K=some r->Hl C.n F k0 W a0 g u x->wpOps C.P A Q (List.range' (pre.length+1) l.length) u x.w:=λg u x f G=>by have:=D7 hC (l:=l) (pre:=pre++[o]) (e:=g) (a:=u) (k:=x) (K:=K) (r:=r) (by rw[hA];simp) (λo' ho'=>hW o' (by simp[ho'])) G (by simpa using f) hQ;simpa using this
    rw[fD,uC];split at hk;·rename_i hg M;obtain⟨e1,k1,h1,h2,h3⟩:=oS h hk;rw[<-h2];refine Gv hC h3 q hg (λd z=>⟨?_,hW o (by simp) d z⟩) h1 λg u x f G=>y g u x f G;rw[z]at M;simp only[Nat.blt_eq]at M;exact M
    · rename_i j w hg M;have H:∀d,o.dst=some d->d<C.n/\d∈W:=λd z=>⟨by rw[z]at M;simpa using M,hW o (by simp) d z⟩;split at hk;rotate_left;.simp at hk
      rename_i c O;split at hk;rotate_left
      · split at hk;·rename_i hlc;obtain⟨vs,hv,hF⟩:=(hlc▸h.sl c:(AV.tup (T:=T) []).is a (a.get c) k);cases vs with
 |cons _ _=>exact hF.elim
 | nil =>have hy:yielded A a.tmps j=none:=by unfold yielded;unfold IP at O;rw[aM]at O;rw[O];exact LA hv
         exact Jh h q (by unfold Region.wanted;rw[hg];simp[hy]) H hk λg u x f G=>y g u x f G
        .simp at hk
      rename_i m V;have hcv:a.get c= .bool m:=aE.1 (mm V (h.sl c));have hy:yielded A a.tmps j=some m:=by unfold yielded;unfold IP at O;rw[aM]at O;rw[O];exact KM hcv
      have run:∀E,w=E->m=E->(frz ((c, .v .bool E)::e) (Dr C ((c, .v .bool E)::e) o) λg=>yd C g o λI=>ev2 C A.toList (ixs (pre.length+1) l) I K)=some r->wpOps C.P A Q (pre.length::List.range' (pre.length+1) l.length) a k.w:=by
       rintro E rfl rfl hk;refine DQ q U (by unfold Region.wanted;rw[hg];simp[hy]) ?_;have hAi:A[pre.length]?=some o:=by rw[<-aM];exact q
       have J:pre.length<A.size:=(bJ.1 hAi).1;obtain⟨e1,k1,h1,h2,h3⟩:=oS (h.lit V) hk;rw[<-h2];refine Gv (o:={o with guard:=none}) hC h3 (by rw[aM,xU J,if_pos rfl]) rfl H (by rw[E2];exact h1) λg u x f G=>?_;refine ta (A:=A) (λjj=>?_) (λjj hj=>?_) (y g u x f G)
       · rw[xU J];split;.rename_i e;subst e;rw[hAi];rfl
         .rfl
       .rw[xU J,if_neg (λe1:pre.length=jj=>U (e1▸hj))]
      have skip:∀E,w=!E->m=E->(BL ((c, .v .bool E)::e) o λI=>ev2 C A.toList (ixs (pre.length+1) l) I K)=some r->wpOps C.P A Q (pre.length::List.range' (pre.length+1) l.length) a k.w:=by rintro E rfl rfl hk;exact Jh (h.lit V) q (by unfold Region.wanted;rw[hg];simp[hy]) H hk λg u x f G=>y g u x f G
      cases w with
 |true=>cases m with|true=>exact run true rfl rfl (by simpa using hk);|false=>exact skip false rfl rfl (by simpa using hk)
 |false=>cases m with|true=>exact skip true rfl rfl (by simpa using hk);|false=>exact run false rfl rfl (by simpa using hk)
    .simp at hk
theorem zw{n:Nat}{f:List Oper}{m:List Nat}:∀{e:List Oper}{j g:List Ent}{i:Nat},j.map (·.need)=g.map (·.need)->DD n f m i e j=DD n f m i e g|[],_,_,_,_=>by simp[DD];|o::e,[],[],i,_=>rfl|o::e,[],_::_,i,h=>by simp at h;|o::e,_::_,[],i,h=>by simp at h;|o::e,x::j,y::g,i,h=>by simp only[dz,rk]at h;simp only[DD,zw h.2];congr 1;unfold va;rw[h.1]
theorem rL{n m:Nat}{f:List Oper}{g e:List Ent}(h:g.map (·.need)=e.map (·.need)):lD n m f g=lD n m f e:=by
 have j:g.length=e.length:=by simpa using congrArg List.length h
 unfold lD;rw[j,zw h]
theorem Ko{n m:Nat}{e:List Oper}{g f:List Ent}(h:g.map (·.need)=f.map (·.need)):chk n m e g=chk n m e f:=by unfold chk;rw[rL h]
theorem xP{l:List Oper}:(BJ l).map (·.need)=oe [] l:=by simp[BJ,jT,Function.comp_def]
theorem Ja{e:Type}{f:Nat->e->Bool}:∀{l:List e}{i:Nat},(∀j x,nth l j=some x->f (i+j) x=true)->allI f i l=true|[],_,_=>rfl|x::l,i,h=>by simp only[allI,aG];exact⟨h 0 x rfl,Ja λj y g=>by have:=h (j+1) y g;rwa[show i+(j+1)=i+1+j by omega]at this⟩
theorem DN{e0 e:Env T}{a:Act}{k:K}{x:Act}{I:K}{f l:List Oper}{V:List Ent}(m:Hl C.n F k0 W a0 e0 x I)(hW:∀o∈f,∀d,o.dst=some d->d∈W)(p:P1 e0 x f V e)(q:ll (f++l) V f.length x I a k):Hl C.n F k0 W a0 e a k:=by
  have y:∀t,lastIdx t f 0 none=none->a.get t=x.get t:=by
   intro t u;refine q.old t (Ja λj o ho=>?_);simp only[bS,bU,decide_eq_true_eq,bne_iff_ne];by_cases J:j<f.length;·refine .inr ((lastIdx_none u).2 o ?_);rw[fu,ql J]at ho;exact iF ho
   .exact .inl (by omega)
  have O:∀t,aO (lk e t)=true->lk e t=lk e0 t/\a.get t=x.get t:=by intro t u;have h1:=p.res t u;have w:=p.slot t;rw[h1]at w;exact⟨w,y t h1⟩
  have h:∀t b,(lk e t).fp (a.get t) k b->(lk e0 t).fp (x.get t) I b:=by intro t b E;cases hr:aO (lk e t)with|false=>exact absurd E (dC hr _ _ b);|true=>obtain⟨h1,w⟩:=O t hr;rw[h1,w,AV.ir _ q.grow (m.sl t)]at E;exact E
  refine⟨m.g.then q.grow,q.size.trans m.s,q.defers.trans m.d,λt u=>?_,λt=>?_,p.inv,λt u=>?_,λt t' M b E P=>m.ap t t' M b (h t b E) (h t' b P),m.gl.le q.grow.le⟩;·rw[<-m.old t u];refine y t ?_;cases z:lastIdx t f 0 none with|none=>rfl;|some j=>
 rcases fi z with h1|⟨o,_,h1,w⟩;.simp at h1
 · rw[fu]at h1;exact absurd (hW o (iF h1) t w) u
  · have U:(lk e t).is x (a.get t) k:=by have h1:=p.slot t;cases z:lastIdx t f 0 none with|none=>rw[z]at h1;dsimp only at h1;rw[h1,y t z];exact(lk e0 t).mono q.grow (m.sl t)|some j=>
 rw[z]at h1;obtain⟨Rr,nd,w,G⟩:=h1;rcases G with G|⟨R',rfl,G⟩;.rw[G];trivial
 · rcases fi z with H|⟨o,_,H,h5⟩;.simp at H
   · have J:=qh H;exact G _ _ (q.val j t R' nd (by simpa using J) (by rw[ki (show nth f j=some o by simpa using H)];exact h5) w)
    refine(lk e t).congr (λs hs=>?_) U;exact(O s (p.inv t s hs)).2
  ·obtain⟨h1,w⟩:=O t (rR u);rw[h1]at u⊢;rw[w,AV.ir _ q.grow (m.sl t)];exact m.wr t u
theorem Hl.grow{n:Nat}{a:Act}{e:Env T}{k m:K}(h:Hl n F k0 W a0 e a k)(f:bD k m):Hl n F k0 W a0 e a m:=⟨h.g.then f,h.s,h.d,h.old,λt=>(lk e t).mono f (h.sl t),h.inv,λt u=>by rw[AV.ir _ f (h.sl t)];exact h.wr t u,λt q j=>by rw[AV.ir _ f (h.sl t),AV.ir _ f (h.sl q)];exact h.ap t q j,h.gl.le f.le⟩
theorem Hl.KW{n:Nat}{a:Act}{e:Env T}{k:K}(h:Hl n F k0 W a0 e a k){s b:Nat}{t:Tp}{z:T.D t}(M:lk e s= .top)(I:a.get s= .pointer (some ⟨b,0,none⟩))(O:Box b z k)(P:Wr F k0 (Eq b))(J:∀f,f≠s->aB (Eq b) ((lk e f).fp (a.get f) k)):Hl n F k0 W a0 ((s, .box false t z)::e) a k:=by
 have q:lk ((s,AV.box false t z)::e) s= .box false t z:=by rw[bB,if_pos rfl]
 have j:∀f,f≠s->lk ((s,AV.box false t z)::e) f=lk e f:=λf w=>by rw[bB,if_neg (Ne.symm w)]
 have y:∀c,(AV.box (T:=T) false t z).fp (a.get s) k c->b=c:=λc x=>by have:a.get s= .pointer (some ⟨c,0,none⟩):=x;rw[I]at this;simpa using this
 refine⟨h.g,h.s,h.d,h.old,λf=>?_,λf u E=>?_,λf E=>?_,λt1 t2 G c x m=>?_,h.gl⟩
 · by_cases w:f=s;.subst w;rw[q];exact⟨b,I,O⟩
   .rw[j f w];exact h.sl f
 · by_cases w:f=s;.subst w;rw[q]at E;simp[AV.bW]at E
   · rw[j f w]at E;have h1:=h.inv f u E;have H:u≠s:=λU=>by rw[U,M]at h1;simp[aO]at h1
     rw[j u H];exact h1
 · by_cases w:f=s;.subst w;rw[q];exactλc x=>P c (y c x)
   .rw[j f w]at E⊢;exact h.wr f E
 · by_cases h1:t1=s;·subst h1;rw[q]at x;rw[j t2 (Ne.symm G)]at m;exact J t2 (Ne.symm G) c (y c x) m
   · rw[j t1 h1]at x;by_cases H:t2=s;·subst H;rw[q]at m;exact J t1 h1 c (y c m) x
     ·rw[j t2 H]at m;exact h.ap t1 t2 G c x m
theorem xy:∀{l:List Oper}{i m:Nat}{o:Oper},C4 l i=some (m,o)->i<=m/\nth l (m-i)=some o
 |[],_,_,_,h=>by simp[C4]at h;|x::l,i,m,o,h=>by
  simp only[C4]at h;split at h;·simp only[aV,Prod.mk.injEq]at h;obtain⟨rfl,rfl⟩:=h;exact⟨aN _,by simp[nth]⟩
  ·obtain⟨h1,e⟩:=xy h;exact⟨by omega,by rw[show m-i=(m-(i+1))+1 by omega];exact e⟩
theorem HQ{e:List Oper}{m s q:Nat}{t u:Tp}{L:gY T t u}(h:Lm C e m s q t=some ⟨u,L⟩):L.ok/\((q=s/\L.off=0)∨∃j o st f,lastIdx q (e.take m) 0 none=some j/\nth e j=some o/\o.op= .fieldAddr st (.tmp s) f/\o.guard=none/\dW (eB e []) m j=true/\sT C.P st f=some L.off):=by unfold Lm at h;cases z:Nat.beq q s with
 |true=>rw[z]at h;simp only[cond_true]at h;cases I:tg q e with|false=>rw[I]at h;simp at h;|true=>rw[I]at h;simp only[cond_true,aV,Sigma.mk.injEq]at h;obtain⟨rfl,h⟩:=h;obtain rfl:=eq_of_heq h;exact⟨gY.IB, .inl ⟨bd z,rfl⟩⟩
 |false=>
 rw[z]at h;simp only[cond_false]at h;split at h;rotate_left;.simp at h
 rename_i j J;split at h;rotate_left;.simp at h
 rename_i o M;split at h;rotate_left;.simp at h
 rename_i st O f E G;cases x:(Nat.beq s O&&dW (eB e []) m j)with|false=>rw[x]at h;simp at h;|true=>
 rw[x]at h;simp only[cond_true]at h;rw[aG]at x;obtain rfl:=bd x.1;unfold Su at h;split at h;rotate_left;.simp at h
 rename_i n;split at h;rotate_left;.simp at h
 rename_i off w U y H;cases g:Nat.beq U.off off with|false=>rw[g]at h;simp at h;|true=>rw[g]at h;simp only[cond_true,aV,Sigma.mk.injEq]at h;obtain⟨rfl,h⟩:=h;obtain rfl:=eq_of_heq h;obtain rfl:=bd g;exact⟨zD H, .inr ⟨j,o,st,f,J,M,E,G,x.2,y⟩⟩
theorem PT(hC:yL C){id:Nat}{e:Env T}{a:Act}{k:K}{K:Env T->Option R}{r:R}(hW:∀o∈A.toList,∀d,o.dst=some d->d∈W)(h:Hl C.n F k0 W a0 e a k)(hk:evX C A.toList e K=some r)
    (hQ:∀e' a' k',K e'=some r->Hl C.n F k0 W a0 e' a' k'->Q .normal a' k'.w):(Code.region id A true).wp C.P Q a k.w:=by
 unfold evX at hk;split at hk;rotate_left;.simp at hk
 rename_i m o hst;split at hk;rotate_left;.simp at hk
 rename_i ty pt y hop hdst hgd;split at hk;rotate_left;.simp at hk
 rename_i t x0 hls;split at hk;rotate_left;.simp at hk
 rename_i u L hptr;generalize hsdef:tQ A.toList m pt=s at hk hls hptr;cases c4:tg s A.toList with
 | false => rw [c4] at hk; simp at hk
 | true =>
 rw[c4]at hk;simp only[gu,cond_false]at hk;obtain⟨hL,hpt⟩:=HQ hptr;obtain⟨_,hno⟩:=xy hst;simp only[qZ]at hno;rw[gN]at hk;have hsl:=h.sl s;rw[hls]at hsl;obtain⟨b,hb,hbx⟩:=hsl;have hunl:unl (lk e s)=true:=by rw[hls];rfl
 have I:∀(kx:Gb.K) c,b=c->(lk e s).fp (a.get s) kx c:=λkx c O=>by rw[hls];subst O;exact hb
 have hnsh:∀c,b=c->¬k.sh c:=λc O=>(h.lt s c (I _ c O)).2;generalize he0:(s,AV.top)::pB (klA s) e=e0 at hk;have hl0:lk e0 s= .top:=by rw[<-he0,bB,if_pos rfl]
 have hlt:∀G,G≠s->lk e0 G=klA s (lk e G):=λG ht=>by rw[<-he0,bB,if_neg (Ne.symm ht),mN rfl]
 have hide:∀k1 k2,bD k k1->Chg (Eq b) k1 k2->Hl C.n F k0 W a0 e0 a k2:=λk1 k2 g c=>by rw[<-he0];exact(h.grow g).QG hunl c (I _)
 have hh0:Hl C.n F k0 W a0 e0 a k:=hide k k (bD.refl k) (Chg.refl _ k);have p0:P1 e0 a [] [] e0:=⟨rfl,λt=>rfl,λt _=>rfl,hh0.inv⟩;obtain⟨U,rest,es,e1,h1,h2,_,h4,h5,h6,h7,h8,h9⟩:=vH (n:=C.n) (F:=F) (kk:=k0) (W:=W) (aa:=a0) hC (bH:=b) (B:=0) A.toList (λs' hs'=>by injection hs' with hs';subst hs';exact⟨hb,c4⟩) (A.toList.length+1) R none [] A.toList [] e0 _ r [] (by simp) p0 (λes' o ho=>by unfold iz;rw[ho]) hk;simp only[jR]at h5 h6 h7;cases rest with
 | nil => simp [ixs] at h5
 | cons o1 rest =>
 simp only[ixs]at h5
 have hlen:A.toList.length-((U.length,o1)::ixs (U.length+1) rest).length=U.length:=by
  have:(ixs (U.length+1) rest).length=rest.length:=by rw[<-mS (f:=(·.2)),zh]
  rw[fD,this,h1];simp
 rw[hlen]at h5;cases O:(Nat.beq U.length m&&lD C.n m A.toList (BJ (A.toList.take m))&&Oe m A.toList&&qi m A.toList y&&tyB C.P T ty u)with
 | false => rw [O] at h5; simp at h5
 | true =>
 rw[O]at h5;simp only[cond_true]at h5;simp only[aG]at O;obtain⟨⟨⟨⟨c1,c2⟩,c3⟩,c5⟩,c6⟩:=O;obtain rfl:=bd c1;have ho1:o1=o:=by rw[h1,vw,aV]at hno;exact hno
 subst ho1;split at h5;rotate_left;.simp at h5
 rename_i z hz;have htake:A.toList.take U.length=U:=by rw[h1,gZ];rfl
 have hneed:(BJ U).map (·.need)=es.map (·.need):=by rw[xP,h4]
 rw[htake,rL hneed]at c2
 have hmA:U.length<A.size:=by
  have:A.size=(U++o1::rest).length:=by rw[<-h1];simp
  rw[this];simp
 have hsz:A.size-(U.length+1)=rest.length:=by
  have:A.size=(U++o1::rest).length:=by rw[<-h1];simp
  rw[this];simp;omega
 have hst':∀kb,Hl C.n F k0 W a0 e0 a kb->Steps C.P es a kb (A.toList.take U.length) es:=λkb hkb=>by rw[htake];have:=h7 kb hkb (cr _) [];simpa using this
 have hl1:lk e1 s= .top:=by have:=h6.slot s;rw[yA (rest:=o1::rest) (by rw[<-h1];exact c4)]at this;exact(show lk e1 s=lk e0 s from this).trans hl0
 refine wp_region_any hC.mix ?_;let kd:Gb.K:=⟨{k.w with drawn:=k.w.drawn+1},k.sh,k.lt⟩;have hg:bD k kd:=⟨rfl,rfl,rfl,aN _,λ _ _=>rfl,λ _ h=>h,λ _ _ h=>h,gP _⟩;have hF:∀j,(Array.replicate A.size false).getD j false=true->False:=by intro j hj;simp[ch,qN]at hj;split at hj<;>simp at hj
 have hwr:Wr F k0 (Eq b):=λc O=>h.wr s hunl c (I _ c O);refine Rc (B:=λkb=>Hl C.n F k0 W a0 e0 a kb/\Box b (L.set x0 z) kb/\∀G,G≠s->(lk e G).fp (a.get G) kb=(lk e G).fp (a.get G) k) (k0:=k) h.s c2 hmA c3 (hst' k hh0) (λkb hkb=>hst' kb hkb.1) trivial ?_ ?_ A.size _ a kd (by simp) (by simp) (λj hj=>(hF j hj).elim) (.inl ⟨?_,?_⟩)
 .
   intro a' k' D hD q hbind C' hC'
   have hk' : Hl C.n F k0 W a0 e a k' := h.grow q.grow
   have hs' : a'.get s = a.get s := q.rest s λ i o' _ J => nP c4 i o' J
   have hyv : IsV (α := T.D u) z (a'.eval y) k' := by
     refine iL (a := a) hz (eU (e := e1) ?_)
     cases y with
     | tmp yt =>
       have h9 := h6.slot yt
       simp only [qi, htake] at c5
       cases hli : lastIdx yt U 0 none with
       | none =>
         rw [hli] at h9 c5
         have hu : a'.get yt = a.get yt := q.rest yt λ i o' _ J => nP c5 i o' J
         refine ⟨?_, λ _ => hu⟩
         rw [hu, show lk e1 yt = lk e0 yt from h9]
         exact (lk e0 yt).mono q.grow (hh0.sl yt)
       | some j =>
         rw [hli] at h9 c5
         have hDj : D j := cf (L := A.toList) (D := D) q.closed (j := U.length) (i := j) (λ o' J => hbind o' J) c5
         obtain ⟨Rr, nd, h10, h11⟩ := h9
         refine ⟨?_, λ hr => by rw [h6.res yt hr] at hli; simp at hli⟩
         rcases h11 with h11 | ⟨R', rfl, h11⟩
         .rw [h11]; trivial
         · rcases fi hli with M | ⟨oj, _, M, h13⟩
           .simp at M
           · have hnj : nth A.toList j = some oj := by rw [h1]; exact ki (by simpa using M)
             exact h11 _ _ (q.vals j oj yt _ hDj hnj h13 h10)
     | const v => trivial
     | global g => simp [qi] at c5
     | func g => simp [qi] at c5
   have hpv : cU b L.off (a'.eval (.tmp pt)) k' := by
     rcases hpt with ⟨rfl, hoff⟩ | ⟨j, oj, st, f, hj, hoj, hopj, hgj, hbit, hfo⟩
     .rw [hoff]; exact hs'.trans hb
     · rw [htake] at hj
       have hDj : D j := cf (L := A.toList) (D := D) q.closed (j := U.length) (i := j) (λ o' J => hbind o' J) hbit
       rcases fi hj with M | ⟨o2, _, M, h13⟩
       .simp at M
       · simp only [qZ] at M
         have hnj : nth A.toList j = some o2 := by rw [h1]; exact ki M
         rw [hoj, aV] at hnj
         subst hnj
         obtain ⟨nd, hen⟩ := h9 rfl j oj (.adr L.off) M hgj (by simp [yO, hopj, hfo, de])
         exact q.vals j oj pt _ hDj hoj h13 hen
   have hw : wpOps C.P A (λ ex a w => match ex with | .normal => C' a w | _ => False) [U.length] a' k'.w := by
     refine bf (set := L.set) (x := x0) (z := z) (b := b) (off := L.off) hno hgd hop hdst (qe c6) hL.2.1 hpv (hbx.grow q.grow) hyv λ k1 hch hbz => ?_
     show wpOps C.P A _ [] a' k1.w
     simp only [wpOps]
     refine hC' k1 k1 ⟨hide k' k1 q.grow hch, hbz, λ G ht' => (AV.oF _ hch (λ c O => ((h.grow q.grow).lt s c (I _ c O)).2) (λ c O V => (h.grow q.grow).ap s G (Ne.symm ht') c (I _ c V) O) ((h.grow q.grow).sl G)).trans (AV.ir _ q.grow (h.sl G))⟩ ⟨bD.refl k1, q.size, q.defers, λ i oi d en hDi hoi hd hen => ?_, q.rest, q.closed, q.mem⟩
     have hv := q.vals i oi d en hDi hoi hd hen
     obtain ⟨Rr, nd⟩ := en
     cases Rr with
     | none => exact hv
     | some Rr =>
       have hmem : (⟨some Rr, nd⟩ : Ent) ∈ es := by rw [fu] at hen; exact iF hen
       rcases h8 _ hmem Rr rfl with ⟨av, rfl, hav1, hav2⟩ | ⟨ox, yx, hox, rfl⟩
       rotate_left
       .cases yx with
         | adr off => exact hv
         | box t => obtain ⟨_, _, h20, _⟩ := wa hox; simp at h20
       refine av.keep hch (λ c O => (hk'.lt s c (I _ c O)).2) (λ c O => absurd O (dC hav1 _ _ c)) (λ s' hs' u hu hui c O V => ?_) hv
       have h14 := hav2 s' (AV.kI hs')
       have hne : s' ≠ s := λ e' => by rw [e', hl0] at h14; simp [aO] at h14
       rw [hlt s' hne] at h14
       have h15 : aO (lk e s') = true := by
         rcases iI s (lk e s') with h16 | h16
         .rw [h16] at h14; exact h14
         .rw [h16] at h14; simp [aO] at h14
       exact hk'.apm h15 hne hu hui c O (I _ c V)
   rw [wpOps_cons] at hw
   have H : wpOp C.P A (λ ex a w => match ex with | .normal => C' a w | _ => False) U.length C' a' k'.w := wpOp_mono (λ a2 w2 h2 => by simpa [wpOps] using h2) hw
   unfold wpOp at H ⊢
   have hAo : A[U.length]? = some o1 := by rw [<- aM]; exact hno
   rw [hAo] at H ⊢
   dsimp only at H ⊢
   split at H
   · rename_i hwant
     rw [if_pos hwant]
     rcases H with H | H
     · left
       unfold Oper.wp at *
       generalize (execOp a'.eval o1).run C.P k'.w = res at *
       cases res with
       | ok nx w' => cases nx <;> simp only [Oper.upon] at H ⊢ <;> first | exact H | (refine Calls.mono H λ ee w2 he => ?_; cases ee <;> first | exact he | exact he.elim | (obtain ⟨_, _, hb'⟩ := he; exact hb'.elim)) | (exact Rows.mono H λ _ _ he => he)
       | halt x w' => cases x <;> simp only [Oper.upon] at H ⊢ <;> first | exact H | exact H.elim
     .obtain ⟨_, _, _, hb'⟩ := H; exact hb'.elim
   · rename_i hwant
     rw [if_neg hwant]; exact H
 .
   intro kb hkb a' k' q
   have hp : ll A.toList es U.length a kb a' k' := ll.of q
   have hs' : a'.get s = a.get s := q.rest s λ i o' _ J => nP c4 i o' J
   have hp2 := hp
   rw [h1] at hp2
   have hh := DN hkb.1 (λ o hoc => hW o (by rw [h1]; simp [hoc])) h6 hp2
   have hh2 := hh.KW (b := b) (z := L.set x0 z) hl1 (hs'.trans hb) (hkb.2.1.grow q.grow) hwr λ G ht c O V => by
     cases hr : aO (lk e1 G) with
     | false => exact absurd V (dC hr _ _ c)
     | true =>
       have h9 := h6.res G hr
       have h10 := h6.slot G
       rw [h9] at h10
       have h11 : lk e1 G = lk e0 G := h10
       have M : a'.get G = a.get G := q.rest G λ i o' hi J hd => by
         have h13 := (lastIdx_none h9).2 o' (by
           rw [h1, fu, ql hi] at J
           exact iF J)
         exact h13 hd
       rw [h11, M, hlt G ht] at V
       have h13 : (lk e G).fp (a.get G) k c := by
         rcases iI s (lk e G) with h16 | h16
         · have hslb : (lk e G).is a (a.get G) kb := by have := hkb.1.sl G; rw [hlt G ht, h16] at this; exact this
           rw [h16, AV.ir _ q.grow hslb, hkb.2.2 G ht] at V; exact V
         .rw [h16] at V; exact V.elim
       exact h.ap s G (Ne.symm ht) c (I _ c O) h13
   rw [hsz]
   have := D7 hC (A := A) (Q := Q) (l := rest) (pre := U ++ [o1]) (e := (s, .box false t (L.set x0 z)) :: e1) (a := a') (k := k') (r := r) (by rw [h1]; simp) (λ o hor => hW o (by rw [h1]; simp [hor])) hh2 (by simpa using h5) (λ e' a2 k2 hk2 h' => by
     obtain ⟨e2, k3, g1, g2, g3⟩ := mn h' hk2
     rw [<- g2]
     exact hQ e2 a2 k3 g1 g3)
   simpa using this
 .cases hx:(Array.replicate A.size false).getD U.length false with|false=>rfl;|true=>exact(hF _ hx).elim
 .exact⟨hg,rfl,rfl,λi o d e hi=>(hF i hi).elim,λ _ _=>rfl,λj o _ hj=>(hF j hj).elim,λi hi=>(hF i hi).elim⟩
theorem MU{a:Act}{k:K}{x u:AV T}{v:Value}(H:aO x=true)(h:x.is a v k)(I:HB u=true)(g:u.is a v k):∀b,u.fp v k b->x.fp v k b:=by intro b j;have f:=(u.lt g b j).2;cases u with
 |own l V t xs=>cases x with|own q w G E=>exact j;|box q G J=>obtain⟨c,rfl,_⟩:=h;simp[AV.fp,obF,ob]at j;|rs q m z=>obtain⟨F,h1⟩:=h;show Rk.fp T (.c m) v k b;rw[pN h1];exact T.RProot _ _ _ _ _ _ h1 (.inr j) f|tr O P z q=>obtain⟨u,U,rfl,_⟩:=h;simp[AV.fp,obF,ob]at j|_=>simp[aO]at H
 |box l t y=>cases x with|own q w G E=>obtain⟨c,rfl,_⟩:=g;rcases(show an 0 w E _ k from h)with⟨e1,_⟩|⟨_,e1,_⟩|⟨_,_,_,_,_,e1,_⟩<;>simp at e1|box q G J=>exact j;|rs q m z=>obtain⟨F,h1⟩:=h;show Rk.fp T (.c m) v k b;rw[pN h1];exact T.RProot _ _ _ _ _ _ h1 (.inl j) f|tr O P z q=>obtain⟨u,U,rfl,_⟩:=h;obtain⟨c,e,_⟩:=g;simp at e|_=>simp[aO]at H
 |_=>simp[HB]at I
theorem Hl.TE{n:Nat}{a:Act}{e:Env T}{k j:K}{G:FP}(h:Hl n F k0 W a0 e a k)(c:Chg G k j)(m:∀b,G b->¬k.sh b)(z:Wr F k0 G)(q:∀t,aB ((lk e t).fp (a.get t) k) G):Hl n F k0 W a0 e a j:=have f:∀t,(lk e t).fp (a.get t) j=(lk e t).fp (a.get t) k:=λt=>AV.oF _ c m (q t) (h.sl t)
 ⟨h.g.step c z,h.s,h.d,h.old,λt=>(lk e t).keep c m (q t) (λs E u H w b I x=>q s b (MU (h.inv t s (AV.kI E)) (h.sl s) H w b I) x) (h.sl t),h.inv,λt J=>by rw[f];exact h.wr t J,λt M y=>by rw[f,f];exact h.ap t M y,h.gl.le (c.le m)⟩
theorem C8{s j:Nat}{e:List Oper}(h:DP s j e=true):∀i o,i≠j->nth e i=some o->o.dst≠some s:=by
 intro i o hi f g;have:=bc h i o f;simp only[bS,g,bU]at this;rcases this with h1|h1;.exact hi (bd h1)
 .simp[de]at h1
theorem QM(hC:yL C){id:Nat}{e:Env T}{a:Act}{k:K}{K:Env T->Option R}{r:R}(hW:∀o∈A.toList,∀d,o.dst=some d->d∈W)(h:Hl C.n F k0 W a0 e a k)(hk:evN C A.toList e K=some r)
    (hQ:∀e' V k',K e'=some r->Hl C.n F k0 W a0 e' V k'->Q .normal V k'.w):(Code.region id A true).wp C.P Q a k.w:=by
 unfold evN at hk;split at hk;rotate_left;.simp at hk
 rename_i m o hst;split at hk;rotate_left;.simp at hk
 rename_i ty pt y hop hdst hgd;split at hk;rotate_left;.simp at hk
 rename_i ja hja;split at hk;rotate_left;.simp at hk
 rename_i oa hoa;split at hk;rotate_left;.simp at hk
 rename_i tya hopa hgda;split at hk;rotate_left;.simp at hk
 rename_i t htid;obtain⟨_,hno⟩:=xy hst;simp only[qZ]at hno;have p0:P1 e a [] [] e:=⟨rfl,λt=>rfl,λt _=>rfl,h.inv⟩;obtain⟨J,G,es,e1,h1,h2,_,h4,h5,h6,h7,h8,h9⟩:=vH (n:=C.n) (F:=F) (kk:=k0) (W:=W) (aa:=a0) hC (bH:=0) (B:=k.w.heap.size) A.toList (λs' hs'=>by simp at hs') (A.toList.length+1) R none [] A.toList [] e _ r [] (by simp) p0 (λes' o ho=>by unfold iz;rw[ho]) hk;simp only[jR]at h5 h6 h7;cases G with
 | nil => simp [ixs] at h5
 | cons o1 G =>
 simp only[ixs]at h5
 have hlen:A.toList.length-((J.length,o1)::ixs (J.length+1) G).length=J.length:=by
  have:(ixs (J.length+1) G).length=G.length:=by rw[<-mS (f:=(·.2)),zh]
  rw[fD,this,h1];simp
 rw[hlen]at h5;cases U:(Nat.beq J.length m&&lD C.n m A.toList (BJ (A.toList.take m))&&N1 m (Ih m A.toList) A.toList&&Af m (Ih m A.toList) A.toList.toArray&&dW (eB A.toList []) m ja&&DP pt ja A.toList&&qi m A.toList y&&tyB C.P T ty t&&og C.P T tya t&&L6 (lk e1 pt)&&!(aO (lk e pt)))with
 | false => rw [U] at h5; simp at h5
 | true =>
 rw[U]at h5;simp only[cond_true]at h5;simp only[aG,cH]at U;obtain⟨⟨⟨⟨⟨⟨⟨⟨⟨⟨c1,c2⟩,c3⟩,c11⟩,c4⟩,c7⟩,c5⟩,c6⟩,c8⟩,c9⟩,c10⟩:=U;rw[Array.toArray_toList]at c11;obtain rfl:=bd c1;have ho1:o1=o:=by rw[h1,vw,aV]at hno;exact hno
 subst ho1;split at h5;rotate_left;.simp at h5
 rename_i z hz;have O:A.toList.take J.length=J:=by rw[h1,gZ];rfl
 have hneed:(BJ J).map (·.need)=es.map (·.need):=by rw[xP,h4]
 rw[O,rL hneed]at c2;rw[O]at hja
 have hmA:J.length<A.size:=by
  have:A.size=(J++o1::G).length:=by rw[<-h1];simp
  rw[this];simp
 have hsz:A.size-(J.length+1)=G.length:=by
  have:A.size=(J++o1::G).length:=by rw[<-h1];simp
  rw[this];simp;omega
 have hst':∀kb,Hl C.n F k0 W a0 e a kb->k.w.heap.size<=kb.w.heap.size->Steps C.P es a kb (A.toList.take J.length) es:=λkb hkb hkz=>by rw[O];have:=h7 kb hkb hkz [];simpa using this
 have hl1:lk e1 pt= .top:=by cases hlt:lk e1 pt<;>rw[hlt]at c9<;>first|rfl|simp[L6]at c9
 obtain⟨hjl,hdpt,nda,hea⟩:nth J ja=some oa/\oa.dst=some pt/\∃nd,nth es ja=some ⟨some (zk (T.D t) k.w.heap.size),nd⟩:=by
  rcases fi hja with I|⟨o2,_,I,h13⟩;.simp at I
  · simp only[qZ]at I;have hnj:nth A.toList ja=some o2:=by rw[h1];exact ki I
    rw[hoa,aV]at hnj;subst hnj;refine⟨I,h13,?_⟩;exact h9 rfl ja oa (.box t) I hgda (by simp[yO,hopa,h13,de,c8])
 refine wp_mono (Q:=QN Q) ?_ (λe a w h=>by cases e<;>first|exact h|exact h.elim);refine wp_region_any hC.mix ?_;let kd:Gb.K:=⟨{k.w with drawn:=k.w.drawn+1},k.sh,k.lt⟩;have hg:bD k kd:=⟨rfl,rfl,rfl,aN _,λ _ _=>rfl,λ _ h=>h,λ _ _ h=>h,gP _⟩;have hF:∀j,(Array.replicate A.size false).getD j false=true->False:=by intro j hj;simp[ch,qN]at hj;split at hj<;>simp at hj
 have hwr:∀b,k.w.heap.size<=b->Wr F k0 (Eq b):=λb hb c U=>by subst U;exact .inr (bC h.g.size hb)
 have hap:∀b,k.w.heap.size<=b->∀H,aB ((lk e H).fp (a.get H) k) (Eq b):=λb hb H c U hc'=>by subst hc';have:=(h.lt H b U).1;omega
 refine Ox (pt:=pt) (ja:=ja) (B:=λkb u=>∃b,u= .pointer (some ⟨b,0,none⟩)/\k.w.heap.size<=b/\k.w.heap.size<=kb.w.heap.size/\Hl C.n F k0 W a0 e a kb/\Box b z kb/\∀H,(lk e H).fp (a.get H) kb=(lk e H).fp (a.get H) k) (k0:=k) (λi o' hi M=>C8 c7 i o' hi M) c4 h.s c2 hmA c3 c11 (λ _ _ _ h=>h) (hst' k h (aN _)) (λkb u ⟨b,_,_,hkz,hkb,_,_⟩=>hst' kb hkb hkz) trivial ?_ ?_ A.size _ a kd (by simp) (by simp) (λj hj=>(hF j hj).elim) (.inl ⟨?_,?_⟩)
 .
   intro V k' D hD q hbind C' hC'
   have hk' : Hl C.n F k0 W a0 e a k' := h.grow q.grow
   obtain ⟨x, b, hpv, hsb, hbx⟩ : zk (T.D t) k.w.heap.size (V.get pt) k' := by
     have hDj : D ja := cf (L := A.toList) (D := D) q.closed (j := J.length) (i := ja) (λ o' M => hbind o' M) c4
     exact q.vals ja oa pt _ hDj hoa hdpt hea
   have hyv : IsV (α := T.D t) z (V.eval y) k' := by
     refine iL (a := a) hz (eU (e := e1) ?_)
     cases y with
     | tmp yt =>
       have h9 := h6.slot yt
       simp only [qi, O] at c5
       cases hli : lastIdx yt J 0 none with
       | none =>
         rw [hli] at h9 c5
         have hu : V.get yt = a.get yt := q.rest yt λ i o' _ M => nP c5 i o' M
         refine ⟨?_, λ _ => hu⟩
         rw [hu, show lk e1 yt = lk e yt from h9]
         exact (lk e yt).mono q.grow (h.sl yt)
       | some j =>
         rw [hli] at h9 c5
         have hDj : D j := cf (L := A.toList) (D := D) q.closed (j := J.length) (i := j) (λ o' M => hbind o' M) c5
         obtain ⟨Rr, nd, h10, h11⟩ := h9
         refine ⟨?_, λ hr => by rw [h6.res yt hr] at hli; simp at hli⟩
         rcases h11 with h11 | ⟨R', rfl, h11⟩
         .rw [h11]; trivial
         · rcases fi hli with I | ⟨oj, _, I, h13⟩
           .simp at I
           · have hnj : nth A.toList j = some oj := by rw [h1]; exact ki (by simpa using I)
             exact h11 _ _ (q.vals j oj yt _ hDj hnj h13 h10)
     | const v => trivial
     | global g => simp [qi] at c5
     | func g => simp [qi] at c5
   have hw : wpOps C.P A (λ ex a w => match ex with | .normal => C' a w | _ => False) [J.length] V k'.w := by
     refine bf (set := λ _ y => y) (x := x) (z := z) (b := b) (off := 0) hno hgd hop hdst (qe c6) Upd.self (show cU b 0 (V.eval (.tmp pt)) k' from hpv) hbx hyv λ k1 hch hbz => ?_
     show wpOps C.P A _ [] V k1.w
     simp only [wpOps]
     have hnsh : ∀ c, b = c -> ¬ k'.sh c := λ c U => hbx.fF c U
     refine hC' k1 k1 ⟨b, hpv, hsb, bC q.grow.size hch.size, hk'.TE hch hnsh (hwr b hsb) (λ H => by rw [AV.ir _ q.grow (h.sl H)]; exact hap b hsb H), hbz, λ H => (AV.oF _ hch hnsh (by rw [AV.ir _ q.grow (h.sl H)]; exact hap b hsb H) (hk'.sl H)).trans (AV.ir _ q.grow (h.sl H))⟩ ⟨bD.refl k1, q.size, q.defers, λ i oi d en hDi hoi hd hen => ?_, q.rest, q.closed, q.mem⟩
     have hv := q.vals i oi d en hDi hoi hd hen
     obtain ⟨Rr, nd⟩ := en
     cases Rr with
     | none => exact hv
     | some Rr =>
       have hmem : (⟨some Rr, nd⟩ : Ent) ∈ es := by rw [fu] at hen; exact iF hen
       rcases h8 _ hmem Rr rfl with ⟨av, rfl, hav1, hav2⟩ | ⟨ox, yx, hox, rfl⟩
       rotate_left
       .cases yx with
         | adr off => exact hv
         | box t2 =>
           obtain ⟨_, _, h20, _⟩ := wa hox
           injection h20 with h21 h22
           subst h22
           obtain ⟨x2, b2, hp2, hs2, hb2⟩ := hv
           by_cases hbb : b2 = b
           .subst hbb; exact ⟨z, b2, hp2, hs2, hbz⟩
           .exact ⟨x2, b2, hp2, hs2, hb2.keep hch (λ e' => hbb e'.symm) hnsh⟩
       refine av.keep hch hnsh (λ c U => absurd U (dC hav1 _ _ c)) (λ s' hs' u hu hui c U hc' => ?_) hv
       have h14 := hav2 s' (AV.kI hs')
       subst hc'
       have h15 := MU h14 (hk'.sl s') hu hui b U
       rw [AV.ir _ q.grow (h.sl s')] at h15
       have := (h.lt s' b h15).1
       omega
   rw [wpOps_cons] at hw
   have E : wpOp C.P A (λ ex a w => match ex with | .normal => C' a w | _ => False) J.length C' V k'.w := wpOp_mono (λ a2 w2 h2 => by simpa [wpOps] using h2) hw
   unfold wpOp at E ⊢
   have hAo : A[J.length]? = some o1 := by rw [<- aM]; exact hno
   rw [hAo] at E ⊢
   dsimp only at E ⊢
   split at E
   · rename_i hwant
     rw [if_pos hwant]
     rcases E with E | E
     · left
       unfold Oper.wp at *
       generalize (execOp V.eval o1).run C.P k'.w = res at *
       cases res with
       | ok nx w' => cases nx <;> simp only [Oper.upon] at E ⊢ <;> first | exact E | (refine Calls.mono E λ ee w2 he => ?_; cases ee <;> first | exact he | exact he.elim | (obtain ⟨_, _, hb'⟩ := he; exact hb'.elim)) | (exact Rows.mono E λ _ _ he => he)
       | halt x w' => cases x <;> simp only [Oper.upon] at E ⊢ <;> first | exact E | exact E.elim
     .obtain ⟨_, _, _, hb'⟩ := E; exact hb'.elim
   · rename_i hwant
     rw [if_neg hwant]; exact E
 .intro kb V k' ⟨b,hpv,hsb,hkz,hkb,hbz,hfk⟩q;have hp:ll A.toList es J.length a kb V k':=ll.of q;have hp2:=hp;rw[h1]at hp2;have hh:=DN hkb (λo hoc=>hW o (by rw[h1];simp[hoc])) h6 hp2;have hh2:=hh.KW (b:=b) (z:=z) hl1 hpv (hbz.grow q.grow) (hwr b hsb) λH ht c U hc'=>by subst U;cases hr:aO (lk e1 H)with|false=>exact absurd hc' (dC hr _ _ b);|true=>
   have h9:=h6.res H hr;have h10:=h6.slot H;rw[h9]at h10;have h11:lk e1 H=lk e H:=h10;have I:V.get H=a.get H:=q.rest H λi o' hi M hd=>by have h13:=(lastIdx_none h9).2 o' (by rw[h1,fu,ql hi]at M;exact iF M);exact h13 hd
   rw[h11,I,AV.ir _ q.grow (hkb.sl H),hfk H]at hc';exact hap b hsb H b hc' rfl
  rw[hsz];have:=D7 hC (A:=A) (Q:=QN Q) (l:=G) (pre:=J++[o1]) (e:=(pt, .box false t z)::e1) (a:=V) (k:=k') (r:=r) (by rw[h1];simp) (λo hor=>hW o (by rw[h1];simp[hor])) hh2 (by simpa using h5) (λe' a2 k2 hk2 h'=>by obtain⟨e2,k3,g1,g2,g3⟩:=mn h' hk2;rw[<-g2];exact hQ e2 a2 k3 g1 g3);simpa using this
 .cases hx:(Array.replicate A.size false).getD J.length false with|false=>rfl;|true=>exact(hF _ hx).elim
 .exact⟨hg,rfl,rfl,λi o d e hi=>(hF i hi).elim,λ _ _=>rfl,λj o _ hj=>(hF j hj).elim,λi hi=>(hF i hi).elim⟩
theorem bD.fresh{k j m:K}{b:Nat}(g:bD k j)(c:Chg (Eq b) j m)(x:k.w.heap.size<=b):bD k m where
 tape:=c.tape.trans g.tape;os:=c.os.trans g.os;out:=c.out.trans g.out;size:=bC g.size c.size;blk i hi:=(c.blk i (gz hi g.size) (λe=>by omega)).trans (g.blk i hi);up i hi:=c.up i (g.up i hi);new i hi u:=(c.new i (gz hi g.size) u).elim (λh=>g.new i hi h) λe=>by omega
 drawn:=bC g.drawn c.drawn
theorem JV{f:List Oper}{l:List Oper}{m:Nat}{e:Env T}{K:Env T->Option R}{r:R}(h:evT C f (ixs m l) e K=some r):(∃g os d t z,l=[g,os]/\Eo C e g os=some (d,⟨t,z⟩)/\put e d (.box false t z) K=some r)∨(ev2 C f (ixs m l) e λj=>oN C f j K)=some r:=by match l,h with
 |[g,os],h=>simp only[ixs,evT]at h;cases q:Eo C e g os with|none=>rw[q]at h;exact .inr h;|some x=>obtain⟨d,t,z⟩:=x;rw[q]at h;exact .inl ⟨g,os,d,t,z,rfl,q,h⟩
 |[],h=>exact .inr h;|[_],h=>exact .inr h;|_::_::_::_,h=>exact .inr h
theorem NO{P:Program}{y:TypeId}{t:Tp}(h:NG P T y t=true):(T.e t).agg=true/\∃z:Array Value,(∀w,(zeroValue y).run P w= .ok (.agg z) w)/\z.size=(T.e t).sz/\∀u∈z.toList,u.oneCell'=true:=by
 unfold NG at h;split at h
 · rename_i i hi;split at h;·rename_i z f;simp only[aG,br]at h;exact⟨h.1.1,z,λw=>by simp[zeroValue,typeInfo,hi,f],bd h.1.2,h.2⟩
   .simp at h
 .simp at h
theorem QW{f:List Oper}{m os:Oper}{e:Env T}{a:Act}{k:K}{d:Nat}{t:Tp}{z:T.D t}{Kc:Env T->Option R}{r:R}(hA:A.toList=f++[m,os])(hW:∀o∈[m,os],∀d,o.dst=some d->d∈W)(h:Hl C.n F k0 W a0 e a k)(g:Eo C e m os=some (d,⟨t,z⟩))(G:put e d (.box false t z) Kc=some r)(hQ:∀e' q k',Kc e'=some r->Hl C.n F k0 W a0 e' q k'->Q .normal q k'.w):wpOps C.P A Q (List.range' f.length 2) a k.w:=by
 unfold Eo at g;split at g;.rename_i ty d0 ty' d' y ho1 hd1 hg1 ho2 hd2 hg2;cases hb:(Nat.beq d' d0&&Nat.blt d0 C.n&&!(uH (.tmp d0) y))with|false=>rw[hb]at g;simp at g;|true=>
   rw[hb]at g;simp only[cond_true]at g;simp only[aG,cH]at hb;obtain⟨⟨hb1,H⟩,hb3⟩:=hb;obtain rfl:=bd hb1;rw[Nat.blt_eq]at H;split at g;.rename_i t0 ht0;cases I:(!(og C.P T ty t0)&&NG C.P T ty t0&&tyB C.P T ty' t0)with|false=>rw[I]at g;simp at g;|true=>
 rw[I]at g;simp only[cond_true]at g;simp only[aG]at I;split at g
 .rename_i z0 hz0;simp only[aV,Prod.mk.injEq]at g;obtain⟨rfl,g⟩:=g;injection g with hr1 hr2;subst hr1;obtain rfl:=eq_of_heq hr2;obtain⟨hag,zc,hzr,hzs,hz1⟩:=NO I.1.2;have hA1:nth A.toList f.length=some m:=by rw[hA];exact vw
  have hA2:nth A.toList (f.length+1)=some os:=by rw[hA,show f++[m,os]=(f++[m])++[os]by simp,show f.length+1=(f++[m]).length by simp];exact vw
  have hv0:IsV z0 (a.eval y) k:=iL hz0 (eU (e:=e) (a0:=a) (by cases y with|tmp t=>exact⟨h.sl t,λ _=>rfl⟩;|global _=>exact h.gl;|_=>trivial));show wpOps C.P A Q [f.length,f.length+1] a k.w;have J:∀k:Go.Gb.K,IsV (⟨zc.toList⟩:dR (T.e t0).sz) (.agg zc) k:=λk=>⟨zc.toList,by show Value.agg zc= .agg zc.toList.toArray;simp,rfl,by simpa using hzs,hz1⟩;refine bO hA1 hg1 hd1 (by rw[h.s];exact H) trivial (cT (x:=(⟨zc.toList⟩:dR (T.e t0).sz)) k.w.heap.size (aN _) ho1 ⟨.agg zc,hzr,J⟩) λq k' hsz hdf u M hbx=>?_;obtain⟨b,E,hbs,O⟩:=hbx;have hye:q.eval y=a.eval y:=by cases y with|tmp t=>refine u t λe1=>?_;subst e1;simp[uH]at hb3|_=>rfl
  have hv1:IsV z0 (q.eval y) k':=by rw[hye];exact aZ.mono M hv0
  obtain⟨cs,ecs,j⟩:=hv1;refine bf (α:=dR (T.e t0).sz) (β:=dR (T.e t0).sz) (z:=⟨cs⟩) (b:=b) hA2 hg2 ho2 hd2 (qe I.2) Upd.self ?_ O ⟨cs,?_,rfl,Enc.len j,Enc.one j⟩ λU V hz=>?_;·show q.get d'=_;rw[E]
  .rw[ecs,hag];rfl
  ·have hle:=V.le (λc e=>e▸O.own);have hB:Box b z0 U:=hz.Nb (Enc.mono hle j);obtain⟨e',h1,h2⟩:=h.zK (d:=d') (av:= .box false t0 z0) (hW m (by simp) _ hd1) (bD.fresh M V hbs) hsz hdf u ⟨b,E,hB⟩ (λ _ hm=>by simp[AV.bW]at hm) (λc hcf=>by have:q.get d'= .pointer (some ⟨c,0,none⟩):=hcf;rw[E]at this;simp only[Value.pointer.injEq,aV,Addr.mk.injEq,and_true]at this;omega) G;exact hQ e' q U h1 h2
 .simp at g
   .simp at g
 .simp at g
theorem MG(hC:yL C){id:Nat}{draw:Bool}{e:Env T}{a:Act}{k:K}{K:Env T->Option R}{r:R}(hW:∀o∈A.toList,∀d,o.dst=some d->d∈W)(h:Hl C.n F k0 W a0 e a k)(hk:evR C A.toList draw e K=some r)(hQ:∀e' a' k',K e'=some r->Hl C.n F k0 W a0 e' a' k'->Q .normal a' k'.w):(Code.region id A draw).wp C.P Q a k.w:=by unfold evR at hk;cases hlate:(draw&&(Lc A.toList||(Jj A.toList&&PK A.toList)))with
 |true=>rw[hlate]at hk;simp only[cond_true]at hk;rw[aG]at hlate;obtain rfl:=hlate.1;cases hnw:Jj A.toList with|true=>rw[hnw]at hk;exact QM hC hW h hk hQ;|false=>rw[hnw]at hk;exact PT hC hW h hk hQ
 |false=>
 rw[hlate]at hk;simp only[cond_false]at hk;have p0:P1 e a [] [] e:=⟨rfl,λt=>rfl,λt _=>rfl,h.inv⟩;obtain⟨cs,rest,es,e1,h1,h2,_,h4,h5,h6,h7,_⟩:=vH (n:=C.n) (F:=F) (kk:=k0) (W:=W) (aa:=a0) hC (bH:=0) (B:=0) A.toList (λs hs=>by simp at hs) (A.toList.length+1) R none [] A.toList [] e _ r [] (by simp) p0 (λes' o ho=>by unfold iz;rw[ho]) hk;simp only[jR]at h5 h6 h7;have hlen:A.toList.length-(ixs cs.length rest).length=cs.length:=by
  have:(ixs cs.length rest).length=rest.length:=by rw[<-mS (f:=(·.2)),zh]
  rw[this,h1];simp
 have htake:A.toList.take cs.length=cs:=by rw[h1,gZ];rfl
 rw[hlen,htake]at h5;have hneed:(BJ cs).map (·.need)=es.map (·.need):=by rw[xP,h4]
 have hst:Steps C.P es a k (A.toList.take cs.length) es:=by rw[htake];have:=h7 k h (cr _) [];simpa using this
 have hsz:A.size-cs.length=rest.length:=by
  have:A.size=(cs++rest).length:=by rw[<-h1];simp
  rw[this];simp
 have tail:evT C A.toList (ixs cs.length rest) e1 K=some r->∀b q,ll A.toList es cs.length a k b q->wpOps C.P A Q (List.range' cs.length (A.size-cs.length)) b q.w:=by
  intro hev b q hp;rw[hsz];rw[h1]at hp;have hh:=DN h (λo ho=>hW o (by rw[h1];simp[ho])) h6 hp;rcases JV hev with⟨oa,os,d,t,z,rfl,hr,hput⟩|hev;.exact QW h1 (λo ho=>hW o (by rw[h1];simp[ho])) hh hr hput hQ
  exact D7 hC h1 (λo ho=>hW o (by rw[h1];simp[ho])) hh hev λe' a' k' hk' h'=>by obtain⟨e2,k2,g1,g2,g3⟩:=mn h' hk';rw[<-g2];exact hQ e2 a' k2 g1 g3
 cases draw with
 |false=>simp only[cond_false]at h5;rw[rL hneed]at h5;cases hc:lD C.n cs.length A.toList es with|false=>rw[hc]at h5;simp at h5;|true=>rw[hc]at h5;exact D0 es h.s hc hst trivial (tail h5)
 |true=>simp only[cond_true]at h5;rw[Ko hneed]at h5;cases hc:chk C.n cs.length A.toList es with|false=>rw[hc]at h5;simp at h5;|true=>rw[hc]at h5;exact region es hC.mix h.s hc hst trivial (tail h5)
end
end Go.Gb
namespace Go.Gb
variable{T:Tb}{R:Type}
def E5(W:List Nat)(e:Env T):Env T:=e.map λp=>(p.1,bif W.contains p.1 then p.2 else lkA p.2)
theorem tc(W:List Nat):∀(e:Env T)(k:Env T->Option R),A4 W e k=k (E5 W e)|[],_=>rfl|(t,a)::e,k=>by rw[A4,tc W e];rfl
theorem pd{W:List Nat}:∀(e:Env T)(t:Nat),lk (E5 W e) t=bif W.contains t then lk e t else lkA (lk e t)
 |[],t=>by cases W.contains t<;>rfl;|(s,x)::e,t=>by
  show lk ((s,_)::E5 W e) t=_;rw[bB,bB,pd e];split;.rename_i h;subst h;rfl
  .rfl
def l5(lock:Bool)(W Wd Wv:List Nat):Env T->Env T|[]=>[]|(t,a)::e=>bif W.contains t then l5 lock W Wd Wv e else(t,bif Wd.contains t then a else gy lock (W++Wv) a)::l5 lock W Wd Wv e
theorem pq(lock:Bool)(W Wd Wv:List Nat):∀(e:Env T)(k:Env T->Option R),vP lock W Wd Wv e k=k (l5 lock W Wd Wv e)|[],_=>rfl|(t,a)::e,k=>by rw[vP,pq lock W Wd Wv e];rfl
theorem vU{lock:Bool}{W Wd Wv:List Nat}:∀(e:Env T)(t:Nat),lk (l5 lock W Wd Wv e) t=bif W.contains t then .top else bif Wd.contains t then lk e t else gy lock (W++Wv) (lk e t)|[],t=>by show AV.top=_;cases W.contains t<;>cases Wd.contains t<;>rfl;|(s,x)::e,t=>by simp only[l5];cases hs:W.contains s with
 |true=>
 simp only[cond_true];rw[vU e,bB];split;.rename_i h;subst h;rw[hs];rfl
 .rfl|false=>
 simp only[cond_false];rw[bB,bB,vU e];split;.rename_i h;subst h;rw[hs];rfl
 .rfl
theorem QP{a:Act}{x:AV T}{v:Value}{k:K}(h:x.is a v k):(lkA x).is a v k:=by cases x<;>exact h
theorem RM{x:AV T}{v:Value}{k:K}:(lkA x).fp v k=x.fp v k:=by cases x<;>rfl
theorem Oc{x:AV T}:aO (lkA x)=aO x:=by cases x<;>rfl
theorem MF{x:AV T}{s:Nat}:(lkA x).bW s=x.bW s:=by cases x<;>rfl
theorem O6{x:AV T}:unl (lkA x)=false:=by cases x<;>rfl
def FU(e:Env T)(a:Act)(k:K)(L:List Nat):FP:=λb=>∃t,L.contains t=true/\unl (lk e t)=true/\(lk e t).fp (a.get t) k b
section
variable{n:Nat}{F:FP}{k0:K}{W:List Nat}{a0:Act}{e e':Env T}{a a':Act}{k k':K}
theorem Hl.lock(h:Hl n F k0 W a0 e a k)(L u:List Nat):Hl n (FU e a k L) k u a (E5 L e) a k:=by
 have f:∀t,(lk _ t).fp _ k=(lk e t).fp (a.get t) k:=λt=>by
  rw[pd];cases L.contains t;.exact RM
  .rfl
 refine⟨Chg.refl _ k,h.s,h.d,λ _ _=>rfl,λt=>?_,λt s j=>?_,λt g=>?_,λt w q=>by rw[f,f];exact h.ap t w q,h.gl⟩
 · rw[pd];cases L.contains t;.exact QP (h.sl t)
   .exact h.sl t
 · have h1:(lk e t).bW s=true:=by
    rw[pd]at j;cases m:L.contains t<;>rw[m]at j;.rwa[cond_false,MF]at j
    .exact j
   rw[pd];cases L.contains s;.rw[cond_false,Oc];exact h.inv t s h1
   .exact h.inv t s h1
 · rw[f];rw[pd]at g;cases m:L.contains t<;>rw[m]at g;.rw[cond_false,O6]at g;simp at g
   .exactλb x=> .inl ⟨t,m,g,x⟩
theorem M6{a:Act}{g:Bool}{L:List Nat}{x:AV T}{v:Value}{k:K}(h:x.is a v k):(gy g L x).is a v k:=by cases x with|al s=>simp only[gy];cases L.contains s;exact h;trivial;|mv f s=>simp only[gy];cases L.contains s;exact h;trivial;|_=>first|exact h|trivial
theorem tF{g:Bool}{L:List Nat}{x:AV T}{v:Value}{k:K}:∀b,(gy g L x).fp v k b->x.fp v k b:=by intro b h;cases x with|al s=>simp only[gy]at h;cases j:L.contains s<;>rw[j]at h<;>exact h;|mv f s=>simp only[gy]at h;cases j:L.contains s<;>rw[j]at h<;>exact h;|_=>exact h
theorem EH{g:Bool}{L:List Nat}{x:AV T}{s:Nat}:(gy g L x).nc s=false:=by cases x with|al h=>simp only[gy];cases L.contains h<;>rfl;|mv f h=>simp only[gy];cases L.contains h<;>rfl;|_=>rfl
theorem zN{j:Bool}{L:List Nat}{x:AV T}{s:Nat}(h:(gy j L x).bW s=true):x.bW s=true/\L.contains s=false:=by cases x with
 |al m=>simp only[gy]at h;cases g:L.contains m with|true=>rw[g]at h;simp[AV.bW]at h;|false=>rw[g]at h;have:m=s:=bd h;subst this;exact⟨h,g⟩
 |mv f m=>simp only[gy]at h;cases g:L.contains m with|true=>rw[g]at h;simp[AV.bW]at h;|false=>rw[g]at h;have:m=s:=bd h;subst this;exact⟨h,g⟩
 |_=>simp[gy,AV.bW]at h
theorem KL{f:Bool}{L:List Nat}{x:AV T}(h:aO x=true):aO (gy f L x)=true:=by cases x<;>first|rfl|simp[aO]at h
theorem Jz{g:Bool}{L:List Nat}{x:AV T}(h:unl (gy g L x)=true):g=false/\unl x=true:=by cases x with|own b e t q=>cases g<;>cases b<;>simp[gy,unl]at h⊢;|box b t x=>cases g<;>cases b<;>simp[gy,unl]at h⊢;|rs b m x=>cases g<;>cases b<;>simp[gy,unl]at h⊢;|tr b w x l=>cases g<;>cases b<;>simp[gy,unl]at h⊢;|al s=>simp only[gy]at h;cases j:L.contains s<;>rw[j]at h<;>simp[unl]at h;|mv f s=>simp only[gy]at h;cases j:L.contains s<;>rw[j]at h<;>simp[unl]at h;|_=>simp[gy,unl]at h
theorem zE(h:Hl n F k0 W a0 e a k){t:Nat}{w:Kd}{x:w.D T}(g:pF e t w=some x):(avK w x).is a (a.get t) k/\(∀s,(avK w x).bW s=false)/\∀b,(avK w x).fp (a.get t) k b->unl (lk e t)=true/\(lk e t).fp (a.get t) k b:=by have f:=h.sl t;cases w with
 |v u=>exact⟨iD.2 (iL g (Dv f)),λ _=>qS,λb j=>absurd j (dC ug _ _ b)⟩;|o el u=>
 simp[pF]at g;split at g;.rename_i z H I q;cases j:Nat.beq el z with|false=>rw[j]at g;simp at g;|true=>rw[j]at g;obtain rfl:=bd j;obtain⟨E,G⟩:=cast?_eq g;injection E with E;subst E;obtain rfl:x=I:=G;rw[q]at f;exact⟨f,λ _=>rfl,λb j=>⟨by rw[q];rfl,by rw[q];exact j⟩⟩
 .rename_i q;obtain rfl:=ae g;rw[q]at f;exact⟨iE.Qp f,λ _=>rfl,λb j=>absurd j (iE.Qq (k:=k) f b)⟩
 .simp at g|b u=>
 simp[pF]at g;split at g;.rename_i H y q;obtain⟨rfl,G⟩:=cast?_eq g;obtain rfl:x=y:=G;rw[q]at f;exact⟨f,λ _=>rfl,λb j=>⟨by rw[q];rfl,by rw[q];exact j⟩⟩
 .simp at g;|c m=>
 simp[pF]at g;split at g
 · rename_i M y q;split at g;.rename_i J _;obtain rfl:=J.down;obtain rfl:=ae g;rw[q]at f;exact⟨f,λ _=>rfl,λb j=>⟨by rw[q];rfl,by rw[q];exact j⟩⟩
   .simp at g
 .simp at g
theorem HV{j:List Nat}{e e':Env T}:∀{f:Sp},(∀t,t∈spW f->lk e t=lk e' t)->take j e f=take j e' f:=by
 have one:∀p:Nat×Kd,lk e p.1=lk e' p.1->pF e p.1 p.2=pF e' p.1 p.2:=by intro p u;obtain⟨s,w⟩:=p;cases w<;>simp[pF]<;>rw[u]
 intro f;induction f with|nil=>intro _;rfl;|cons p l x=>intro h;cases l with|nil=>simp[take];rw[one p (h p.1 (by simp[spW]))];|cons q l=>simp[take];rw[one p (h p.1 (by simp[spW])),x λt m=>h t (by simp[spW]at m⊢;exact .inr m)]
theorem Ip{ds xs:List Nat}(hds:∀d,ds.contains d=true->xs.contains d=true){e base:Env T}:∀{sp:Sp}{s:SpD T sp},take ds e sp=some s->∀t,((spW sp).contains t=false/\lk (eW xs sp s base) t=lk base t)∨((spW sp).contains t=true/\∃κ,(t,κ)∈sp/\(lk (eW xs sp s base) t= .top/\xs.contains t=true∨∃x,pF e t κ=some x/\lk (eW xs sp s base) t=avK κ x)):=by
  have one:∀{p:Nat×Kd} {y:p.2.D T} {b:Env T} (t:Nat),(bif ds.contains p.1 then some p.2.yN else pF e p.1 p.2)=some y->p.1=t->(lk ((p.1,bif xs.contains p.1 then .top else avK p.2 y)::b) t= .top/\xs.contains t=true∨∃x,pF e t p.2=some x/\lk ((p.1,bif xs.contains p.1 then .top else avK p.2 y)::b) t=avK p.2 x):=by intro p y b t hy ht;rw[bB,if_pos ht];cases hx:xs.contains p.1 with|true=>exact .inl ⟨rfl,ht▸hx⟩;|false=>
 have hd:ds.contains p.1=false:=by cases hd:ds.contains p.1 with|false=>rfl;|true=>rw[hds _ hd]at hx;simp at hx
 rw[hd]at hy;rw[<-ht];exact .inr ⟨y,hy,rfl⟩
  have cont:∀(p:Nat×Kd) (l:Sp) (t:Nat),(spW (p::l)).contains t=(t==p.1||(spW l).contains t):=λp l t=>by simp[spW]
  intro sp;induction sp with
 |nil=>intro s _ t;exact .inl ⟨rfl,rfl⟩
 |cons p l ih=>intro s hs t;cases l with|nil=>
 simp only[take]at hs;rw[cont];by_cases ht:p.1=t;.exact .inr ⟨by simp[ht],p.2,by rw[<-ht];exact List.mem_singleton_self _,one t hs ht⟩
 · have:(t==p.1)=false:=by simpa usingλe=>ht e.symm
   exact .inl ⟨by rw[this];rfl,by simp only[eW];rw[bB,if_neg ht]⟩|cons q l=>
 simp only[take]at hs;split at hs
 · rename_i y ys hy hys;obtain rfl:=ae hs;rw[cont];by_cases ht:p.1=t;.exact .inr ⟨by simp[ht],p.2,by rw[<-ht];exact dU,one t hy ht⟩
   · have hne:(t==p.1)=false:=by simpa usingλe=>ht e.symm
     have:=ih hys t;rw[hne,fJ];simp only[eW];rw[bB,if_neg ht];exact this.imp id λ ⟨a,κ,b,c⟩=>⟨a,κ,bu _ b,c⟩
 .simp at hs
theorem Lk(h:Hl n F k0 W a0 e a k){Wc:List Nat}{sp:Sp}{ds xs:List Nat}(hds:∀d,ds.contains d=true->xs.contains d=true){s:SpD T sp}(i:Hl n (FU e a k (Wc++spW sp)) k Wc a e' a' k')(ht:take ds e' sp=some s)(lock:Bool){Wv:List Nat}(hv:∀u κ,(u,κ)∈sp->Wv.contains u=false->xs.contains u=false/\∀x:κ.D T,aO (avK κ x)=true):let E:=eW xs sp s (l5 lock Wc (spW sp) Wv e)
 (∀t,(lk E t).is a' (a'.get t) k')/\(∀t u,(lk E t).bW u=true->aO (lk E u)=true)/\(∀t t',t≠t'->aB ((lk E t).fp (a'.get t) k') ((lk E t').fp (a'.get t') k'))/\∀t,unl (lk E t)=true->Wr (FU e a k (Wc++spW sp)) k ((lk E t).fp (a'.get t) k')∨(lock=false/\unl (lk e t)=true/\∀b,(lk E t).fp (a'.get t) k' b->(lk e t).fp (a.get t) k b):=by
 intro E;have hFn:∀b,FU e a k (Wc++spW sp) b->¬k.sh b:=λb ⟨t,_,_,hb⟩=>(h.lt t b hb).2;have cases3:∀t,(Wc.contains t=false/\(spW sp).contains t=false/\lk E t=gy lock (Wc++Wv) (lk e t))∨lk E t= .top∨((spW sp).contains t=true/\∃κ x,pF e' t κ=some x/\lk E t=avK κ x):=by
  intro t;rcases Ip hds (base:=l5 lock Wc (spW sp) Wv e) ht t with⟨h1,h2⟩|⟨h1,κ,_,⟨h2,_⟩|⟨x,h2⟩⟩;·rw[vU]at h2;cases hw:Wc.contains t with|true=>rw[hw]at h2;exact .inr (.inl h2);|false=>rw[hw,h1]at h2;exact .inl ⟨rfl,h1,h2⟩
  .exact .inr (.inl h2)
  .exact .inr (.inr ⟨h1,κ,x,h2⟩)
 have hold:∀t,Wc.contains t=false->a'.get t=a.get t:=λt ht=>i.old t (by simpa using ht);have apK:∀t,Wc.contains t=false->(spW sp).contains t=false->∀b,(lk e t).fp (a.get t) k b->¬FU e a k (Wc++spW sp) b:=by
  intro t h1 h2 b hb ⟨t2,h3,h4,h5⟩;by_cases e1:t=t2;·subst e1;simp at h1 h2 h3;exact h3.elim h1 h2
  .exact h.ap t t2 e1 b hb h5
 have fpk:∀t,Wc.contains t=false->(spW sp).contains t=false->(lk e t).fp (a.get t) k'=(lk e t).fp (a.get t) k:=λt h1 h2=>AV.oF _ i.g hFn (λb hb hb'=>apK t h1 h2 b hb hb') (h.sl t);have fpT:∀t κ x,pF e' t κ=some x->∀b,(avK κ x).fp (a'.get t) k' b->(lk e' t).fp (a'.get t) k' b/\(FU e a k (Wc++spW sp) b∨k.w.heap.size<=b):=by intro t κ x hx b hb;obtain⟨_,_,h3⟩:=zE i hx;obtain⟨h4,h5⟩:=h3 b hb;exact⟨h5,i.wr t h4 b h5⟩
 refine⟨λt=>?_,λt u hu=>?_,λt t' hne b hb hb'=>?_,λt hu=>?_⟩
 · rcases cases3 t with⟨h1,h2,h3⟩|h3|⟨_,κ,x,h2,h3⟩;·rw[h3,hold t h1];have h4:(gy lock (Wc++Wv) (lk e t)).is a (a.get t) k':=AV.keep _ i.g hFn (λb hb hb'=>apK t h1 h2 b (tF b hb) hb') (λs hs=>by rw[EH]at hs;simp at hs) (M6 (h.sl t));refine AV.congr _ (λs hs=>?_) h4;have:=(zN hs).2;exact hold s (by simp at this⊢;exact this.1)
   .rw[h3];trivial
   .rw[h3];exact(zE i h2).1
 · rcases cases3 t with⟨h1,h2,h3⟩|h3|⟨_,κ,x,h2,h3⟩
   · rw[h3]at hu;obtain⟨h4,h5⟩:=zN hu;have h6:=h.inv t u h4;simp at h5;rcases Ip hds (base:=l5 lock Wc (spW sp) Wv e) ht u with⟨h7,h8⟩|⟨h7,κ,hm,h8⟩
     · show aO (lk (eW xs sp s (l5 lock Wc (spW sp) Wv e)) u)=true;rw[h8,vU,h7];have:Wc.contains u=false:=by simpa using h5.1
       rw[this];exact KL h6
     · obtain⟨hx,hr⟩:=hv u κ hm (by simpa using h5.2);rcases h8 with⟨_,h8⟩|⟨x,_,h8⟩;.rw[hx]at h8;simp at h8
       ·show aO (lk (eW xs sp s (l5 lock Wc (spW sp) Wv e)) u)=true;rw[h8];exact hr x
   .rw[h3]at hu;simp[AV.bW]at hu
   .rw[h3,(zE i h2).2.1]at hu;simp at hu
 · rcases cases3 t with⟨h1,h2,h3⟩|h3|⟨_,κ,x,h2,h3⟩
   · rw[h3,hold t h1]at hb;have hb:=tF b hb;rw[fpk t h1 h2]at hb;rcases cases3 t' with⟨h4,h5,h6⟩|h6|⟨_,κ',x',h5,h6⟩;·rw[h6,hold t' h4]at hb';have hb':=tF b hb';rw[fpk t' h4 h5]at hb';exact h.ap t t' hne b hb hb'
     .rw[h6]at hb';exact hb'
     · rw[h6]at hb';rcases(fpT t' κ' x' h5 b hb').2 with h7|h7;.exact apK t h1 h2 b hb h7
       .have:=(h.lt t b hb).1;omega
   .rw[h3]at hb;exact hb
   · rw[h3]at hb;obtain⟨h7,h8⟩:=fpT t κ x h2 b hb;rcases cases3 t' with⟨h4,h5,h6⟩|h6|⟨_,κ',x',h5,h6⟩
     · rw[h6,hold t' h4]at hb';have hb':=tF b hb';rw[fpk t' h4 h5]at hb';rcases h8 with h8|h8;.exact apK t' h4 h5 b hb' h8
       .have:=(h.lt t' b hb').1;omega
     .rw[h6]at hb';exact hb'
     ·rw[h6]at hb';exact i.ap t t' hne b h7 (fpT t' κ' x' h5 b hb').1
 · rcases cases3 t with⟨h1,h2,h3⟩|h3|⟨_,κ,x,h2,h3⟩;·rw[h3]at hu;obtain⟨h4,h5⟩:=Jz hu;refine .inr ⟨h4,h5,λb hb=>?_⟩;rw[h3,hold t h1]at hb;have hb:=tF b hb;rw[fpk t h1 h2]at hb;exact hb
   .rw[h3]at hu;simp[unl]at hu
   ·refine .inl λb hb=>?_;rw[h3]at hb;exact(fpT t κ x h2 b hb).2
theorem Iy:∀{sp:Sp}{u:Nat}{κ:Kd},(u,κ)∈sp->(spV sp).contains u=false->∀x:κ.D T,aO (avK κ x)=true
 |(s,q)::l,u,κ,hm,hc,x=>by
  rcases bF.1 hm with h|h;·cases h;cases q with|v t=>simp[spV]at hc;|_=>rfl
  ·refine Iy h ?_ x;cases q<;>simp_all[spV]
theorem IV(h:Hl n F k0 W a0 e a k){Wc:List Nat}{sp:Sp}{s:SpD T sp}(i:Hl n (FU e a k (Wc++spW sp)) k Wc a e' a' k')(ht:take [] e' sp=some s):Hl n (FU e a k (Wc++spW sp)) k Wc a (eW [] sp s (l5 true Wc (spW sp) (spV sp) e)) a' k':=by
 obtain⟨h1,h2,h3,h4⟩:=Lk h (ds:=[]) (xs:=[]) (λd hd=>by simp at hd) i ht true (Wv:=spV sp) λu κ hm hc=>⟨rfl,Iy hm hc⟩;refine⟨i.g,i.s,i.d,i.old,h1,h2,λt hu=>?_,h3,i.gl⟩;rcases h4 t hu with h5|⟨h5,_⟩;.exact h5
 .simp at h5
theorem vZ(h:Hl n F k0 W a0 e a k){Wc:List Nat}{sp:Sp}{ds xs:List Nat}(hds:∀d,ds.contains d=true->xs.contains d=true){s:SpD T sp}(hW:∀t∈Wc,t∈W)(i:Hl n (FU e a k (Wc++spW sp)) k Wc a e' a' k')(ht:take ds e' sp=some s):Hl n F k0 W a0 (eW xs sp s (l5 false Wc (spW sp) (spW sp) e)) a' k':=by
 obtain⟨h1,h2,h3,h4⟩:=Lk h hds i ht false (Wv:=spW sp) λu κ hm hc=>absurd (show(spW sp).contains u=true by simpa[spW]using⟨κ,hm⟩) (by rw[hc];simp);have hwr:Wr F k0 (FU e a k (Wc++spW sp)):=λb ⟨t,_,h5,h6⟩=>h.wr t h5 b h6;refine⟨h.g.step i.g hwr,i.s,i.d,λt ht=>?_,h1,h2,λt hu b hb=>?_,h3,i.gl⟩;.rw[i.old t (λh'=>ht (hW t h')),h.old t ht]
 · rcases h4 t hu with h5|⟨_,h5,h6⟩
   · rcases h5 b hb with h5|h5;.exact hwr b h5
     .exact .inr (bC h.g.size h5)
   .exact h.wr t h5 b (h6 b hb)
end
end Go.Gb
namespace Go.Gb
variable{T:Tb}{R:Type}
structure Pj(C:Cx T)(sl:Nat)(tu ro:Rk)(cod:List Tp)(F:FP)(k0:K)(a0:Act)(x:tu.D T×ro.D T×HL T.S cod)(a:Act)(k:K):Prop where
 dn:a.defers=[]sle:isN tu=false->a.get sl=a0.get sl
 ex:∃k',k'.w=k.w/\Chg F k0 k'/\tu.is x.1 (a.get sl) k'/\Wr F k0 (tu.fp T (a.get sl) k')/\∀fn:Func,fn.results.toList=C.rs->∃v,(results fn a.tmps).run C.P k'.w= .ok v k'.w/\(sX ro cod x.2.1 x.2.2).is ⟨#[],[]⟩ v k'/\Wr F k0 ((sX ro cod x.2.1 x.2.2).fp v k')/\aB (tu.fp T (a.get sl) k') ((sX ro cod x.2.1 x.2.2).fp v k')
abbrev ve(C:Cx T)(e:Rv T)(F:FP)(f:K)(a0:Act)(x:e.D T)(a:Act)(k:K):Prop:=Pj C e.sl e.tu e.ro e.cod F f a0 (e.inj x) a k
theorem ve.step{C:Cx T}{e:Rv T}{F G:FP}{f j k:K}{x:e.D T}{a0 u a:Act}(h:ve C e G j u x a k)(g:Chg F f j)(w:Wr F f G)(z:isN e.tu=false->u.get e.sl=a0.get e.sl):ve C e F f a0 x a k:=by
 have⟨h1,E,I,J,M,O,P,Q⟩:=h;have wr:∀H,Wr G j H->Wr F f H:=λH hH b U=>by
  rcases hH b U with m|m;.exact w b m
  .exact .inr (bC g.size m)
 refine⟨h1,λy=>(E y).trans (z y),I,J,g.step M w,O,wr _ P,λV q=>?_⟩;have⟨v,g1,g2,g3,g4⟩:=Q V q;exact⟨v,g1,g2,wr _ g3,g4⟩
section
variable{C:Cx T}{cod:Rv T}{F:FP}{k0:K}{W:List Nat}{a0:Act}{e:Env T}{a:Act}{k:K}
theorem En(h:Hl C.n F k0 W a0 e a k){t:Tp}{j:ResultVar}{x:T.D t}(f:HJ.resH1 C e t j=some x):∃v,(th a.tmps j).run C.P k.w= .ok v k.w/\IsV x v k:=by cases j with|tmp s=>exact⟨_,rfl,iL f (Dv (h.sl s))⟩;|cell s H=>
 simp[HJ.resH1]at f;have g:=h.sl s;split at f;.rename_i l u y I;rw[I]at g;have⟨b,J,m⟩:=g;cases q:tyB C.P T H u with|false=>rw[q]at f;simp at f;|true=>rw[q]at f;obtain⟨rfl,z⟩:=cast?_eq f;obtain rfl:x=y:=z;exact uO (Dp (vq q) J m)
 .simp at f
theorem IL(h:Hl C.n F k0 W a0 e a k):∀{l:List Tp}{rs:List ResultVar}{x:HL T.S l},HJ C e l rs=some x->∃g:List Value,(rs.mapM (th a.tmps)).run C.P k.w= .ok g k.w/\g.length=l.length/\Fa2 (unH l x) g k
 |[],[],x,_=>⟨[],by simp,rfl,trivial⟩|[t],[q],x,f=>by have⟨v,h1,j⟩:=En h f;exact⟨[v],by simp[h1],rfl,j,trivial⟩;|t::H::l,q::rs,x,f=>by
  simp[HJ]at f;split at f;.rename_i y I u m;obtain rfl:=ae f;have⟨v,h1,j⟩:=En h u;have⟨g,z,E,G⟩:=IL h m;exact⟨v::g,by simp[h1,z],by simp[E],j,G⟩
  .simp at f
theorem ES{f:Rk}{av:AV T}{y:f.D T}{v:Value}(h:jW f av=some y)(q:av.is a v k):f.is y v k/\∀b,f.fp T v k b->unl av=true/\av.fp v k b:=by cases j:aO av with
 |true=>have⟨h1,w⟩:=Ac h q j;refine⟨h1,λb g=>?_⟩;cases u:isN f with|true=>exact(Rk.fpN u b g).elim;|false=>have⟨x,z⟩:=w u;exact⟨z,by rw[<-x];exact g⟩
 |false=>cases f with
 |n=>exact⟨trivial,λb g=>g.elim⟩;|o e t=>cases av with|e0=>simp[jW]at h;subst h;exact⟨iE.Qp q,λb g=>absurd g (iE.Qq (k:=k) q b)⟩;|own _ _ _ _=>simp[aO]at j;|_=>simp[jW]at h
 |b t=>cases av with|box _ _ _=>simp[aO]at j;|_=>simp[jW]at h
 |c m=>cases av with|rs _ _ _=>simp[aO]at j;|_=>simp[jW]at h
theorem Nk{f:Rk}(h:isN f=false):roR C e f=ro1 e f C.rs:=by cases f<;>first|rfl|simp[isN]at h
theorem zf{l:List Tp}{x:HL T.S l}{v:Value}{k:K}:∀b,¬(oy l x).fp v k b:=dC sY v k
theorem ON(h:Hl C.n F k0 W a0 e a k){sl:Nat}{tu ro:Rk}{cod:List Tp}(Q:isN tu=false->sl∉W)(E:(!(isN tu)&&!(isN ro)&&Dg C.rs sl)=false){y:tu.D T}{w:ro.D T}{r:HL T.S cod}(hy:jW tu (lk e sl)=some y)(G:roR C e ro=some w)(hr:HJ C e cod (Jk ro C.rs)=some r):Pj C sl tu ro cod F k0 a0 (y,w,r) a k:=by
 obtain⟨t1,t2⟩:=ES hy (h.sl sl);refine⟨h.d,λH=>h.old _ (Q H),k,rfl,h.g,t1,λb j=>h.wr _ (t2 b j).1 b (t2 b j).2,λfn U=>?_⟩;obtain⟨m,h1,h2,q⟩:=IL h hr;unfold Jk at h1;try dsimp only at h1
 have u:∀{m:List Value},(C.rs.mapM (th a.tmps)).run C.P k.w= .ok m k.w->(fn.results.mapM (th a.tmps)).run C.P k.w= .ok m.toArray k.w:=λ{m}h1=>by rw[<-U]at h1;rw[Array.mapM_eq_mapM_toList];simp[h1]
 rw[vG];cases f:isN ro with
 |true=>
 rw[f]at h1;simp only[cond_true]at h1;have z:=u h1;have I:sX ro cod w r=oy cod r:=by unfold sX;rw[f];rfl
 rw[I];have x:∀v,(oy cod r).is _ v k->(oy cod r).is ⟨#[],[]⟩ v k/\Wr F k0 ((oy cod r).fp v k)/\aB (tu.fp T (a.get sl) k) ((oy cod r).fp v k):=λv hv=>⟨hv,λb j=>absurd j (zf b),λb _ j=>zf b j⟩;match cod,r,m,h2,q with|[],r,[],_,_=>exact⟨.tuple #[],by simp[z],x _ trivial⟩;|[t],r,[v],_,q=>exact⟨v,by simp[z],x _ (iD.2 q.1)⟩;|t::t'::l,r,v::v'::m,_,q=>exact⟨.tuple (v::v'::m).toArray,by simp[z],x _ ⟨_,rfl,q⟩⟩
  |false=>
 rw[f]at h1;simp only[cond_false]at h1;rw[Nk f]at G;unfold ro1 at G;split at G
 · rename_i s rs J;rw[J]at h1 E;simp only[List.tail_cons]at h1;obtain⟨w1,V⟩:=ES G (h.sl s);have z:=u (m:=a.get s::m) (by rw[J];simp[List.mapM_cons,h1,th,Act.get,ch]);have M:aB (tu.fp T _ k) _:=λb j hb'=>by
    have H:isN tu=false:=by cases H:isN tu with|false=>rfl;|true=>exact(Rk.fpN H b j).elim
    rw[H,f]at E;simp only[Bool.not_false,Bool.true_and,Dg]at E;exact h.ap sl s (λe1=>by rw[e1,de]at E;simp at E) b (t2 b j).2 (V b hb').2
   have O:Wr F k0 _:=λb j=>h.wr _ (V b j).1 b (V b j).2;match cod,r,m,h2,q with
  |[],r,[],_,_=>
  have I:sX ro [] w r=ro.av w:=by unfold sX;rw[f];rfl
  rw[I];exact⟨a.get s,by simp[z],(Rk.FL f).2 w1,by rw[Rk.CI f];exact O,by rw[Rk.CI f];exact M⟩;|t::l,r,v::m,_,q=>
  have I:sX ro (t::l) w r= .tr false ro w (unH (t::l) r):=by unfold sX;rw[f];rfl
  rw[I];exact⟨.tuple (a.get s::v::m).toArray,by simp[z],⟨_,_,rfl,w1,q⟩,O,M⟩
 .simp at G
theorem Nh(h:Hl C.n F k0 W a0 e a k)(g:isN cod.tu=false->cod.sl∉W){x:cod.D T}(f:NL C e cod=some x):ve C cod F k0 a0 x a k:=by have⟨sl,tu,ro,cod,ρ,pr,inj,hpr⟩:=cod;unfold NL at f;cases j:(!(isN tu)&&!(isN ro)&&Dg C.rs sl)with|true=>rw[j]at f;simp at f;|false=>
 rw[j]at f;split at f;.rename_i y w r m q u;obtain rfl:=ae f;unfold ve;dsimp;rw[hpr];exact ON h g j m q u
 .simp at f
theorem qX(h:Hl C.n F k0 W a0 e a k){m:List Nat}{j:Sp}{K:SpD T j->Option R}{r:R}(hk:pU m e j K=some r):∃s f g,K s=some r/\take m f j=some s/\g.w=k.w/\Hl C.n F k0 W a0 f a g:=by have⟨f,g,h1,q,u⟩:=oS h hk;grind
theorem ER{x:Ls}:∀d,x.2.contains d=true->(x.1++x.2).contains d=true:=by intro d h;simp at h⊢;exact .inr h
theorem CM{i j:Nat}{x:Ls}{l:List (Nat×Ls)}{y:Ls}(h:CV ((i,x)::l) j=some y):(i=j/\x=y)∨(i≠j/\CV l j=some y):=by simp[CV]at h;cases f:Nat.beq i j with|true=>rw[f]at h;exact .inl ⟨bd f,ae h⟩;|false=>rw[f]at h;exact .inr ⟨λe=>by rw[e]at f;simp at f,h⟩
theorem GX{ρ:Type}{m:Sp}{f:Env T}{K:Kt T ρ R}{r:R}{s:SpD T m}:∀{l:List (Nat×Ls)}{j:Nat}{x:Ls},CV l j=some x->exK f K l j s=some r->K.ex j (eW (x.1++x.2) m s f)=some r
 |[],j,x,h,_=>by simp[CV]at h;|[(i,y)],j,x,h,hk=>by
  rcases CM h with⟨rfl,rfl⟩|⟨_,h⟩;.exact hk
  .simp [CV]at h|(i,y)::z::l,j,x,h,hk=>by
  simp[exK]at hk;rcases CM h with⟨rfl,rfl⟩|⟨g,h⟩;.rw [if_pos rfl]at hk;exact hk
  .rw [if_neg (Ne.symm g)]at hk;exact GX h hk
def Uw(C:Cx T)(c:Code)(e:Env T){R:Type}(j:Env T->Option R)(r:R):Prop:=∀(F:FP)(k0:K)(W:List Nat)(a0:Act)(a:Act)(k:K)(Q:Exit->Act->World->Prop),(∀t∈wrs c,t∈W)->Hl C.n F k0 W a0 e a k->(∀f g h,j f=some r->Hl C.n F k0 W a0 f g h->Q .normal g h.w)->c.wp C.P Q a k.w
def Cn(C:Cx T):Prop:=∀i c e(R:Type)(K:Env T->Option R)(r:R),C.rg c->C.hk i c e R K=some r->Uw C c e K r
def nW(C:Cx T)(cod:Rv T)(c:Code):Prop:=(∀m∈mb c,C.rg m)->∀(h:Hn T)(R:Type)(e:Env T)(M:Kt T (cod.D T) R)(r:R),ev C cod c h R e M=some r->∀(F:FP)(k0:K)(W:List Nat)(a0:Act)(a:Act)(k:K)(Q:Exit->Act->World->Prop),(∀t∈wrs c,t∈W)->(isN cod.tu=false->cod.sl∉W)->Hl C.n F k0 W a0 e a k->(∀j f g,M.go j=some r->Hl C.n F k0 W a0 j f g->Q .normal f g.w)->(∀i j f g,M.ex i j=some r->Hl C.n F k0 W a0 j f g->Q (.exit i) f g.w)->(∀x f g,M.rv x=some r->ve C cod F k0 a0 x f g->Q .ret f g.w)->c.wp C.P Q a k.w
theorem Ii{h:Hl C.n F k0 W a0 e a k}{Wc:List Nat}{sp:Sp}{xs:Ls}{exs:List (Nat×Ls)}{M:Kt T (cod.D T) R}{r:R}{Q:Exit->Act->World->Prop}{fl:aY (SpD T sp) (cod.D T)}(hW:∀t∈Wc,t∈W)(hk:(match fl with| .go s=>M.go (eW (xs.1++xs.2) sp s (l5 false Wc (spW sp) (spW sp) e))| .ex i s=>exK (l5 false Wc (spW sp) (spW sp) e) M exs i s| .ret x=>M.rv x)=some r)(hgo:∀e' a' k',M.go e'=some r->Hl C.n F k0 W a0 e' a' k'->Q .normal a' k'.w)(hex:∀i e' a' k',M.ex i e'=some r->Hl C.n F k0 W a0 e' a' k'->Q (.exit i) a' k'.w)(hsl:isN cod.tu=false->cod.sl∉W)(hrv:∀x a' k',M.rv x=some r->ve C cod F k0 a0 x a' k'->Q .ret a' k'.w):(∀e' a' k',(pU xs.2 e' sp λs=>some (.go s))=some fl->Hl C.n (FU e a k (Wc++spW sp)) k Wc a e' a' k'->Q .normal a' k'.w)/\(∀i e' a' k',exF exs sp i e'=some fl->Hl C.n (FU e a k (Wc++spW sp)) k Wc a e' a' k'->Q (.exit i) a' k'.w)/\(∀x a' k',some (.ret x)=some fl->ve C cod (FU e a k (Wc++spW sp)) k a x a' k'->Q .ret a' k'.w):=by
 refine⟨λe' a' k' h1 h2=>?_,λi e' a' k' h1 h2=>?_,λx a' k' h1 h2=>?_⟩;·obtain⟨s,e2,k2,h3,h4,h5,h6⟩:=qX h2 h1;obtain rfl:=ae h3;rw[<-h5];exact hgo _ a' k2 hk (vZ h ER hW h6 h4)
 · unfold exF at h1;split at h1;·rename_i x hx;obtain⟨s,e2,k2,h3,h4,h5,h6⟩:=qX h2 h1;obtain rfl:=ae h3;rw[<-h5];exact hex i _ a' k2 (GX hx hk) (vZ h ER hW h6 h4)
   .simp at h1
 ·obtain rfl:=ae h1;exact hrv x a' k' hk (h2.step h.g (λb ⟨t,_,h5,h6⟩=>h.wr t h5 b h6) λhN=>h.old _ (hsl hN))
theorem Ql{x y:Code}(J:nW C cod x)(O:nW C cod y):nW C cod (.seq x y):=by
 intro j;replace J:=J λU V=>j U (by simp[mb,V]);replace O:=O λU V=>j U (by simp[mb,V]);intro h R e M r hk F k0 W a0 a k Q hW m hl hgo q u;have z:∀f g,ev C cod x f R e {M with go:=λE=>ev C cod y g R E M}=some r->(Code.seq x y).wp C.P Q a k.w:=by intro f g hk;refine wp_seq (J f R e _ r hk F k0 W a0 a k _ (λt ht=>hW t (by simp[wrs,ht])) m hl (λE G H h1 I=>?_) (λi E G H h1 I=>q i E G H h1 I) (λx G H h1 I=>u x G H h1 I));exact O g R E M r h1 F k0 W a0 G H Q (λt ht=>hW t (by simp[wrs,ht])) m I hgo q u
 cases h<;>exact z _ _ hk
theorem NV{c:Operand}{x y:Code}(hx:nW C cod x)(hy:nW C cod y):nW C cod (.cond c x y):=by
 intro hsb;replace hx:=hx λc' hc=>hsb c' (by simp[mb,hc]);replace hy:=hy λc' hc=>hsb c' (by simp[mb,hc]);intro h R e M r hk F k0 W a0 a k Q hW G O H V hrv;have hWx:∀t∈wrs x,t∈W:=λt f=>hW t (by simp[wrs,f]);have hWy:∀t∈wrs y,t∈W:=λt f=>hW t (by simp[wrs,f]);have cv:∀{F:FP}{k0:K}{W:List Nat}{a0:Act}{e:Env T}{k:K}{m:Bool},Hl C.n F k0 W a0 e a k->asB (opv e c)=some m->a.eval c= .bool m:=by intro F k0 W a0 e k m O hm;exact aE.1 (mm hm (eU (a0:=a) (by cases c with|tmp t=>exact⟨O.sl t,λ _=>rfl⟩;|global _=>exact O.gl;|_=>trivial)))
 have u:∀g j,(match asB (opv e c)with|some m=>if m then ev C cod x g R e M else ev C cod y j R e M|none=>none)=some r->(Code.cond c x y).wp C.P Q a k.w:=by
  intro g j hk;split at hk
  · rename_i m hm;refine wp_cond_split (cv O hm) (λz=>?_) (λE=>?_);·rw[if_pos z]at hk;exact hx g R e M r hk F k0 W a0 a k Q hWx G O H V hrv
    ·rw[if_neg (by rw[E];simp)]at hk;exact hy j R e M r hk F k0 W a0 a k Q hWy G O H V hrv
  .simp at hk
 have hwc:∀t∈wrs x++wrs y,t∈W:=λt f=>hW t (by simpa[wrs]using f);have I:isN cod.tu=false->cod.sl∉wrs x++wrs y:=λhN f=>G hN (hwc _ f);unfold ev at hk;split at hk
 · rename_i fz sp xs g j;obtain⟨e0,k1,h1,h2,h3⟩:=oS O hk;rw[tc,pq]at h1;rw[<-h2];have q:=h3.lock (wrs x++wrs y++spW sp) (wrs x++wrs y);split at h1
   · rename_i m hm;obtain⟨s,J,h1⟩:=bind_some h1;have fin:∀e' U k',(pU xs.2 e' sp some)=some s->Hl C.n (FU e0 a k1 (wrs x++wrs y++spW sp)) k1 (wrs x++wrs y) a e' U k'->Q .normal U k'.w:=by intro e' U k' g1 g2;obtain⟨s',e2,k2,g3,g4,g5,g6⟩:=qX g2 g1;obtain rfl:=ae g3;rw[<-g5];exact H _ U k2 h1 (vZ h3 ER hwc g6 g4)
     refine wp_cond_split (cv q hm) (λz=>?_) (λE=>?_);·rw[if_pos z]at J;exact hx g _ _ _ s J _ _ _ _ a k1 Q (λt f=>by simp[f]) I q fin (λi e' U k' g1 _=>by simp at g1) (λx' U k' g1 _=>by simp at g1)
     ·rw[if_neg (by rw[E];simp)]at J;exact hy j _ _ _ s J _ _ _ _ a k1 Q (λt f=>by simp[f]) I q fin (λi e' U k' g1 _=>by simp at g1) (λx' U k' g1 _=>by simp at g1)
   .simp at h1
 · rename_i fz sp xs exs g j;obtain⟨e0,k1,h1,h2,h3⟩:=oS O hk;rw[tc,pq]at h1;rw[<-h2];have q:=h3.lock (wrs x++wrs y++spW sp) (wrs x++wrs y);split at h1
   · rename_i m hm;obtain⟨fl,J,h1⟩:=bind_some h1;obtain⟨f1,f2,f3⟩:=Ii (h:=h3) (Q:=Q) (xs:=xs) hwc h1 H V G hrv;refine wp_cond_split (cv q hm) (λz=>?_) (λE=>?_);·rw[if_pos z]at J;exact hx g _ _ _ fl J _ _ _ _ a k1 Q (λt f=>by simp[f]) I q f1 f2 f3
     ·rw[if_neg (by rw[E];simp)]at J;exact hy j _ _ _ fl J _ _ _ _ a k1 Q (λt f=>by simp[f]) I q f1 f2 f3
   .simp at h1
 .exact u _ _ hk
 .exact u _ _ hk
theorem MY(hH:Cn C){id:Nat}{x:Code}(J:nW C cod x):nW C cod (.block id x):=by
 intro O;replace J:=J λc' hc=>O c' (by simp[mb,hc]);intro h R e M r hk F k0 W a0 a k Q hW z hl q U V;have u:∀t∈wrs x,t∈W:=λt E=>hW t (by simpa[wrs]using E);have hsx:isN cod.tu=false->cod.sl∉wrs x:=λhN E=>z hN (u _ E);have G:∀{i:Nat}{a:Act}{w:World},(i=id->Q .normal a w)->(i≠id->Q (.exit i) a w)->Exit.inBlock id Q (.exit i) a w:=by intro i a w h1 y;simp only[Exit.inBlock];grind
 have H:∀f,ev C cod x f R e {M with ex:=λi g=>bif Nat.beq i id then M.go g else M.ex i g}=some r->(Code.block id x).wp C.P Q a k.w:=by
  intro f hk;refine wp_block (J f R e _ r hk F k0 W a0 a k _ u z hl q (λi g j m h1 y=>G (λe1=>?_) (λe1=>?_)) V);.subst e1;simp only[de,cond_true]at h1;exact q g j m h1 y
  .simp only[D6 e1,cond_false]at h1;exact U i g j m h1 y
 unfold ev at hk;split at hk
 · rename_i fz sp xs f;obtain⟨e0,k1,h1,y,h3⟩:=oS hl hk;rw[tc,pq]at h1;rw[<-y];have I:=h3.lock (wrs x++spW sp) (wrs x);obtain⟨s,hs,h1⟩:=bind_some h1;have fin:∀g j m,(pU xs.2 g sp some)=some s->Hl C.n (FU e0 a k1 (wrs x++spW sp)) k1 (wrs x) a g j m->Q .normal j m.w:=by intro g j m g1 g2;obtain⟨s',e2,k2,g3,g4,g5,g6⟩:=qX g2 g1;obtain rfl:=ae g3;rw[<-g5];exact q _ j k2 h1 (vZ h3 ER u g6 g4)
   refine wp_block (J f _ _ _ s hs _ _ _ _ a k1 _ (λt E=>E) hsx I fin (λi g j m g1 g2=>G (λe1=>?_) (λe1=>?_)) (λx' j m g1 _=>by simp at g1));.subst e1;simp only[de,cond_true]at g1;exact fin g j m g1 g2
   .simp only[D6 e1,cond_false]at g1;simp at g1
 · rename_i fz sp xs exs f;obtain⟨e0,k1,h1,y,h3⟩:=oS hl hk;rw[tc,pq]at h1;rw[<-y];have I:=h3.lock (wrs x++spW sp) (wrs x);obtain⟨fl,hs,h1⟩:=bind_some h1;obtain⟨f1,f2,f3⟩:=Ii (h:=h3) (Q:=Q) (xs:=xs) u h1 q U z V;refine wp_block (J f _ _ _ fl hs _ _ _ _ a k1 _ (λt E=>E) hsx I f1 (λi g j m g1 g2=>G (λe1=>?_) (λe1=>?_)) f3);.subst e1;simp only[de,cond_true]at g1;exact f1 g j m g1 g2
   .simp only[D6 e1,cond_false]at g1;exact f2 i g j m g1 g2
 .exact hH _ _ _ _ _ _ (O _ (by simp[mb])) hk F k0 W a0 a k Q hW hl q
 .exact H _ hk
theorem NR{x:Code}(hx:nW C cod x):nW C cod (.loop x):=by
 intro hsb;replace hx:=hx λc' hc=>hsb c' (by simpa[mb]using hc);intro h R e M r hk F k0 W a0 a k Q hW hsl hl hgo hex hrv;have hWx:∀t∈wrs x,t∈W:=λt ht=>hW t (by simpa[wrs]using ht);have hsx:isN cod.tu=false->cod.sl∉wrs x:=λhN ht=>hsl hN (hWx _ ht);unfold ev at hk;split at hk
 · rename_i fz sp exs fuel hxx;obtain⟨e0,k1,h1,h2,h3⟩:=oS hl hk;rw[pq,pq]at h1;rw[<-h2];split at h1
   · rename_i s0 hs0;obtain⟨fl,hs,h1⟩:=bind_some h1;have hin:=h3.lock (wrs x++spW sp) (wrs x);have hs0':take [] (E5 (wrs x++spW sp) e0) sp=some s0:=by
      rw[<-hs0];refine HV λt ht=>?_;rw[pd];have:(wrs x++spW sp).contains t=true:=by simpa using Or.inr ht
      rw[this];rfl
     have hst:=IV h3 hin hs0';have hsim:Sim C.P (.loop x) (λs a' k'=>Hl C.n (FU e0 a k1 (wrs x++spW sp)) k1 (wrs x) a (eW [] sp s (l5 true (wrs x) (spW sp) (spV sp) e0)) a' k') (az (λs=>ev C cod x hxx (aY (SpD T sp) (cod.D T)) (eW [] sp s (l5 true (wrs x) (spW sp) (spV sp) e0)) ⟨λe'=>pU [] e' sp λs=>some (.go s),exF exs sp,λr=>some (.ret r)⟩) (fuel e0)) (λs a' k'=>Hl C.n (FU e0 a k1 (wrs x++spW sp)) k1 (wrs x) a (eW [] sp s (l5 true (wrs x) (spW sp) (spV sp) e0)) a' k') (λi s a' k'=>∃y,CV exs i=some y/\Hl C.n F k0 W a0 (eW (y.1++y.2) sp s (l5 false (wrs x) (spW sp) (spW sp) e0)) a' k') (λx' a' k'=>ve C cod (FU e0 a k1 (wrs x++spW sp)) k1 a x' a' k'):=by
      refine cD ?_ _;intro s f a2 k2 hb hS Q' _ hgo' hex' hret';refine hx hxx _ _ _ f hb _ _ _ _ a2 k2 Q' (λt ht=>ht) hsx hS (λe' a' k' g1 g2=>?_) (λi e' a' k' g1 g2=>?_) (λx' a' k' g1 g2=>?_);·obtain⟨s',e2,k3,g3,g4,g5,g6⟩:=qX g2 g1;rw[<-g5];exact hgo' s' a' k3 (ae g3).symm (IV h3 g6 g4)
      · have g1:exF exs sp i e'=some f:=g1;unfold exF at g1;split at g1;·rename_i y hy;obtain⟨s',e2,k3,g3,g4,g5,g6⟩:=qX g2 g1;rw[<-g5];exact hex' i s' a' k3 (ae g3).symm ⟨y,hy,vZ h3 ER hWx g6 g4⟩
        .simp at g1
      .exact hret' x' a' k' (ae g1).symm g2
     refine hsim s0 fl a k1 hs hst Q trivial (λs a' k' g1 _=>?_) (λi s a' k' g1 g2=>?_) (λx' a' k' g1 g2=>?_);.rw[g1]at h1;simp at h1
     ·rw[g1]at h1;obtain⟨y,hy,g3⟩:=g2;exact hex i _ a' k' (GX hy h1) g3
     ·rw[g1]at h1;exact hrv x' a' k' h1 (g2.step h3.g (λb ⟨t,_,h5,h6⟩=>h3.wr t h5 b h6) λhN=>h3.old _ (hsl hN))
   .simp at h1
 .simp at hk
theorem Ku(m:yL C)(hH:Cn C){id:Nat}{A:Array Oper}{w:Bool}:nW C cod (.region id A w):=by
 intro f h R e M r hk F k0 W a0 a k Q q u j g y z;have x:∀o∈A.toList,∀d,o.dst=some d->d∈W:=λo E d G=>q d (List.mem_filterMap.2 ⟨o,E,G⟩);unfold ev at hk;split at hk;.have⟨e1,J,h1,H,I⟩:=oS j hk;rw[<-H];exact MG m x I h1 g
 .exact hH _ _ _ _ _ _ (f _ (by simp[mb])) hk F k0 W a0 a k Q q j g
 .exact MG m x j hk g
theorem pH(f:yL C)(hH:Cn C):∀c:Code,nW C cod c
 | .skip=>λ_ h R e M r hk F k0 W a0 a k Q w _ g j _ _=>wp_skip (j e a k hk g)| .region _ _ _=>Ku f hH| .seq x y=>Ql (pH f hH x) (pH f hH y)| .cond _ x y=>NV (pH f hH x) (pH f hH y)| .block _ x=>MY hH (pH f hH x)| .loop x=>NR (pH f hH x)| .exit i=>λ_ h R e M r hk F k0 W a0 a k Q w _ g _ m _=>wp_exit (m i e a k hk g)| .ret=>λ_ h R e M r hk F k0 W a0 a k Q w q g _ _ u=>by
  have⟨e1,z,h1,E,G⟩:=oS g hk;split at h1;.rename_i x H;rw[<-E];exact wp_ret (u x a z h1 (Nh G q H))
  .simp at h1| .rangeFunc _ _ _ _=>λ_ h R e M r hk=>by simp[ev]at hk;| .scope _=>λ_ h R e M r hk=>by simp[ev]at hk;| .label _=>λ_ h R e M r hk=>by simp[ev]at hk;| .goto _=>λ_ h R e M r hk=>by simp[ev]at hk;| .refuse _=>λ_ h R e M r hk=>by simp[ev]at hk
end
end Go.Gb
namespace Go.Gb
def aY.ends{e ρ:Type}:aY e ρ->Prop| .go _=>False|_=>True
theorem cC{e ρ:Type}{body:e->Option (aY e ρ)}(Inv:Nat->e->Prop)(N:Nat)(ll:aY e ρ->Prop)(step:∀i s,i<N->Inv i s->(∃g,body s=some (.go g)/\Inv (i+1) g)∨(∃f,body s=some f/\f.ends/\ll f))(done:∀s,Inv N s->∃f,body s=some f/\f.ends/\ll f)(x:e)(I:Inv 0 x)(u:Nat)(y:N<u):∃f,az body u x=some f/\f.ends/\ll f:=by
  have z:∀m i s,i+m=N->Inv i s->∀u,m<u->∃f,az body u s=some f/\f.ends/\ll f:=by intro m;induction m with|zero=>intro i s hi G u y;obtain⟨f,j,q,w⟩:=done s (by rwa[show N=i by omega]);obtain⟨u,rfl⟩:∃m,u=m+1:=⟨u-1,by omega⟩;simp only[az,j];cases f<;>simp_all[aY.ends]|succ m J=>
 intro i s hi G u y;obtain⟨u,rfl⟩:∃m,u=m+1:=⟨u-1,by omega⟩;rcases step i s (by omega) G with⟨g,j,E⟩|⟨f,j,q,w⟩;·obtain⟨f,h,q,w⟩:=J (i+1) g (by omega) E u (by omega);refine⟨f,?_,q,w⟩;simp[az,j,h]
 · refine⟨f,?_,q,w⟩;simp[az];cases f<;>simp_all[aY.ends]
  exact z N 0 x (by omega) I u y
theorem xT{e ρ:Type}{body:e->Option (aY e ρ)}(Inv:e->Prop)(q:e->Nat)(ll:aY e ρ->Prop)(step:∀s,Inv s->(∃j,body s=some (.go j)/\Inv j/\q j<q s)∨(∃f,body s=some f/\f.ends/\ll f))(m:e)(G:Inv m)(u:Nat)(I:q m<u):∃f,az body u m=some f/\f.ends/\ll f:=by induction u generalizing m with|zero=>omega;|succ u H=>
 rcases step m G with⟨j,y,w,J⟩|⟨f,y,E,F⟩;.obtain⟨f,h,E,F⟩:=H j w (by omega);refine⟨f,?_,E,F⟩;simp[az,y,h]
 .simp[az];cases f<;>simp_all[aY.ends]
theorem ag{e:Type}{l:List e}{i:Nat}(h:i<l.length):aR l (i:Int)=some l[i]:=by unfold aR;grind
theorem uj{e:Type}{l:List e}{i:Int}(f:0<=i)(h:i<l.length):aR l i=some (l[i.toNat]'(by omega)):=by unfold aR;rw[if_pos f,cL]
theorem cM{n m:Int}(h:inI (n+m)):bg n m=some (n+m):=if_pos h
theorem cZ{n m:Int}(h:inI (n-m)):fh n m=some (n-m):=if_pos h
theorem qJ{n m:Int}(h:inI (n*m)):Dx n m=some (n*m):=if_pos h
theorem aj{i:Nat}(h:i<4611686018427387904):bg (i:Int) 1=some ((i+1:Nat):Int):=by rw[cM (by unfold inI;omega)];simp
theorem bP{e:Type}{x y:List e}(h:x.length+y.length<=1073741824):eE x y=some (x++y):=if_pos h
theorem nn{e:Type}{x:List e}{lo hi:Int}(h:0<=lo)(h1:lo<=hi)(f:hi<=x.length):gH x lo hi=some ((x.take hi.toNat).drop lo.toNat):=if_pos ⟨h,h1,f⟩
section
variable{V:Type}{e:V}
abbrev ic(V:Type):=List (Int×Int×V)
def cj(e:V):ic V->Int->V|[],_=>e|(a,b,v)::t,x=>if a<=x/\x<b then v else cj e t x
def Nxt(n:Int)(v:V):ic V->Prop|[]=>True|(c,_,w)::_=>n<c∨(n=c/\v≠w)
def Canon(e:V):ic V->Prop|[]=>True|(a,b,v)::t=>a<b/\v≠e/\Nxt b v t/\Canon e t
theorem tE:∀{l:ic V}{n:Int}{v:V},Canon e l->Nxt n v l->∀x,x<n->cj e l x=e
 |[],_,_,_,_,_,_=>rfl|(a,b,w)::t,n,v,f,g,x,u=>by
  obtain⟨h1,_,j,m⟩:=f;have q:n<=a:=by rcases g with h|h<;>omega
  simp[cj];rw[if_neg (by omega)];exact tE m j x (by omega)
theorem AS{a b:Int}{v:V}{t:ic V}(h:Canon e ((a,b,v)::t)){x:Int}(j:x<a):cj e ((a,b,v)::t) x=e:=by obtain⟨h1,_,f,g⟩:=h;simp[cj];rw[if_neg (by omega)];exact tE g f x (by omega)
theorem mq{a b:Int}{v:V}{t:ic V}(h:a<b):cj e ((a,b,v)::t) a=v:=by simp only[cj];rw[if_pos (by omega)]
theorem FA{b:Int}{v:V}{t:ic V}(f:Canon e t)(j:Nxt b v t)(g:v≠e):cj e t b≠v:=by cases t with|nil=>exactλh=>g h.symm;|cons r t=>
 rcases j with h|⟨rfl,h⟩;.rw[AS f h];exactλh=>g h.symm
 .rw[mq f.1];exactλq=>h q.symm
theorem ru:∀{l m:ic V},Canon e l->Canon e m->(∀x,cj e l x=cj e m x)->l=m
 |[],[],_,_,_=>rfl|[],(a,b,v)::t,_,f,h=>by have:=h a;rw[mq f.1]at this;exact absurd this.symm f.2.1;|(a,b,v)::t,[],g,_,h=>by have:=h a;rw[mq g.1]at this;exact absurd this g.2.1;|(a,b,v)::t,(q,j,w)::G,g,f,h=>by
  have y:a=q:=by
   rcases uh a q with h1|h1|h1;.have:=h a;rw[mq g.1,AS f h1]at this;exact absurd this g.2.1
   .exact h1
   .have:=h q;rw[mq f.1,AS g h1]at this;exact absurd this.symm f.2.1
  subst y;have z:v=w:=by have:=h a;rwa[mq g.1,mq f.1]at this
  subst z;obtain⟨H,E,l3,l4⟩:=g;obtain⟨m1,m2,m3,m4⟩:=f;have F:b=j:=by
   rcases uh b j with h1|h1|h1;.have:=h b;simp only[cj]at this;rw[if_neg (by omega),if_pos (by omega)]at this;exact absurd this (FA l4 l3 E)
   .exact h1
   .have:=h j;simp only[cj]at this;rw[if_neg (show¬(a<=j/\j<j)by omega),if_pos (by omega)]at this;exact absurd this.symm (FA m4 m3 m2)
  subst F;rw[ru l4 m4 λx=>?_];by_cases u:x<b;.rw[tE l4 l3 x u,tE m4 m3 x u]
  .have:=h x;simp[cj]at this;rwa[if_neg (by omega),if_neg (by omega)]at this
def p9(l:ic V)(n:Int):Prop:=∀r∈l,r.2.1<=n
def Lst(l:ic V)(n:Int)(v:V):Prop:=∀r,l.getLast?=some r->r.2.1<n∨(r.2.1=n/\r.2.2≠v)
theorem mo:∀{l:ic V}{a b:Int}{v:V},Canon e l->Lst l a v->a<b->v≠e->Canon e (l++[(a,b,v)])
 |[],a,b,v,_,_,h,g=>⟨h,g,trivial,trivial⟩|[(c,d,w)],a,b,v,f,j,h,g=>by
  refine⟨f.1,f.2.1,?_,h,g,trivial,trivial⟩;rcases j _ rfl with h|⟨h1,m⟩;.exact .inl h
  .exact .inr ⟨h1,m⟩|(c,d,w)::(u,x,y)::t,a,b,v,f,j,h,g=>⟨f.1,f.2.1,f.2.2.1,mo f.2.2.2 (λr q=>j r (q)) h g⟩
theorem rC:∀{l m:ic V},Canon e (l++m)->Canon e l|[],_,_=>trivial|[(c,d,w)],_,h=>⟨h.1,h.2.1,trivial,trivial⟩|(c,d,w)::(f,g,j)::t,m,h=>⟨h.1,h.2.1,h.2.2.1,rC h.2.2.2⟩
theorem vy:∀{l:ic V}{a b:Int}{v:V},Canon e (l++[(a,b,v)])->a<b/\v≠e/\Lst l a v
 |[],a,b,v,h=>⟨h.1,h.2.1,λr f=>by simp at f⟩|[(c,d,w)],a,b,v,h=>by
  refine⟨h.2.2.2.1,h.2.2.2.2.1,λr f=>?_⟩;simp at f;subst f;rcases h.2.2.1 with h|⟨h1,g⟩;.exact .inl h
  .exact .inr ⟨h1,g⟩|(c,d,w)::(m,q,u)::t,a,b,v,h=>by obtain⟨h1,g,j⟩:=vy h.2.2.2;exact⟨h1,g,λr f=>j r (f)⟩
theorem vM:∀{l:ic V}{a b:Int}{v:V},Canon e (l++[(a,b,v)])->p9 l a
 |[],_,_,_,_=>λr f=>by simp at f;|(c,d,w)::t,a,b,v,h=>by
  have h1:=h.2.2.2;have g:=vM h1;intro r f;rcases bF.1 f with rfl|f;.have j:=h.2.2.1;cases t with|nil=>rcases j with h|h<;>simp_all<;>omega;|cons u t=>
 obtain⟨m,x,y⟩:=u;have z:=g (m,x,y) (by simp);have E:=h1.1;simp at z;have F:d<=m:=by rcases j with h|h<;>omega
 show d<=a;omega
  .exact g r f
theorem jk:∀{l:ic V}{a b:Int}{v:V},p9 l a->∀x,cj e (l++[(a,b,v)]) x=if a<=x/\x<b then v else cj e l x|[],a,b,v,_,x=>rfl|(c,d,w)::t,a,b,v,h,x=>by have h1:=h (c,d,w) (by simp);simp[cj];rw[jk (λr f=>h r (bu _ f))];grind
def uU[DecidableEq V](e:V)(l:ic V)(a b:Int)(v:V):ic V:=if v=e then l else match l.getLast? with|some (c,d,w)=>if d=a/\w=v then l.dropLast++[(c,b,v)]else l++[(a,b,v)]|none=>[(a,b,v)]
theorem G9[DecidableEq V]{l:ic V}{a b:Int}(v:V)(j:Canon e l)(g:p9 l a)(q:a<b):Canon e (uU e l a b v)/\p9 (uU e l a b v) b/\∀x,cj e (uU e l a b v) x=if a<=x/\x<b then v else cj e l x:=by
 unfold uU;by_cases m:v=e
 · rw[if_pos m];refine⟨j,λr f=>by have:=g r f;omega,λx=>?_⟩;split
   · rename_i h;subst m;have:∀{l:ic V},p9 l a->cj v l x=v:=by intro l;induction l with|nil=>intro _;rfl;|cons r t z=>obtain⟨c,d,w⟩:=r;intro g;have:=g (c,d,w) (by simp);simp only at this;simp only[cj];rw[if_neg (by omega)];exact z λr f=>g r (bu _ f)
     exact this g
   .rfl
 · rw[if_neg m];rcases ux l with rfl|⟨F,⟨c,d,w⟩,rfl⟩;.exact⟨⟨q,m,trivial,trivial⟩,λr f=>by simp at f;subst f;exact fN _,λx=>rfl⟩
   · simp only[uy,List.getLast?_append,List.getLast?_singleton,Option.some_or,List.dropLast_concat]at g j⊢;obtain⟨G,H,k3⟩:=vy j;have u:=vM j;have E:d<=a:=g (c,d,w) (by simp);split
     · rename_i h;obtain⟨rfl,rfl⟩:=h;refine⟨mo (rC j) k3 (by omega) m,λr f=>?_,λx=>?_⟩
       · rcases dK.1 f with h|h;.have:=g r (qL _ h);omega
         .simp at h;subst h;exact fN _
       ·rw[jk u,jk u];grind
     · rename_i h;refine⟨mo j (λr f=>?_) q m,λr f=>?_,λx=>jk g x⟩;·simp at f;subst f;grind
       · rcases dK.1 f with h|h;.have:=g r h;omega
         .simp at h;subst h;exact fN _
theorem px:∀{l:ic V}{x:Int},cj e l x=e∨∃a b,(a,b,cj e l x)∈l/\a<=x/\x<b
 |[],_=> .inl rfl|(a,b,v)::t,x=>by
  simp only[cj];split;.rename_i h;exact .inr ⟨a,b,by simp,h⟩
  · rcases px (l:=t)with h|⟨f,g,h1,j⟩;.exact .inl h
    .exact .inr ⟨f,g,bu _ h1,j⟩
theorem tS:∀{l:ic V}{a b x:Int}{v:V},Canon e l->(a,b,v)∈l->a<=x->x<b->cj e l x=v
 |(c,d,w)::t,a,b,x,v,u,m,h1,g=>by
  obtain⟨y,z,k3,j⟩:=u;rcases bF.1 m with h|h;.obtain⟨rfl,rfl,rfl⟩:=h;simp only[cj];rw[if_pos ⟨h1,g⟩]
  · have f:=tS j h h1 g;simp[cj];split
    · rename_i q;have:=tE j k3 x q.2;exfalso;rw[f]at this;have:v≠e:=by clear this f h1 g q y z k3 m;induction t with|nil=>simp at h;|cons r t f=>obtain⟨_,F,_,G⟩:=j;grind
      exact this (by assumption)
    .exact f
theorem xj:∀{l:ic V}{a b:Int}{v:V},Canon e l->(a,b,v)∈l->a<b/\v≠e
 |(c,d,w)::t,a,b,v,f,m=>by
  rcases bF.1 m with h|h;.obtain⟨rfl,rfl,rfl⟩:=h;exact⟨f.1,f.2.1⟩
  .exact xj f.2.2.2 h
end
end Go.Gb
